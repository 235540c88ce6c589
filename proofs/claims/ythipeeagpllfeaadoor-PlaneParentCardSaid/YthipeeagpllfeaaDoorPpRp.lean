/- WALK: the document's edenref3.Parent. -/
import Derived.Test.YthipeeagpllfeaaDoorPpSt
import Derived.Test.YthipeeagpllfeaaDoorPpPa
import Derived.Test.YthipeeagpllfeaaDoorPnN1
namespace Go.Proofs.YthipeeagpllfeaaDoor
set_option linter.unusedSimpArgs false
set_option linter.unusedVariables false
open Go.RowKit
namespace Pn
open Tld Mem Bl

theorem infoBools : (Tryd.prog.info? 61).map (fun i => (i.zero, i.size, i.bytes)) = some (some (.slice none 0 0), 1, 24) := by kernel_rfl
theorem infoFinD : (Tryd.prog.info? 44).map (·.size) = some 15 := by kernel_rfl
theorem mk_rows (P : Nat) (hP : P ≤ 1000000) (w : World) : (Instr.makeSlice 42 (.int .i64 (P : Int)) (.int .i64 (P : Int))).run Tryd.prog w = .ok (.slice (some ⟨w.heap.size, 0, none⟩) P P) (w.alloc (.cells (Array.replicate P (Value.slice none 0 0)) 61)) := by
  obtain ⟨i0, hI0, hz0, hz1, hz2⟩ := info_parts infoBools
  have hr := run_make (P := Tryd.prog) w 42 61 i0 (.slice none 0 0) Tryd.underlying42 hI0 hz0 .i64 .i64 P P (by omega) (Int.le_refl _) (by rw [hz2]; omega) (by omega)
  rw [Int.toNat_natCast, hz1, Nat.mul_one, Ops.madeCells_one (.slice none 0 0) rfl, List.toArray_replicate] at hr
  exact hr
theorem lstN_zeros (m : Nat) : (lstN m (fun _ => 0)).map (Value.int .i64) = List.replicate m (.int .i64 0) := by
  unfold lstN
  rw [List.map_map]
  show (List.range m).map (fun _ => Value.int .i64 0) = _
  rw [List.map_const', List.length_range]
theorem bsl_none (m sz : Nat) : (List.range m).map (bsl (fun _ => false) (fun _ => 0) sz) = List.replicate m (.slice none 0 0) := by
  show (List.range m).map (fun _ => Value.slice none 0 0) = _
  rw [List.map_const', List.length_range]
theorem lstN_congr {m : Nat} {g g' : Nat → Nat} (h : ∀ j, j < m → g j = g' j) : lstN m g = lstN m g' := by
  unfold lstN
  exact List.map_congr_left fun j hj => by rw [h j (List.mem_range.1 hj)]

set_option maxHeartbeats 16000000 in
set_option maxRecDepth 1000000 in
theorem rparent_any (K st ra : Int) (B S : Nat) (ta : Option Addr) (tn tc : Nat) (tu : ByteArray) (W H : Nat) (a : Option Addr) (n c : Nat) (f : Nat → Nat → Nat) (m sz wd h2 : Nat) (w : World) (hBS : B < 512) (hSS : S < 512) (hwd : wd = W + 2) (hh2 : h2 = H + 2) (hm : m = wd * h2) (hsz : sz = 2 ^ (2 * wd + 2)) (hZ : Ints.Is w a n (flat W H f)) (hn : n = W * H) (hW : W ≤ 5) (hH : H ≤ 5) :
    Calls Tryd.prog 6 #[.agg #[.int .i64 K, .int .i64 B, .int .i64 S, .int .i64 st, .int .i64 ra, .slice ta tn tc, .string tu], .agg #[.int .i64 W, .int .i64 H, .slice a n c]] w fun e w' => ((e = .returned (.tuple #[.agg #[.int .i64 0, .int .i64 0, .slice none 0 0], .bool false]) ∧ CelF (ckP B S f wd) m 0 0 none) ∨ (∃ ao co N, e = .returned (.tuple #[.agg #[.int .i64 (wd : Nat), .int .i64 (h2 : Nat), .slice ao m co], .bool true]) ∧ CelF (ckP B S f wd) m 0 0 (some N) ∧ Ints.Is w' ao m (cellsN m N) ∧ m ≤ co ∧ (∀ b o, ao = some ⟨b, o, none⟩ → w.heap.size ≤ b))) ∧ Below w.heap.size w w' := by
  have HST0 := Lib.hid (fun (w1 : World) (hb : Below w.heap.size w w1) (fb qb bb : Nat) (h1 : w1.heap.size ≤ qb) (h3 : w1.heap.size ≤ bb) => set_any K st ra B S ta tn tc tu W H a n c f fb qb bb m sz wd h2 w1 hBS hSS hwd hh2 hm hsz hn hW hH (fun w2 hb2 => hZ.keep (hb.trans (hb2.mono hb.size))) h1 h3)
  have HM7 : Hid (m ≤ 1000000) := Lib.hid (by have h1 : wd * h2 ≤ 7 * 7 := Nat.mul_le_mul (by omega) (by omega); omega)
  have aW : wrap64 ((W : Int) + 2) = (wd : Int) := wr_nat (by omega) (by omega)
  have aH : wrap64 ((H : Int) + 2) = (h2 : Int) := by clear aW; exact wr_nat (by omega) (by omega)
  have aM : wrap64 ((wd : Int) * (h2 : Int)) = (m : Int) := by clear aW aH; exact wr_nat (by rw [hm]; push_cast; rfl) (by have h1 : wd * h2 ≤ 7 * 7 := Nat.mul_le_mul (by omega) (by omega); omega)
  have aW' := wr_same aW
  have aH' := wr_same aH
  have aM' := wr_same aM
  clear hBS hSS hwd hh2 hm hsz hZ hn hW hH
  go_enter Tryd.func6, Tryd.ntmps6
  go_upto_region 1 with fail
  obtain ⟨hr1, hr2, hr3, hb2⟩ := three_new w 24 26 26 (rulP K B S st ra ta tn tc tu) (boxP W H a n c) noPat
  have HU : Hid (Row (((w.alloc (.cells #[.int .i64 K, .int .i64 B, .int .i64 S, .int .i64 st, .int .i64 ra, .slice ta tn tc, .string tu] 24)).alloc (.cells #[.int .i64 W, .int .i64 H, .slice a n c] 26)).alloc (.cells #[.int .i64 0, .int .i64 0, .slice none 0 0] 26)) w.heap.size 24 (rulP K B S st ra ta tn tc tu)) := hr1
  have HP : Hid (Row (((w.alloc (.cells #[.int .i64 K, .int .i64 B, .int .i64 S, .int .i64 st, .int .i64 ra, .slice ta tn tc, .string tu] 24)).alloc (.cells #[.int .i64 W, .int .i64 H, .slice a n c] 26)).alloc (.cells #[.int .i64 0, .int .i64 0, .slice none 0 0] 26)) (w.heap.size + 1) 26 (boxP W H a n c)) := hr2
  have HR : Hid (Row (((w.alloc (.cells #[.int .i64 K, .int .i64 B, .int .i64 S, .int .i64 st, .int .i64 ra, .slice ta tn tc, .string tu] 24)).alloc (.cells #[.int .i64 W, .int .i64 H, .slice a n c] 26)).alloc (.cells #[.int .i64 0, .int .i64 0, .slice none 0 0] 26)) (w.heap.size + 1 + 1) 26 noPat) := hr3
  have HB : Hid (Below w.heap.size w (((w.alloc (.cells #[.int .i64 K, .int .i64 B, .int .i64 S, .int .i64 st, .int .i64 ra, .slice ta tn tc, .string tu] 24)).alloc (.cells #[.int .i64 W, .int .i64 H, .slice a n c] 26)).alloc (.cells #[.int .i64 0, .int .i64 0, .slice none 0 0] 26))) := hb2
  clear hr1 hr2 hr3 hb2
  generalize ((w.alloc (.cells #[.int .i64 K, .int .i64 B, .int .i64 S, .int .i64 st, .int .i64 ra, .slice ta tn tc, .string tu] 24)).alloc (.cells #[.int .i64 W, .int .i64 H, .slice a n c] 26)).alloc (.cells #[.int .i64 0, .int .i64 0, .slice none 0 0] 26) = w1 at *
  obtain ⟨ub, hub⟩ : ∃ ub, ub = w.heap.size := ⟨_, rfl⟩
  rw [← hub] at HU HP HR ⊢
  obtain ⟨pb, hpb⟩ : ∃ pb, pb = ub + 1 := ⟨_, rfl⟩
  rw [← hpb] at HP HR ⊢
  obtain ⟨rb, hrb⟩ : ∃ rb, rb = pb + 1 := ⟨_, rfl⟩
  rw [← hrb] at HR ⊢
  have HRB : Hid (w.heap.size ≤ rb) := Lib.hid (by omega)
  clear hub hpb hrb
  have HST := Lib.hid (HST0.out w1 HB.out)
  clear HST0
  have p0 := HP.out.cell 0
  have p1 := HP.out.cell 1
  have p2 := HP.out.cell 2
  unfold boxP at p0 p1 p2
  have u0 := HU.out.cell 0
  have u1 := HU.out.cell 1
  have u2 := HU.out.cell 2
  have u3 := HU.out.cell 3
  have u4 := HU.out.cell 4
  have u5 := HU.out.cell 5
  have u6 := HU.out.cell 6
  unfold rulP at u0 u1 u2 u3 u4 u5 u6
  dsimp only [List.getElem?_cons_succ, List.getElem?_cons_zero] at p0 p1 p2 u0 u1 u2 u3 u4 u5 u6
  have hrf : Row (w1.alloc (.cells #[.int .i64 K, .int .i64 B, .int .i64 S, .int .i64 st, .int .i64 ra, .slice ta tn tc, .string tu, .int .i64 W, .int .i64 H, .slice a n c, .int .i64 0, .int .i64 0, .slice none 0 0, .slice none 0 0, .int .i64 (wd : Nat)] 44)) w1.heap.size 44 (finD K B S st ra ta tn tc tu W H a n c 0 0 (.slice none 0 0) (.slice none 0 0) wd) := row_alloc w1 _ _
  have hbf : Below w1.heap.size w1 (w1.alloc (.cells #[.int .i64 K, .int .i64 B, .int .i64 S, .int .i64 st, .int .i64 ra, .slice ta tn tc, .string tu, .int .i64 W, .int .i64 H, .slice a n c, .int .i64 0, .int .i64 0, .slice none 0 0, .slice none 0 0, .int .i64 (wd : Nat)] 44)) := (Below.refl _ _).alloc (Nat.le_refl _) _
  go_upto_region 2 with fail
  clear p2 u0 u1 u2 u3 u4 u5 u6
  have HP2 := Lib.hid (HP.out.keep hbf HP.out.lt)
  have HB0 := Lib.hid hbf
  generalize w1.alloc (.cells #[.int .i64 K, .int .i64 B, .int .i64 S, .int .i64 st, .int .i64 ra, .slice ta tn tc, .string tu, .int .i64 W, .int .i64 H, .slice a n c, .int .i64 0, .int .i64 0, .slice none 0 0, .slice none 0 0, .int .i64 (wd : Nat)] 44) = w2 at *
  obtain ⟨fb, hfb⟩ : ∃ fb, fb = w1.heap.size := ⟨_, rfl⟩
  rw [← hfb] at hrf ⊢
  have HFB : Hid (w1.heap.size ≤ fb) := Lib.hid (Nat.le_of_eq hfb.symm)
  have p0 := HP2.out.cell 0
  have p1 := HP2.out.cell 1
  unfold boxP at p0 p1
  dsimp only [List.getElem?_cons_succ, List.getElem?_cons_zero] at p0 p1
  clear hbf hfb
  go_upto_region 3 with (refine wpList_store_part rfl 26 _ _ rfl fb 10 rfl 44 _ (boxP (wd : Nat) (h2 : Nat) none 0 0) rfl hrf (show (13 : Nat) ≤ 15 by decide) infoPat (boxP_one _ _ _ _ _) ?_; intro w3 hr3 ho3)
  have HF : Hid (Row w3 fb 44 (finD K B S st ra ta tn tc tu W H a n c wd h2 (.slice none 0 0) (.slice none 0 0) wd)) := Lib.hid hr3
  have HB1 := Lib.hid (HB0.out.trans (ho3.below HFB.out))
  clear p0 p1 hrf hr3 ho3 HB0 HP2 HP HU aW aH aW' aH'
  have hdr : Below w3.heap.size w3 w3.drew := (Below.refl _ _).drew
  have HFd := Lib.hid (HF.out.keep hdr HF.out.lt)
  have HBd := Lib.hid (HB1.out.trans (hdr.mono HB1.out.size))
  clear hdr
  refine wp_region_noPanic ?_
  refine Rt.region_Cn (Sc2 (fun w2 => w2.cell? ⟨fb, 10, none⟩ = some (.int .i64 (wd : Nat)) ∧ w2.cell? ⟨fb, 11, none⟩ = some (.int .i64 (h2 : Nat))) (fun w2 => True) 999) 17 #[false, false, false, false, false, false, false, false, false, false, false, false, false, false, false, false, false] (by kernel_rfl) (by kernel_rfl) (by kernel_rfl) ?_
  have hS1 : ∀ o, Sc2 (fun w2 => w2.cell? ⟨fb, 10, none⟩ = some (.int .i64 (wd : Nat)) ∧ w2.cell? ⟨fb, 11, none⟩ = some (.int .i64 (h2 : Nat))) (fun w2 => True) 999 o w3.drew := Sc2.of ⟨HFd.out.cell 10, HFd.out.cell 11⟩ trivial
  refine Rt.C_take (none) (i := 0) (oi := _) (v := ?_) rfl (by kernel_rfl) (by kernel_rfl) (by kernel_rfl) (by kernel_rfl) (fun _ _ _ h => h) (Sc2.other (by decide)) (Or.inl ⟨by rfl, ?_⟩) (fun o' _ => hS1 o') ?_
  rotate_left
  · intro w2 hSw
    obtain ⟨s0, s1⟩ := hSw
    go_simp
    try with_reducible rfl
  simp only [Act.put, List.getElem_toArray, List.getElem_cons_succ, List.getElem_cons_zero, List.setIfInBounds_toArray, List.set_cons_zero, List.set_cons_succ]
  refine Rt.C_take (none) (i := 1) (oi := _) (v := ?_) rfl (by kernel_rfl) (by kernel_rfl) (by kernel_rfl) (by kernel_rfl) (fun _ _ _ h => h) (Sc2.other (by decide)) (Or.inl ⟨by rfl, ?_⟩) (fun o' _ => hS1 o') ?_
  rotate_left
  · intro w2 hSw
    obtain ⟨s0, s1⟩ := hSw
    go_simp
    try with_reducible rfl
  simp only [Act.put, List.getElem_toArray, List.getElem_cons_succ, List.getElem_cons_zero, List.setIfInBounds_toArray, List.set_cons_zero, List.set_cons_succ]
  refine Rt.C_take (none) (i := 2) (oi := _) (v := ?_) rfl (by kernel_rfl) (by kernel_rfl) (by kernel_rfl) (by kernel_rfl) (fun _ _ _ h => h) (Sc2.other (by decide)) (Or.inl ⟨by rfl, ?_⟩) (fun o' _ => hS1 o') ?_
  rotate_left
  · intro w2 hSw
    obtain ⟨s0, s1⟩ := hSw
    go_simp
    try with_reducible rfl
  simp only [Act.put, List.getElem_toArray, List.getElem_cons_succ, List.getElem_cons_zero, List.setIfInBounds_toArray, List.set_cons_zero, List.set_cons_succ]
  refine Rt.C_take (none) (i := 3) (oi := _) (v := ?_) rfl (by kernel_rfl) (by kernel_rfl) (by kernel_rfl) (by kernel_rfl) (fun _ _ _ h => h) (Sc2.other (by decide)) (Or.inl ⟨by rfl, ?_⟩) (fun o' _ => hS1 o') ?_
  rotate_left
  · intro w2 hSw
    obtain ⟨s0, s1⟩ := hSw
    go_simp
    try with_reducible rfl
  simp only [Act.put, List.getElem_toArray, List.getElem_cons_succ, List.getElem_cons_zero, List.setIfInBounds_toArray, List.set_cons_zero, List.set_cons_succ]
  refine Rt.C_take (none) (i := 4) (oi := _) (v := ?_) rfl (by kernel_rfl) (by kernel_rfl) (by kernel_rfl) (by kernel_rfl) (fun _ _ _ h => h) (Sc2.other (by decide)) (Or.inl ⟨by rfl, ?_⟩) (fun o' _ => hS1 o') ?_
  rotate_left
  · intro w2 hSw
    obtain ⟨s0, s1⟩ := hSw
    go_simp
    try with_reducible rfl
  simp only [Act.put, List.getElem_toArray, List.getElem_cons_succ, List.getElem_cons_zero, List.setIfInBounds_toArray, List.set_cons_zero, List.set_cons_succ]
  refine Rt.C_take (none) (i := 5) (oi := _) (v := ?_) rfl (by kernel_rfl) (by kernel_rfl) (by kernel_rfl) (by kernel_rfl) (fun _ _ _ h => h) (Sc2.other (by decide)) (Or.inl ⟨by rfl, ?_⟩) (fun o' _ => hS1 o') ?_
  rotate_left
  · intro w2 hSw
    obtain ⟨s0, s1⟩ := hSw
    go_simp
    try with_reducible rfl
  simp only [Act.put, List.getElem_toArray, List.getElem_cons_succ, List.getElem_cons_zero, List.setIfInBounds_toArray, List.set_cons_zero, List.set_cons_succ]
  refine Rt.C_take (none) (i := 6) (oi := _) (v := ?_) rfl (by kernel_rfl) (by kernel_rfl) (by kernel_rfl) (by kernel_rfl) (fun _ _ _ h => h) (Sc2.other (by decide)) (Or.inl ⟨by rfl, ?_⟩) (fun o' _ => hS1 o') ?_
  rotate_left
  · intro w2 hSw
    obtain ⟨s0, s1⟩ := hSw
    go_simp
    try with_reducible rfl
  simp only [Act.put, List.getElem_toArray, List.getElem_cons_succ, List.getElem_cons_zero, List.setIfInBounds_toArray, List.set_cons_zero, List.set_cons_succ]
  refine Rt.C_take (none) (i := 7) (oi := _) (v := ?_) rfl (by kernel_rfl) (by kernel_rfl) (by kernel_rfl) (by kernel_rfl) (fun _ _ _ h => h) (Sc2.other (by decide)) (Or.inl ⟨by rfl, ?_⟩) (fun o' _ => hS1 o') ?_
  rotate_left
  · intro w2 hSw
    obtain ⟨s0, s1⟩ := hSw
    go_simp
    try with_reducible rfl
  simp only [Act.put, List.getElem_toArray, List.getElem_cons_succ, List.getElem_cons_zero, List.setIfInBounds_toArray, List.set_cons_zero, List.set_cons_succ]
  refine Rt.C_take (none) (i := 8) (oi := _) (v := ?_) rfl (by kernel_rfl) (by kernel_rfl) (by kernel_rfl) (by kernel_rfl) (fun _ _ _ h => h) (Sc2.other (by decide)) (Or.inl ⟨by rfl, ?_⟩) (fun o' _ => hS1 o') ?_
  rotate_left
  · intro w2 hSw
    obtain ⟨s0, s1⟩ := hSw
    go_simp
    try with_reducible rfl
  simp only [Act.put, List.getElem_toArray, List.getElem_cons_succ, List.getElem_cons_zero, List.setIfInBounds_toArray, List.set_cons_zero, List.set_cons_succ]
  refine Rt.C_take (none) (i := 9) (oi := _) (v := ?_) rfl (by kernel_rfl) (by kernel_rfl) (by kernel_rfl) (by kernel_rfl) (fun _ _ _ h => h) (Sc2.other (by decide)) (Or.inl ⟨by rfl, ?_⟩) (fun o' _ => hS1 o') ?_
  rotate_left
  · intro w2 hSw
    obtain ⟨s0, s1⟩ := hSw
    go_simp
    try with_reducible rfl
  simp only [Act.put, List.getElem_toArray, List.getElem_cons_succ, List.getElem_cons_zero, List.setIfInBounds_toArray, List.set_cons_zero, List.set_cons_succ]
  refine Rt.C_take (none) (i := 10) (oi := _) (v := ?_) rfl (by kernel_rfl) (by kernel_rfl) (by kernel_rfl) (by kernel_rfl) (fun _ _ _ h => h) (Sc2.other (by decide)) (Or.inl ⟨by rfl, ?_⟩) (fun o' _ => hS1 o') ?_
  rotate_left
  · intro w2 hSw
    obtain ⟨s0, s1⟩ := hSw
    go_simp
    try with_reducible rfl
  simp only [Act.put, List.getElem_toArray, List.getElem_cons_succ, List.getElem_cons_zero, List.setIfInBounds_toArray, List.set_cons_zero, List.set_cons_succ]
  refine Rt.C_take (none) (i := 11) (oi := _) (v := ?_) rfl (by kernel_rfl) (by kernel_rfl) (by kernel_rfl) (by kernel_rfl) (fun _ _ _ h => h) (Sc2.other (by decide)) (Or.inl ⟨by rfl, ?_⟩) (fun o' _ => hS1 o') ?_
  rotate_left
  · intro w2 hSw
    obtain ⟨s0, s1⟩ := hSw
    go_simp
    try with_reducible rfl
  simp only [Act.put, List.getElem_toArray, List.getElem_cons_succ, List.getElem_cons_zero, List.setIfInBounds_toArray, List.set_cons_zero, List.set_cons_succ]
  clear hS1
  generalize w3.drew = v0 at *
  have hmk := mk_ints m HM7.out v0
  have hrn : Row (v0.alloc (.cells (Array.replicate m (Value.int .i64 0)) 3)) v0.heap.size 3 (List.replicate m (.int .i64 0)) := by
    have := row_alloc v0 3 (List.replicate m (Value.int .i64 0))
    rwa [List.toArray_replicate] at this
  have hbn : Below v0.heap.size v0 (v0.alloc (.cells (Array.replicate m (Value.int .i64 0)) 3)) := (Below.refl _ _).alloc (Nat.le_refl _) _
  refine Rt.C_ready (rs := [12]) (by kernel_rfl) (by simp) ?_
  refine Rt.AllC.cons (i := 12) (o := _) rfl (by rfl) (fun K' hK => ?_) ?_
  · skip
    go_simp
    have HFn := Lib.hid (HFd.out.keep hbn HFd.out.lt)
    have HBn := Lib.hid (HBd.out.trans (hbn.mono HBd.out.size))
    have hbs := HBd.out.size
    refine hK _ _ (fun o' _ => Sc2.of ⟨HFn.out.cell 10, HFn.out.cell 11⟩ trivial o') ?_
    clear hK K' hmk
    simp only [Act.put, List.getElem_toArray, List.getElem_cons_succ, List.getElem_cons_zero, List.setIfInBounds_toArray, List.set_cons_zero, List.set_cons_succ]
    generalize v0.alloc (.cells (Array.replicate m (Value.int .i64 0)) 3) = v1 at *
    generalize v0.heap.size = qb at *
    clear hbn HFd HBd
    have hS3 : ∀ o, Sc2 (fun w2 => w2.cell? ⟨fb, 10, none⟩ = some (.int .i64 (wd : Nat)) ∧ w2.cell? ⟨fb, 11, none⟩ = some (.int .i64 (h2 : Nat))) (fun w2 => True) 999 o v1 := Sc2.of ⟨HFn.out.cell 10, HFn.out.cell 11⟩ trivial
    refine Rt.C_take (none) (i := 13) (oi := _) (v := ?_) rfl (by kernel_rfl) (by kernel_rfl) (by kernel_rfl) (by kernel_rfl) (fun _ _ _ h => h) (Sc2.other (by decide)) (Or.inl ⟨by rfl, ?_⟩) (fun o' _ => hS3 o') ?_
    rotate_left
    · intro w2 hSw
      obtain ⟨s0, s1⟩ := hSw
      go_simp
      try with_reducible rfl
    simp only [Act.put, List.getElem_toArray, List.getElem_cons_succ, List.getElem_cons_zero, List.setIfInBounds_toArray, List.set_cons_zero, List.set_cons_succ]
    refine Rt.C_take (none) (i := 14) (oi := _) (v := ?_) rfl (by kernel_rfl) (by kernel_rfl) (by kernel_rfl) (by kernel_rfl) (fun _ _ _ h => h) (Sc2.other (by decide)) (Or.inl ⟨by rfl, ?_⟩) (fun o' _ => hS3 o') ?_
    rotate_left
    · intro w2 hSw
      obtain ⟨s0, s1⟩ := hSw
      go_simp
      try with_reducible rfl
    simp only [Act.put, List.getElem_toArray, List.getElem_cons_succ, List.getElem_cons_zero, List.setIfInBounds_toArray, List.set_cons_zero, List.set_cons_succ]
    refine Rt.C_take (none) (i := 15) (oi := _) (v := ?_) rfl (by kernel_rfl) (by kernel_rfl) (by kernel_rfl) (by kernel_rfl) (fun _ _ _ h => h) (Sc2.other (by decide)) (Or.inl ⟨by rfl, ?_⟩) (fun o' _ => hS3 o') ?_
    rotate_left
    · intro w2 hSw
      obtain ⟨s0, s1⟩ := hSw
      go_simp
      try with_reducible rfl
    simp only [Act.put, List.getElem_toArray, List.getElem_cons_succ, List.getElem_cons_zero, List.setIfInBounds_toArray, List.set_cons_zero, List.set_cons_succ]
    clear hS3
    refine Rt.C_ready (rs := [16]) (by kernel_rfl) (by simp) ?_
    refine Rt.AllC.cons (i := 16) (o := _) rfl (by rfl) (fun K' hK => ?_) ?_
    · skip
      have c12 := HFn.out.cell 12
      have z12 := HFn.out.frozen 12
      unfold finD at c12
      dsimp only [List.getElem?_cons_succ, List.getElem?_cons_zero] at c12
      have ho := only_setCell v1 fb 12 (.slice (some ⟨qb, 0, none⟩) m m)
      have HF2 : Hid (Row (v1.setCell ⟨fb, 12, none⟩ (.slice (some ⟨qb, 0, none⟩) m m)) fb 44 (finD K B S st ra ta tn tc tu W H a n c wd h2 (.slice (some ⟨qb, 0, none⟩) m m) (.slice none 0 0) wd)) := Lib.hid (HFn.out.set 12 (.slice (some ⟨qb, 0, none⟩) m m))
      have HQ := Lib.hid (hrn.other ho (row_ne hrn HFn.out (by decide)))
      have HB2 := Lib.hid (HBn.out.trans (ho.below HFB.out))
      have HQB : Hid (w1.heap.size ≤ qb) := Lib.hid hbs
      clear hrn ho hbs HFn HBn
      go_simp
      generalize v1.setCell ⟨fb, 12, none⟩ (.slice (some ⟨qb, 0, none⟩) m m) = w4 at *
      refine hK _ _ (fun o' _ => Sc2.of ⟨HF2.out.cell 10, HF2.out.cell 11⟩ trivial o') ?_
      clear hK K' c12 z12
      simp only [Act.put, List.getElem_toArray, List.getElem_cons_succ, List.getElem_cons_zero, List.setIfInBounds_toArray, List.set_cons_zero, List.set_cons_succ]
      refine Rt.C_done (by kernel_rfl) ?_ _
      refine NoPanic.normal ?_
      have q12 := HF2.out.cell 12
      have q13 := HF2.out.cell 13
      have z13 := HF2.out.frozen 13
      unfold finD at q12 q13
      dsimp only [List.getElem?_cons_succ, List.getElem?_cons_zero] at q12 q13
      have hmk := mk_rows m HM7.out w4
      have hbn : Below w4.heap.size w4 (w4.alloc (.cells (Array.replicate m (Value.slice none 0 0)) 61)) := (Below.refl _ _).alloc (Nat.le_refl _) _
      have hrn : Row (w4.alloc (.cells (Array.replicate m (Value.slice none 0 0)) 61)) w4.heap.size 61 (List.replicate m (.slice none 0 0)) := by
        have := row_alloc w4 61 (List.replicate m (Value.slice none 0 0))
        rwa [List.toArray_replicate] at this
      have q13' := (HF2.out.keep hbn HF2.out.lt).cell 13
      have z13' := (HF2.out.keep hbn HF2.out.lt).frozen 13
      unfold finD at q13'
      dsimp only [List.getElem?_cons_succ, List.getElem?_cons_zero] at q13'
      have HF4 := Lib.hid (HF2.out.keep hbn HF2.out.lt)
      have HQ4 := Lib.hid (HQ.out.keep hbn HQ.out.lt)
      have HB4 := Lib.hid (HB2.out.trans (hbn.mono HB2.out.size))
      have HBB : Hid (w1.heap.size ≤ w4.heap.size) := Lib.hid HB2.out.size
      have HRN := Lib.hid hrn
      clear hbn hrn
      go_upto_region 5 with fail
      clear q12 q13 z13 q13' z13' hmk
      generalize w4.alloc (.cells (Array.replicate m (Value.slice none 0 0)) 61) = v4 at *
      generalize w4.heap.size = bb at *
      have ho := only_setCell v4 fb 13 (.slice (some ⟨bb, 0, none⟩) m m)
      have HF5 : Hid (Row (v4.setCell ⟨fb, 13, none⟩ (.slice (some ⟨bb, 0, none⟩) m m)) fb 44 (finD K B S st ra ta tn tc tu W H a n c wd h2 (.slice (some ⟨qb, 0, none⟩) m m) (.slice (some ⟨bb, 0, none⟩) m m) wd)) := Lib.hid (HF4.out.set 13 (.slice (some ⟨bb, 0, none⟩) m m))
      have HQ5 := Lib.hid (HQ4.out.other ho (row_ne HQ4.out HF4.out (by decide)))
      have HBR := Lib.hid (HRN.out.other ho (row_ne HRN.out HF4.out (by decide)))
      have HB5 := Lib.hid (HB4.out.trans (ho.below HFB.out))
      clear ho HF4 HQ4 HB4 HF2 HQ HB2 HRN
      generalize v4.setCell ⟨fb, 13, none⟩ (.slice (some ⟨bb, 0, none⟩) m m) = w5 at *
      have HS : Hid (SSt w1 w5 (ckP B S f wd) fb qb bb m sz (finD K B S st ra ta tn tc tu W H a n c wd h2 (.slice (some ⟨qb, 0, none⟩) m m) (.slice (some ⟨bb, 0, none⟩) m m) wd) (fun _ => 0) (fun _ => false) (fun _ => 0) (fun _ _ => false)) := Lib.hid ⟨HF5.out, by rw [lstN_zeros]; exact HQ5.out, by rw [bsl_none]; exact HBR.out, fun t _ h => (nomatch h), fun t t' _ _ h => (nomatch h), fun t k _ _ h => (nomatch h), fun _ => (by decide : 0 < 2), HB5.out⟩
      clear HF5 HQ5 HBR HB5
      go_wp2_with fail
      refine (HST.out fb qb bb HQB.out HBB.out m 0 0 (fun _ => 0) (fun _ => false) (fun _ => 0) (fun _ _ => false) w5 (Nat.zero_add m) (by decide) HS.out (fun j hj => absurd hj (Nat.not_lt_zero _))).mono ?_
      rintro e6 w6 hP6
      unfold SetP at hP6
      rcases hP6 with ⟨rfl, s, g6, hcel, hf6, hq6, hg6, hb6⟩ | ⟨rfl, hcel, g6, u6, bk6, bv6, hs6, hg6, hu6⟩
      · have HF6 := Lib.hid hf6
        have HQ6 := Lib.hid hq6
        have HR6 := Lib.hid (HR.out.keep hb6 HR.out.lt)
        have HB6 := Lib.hid (HB.out.trans (hb6.mono HB.out.size))
        have HCE := Lib.hid hcel
        have HCN : Hid (lstN m g6 = cellsN m s) := Lib.hid (by
          unfold cellsN
          refine lstN_congr fun j hj => ?_
          rw [hg6 j hj, Nat.zero_mul, Nat.zero_add])
        have c10 := HF6.out.cell 10
        have c11 := HF6.out.cell 11
        have c12 := HF6.out.cell 12
        unfold finD at c10 c11 c12
        dsimp only [List.getElem?_cons_succ, List.getElem?_cons_zero] at c10 c11 c12
        clear hcel hf6 hq6 hg6 hb6 HS
        go_wp2_with (refine Ops.wpList_store_arr rfl 26 _ _ rfl rb rfl 26 _ (boxP (wd : Nat) (h2 : Nat) (some ⟨qb, 0, none⟩) m m) rfl HR6.out rfl infoPat (boxP_one _ _ _ _ _) ?_; intro w8 hrow5 hon5)
        have hq8 := HQ6.out.other hon5 (row_ne HQ6.out HR6.out (by decide))
        exact bodyPost_ret (results_pat (t := 4) (u := 5) (e := .bool true) rfl _ _ hrow5 rfl rfl rfl) rfl ⟨.inr ⟨some ⟨qb, 0, none⟩, m, s, rfl, HCE.out, by rw [← HCN.out]; exact is_row2 hq8 (lstN_len2 _ _) (by have := HM7.out; unfold maxLen; omega), Nat.le_refl _, fun b o e => by cases e; exact Nat.le_trans HB.out.size HQB.out⟩, HB6.out.trans (hon5.below HRB.out)⟩
      · have HR6 := Lib.hid (HR.out.keep hs6.bel HR.out.lt)
        have HB6 := Lib.hid (HB.out.trans (hs6.bel.mono HB.out.size))
        have HCE := Lib.hid hcel
        clear hcel hs6 hg6 hu6 HS
        go_wp2_with (refine Ops.wpList_store_arr rfl 26 _ _ rfl rb rfl 26 _ noPat rfl HR6.out rfl infoPat noPat_one ?_; intro w8 hrow5 hon5)
        exact bodyPost_ret (results_pat (t := 4) (u := 5) (e := .bool false) rfl _ _ hrow5 rfl rfl rfl) rfl ⟨.inl ⟨rfl, HCE.out⟩, HB6.out.trans (hon5.below HRB.out)⟩
    exact Rt.AllC.nil
  exact Rt.AllC.nil
end Pn
end Go.Proofs.YthipeeagpllfeaaDoor
