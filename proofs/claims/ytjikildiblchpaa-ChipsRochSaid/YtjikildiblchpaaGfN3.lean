/- WALK: sand.NewNet, whole. -/
import Derived.Test.YtjikildiblchpaaGfN2
import Derived.Deep.RegionLaw
namespace Go.Proofs.Ytjikildiblchpaa
set_option linter.unusedSimpArgs false
set_option linter.unusedVariables false
open Go.RowKit Go.Lib
namespace Rt
open Tld Mem

theorem infoSl : (Try.prog.info? 25).map (fun i => (i.zero, i.size, i.bytes)) = some (some (.slice none 0 0), 1, 24) := by kernel_rfl
theorem mk_ints (P : Nat) (hP : P ≤ 10) (w : World) : (Instr.makeSlice 25 (.int .i64 (P : Int)) (.int .i64 (P : Int))).run Try.prog w = .ok (.slice (some ⟨w.heap.size, 0, none⟩) P P) (w.alloc (.cells (Array.replicate P (Value.int .i64 0)) 3)) := by
  obtain ⟨i0, hI0, hz0, hz1, hz2⟩ := info_parts infoIntN
  have hr := run_make (P := Try.prog) w 25 3 i0 (.int .i64 0) Try.underlying25 hI0 hz0 .i64 .i64 P P (by omega) (Int.le_refl _) (by rw [hz2]; omega) (by omega)
  rw [Int.toNat_natCast, hz1, Nat.mul_one, Ops.madeCells_one (.int .i64 0) rfl, List.toArray_replicate] at hr
  exact hr
/-- Rows that are slices. -/
def slcL (P : Nat) (bl : List Nat) : List Value := bl.map fun b => .slice (some ⟨b, 0, none⟩) P P
/-- The rows that have been made. -/
structure Made (w : World) (B bn bd bg P : Nat) (bl : List Nat) : Prop where
  vec : ∀ b, b ∈ bl → Vec w b P fun _ => 0
  low : ∀ b, b ∈ bl → B ≤ b ∧ b ≠ bn ∧ b ≠ bd ∧ b ≠ bg
  nodup : bl.Nodup
theorem Made.keep {w w' : World} {B bn bd bg P : Nat} {bl : List Nat} (h : Made w B bn bd bg P bl) (hb : Below w.heap.size w w') : Made w' B bn bd bg P bl :=
  ⟨fun b hb' => (h.vec b hb').keep hb (h.vec b hb').lt, h.low, h.nodup⟩
theorem Made.other {w w' : World} {B bn bd bg P : Nat} {bl : List Nat} (h : Made w B bn bd bg P bl) (ho : Only bn w w') : Made w' B bn bd bg P bl :=
  ⟨fun b hb' => (h.vec b hb').other ho (h.low b hb').2.1, h.low, h.nodup⟩
theorem vec_grown {w w' : World} {B b P n : Nat} {v : Value} {xs : List Value} {F : Nat → Int} (h : w.ownsRow B 25 1 v n xs) (hg : w.grownBy w' v.ownBlock) (hv : Vec w b P F) : Vec w' b P F := by
  obtain ⟨cs, hr, hc⟩ := hv.row
  exact ⟨⟨cs, row_grown h hg hr (by decide), hc⟩⟩
theorem Made.grown {w w' : World} {B B0 bn bd bg P n : Nat} {bl : List Nat} {v : Value} {xs : List Value} (h : Made w B bn bd bg P bl) (ho : w.ownsRow B0 25 1 v n xs) (hg : w.grownBy w' v.ownBlock) : Made w' B bn bd bg P bl :=
  ⟨fun b hb' => vec_grown ho hg (h.vec b hb'), h.low, h.nodup⟩
theorem Made.add {w : World} {B bn bd bg P b : Nat} {bl : List Nat} (h : Made w B bn bd bg P bl) (hv : Vec w b P fun _ => 0) (hl : B ≤ b ∧ b ≠ bn ∧ b ≠ bd ∧ b ≠ bg) (hn : ¬ b ∈ bl) : Made w B bn bd bg P (bl ++ [b]) where
  vec := fun c hc => by
    rcases List.mem_append.1 hc with hc | hc
    · exact h.vec c hc
    · rw [List.mem_singleton.1 hc]; exact hv
  low := fun c hc => by
    rcases List.mem_append.1 hc with hc | hc
    · exact h.low c hc
    · rw [List.mem_singleton.1 hc]; exact hl
  nodup := List.nodup_append.2 ⟨h.nodup, List.nodup_cons.2 ⟨List.not_mem_nil, List.nodup_nil⟩, fun a ha b' hb' e => hn (by
    rw [List.mem_singleton.1 hb'] at e
    rw [← e]; exact ha)⟩
theorem made_nil {w : World} {B bn bd bg P : Nat} : Made w B bn bd bg P [] := ⟨fun b hb => absurd hb List.not_mem_nil, fun b hb => absurd hb List.not_mem_nil, List.nodup_nil⟩
theorem vec_ne {w : World} {b P g cap n : Nat} {B : Nat} {F : Nat → Int} {xs : List Value} (hv : Vec w b P F) (h : w.ownsRow B 25 1 (.slice (some ⟨g, 0, none⟩) n cap) n xs) : b ≠ g := fun e => by
  obtain ⟨cs, hr, hc⟩ := hv.row
  exact own_ne h hr (by decide) (by rw [e]; rfl)
theorem slcL_snoc {P b : Nat} {bl : List Nat} : slcL P (bl ++ [b]) = slcL P bl ++ [.slice (some ⟨b, 0, none⟩) P P] := by
  unfold slcL; rw [List.map_append]; rfl
theorem nodup_getD {bl : List Nat} (h : bl.Nodup) {j k : Nat} (hj : j < bl.length) (hk : k < bl.length) (e : bl.getD j 0 = bl.getD k 0) : j = k := by
  rw [List.getD_eq_getElem?_getD, List.getD_eq_getElem?_getD, List.getElem?_eq_getElem hj, List.getElem?_eq_getElem hk] at e
  have e2 : bl[j] = bl[k] := e
  rcases Nat.lt_trichotomy j k with h1 | h1 | h1
  · exact absurd e2 (List.pairwise_iff_getElem.1 h j k hj hk h1)
  · exact h1
  · exact absurd e2.symm (List.pairwise_iff_getElem.1 h k j hk hj h1)
theorem own_slcs {w : World} {B P n : Nat} {v : Value} {bl : List Nat} (h : w.ownsRow B 25 1 v n (slcL P bl)) (hn : bl.length = n) (h1 : 1 ≤ n) : ∃ g cap, v = .slice (some ⟨g, 0, none⟩) n cap ∧ g < w.heap.size ∧ ∀ k, k < n → w.cell? ⟨g, k, none⟩ = some (.slice (some ⟨bl.getD k 0, 0, none⟩) P P) := by
  rcases h.2 with ⟨hv, h0⟩ | ⟨g, cap, cur, hv, hB, hg, hnc, hcm, hcs, ht⟩
  · omega
  · refine ⟨g, cap, hv, (Array.getElem?_eq_some_iff.1 hg).1, fun k hk => ?_⟩
    have h1 : w.cell? ⟨g, k, none⟩ = cur[k]? := by simp [World.cell?, hg]
    rw [h1]
    have h3 : (cur.toList.take (n * 1))[k]? = (slcL P bl)[k]? := by rw [ht]
    rw [List.getElem?_take_of_lt (by omega), Array.getElem?_toList] at h3
    rw [h3]
    unfold slcL
    rw [List.getElem?_map, List.getElem?_eq_getElem (by omega), List.getD_eq_getElem?_getD, List.getElem?_eq_getElem (by omega)]
    rfl
theorem own_slG {w : World} {B n : Nat} {e : TypeId} {v : Value} {zs : List Value} (h : w.ownsRow B e 1 v n zs) : ∃ a c, v = .slice a n c := by
  rcases h.2 with ⟨rfl, h0⟩ | ⟨g, cap, cur, rfl, _⟩
  · exact ⟨none, 0, by rw [h0]⟩
  · exact ⟨_, _, rfl⟩
theorem rep_row (w : World) (P : Nat) : Row (w.alloc (.cells (Array.replicate P (Value.int .i64 0)) 3)) w.heap.size 3 (List.replicate P (.int .i64 0)) := by
  rw [← List.toArray_replicate]; exact row_alloc w _ _
theorem own_nilS (w : World) (B : Nat) : w.ownsRow B 25 1 (.slice none 0 0) 0 [] := ⟨rfl, .inl ⟨rfl, rfl⟩⟩
/-- What NewNet gives. -/
def NetPost (P : Int) (m : Nat) (f : Nat → Nat → Int) (w : World) (e : Ending) (w' : World) : Prop :=
  ((gfault P m f ≠ 0 ∧ e = .returned (.tuple #[.pointer none, errV (gfault P m f)])) ∨ (gfault P m f = 0 ∧ ∃ bn, e = .returned (.tuple #[.pointer (some ⟨bn, 0, none⟩), .nilIface]) ∧ Net w' bn P.toNat (fun a b => btw f a b m) (fun a => deg f a m))) ∧ Below w.heap.size w w'
theorem post_bad {P : Int} {m : Nat} {f : Nat → Nat → Int} {w w' : World} {z : Int} (h : gfault P m f = z) (h0 : z ≠ 0) (hb : Below w.heap.size w w') : NetPost P m f w (.returned (.tuple #[.pointer none, .iface 59 (.int .i64 z)])) w' := by
  refine ⟨.inl ⟨by rw [h]; exact h0, ?_⟩, hb⟩
  rw [h, errV_some h0]

set_option maxHeartbeats 8000000 in
set_option maxRecDepth 1000000 in
theorem net_any (P : Int) (ea : Option Addr) (m ec : Nat) (f : Nat → Nat → Int) (w : World) (hE : Mem.Rows w ea m 3 (fun i j => .int .i64 (f i j))) (hm : m ≤ 9223372036854775807) :
    Calls Try.prog 34 #[.agg #[.int .i64 P, .slice ea m ec]] w (NetPost P m f w) := by
  have HE := Lib.hid hE
  clear hE
  go_enter Try.func34, Try.ntmps34
  go_upto_region 1 with fail
  have hR : Row (w.alloc (.cells #[.int .i64 P, .slice ea m ec] 24)) w.heap.size 24 [.int .i64 P, .slice ea m ec] := row_alloc w _ _
  have hB : Below w.heap.size w (w.alloc (.cells #[.int .i64 P, .slice ea m ec] 24)) := (Below.refl _ _).alloc (Nat.le_refl _) _
  have HG := Lib.hid hR
  have HB := Lib.hid hB
  clear hR hB
  generalize w.alloc (.cells #[.int .i64 P, .slice ea m ec] 24) = w1 at *
  obtain ⟨bg, hbg⟩ : ∃ bg, bg = w.heap.size := ⟨_, rfl⟩
  rw [← hbg] at HG ⊢
  have hlg : w.heap.size ≤ bg := by omega
  have HBG := Lib.hid hbg
  clear hbg
  have g0 := HG.out.cell 0
  have g1 := HG.out.cell 1
  dsimp only [List.getElem?_cons_succ, List.getElem?_cons_zero] at g0 g1
  by_cases hlow : P < 1
  · have hg : gfault P m f = 1 := gfault_range (.inl hlow)
    go_wp2_with fail
    go_ret2
    exact post_bad hg (by decide) HB.out
  by_cases hhigh : 10 < P
  · have hg : gfault P m f = 1 := gfault_range (.inr hhigh)
    go_wp2_with fail
    go_ret2
    exact post_bad hg (by decide) HB.out
  have hr : ¬ (P < 1 ∨ 10 < P) := fun h => h.elim hlow hhigh
  by_cases hfull : 40 < m
  · have hg : gfault P m f = 4 := gfault_full hr hfull
    have hfi : (40 : Int) < (m : Int) := by omega
    go_wp2_with fail
    go_ret2
    exact post_bad hg (by decide) HB.out
  obtain ⟨p, rfl⟩ : ∃ p : Nat, P = (p : Int) := ⟨P.toNat, by omega⟩
  have hP1 : 1 ≤ p := by omega
  have hP10 : p ≤ 10 := by omega
  have HR := Lib.hid hr
  have hm40 : m ≤ 40 := by omega
  clear hlow hhigh hr hfull
  obtain ⟨i0, hI0, hz0, hz1, hz2⟩ := info_parts infoSl
  have HI0 := Lib.hid hI0
  have HZ0 := Lib.hid hz0
  have HZ1 := Lib.hid hz1
  have HZ2 := Lib.hid hz2
  clear hI0 hz0 hz1 hz2
  have HMK := Lib.hid (mk_ints p hP10)
  have hmk := HMK.out
  have hbgl := HG.out.lt
  go_upto_region 6 with fail
  have hrD := rep_row w1 p
  have hbD : Below w1.heap.size w1 (w1.alloc (.cells (Array.replicate p (Value.int .i64 0)) 3)) := (Below.refl _ _).alloc (Nat.le_refl _) _
  have hszD : (w1.alloc (.cells (Array.replicate p (Value.int .i64 0)) 3)).heap.size = w1.heap.size + 1 := by simp
  have hrN := row_alloc (w1.alloc (.cells (Array.replicate p (Value.int .i64 0)) 3)) 72 [.slice none 0 0, .slice (some ⟨w1.heap.size, 0, none⟩) p p]
  have hbN : Below (w1.heap.size + 1) (w1.alloc (.cells (Array.replicate p (Value.int .i64 0)) 3)) ((w1.alloc (.cells (Array.replicate p (Value.int .i64 0)) 3)).alloc (.cells [.slice none 0 0, .slice (some ⟨w1.heap.size, 0, none⟩) p p].toArray 72)) := (Below.refl _ _).alloc (by rw [hszD]; exact Nat.le_refl _) _
  rw [hszD] at hrN
  have HVD := Lib.hid ((row_made hrD).keep hbN (by omega))
  have HN := Lib.hid hrN
  have HG := Lib.hid ((HG.out.keep hbD hbgl).keep hbN (by omega))
  have HB := Lib.hid (HB.out.trans ((hbD.trans (hbN.mono (by omega))).mono HB.out.size))
  clear hrD hbD hszD hrN hbN g0 g1 hmk
  generalize (w1.alloc (.cells (Array.replicate p (Value.int .i64 0)) 3)).alloc (.cells #[.slice none 0 0, .slice (some ⟨w1.heap.size, 0, none⟩) p p] 72) = w3 at *
  obtain ⟨bd, hbd⟩ : ∃ bd, bd = w1.heap.size := ⟨_, rfl⟩
  obtain ⟨bn, hbn⟩ : ∃ bn, bn = w1.heap.size + 1 := ⟨_, rfl⟩
  rw [← hbn, ← hbd] at HN
  rw [← hbd] at HVD hbgl
  rw [← hbn]
  have hbdn : bd < bn := by omega
  have hlowd : w.heap.size ≤ bd := by have := HB.out.size; omega
  have hgd : bg < bd := hbgl
  clear hbd hbn hbgl
  have g0 := HG.out.cell 0
  dsimp only [List.getElem?_cons_succ, List.getElem?_cons_zero] at g0
  go_wp2_with fail
  go_loopw [35] (fun u wr => ∃ (i : Nat) (bl : List Nat) (v : Value), i ≤ p ∧ u = .int .i64 (i : Int) ∧ bl.length = i ∧ Row wr bn 72 [v, .slice (some ⟨bd, 0, none⟩) p p] ∧ wr.ownsRow w.heap.size 25 1 v i (slcL p bl) ∧ Vec wr bd p (fun _ => 0) ∧ Made wr w.heap.size bn bd bg p bl ∧ Row wr bg 24 [.int .i64 (p : Int), .slice ea m ec] ∧ Below w.heap.size w wr) (fun u _ => p - (intOf u).toNat)
  case atStart => exact ⟨0, [], _, Nat.zero_le _, rfl, rfl, HN.out, own_nilS _ _, HVD.out, made_nil, HG.out, HB.out⟩
  case round =>
    clear HN HVD HG HB g0
    obtain ⟨i, bl, v, hip, rfl, hbl, hn, hown, hvd, hmd, hg, hb⟩ := hrel
    obtain ⟨ao, co, rfl⟩ := own_slG hown
    have HBL := Lib.hid hbl
    have HN := Lib.hid hn
    have HO := Lib.hid hown
    have HVD := Lib.hid hvd
    have HM := Lib.hid hmd
    have HG := Lib.hid hg
    have HB := Lib.hid hb
    clear hbl hn hown hvd hmd hg hb
    by_cases hlt : i < p
    · --{ROUND
      have HBL2 : Hid ((bl ++ [wr.heap.size]).length = i + 1) := by rw [List.length_append, HBL.out]; rfl
      have hx : ¬ wr.heap.size ∈ bl := fun h => Nat.lt_irrefl _ (HM.out.vec _ h).lt
      have HX := Lib.hid hx
      have hmk := HMK.out
      have g0 := HG.out.cell 0
      have n0 := HN.out.cell 0
      have z0 := HN.out.frozen 0
      dsimp only [List.getElem?_cons_succ, List.getElem?_cons_zero] at g0 n0
      have hbgl := HG.out.lt
      have hbnl := HN.out.lt
      have hbdl := HVD.out.lt
      have hgs : w.heap.size ≤ wr.heap.size := by omega
      have hr1 := rep_row wr p
      have hb1 : Below wr.heap.size wr (wr.alloc (.cells (Array.replicate p (Value.int .i64 0)) 3)) := (Below.refl _ _).alloc (Nat.le_refl _) _
      have hs1 : (wr.alloc (.cells (Array.replicate p (Value.int .i64 0)) 3)).heap.size = wr.heap.size + 1 := by simp
      have hr2 := row_alloc (wr.alloc (.cells (Array.replicate p (Value.int .i64 0)) 3)) 25 [.slice (some ⟨wr.heap.size, 0, none⟩) p p]
      have hb2 : Below (wr.heap.size + 1) (wr.alloc (.cells (Array.replicate p (Value.int .i64 0)) 3)) ((wr.alloc (.cells (Array.replicate p (Value.int .i64 0)) 3)).alloc (.cells [.slice (some ⟨wr.heap.size, 0, none⟩) p p].toArray 25)) := (Below.refl _ _).alloc (by rw [hs1]; exact Nat.le_refl _) _
      rw [hs1] at hr2
      have hbb := (hb1.trans (hb2.mono (by omega))).drew
      have HVN := Lib.hid (((row_made hr1).keep hb2 (by omega)).drewN 1)
      have HCEL := Lib.hid (hr2.drew.cell 0)
      have HOA := Lib.hid (own_keep HO.out hbb)
      have HNA := Lib.hid (HN.out.keep hbb hbnl)
      have HDA := Lib.hid (HVD.out.keep hbb hbdl)
      have HGA := Lib.hid (HG.out.keep hbb hbgl)
      have HBA := Lib.hid (HB.out.trans (hbb.mono HB.out.size))
      have HMA := Lib.hid ((HM.out.keep hbb).add (b := wr.heap.size) HVN.out ⟨hgs, by omega, by omega, by omega⟩ HX.out)
      have HSN : Hid (slcL p (bl ++ [wr.heap.size]) = slcL p bl ++ [.slice (some ⟨wr.heap.size, 0, none⟩) p p]) := slcL_snoc
      clear hr1 hr2 hb1 hb2 hs1 hbb hx
      go_upto_region 8 with fail
      go_region_law (
        (refine step_append1 (by rfl) _ _ 56 (by rfl) w.heap.size 25 i0 (.slice none 0 0) 24 Try.underlying56 HI0.out HZ0.out rfl HZ1.out HZ2.out _ _ _ (by rfl) HOA.out ⟨wr.heap.size + 1, 0, none⟩ 1 (.slice (some ⟨wr.heap.size, 0, none⟩) p p) (by rfl) HCEL.out rfl (by unfold maxLen; omega) (by omega) (by simp; omega) ?_
         intro ao7 co7 w7 hO7 hg7
         have h57 := row_grown HOA.out hg7 HNA.out (by decide)
         have c57 := h57.cell 0
         have z57 := h57.frozen 0
         dsimp only [List.getElem?_cons_succ, List.getElem?_cons_zero] at c57))
      all_goals
        have HO7 := Lib.hid hO7
        have HB7 := Lib.hid (HBA.out.grown hg7 HBA.out.size (own_low HOA.out))
        have HD7 := Lib.hid (vec_grown HOA.out hg7 HDA.out)
        have HM7 := Lib.hid (HMA.out.grown HOA.out hg7)
        have HG7 := Lib.hid (row_grown HOA.out hg7 HGA.out (by decide))
        have hon := only_setCell w7 bn 0 (.slice ao7 (i + 1) co7)
        have HN8 : Hid (Row (w7.setCell ⟨bn, 0, none⟩ (.slice ao7 (i + 1) co7)) bn 72 [.slice ao7 (i + 1) co7, .slice (some ⟨bd, 0, none⟩) p p]) := h57.set 0 (.slice ao7 (i + 1) co7)
        have HO8 := Lib.hid (own_only HO7.out hon (own_ne HO7.out h57 (by decide)))
        have HD8 := Lib.hid (HD7.out.other hon (by omega))
        have HM8 := Lib.hid (HM7.out.other hon)
        have HG8 := Lib.hid (HG7.out.other hon (by omega))
        have HB8 := Lib.hid (HB7.out.trans (hon.below (by omega)))
        clear HO7 HB7 HD7 HM7 HG7 hon c57 z57 h57 hO7 hg7 HOA HNA HDA HGA HBA HMA HCEL HVN n0 z0 g0
        rw [← HSN.out] at HO8
        generalize w7.setCell ⟨bn, 0, none⟩ (.slice ao7 (i + 1) co7) = w8 at *
        go_wp2_with fail
        go_roundw
        case rel => exact ⟨i + 1, bl ++ [wr.heap.size], .slice ao7 (i + 1) co7, by omega, by go_num, HBL2.out, HN8.out, HO8.out, HD8.out, HM8.out, HG8.out, HB8.out⟩
        case measure => simp [intOf]; omega
      --}
    · --{END
      obtain rfl : i = p := by omega
      obtain ⟨be, cap, he, hbl, hre⟩ := own_slcs HO.out HBL.out hP1
      cases he
      have HRE := Lib.hid hre
      have hbe := HO.out.lt be rfl
      clear hre
      have hmem : ∀ k, k < i → bl.getD k 0 ∈ bl := fun k hk => getD_mem (by rw [HBL.out]; exact hk)
      have hBD : be ≠ bd := fun e => vec_ne HVD.out HO.out e.symm
      obtain ⟨bk, hbk⟩ : ∃ bk : Nat → Nat, bk = fun k => bl.getD k 0 := ⟨_, rfl⟩
      have HBK : Hid (∀ k, bk k = bl.getD k 0) := fun k => by rw [hbk]
      have HD : Hid (Dst w.heap.size bn be bd bk i) := {
        inj := fun j k hj hk e => nodup_getD HM.out.nodup (by rw [HBL.out]; exact hj) (by rw [HBL.out]; exact hk) (by rw [HBK.out, HBK.out] at e; exact e)
        kd := fun k hk => by rw [HBK.out]; exact (HM.out.low _ (hmem k hk)).2.2.1
        kn := fun k hk => by rw [HBK.out]; exact (HM.out.low _ (hmem k hk)).2.1
        ke := fun k hk => by rw [HBK.out]; exact vec_ne (HM.out.vec _ (hmem k hk)) HO.out
        dn := by omega
        de := fun e => hBD e.symm
        lk := fun k hk => by rw [HBK.out]; exact (HM.out.low _ (hmem k hk)).1
        ld := hlowd }
      have HNB : Hid (NetB wr bn be bd co bk i (fun _ _ => 0) (fun _ => 0)) := {
        rn := HN.out
        re := fun k hk => by rw [HBK.out]; exact HRE.out k hk
        rk := fun k hk => by rw [HBK.out]; exact HM.out.vec _ (hmem k hk)
        rd := HVD.out }
      have HGK : Hid (∀ k, k < i → bk k ≠ bg) := fun k hk => by rw [HBK.out]; exact (HM.out.low _ (hmem k hk)).2.2.2
      clear hmem hbk HN HRE
      go_upto_if 36 with fail
      go_step
      go_step
      go_step
      apply_assumption
      refine net2 i m f bg bn be bd co bk ea ec w wr hP1 hP10 hm40 (by omega) HE HD HNB HG (by omega) (by omega) HGK HB _ _ _ _ _ _ _ _ _ _ _ _ _ _ _ _ _ _ _ _ _ _ _ _ _ _ _ _ _ _ _ _ _ _ _ _ _ _ _ _ _ _ _ _ _ _ _ _ _ _ _ _ _ _ _ _ _ _ _ _ _ _ _ _ _ _ _ _ _ _ _ _ _ _ _ _ _ _ _ _ _ _ _ _ _ _ _ _ _ _ _ _ _ _ _ _ _ _ _ _ _ _ _ _ _ _ _ _ _ _ _ _ _ _ _ _ _ _ _ _ _ _ _ _ _ _ _ _ _ _ _ _ _ _ _ _ _ _ _ _ _ _ _ _ _ _ _ _ _ _ _ _ _ _ _ _ _ _ _ _ _ _ _ _ _ _ _ _ _ _ _ _ _ _ _ _ _ _ _ _ _ _ _ _ _ _ _ ?_ ?_ ?_
      · intro u7 u8 u9 u10 u11 u50 u51 u52 u53 u54 u55 u56 u57 u58 u59 u60 u61 u62 u63 u64 u65 u66 u67 u68 u69 u70 u71 u72 u73 u74 u75 u76 u77 u78 u79 u80 u81 u82 u83 u84 u85 u86 u87 u88 u89 u90 u91 u92 u93 u94 u95 u96 u97 u98 u99 u100 u101 u102 u103 u104 u105 u106 u107 u108 u109 u110 u111 u112 u113 u114 u115 u116 u117 u118 u119 u120 u121 u122 u123 u124 u125 u126 u127 u128 u129 u130 u131 u132 u133 u134 u135 u136 u137 u138 u139 u140 u141 u142 u143 u144 u145 u146 u147 u148 u149 u150 u151 u152 u153 u154 u155 u156 u157 u158 u159 u160 u161 u162 u163 u164 u165 u166 u167 u168 u169 u170 u171 u172 u173 u174 u175 u176 u177 u178 u179 u180 u181 u182 u183 u184 u185 u186 u187 w' hbadE hb
        obtain ⟨j, hj, he⟩ := hbadE
        have hf := gfault_edge HR.out (by omega) hj he
        go_ret2
        exact post_bad hf (by decide) hb
      · intro u7 u8 u9 u10 u11 u50 u51 u52 u53 u54 u55 u56 u57 u58 u59 u60 u61 u62 u63 u64 u65 u66 u67 u68 u69 u70 u71 u72 u73 u74 u75 u76 u77 u78 u79 u80 u81 u82 u83 u84 u85 u86 u87 u88 u89 u90 u91 u92 u93 u94 u95 u96 u97 u98 u99 u100 u101 u102 u103 u104 u105 u106 u107 u108 u109 u110 u111 u112 u113 u114 u115 u116 u117 u118 u119 u120 u121 u122 u123 u124 u125 u126 u127 u128 u129 u130 u131 u132 u133 u134 u135 u136 u137 u138 u139 u140 u141 u142 u143 u144 u145 u146 u147 u148 u149 u150 u151 u152 u153 u154 u155 u156 u157 u158 u159 u160 u161 u162 u163 u164 u165 u166 u167 u168 u169 u170 u171 u172 u173 u174 u175 u176 u177 u178 u179 u180 u181 u182 u183 u184 u185 u186 u187 w' he hc hb
        have hf := gfault_apart HR.out (by omega) he (by rw [Int.toNat_natCast]; exact hc)
        go_ret2
        exact post_bad hf (by decide) hb
      · intro u7 u8 u9 u10 u11 u50 u51 u52 u53 u54 u55 u56 u57 u58 u59 u60 u61 u62 u63 u64 u65 u66 u67 u68 u69 u70 u71 u72 u73 u74 u75 u76 u77 u78 u79 u80 u81 u82 u83 u84 u85 u86 u87 u88 u89 u90 u91 u92 u93 u94 u95 u96 u97 u98 u99 u100 u101 u102 u103 u104 u105 u106 u107 u108 u109 u110 u111 u112 u113 u114 u115 u116 u117 u118 u119 u120 u121 u122 u123 u124 u125 u126 u127 u128 u129 u130 u131 u132 u133 u134 u135 u136 u137 u138 u139 u140 u141 u142 u143 u144 u145 u146 u147 u148 u149 u150 u151 u152 u153 u154 u155 u156 u157 u158 u159 u160 u161 u162 u163 u164 u165 u166 u167 u168 u169 u170 u171 u172 u173 u174 u175 u176 u177 u178 u179 u180 u181 u182 u183 u184 u185 u186 u187 w' he hc hn hb
        have hf := gfault_ok HR.out (by omega) he (by rw [Int.toNat_natCast]; exact hc)
        go_ret2
        exact ⟨.inr ⟨hf, bn, rfl, by rw [Int.toNat_natCast]; exact hn⟩, hb⟩
      --}
end Rt
end Go.Proofs.Ytjikildiblchpaa
