/- WALK: pattern.Runs: a pattern by its runs. -/
import Derived.Test.YtgagophijmiceaaDoorPwB
import Derived.Deep.CutBlock
namespace Go.Proofs.YtgagophijmiceaaDoor
set_option linter.unusedSimpArgs false
set_option linter.unusedVariables false
open Go.RowKit
namespace Pw
open Tld Mem Bld Pn Bl

theorem below_dn {B : Nat} {w w' : World} (h : Below B w w') (n : Nat) : Below B w (w'.drewN n) := ⟨h.os, h.tape, h.output, h.size, h.block⟩
theorem drewN_succ (w : World) (k : Nat) : (World.drewN w k).drew = World.drewN w (k + 1) := rfl
theorem drewN_add (w : World) (k : Nat) : ∀ n, World.drewN (World.drewN w k) n = World.drewN w (k + n)
  | 0 => rfl
  | n + 1 => by
    rw [← drewN_succ, drewN_add w k n, drewN_succ]
    rfl
def lenOf : Value → Nat
  | .slice _ n _ => n
  | _ => 0
/-- So many cells of a row, from one on, as they stood at the call. -/
def RowAt (w : World) (a : Option Addr) (L : Nat) (g : Nat → Nat) (x : Nat) : Prop := ∀ j, j < L → ∃ b o, a = some ⟨b, o, none⟩ ∧ b < w.heap.size ∧ w.cell? ⟨b, o + j, none⟩ = some (.int .i64 ((g (x + j) : Nat) : Int))
theorem row_at {w : World} {a : Option Addr} {n c W H r lo : Nat} {f : Nat → Nat → Nat} (hZ : Ints.Is w a n (flat W H f)) (hn : n = W * H) (hr : r < H) (hW : 0 < W) (hlo : lo = r * W) (hrn : lo + W ≤ n) (hc : n ≤ c) :
    ∃ b o, a = some ⟨b, o, none⟩ ∧ RowAt w (some ⟨b, o + lo, none⟩) W (fun x => f x r) 0 ∧ W ≤ c - lo := by
  obtain ⟨b, o, rfl, hb, h0⟩ := hZ.cells lo (by omega)
  refine ⟨b, o, rfl, fun j hj => ⟨b, o + lo, rfl, hb, ?_⟩, by omega⟩
  obtain ⟨b2, o2, e2, _, h2⟩ := hZ.cells (lo + j) (by omega)
  cases e2
  dsimp only at h2
  rw [hlo, flat_at hj hr] at h2
  rw [Nat.zero_add, Nat.add_assoc, hlo]
  exact h2
theorem runl_stop (g : Nat → Nat) (c : Nat) : ∀ k x, runl g c k x < k → g (x + runl g c k x) ≠ c
  | 0, x, h => absurd h (Nat.not_lt_zero _)
  | k + 1, x, h => by
    unfold runl at h ⊢
    by_cases hc : g x = c
    · rw [if_pos hc] at h ⊢
      rw [show x + (runl g c k (x + 1) + 1) = x + 1 + runl g c k (x + 1) by omega]
      exact runl_stop g c k (x + 1) (by omega)
    · rw [if_neg hc]
      exact hc
theorem rowsR_next {f : Nat → Nat → Nat} {W k r ap : Nat} : rowsR f W (k + 1) r ap = (if tlen (fun x => f x r) W = 0 then [] else item ap 36) ++ (itR (fun x => f x r) 0 (tlen (fun x => f x r) W) ++ rowsR f W k (r + 1) ((if tlen (fun x => f x r) W = 0 then ap else 0) + 1)) := by
  rw [rowsR]
  by_cases h : tlen (fun x => f x r) W = 0
  · rw [if_pos h, if_pos h, if_pos h, h, itR_end (Nat.le_refl _)]
    rfl
  · rw [if_neg h, if_neg h, if_neg h]
theorem pre_len {t r T : List UInt8} {N : Nat} (h : t ++ r = T) (hT : T.length ≤ N) : t.length ≤ N := by
  rw [← h, List.length_append] at hT
  omega
theorem head_data (W H : Nat) : ((((((ByteArray.mk #[120, 32, 61, 32]) ++ ByteArray.mk (Lib.decDigits W).toArray) ++ ByteArray.mk #[44, 32, 121, 32, 61, 32]) ++ ByteArray.mk (Lib.decDigits H).toArray) ++ ByteArray.mk #[10])).data.toList = headS W H := by
  simp [headS]
theorem head_size (W H : Nat) (hW : W ≤ 100) (hH : H ≤ 100) : ([] : List UInt8).length + ((((((ByteArray.mk #[120, 32, 61, 32]) ++ ByteArray.mk (Lib.decDigits W).toArray) ++ ByteArray.mk #[44, 32, 121, 32, 61, 32]) ++ ByteArray.mk (Lib.decDigits H).toArray) ++ ByteArray.mk #[10])).size ≤ 140737488355328 := by
  have h := head_len hW hH
  rw [← head_data, Array.length_toList] at h
  have e : ∀ s : ByteArray, s.size = s.data.size := fun _ => rfl
  rw [e]
  simp only [List.length_nil]
  omega

set_option maxHeartbeats 16000000 in
set_option maxRecDepth 1000000 in
theorem Runs_bad (W H : Int) (a : Option Addr) (n c : Nat) (zs : List Int) (w : World) (hZ : Ints.Is w a n zs) (hf : pfault W H zs ≠ 0) :
    Calls Tryd.prog 18 #[.agg #[.int .i64 W, .int .i64 H, .slice a n c]] w fun e w' => e = .returned (.tuple #[.string ⟨#[]⟩, errV (pfault W H zs)]) ∧ Below w.heap.size w w' := by
  have HK := Lib.hid (fun w2 (h : Below w.heap.size w w2) => pcheck_any W H a n c zs w2 hZ.len (by have := hZ.le; unfold maxLen at this; omega) (hZ.keep h).cells)
  rw [errV_some hf] at HK ⊢
  clear hZ hf
  go_enter Tryd.func18, Tryd.ntmps18
  go_upto_region 1 with fail
  have hnew := row_alloc w 35 (boxP W H a n c)
  have HG : Hid (Row (w.alloc (.cells #[.int .i64 W, .int .i64 H, .slice a n c] 35)) w.heap.size 35 (boxP W H a n c)) := hnew
  have HB : Hid (Below w.heap.size w (w.alloc (.cells #[.int .i64 W, .int .i64 H, .slice a n c] 35))) := Lib.hid ((Below.refl _ _).alloc (Nat.le_refl _) _)
  clear hnew
  generalize w.alloc (.cells #[.int .i64 W, .int .i64 H, .slice a n c] 35) = w1 at *
  have l5 := row_range HG.out
  go_wp2_with (refine wpList_load_mid rfl 35 _ rfl w.heap.size 0 rfl _ _ l5 Tryd.underlying35 rfl infoPat ?_)
  refine (HK.out _ HB.out).mono ?_
  rintro e2 w2 ⟨rfl, hb2⟩
  have HB := Lib.hid (HB.out.trans (hb2.mono HB.out.size))
  clear hb2 l5 HK
  go_wp2_with fail
  go_ret2
  exact ⟨rfl, HB.out⟩

set_option maxHeartbeats 16000000 in
set_option maxRecDepth 1000000 in
theorem Runs_ok (W H : Nat) (a : Option Addr) (n c : Nat) (f : Nat → Nat → Nat) (w : World) (hT : Tab w) (hZ : Ints.Is w a n (flat W H f)) (hn : n = W * H) (hc : n ≤ c) (hW : W ≤ 100) (hH : H ≤ 100) (hf : ∀ x y, f x y < 2) (hp : pfault W H (flat W H f) = 0) :
    Calls Tryd.prog 18 #[.agg #[.int .i64 W, .int .i64 H, .slice a n c]] w fun e w' => e = .returned (.tuple #[.string ⟨(runsS W H f).toArray⟩, .nilIface]) ∧ Below w.heap.size w w' := by
  have HK := Lib.hid (fun w2 (h : Below w.heap.size w w2) => pcheck_any W H a n c (flat W H f) w2 (by rw [flat_len, hn]) (by have := Nat.mul_le_mul hW hH; omega) (hZ.keep h).cells)
  rw [hp, errV_zero rfl] at HK
  have HZ := Lib.hid (fun w2 (h : Below w.heap.size w w2) => hZ.keep h)
  have hn2 : n ≤ 40000 := by rw [hn]; exact Nat.le_trans (Nat.mul_le_mul hW hH) (by decide)
  have HN := Lib.hid hn
  have HC := Lib.hid hc
  have HWB := Lib.hid hW
  have HHB := Lib.hid hH
  have HF := Lib.hid hf
  have HT := Lib.hid (fun w2 (h : Below w.heap.size w w2) => hT.keep h)
  have HHD := Lib.hid (head_data W H)
  have HHL := Lib.hid (head_size W H hW hH)
  obtain ⟨dw, hdw⟩ : ∃ dw, dw = ByteArray.mk (Lib.decDigits W).toArray := ⟨_, rfl⟩
  obtain ⟨dh, hdh⟩ : ∃ dh, dh = ByteArray.mk (Lib.decDigits H).toArray := ⟨_, rfl⟩
  rw [← hdw, ← hdh] at HHD HHL
  have HCW := Lib.hid (fun w2 (h : Below w.heap.size w w2) => itoa_any W (Nat.le_trans hW (by decide)) w2 (hT.keep h))
  have HCH := Lib.hid (fun w2 (h : Below w.heap.size w w2) => itoa_any H (Nat.le_trans hH (by decide)) w2 (hT.keep h))
  rw [← hdw] at HCW
  rw [← hdh] at HCH
  have hsw : dw.size ≤ 3 := by rw [hdw, show (ByteArray.mk (Lib.decDigits W).toArray).size = (Lib.decDigits W).length from by simp [ByteArray.size]]; exact dec_len (Nat.le_trans hW (by decide))
  have hsh : dh.size ≤ 3 := by rw [hdh, show (ByteArray.mk (Lib.decDigits H).toArray).size = (Lib.decDigits H).length from by simp [ByteArray.size]]; exact dec_len (Nat.le_trans hH (by decide))
  clear hZ hn hc hW hH hf hp hT hdw hdh
  go_enter Tryd.func18, Tryd.ntmps18
  go_upto_region 1 with fail
  have hnew := row_alloc w 35 (boxP W H a n c)
  have HG : Hid (Row (w.alloc (.cells #[.int .i64 W, .int .i64 H, .slice a n c] 35)) w.heap.size 35 (boxP W H a n c)) := hnew
  have HB : Hid (Below w.heap.size w (w.alloc (.cells #[.int .i64 W, .int .i64 H, .slice a n c] 35))) := Lib.hid ((Below.refl _ _).alloc (Nat.le_refl _) _)
  clear hnew
  generalize w.alloc (.cells #[.int .i64 W, .int .i64 H, .slice a n c] 35) = w1 at *
  obtain ⟨gb, hgb⟩ : ∃ gb, gb = w.heap.size := ⟨_, rfl⟩
  rw [← hgb] at HG ⊢
  clear hgb
  have l5 := row_range HG.out
  go_wp2_with (refine wpList_load_mid rfl 35 _ rfl gb 0 rfl _ _ l5 Tryd.underlying35 rfl infoPat ?_)
  refine (HK.out _ HB.out).mono ?_
  rintro e2 w1 ⟨rfl, hb2⟩
  have HG := Lib.hid (HG.out.keep hb2 HG.out.lt)
  have HB := Lib.hid (HB.out.trans (hb2.mono HB.out.size))
  clear hb2 l5 HK
  go_upto_region 5 with fail
  have hbs := Bld.fresh w1
  have hal : Below w1.heap.size w1 (w1.alloc (.cells #[.pointer none, .slice none 0 0] 86)) := (Below.refl _ _).alloc (Nat.le_refl _) _
  have HGB : Hid (gb ≠ w1.heap.size ∧ w.heap.size ≤ w1.heap.size) := Lib.hid ⟨fun e => absurd HG.out.lt (by rw [e]; exact Nat.lt_irrefl _), HB.out.size⟩
  have HSZ : Hid (w1.heap.size < (w1.alloc (.cells #[.pointer none, .slice none 0 0] 86)).heap.size) := Lib.hid (by simp)
  have HB := Lib.hid (HB.out.trans (hal.mono HB.out.size))
  have HG := Lib.hid (HG.out.keep hal HG.out.lt)
  obtain ⟨bb, hbb⟩ : ∃ bb, bb = w1.heap.size := ⟨_, rfl⟩
  rw [← hbb] at hbs HGB HSZ ⊢
  have HI : Hid (Is bb bb [] (w1.alloc (.cells #[.pointer none, .slice none 0 0] 86))) := Lib.hid hbs
  clear hbb hbs hal
  generalize w1.alloc (.cells #[.pointer none, .slice none 0 0] 86) = w2 at *
  have hdr : Below w2.heap.size w2 w2.drew := (Below.refl _ _).drew
  refine wp_region_noPanic ?_
  refine Rt.region_Cn (Sc2 (fun w2 => w2.cell? ⟨gb, 0, none⟩ = some (.int .i64 W) ∧ w2.cell? ⟨gb, 1, none⟩ = some (.int .i64 H)) (fun w2 => True) 999) 11 #[false, false, false, false, false, false, false, false, false, false, false] (by kernel_rfl) (by kernel_rfl) (by kernel_rfl) ?_
  have hS1 : ∀ o, Sc2 (fun w2 => w2.cell? ⟨gb, 0, none⟩ = some (.int .i64 W) ∧ w2.cell? ⟨gb, 1, none⟩ = some (.int .i64 H)) (fun w2 => True) 999 o w2.drew := Sc2.of ⟨HG.out.cell 0, HG.out.cell 1⟩ trivial
  refine Rt.C_take (none) (i := 0) (oi := _) (v := ?_) rfl (by kernel_rfl) (by kernel_rfl) (by kernel_rfl) (by kernel_rfl) (fun _ _ _ h => h) (Sc2.other (by decide)) (Or.inl ⟨by rfl, ?_⟩) (fun o' _ => hS1 o') ?_
  rotate_left
  · intro w2 hSw
    obtain ⟨s0, s1⟩ := hSw
    go_simp
    try with_reducible rfl
  simp only [Act.put, List.getElem_toArray, List.getElem_cons_succ, List.getElem_cons_zero, List.setIfInBounds_toArray, List.set_cons_zero, List.set_cons_succ]
  refine Rt.C_take (none) (i := 1) (oi := _) (v := ?_) rfl (by kernel_rfl) (by kernel_rfl) (by kernel_rfl) (by kernel_rfl) (fun _ _ _ h => h) (Sc2.other (by decide)) (Or.inl ⟨by rfl, ?_⟩) (fun o' _ => hS1 o') ?_
  rotate_left
  · intro w2 hSw
    obtain ⟨s0, s1⟩ := hSw
    go_simp
    try with_reducible rfl
  simp only [Act.put, List.getElem_toArray, List.getElem_cons_succ, List.getElem_cons_zero, List.setIfInBounds_toArray, List.set_cons_zero, List.set_cons_succ]
  refine Rt.C_take (none) (i := 5) (oi := _) (v := ?_) rfl (by kernel_rfl) (by kernel_rfl) (by kernel_rfl) (by kernel_rfl) (fun _ _ _ h => h) (Sc2.other (by decide)) (Or.inl ⟨by rfl, ?_⟩) (fun o' _ => hS1 o') ?_
  rotate_left
  · intro w2 hSw
    obtain ⟨s0, s1⟩ := hSw
    go_simp
    try with_reducible rfl
  simp only [Act.put, List.getElem_toArray, List.getElem_cons_succ, List.getElem_cons_zero, List.setIfInBounds_toArray, List.set_cons_zero, List.set_cons_succ]
  refine Rt.C_take (none) (i := 6) (oi := _) (v := ?_) rfl (by kernel_rfl) (by kernel_rfl) (by kernel_rfl) (by kernel_rfl) (fun _ _ _ h => h) (Sc2.other (by decide)) (Or.inl ⟨by rfl, ?_⟩) (fun o' _ => hS1 o') ?_
  rotate_left
  · intro w2 hSw
    obtain ⟨s0, s1⟩ := hSw
    go_simp
    try with_reducible rfl
  simp only [Act.put, List.getElem_toArray, List.getElem_cons_succ, List.getElem_cons_zero, List.setIfInBounds_toArray, List.set_cons_zero, List.set_cons_succ]
  clear hS1
  have HB := Lib.hid (HB.out.trans (hdr.mono HB.out.size))
  have HG := Lib.hid (HG.out.keep hdr HG.out.lt)
  have HI := Lib.hid (HI.out.keep hdr)
  have HSZ := Lib.hid (Nat.lt_of_lt_of_le HSZ.out hdr.size)
  generalize w2.drew = w3 at *
  clear hdr
  refine Rt.C_ready (rs := [2]) (by kernel_rfl) (by simp) ?_
  refine Rt.AllC.cons (i := 2) (o := _) rfl (by rfl) (fun K' hK => ?_) ?_
  · skip
    have hbs := HB.out.size
    go_simp
    refine (HCW.out _ HB.out).mono ?_
    rintro e5 w4 ⟨rfl, hb5⟩
    have HB := Lib.hid (HB.out.trans (hb5.mono hbs))
    have HG := Lib.hid (HG.out.keep hb5 HG.out.lt)
    have HI := Lib.hid (HI.out.keep hb5)
    have HSZ := Lib.hid (Nat.lt_of_lt_of_le HSZ.out hb5.size)
    clear hb5 hbs
    go_simp
    refine hK _ _ (fun o _ => Sc2.of ⟨HG.out.cell 0, HG.out.cell 1⟩ trivial o) ?_
    clear hK K'
    simp only [Act.put, List.getElem_toArray, List.getElem_cons_succ, List.getElem_cons_zero, List.setIfInBounds_toArray, List.set_cons_zero, List.set_cons_succ]
    refine Rt.C_take (none) (i := 3) (oi := _) (v := (.string (ByteArray.mk #[120, 32, 61, 32] ++ dw))) rfl (by kernel_rfl) (by kernel_rfl) (by kernel_rfl) (by kernel_rfl) (fun _ _ _ h => h) (Sc2.other (by decide)) (Or.inl ⟨by rfl, ?_⟩) (fun o _ => Sc2.of ⟨HG.out.cell 0, HG.out.cell 1⟩ trivial o) ?_
    · intro w2 hSw
      clear hSw
      go_simp
      omega
    simp only [Act.put, List.getElem_toArray, List.getElem_cons_succ, List.getElem_cons_zero, List.setIfInBounds_toArray, List.set_cons_zero, List.set_cons_succ]
    refine Rt.C_take (none) (i := 4) (oi := _) (v := (.string (ByteArray.mk #[120, 32, 61, 32] ++ dw ++ ByteArray.mk #[44, 32, 121, 32, 61, 32]))) rfl (by kernel_rfl) (by kernel_rfl) (by kernel_rfl) (by kernel_rfl) (fun _ _ _ h => h) (Sc2.other (by decide)) (Or.inl ⟨by rfl, ?_⟩) (fun o _ => Sc2.of ⟨HG.out.cell 0, HG.out.cell 1⟩ trivial o) ?_
    · intro w2 hSw
      clear hSw
      go_simp
      omega
    simp only [Act.put, List.getElem_toArray, List.getElem_cons_succ, List.getElem_cons_zero, List.setIfInBounds_toArray, List.set_cons_zero, List.set_cons_succ]
    refine Rt.C_ready (rs := [7]) (by kernel_rfl) (by simp) ?_
    refine Rt.AllC.cons (i := 7) (o := _) rfl (by rfl) (fun K' hK => ?_) ?_
    · skip
      have hbs := HB.out.size
      go_simp
      refine (HCH.out _ HB.out).mono ?_
      rintro e5 w5 ⟨rfl, hb5⟩
      have HB := Lib.hid (HB.out.trans (hb5.mono hbs))
      have HG := Lib.hid (HG.out.keep hb5 HG.out.lt)
      have HI := Lib.hid (HI.out.keep hb5)
      have HSZ := Lib.hid (Nat.lt_of_lt_of_le HSZ.out hb5.size)
      clear hb5 hbs
      go_simp
      refine hK _ _ (fun o _ => Sc2.of ⟨HG.out.cell 0, HG.out.cell 1⟩ trivial o) ?_
      clear hK K'
      simp only [Act.put, List.getElem_toArray, List.getElem_cons_succ, List.getElem_cons_zero, List.setIfInBounds_toArray, List.set_cons_zero, List.set_cons_succ]
      refine Rt.C_take (none) (i := 8) (oi := _) (v := (.string (ByteArray.mk #[120, 32, 61, 32] ++ dw ++ ByteArray.mk #[44, 32, 121, 32, 61, 32] ++ dh))) rfl (by kernel_rfl) (by kernel_rfl) (by kernel_rfl) (by kernel_rfl) (fun _ _ _ h => h) (Sc2.other (by decide)) (Or.inl ⟨by rfl, ?_⟩) (fun o _ => Sc2.of ⟨HG.out.cell 0, HG.out.cell 1⟩ trivial o) ?_
      · intro w2 hSw
        clear hSw
        go_simp
        omega
      simp only [Act.put, List.getElem_toArray, List.getElem_cons_succ, List.getElem_cons_zero, List.setIfInBounds_toArray, List.set_cons_zero, List.set_cons_succ]
      refine Rt.C_take (none) (i := 9) (oi := _) (v := (.string (ByteArray.mk #[120, 32, 61, 32] ++ dw ++ ByteArray.mk #[44, 32, 121, 32, 61, 32] ++ dh ++ ByteArray.mk #[10]))) rfl (by kernel_rfl) (by kernel_rfl) (by kernel_rfl) (by kernel_rfl) (fun _ _ _ h => h) (Sc2.other (by decide)) (Or.inl ⟨by rfl, ?_⟩) (fun o _ => Sc2.of ⟨HG.out.cell 0, HG.out.cell 1⟩ trivial o) ?_
      · intro w2 hSw
        clear hSw
        go_simp
        omega
      simp only [Act.put, List.getElem_toArray, List.getElem_cons_succ, List.getElem_cons_zero, List.setIfInBounds_toArray, List.set_cons_zero, List.set_cons_succ]
      refine Rt.C_ready (rs := [10]) (by kernel_rfl) (by simp) ?_
      refine Rt.AllC.cons (i := 10) (o := _) rfl (by rfl) (fun K' hK => ?_) ?_
      · skip
        have hge := HGB.out.2
        go_simp
        clear hsw hsh
        refine (ws_any bb bb [] (ByteArray.mk #[120, 32, 61, 32] ++ dw ++ ByteArray.mk #[44, 32, 121, 32, 61, 32] ++ dh ++ ByteArray.mk #[10]) w5 HI.out HHL.out (Nat.le_of_lt HSZ.out)).mono ?_
        rintro e6 w6 ⟨⟨v6, rfl⟩, hi6, hb6, hk6⟩
        have HB := Lib.hid (HB.out.trans (hb6.mono hge))
        have HG := Lib.hid (hk6 _ _ _ HGB.out.1 (by decide) HG.out)
        rw [HHD.out, List.nil_append] at hi6
        have HI := Lib.hid hi6
        have HSZ := Lib.hid (Nat.lt_of_lt_of_le HSZ.out hb6.size)
        clear hi6 hb6 hk6
        go_simp
        refine hK _ _ (fun o _ => Sc2.of ⟨HG.out.cell 0, HG.out.cell 1⟩ trivial o) ?_
        clear hK K'
        simp only [Act.put, List.getElem_toArray, List.getElem_cons_succ, List.getElem_cons_zero, List.setIfInBounds_toArray, List.set_cons_zero, List.set_cons_succ]
        refine Rt.C_done (by kernel_rfl) ?_ _
        refine NoPanic.normal ?_
        have f1 := HG.out.cell 1
        unfold boxP at f1
        dsimp only [List.getElem?_cons_succ, List.getElem?_cons_zero] at f1
        go_wp2_with fail
        clear f1
        go_loopw [6, 28] (fun va v wr => ∃ r ap : Nat, ∃ t : List UInt8, r ≤ H ∧ v = .int .i64 ((r : Nat) : Int) ∧ va = .int .i64 ((ap : Nat) : Int) ∧ ap ≤ r ∧ t ++ rowsR f W (H - r) r ap = runsS W H f ∧ Is bb bb t wr ∧ Row wr gb 35 (boxP W H a n c) ∧ Below w.heap.size w wr ∧ bb < wr.heap.size) (fun _ v _ => H - (RowKit.intOf v).toNat)
        case atStart => exact ⟨0, 0, headS W H, Nat.zero_le _, rfl, rfl, Nat.le_refl _, rfl, HI.out, HG.out, HB.out, HSZ.out⟩
        case round =>
          clear HI HG HB HSZ
          obtain ⟨r, ap, t, hr, rfl, rfl, hap, htot, hi, hg, hb, hsz⟩ := hrel
          have HI := Lib.hid hi
          have HG := Lib.hid hg
          have HB := Lib.hid hb
          have HSZ := Lib.hid hsz
          have HAP := Lib.hid hap
          have HTOT := Lib.hid htot
          clear hi hg hb hsz hap htot
          by_cases hrH : r < H
          · have hr2 : (r : Int) < (H : Int) := by omega
            have HRH := Lib.hid hrH
            obtain ⟨r1, lo, hi, hr1, hlo, hrn, hlh, hhd, hhc, hcl, a0, a1, a2⟩ := seg_nums hrH HN.out hn2 (Nat.le_trans HHB.out (by decide)) HC.out
            have HLO := Lib.hid hlo
            have HRN := Lib.hid hrn
            have HR1 := Lib.hid hr1
            have f0 := HG.out.cell 0
            have f2 := HG.out.cell 2
            unfold boxP at f0 f2
            dsimp only [List.getElem?_cons_succ, List.getElem?_cons_zero] at f0 f2
            clear hlo hrn hr1
            obtain ⟨g, hg⟩ : ∃ g : Nat → Nat, g = fun x => f x r := ⟨_, rfl⟩
            have HGF := Lib.hid hg
            clear hg
            go_upto_region 10 with fail
            go_cut [8] (fun v8 wx => (∃ a2 c2, v8 = .slice a2 W c2 ∧ W ≤ c2 ∧ RowAt w a2 W g 0) ∧ wr = wx)
            case first => as_aux_lemma =>
              by_cases hW0 : W = 0
              · have HNZ : Hid (n = 0) := Lib.hid (by rw [HN.out, hW0, Nat.zero_mul])
                have HE : Hid (∀ a2, RowAt w a2 W g 0) := Lib.hid (fun a2 j hj => absurd hj (by rw [hW0]; exact Nat.not_lt_zero j))
                have HWC : Hid (∀ x, W ≤ x) := Lib.hid (fun x => by rw [hW0]; exact Nat.zero_le _)
                clear hW0 hcl
                rcases hca : a with _ | ⟨ab, ao, al⟩
                · subst hca
                  go_wp2_with fail
                  go_meet
                  case rel => exact ⟨⟨_, _, rfl, HWC.out _, HE.out _⟩, rfl⟩
                · subst hca
                  by_cases hc0 : lo = c
                  · subst hc0
                    go_wp2_with fail
                    go_meet
                    case rel => exact ⟨⟨_, _, rfl, HWC.out _, HE.out _⟩, rfl⟩
                  · have hc1 : ¬ c = lo := fun e => hc0 e.symm
                    go_wp2_with fail
                    go_meet
                    case rel => exact ⟨⟨_, _, rfl, HWC.out _, HE.out _⟩, rfl⟩
              · have hW1 := Nat.pos_of_ne_zero hW0
                replace hcl := hcl hW1
                clear hW0
                obtain ⟨ab, ao, rfl, hrow, hwc⟩ := row_at (HZ.out w (Below.refl _ _)) HN.out HRH.out hW1 HLO.out HRN.out HC.out
                have HROW : Hid (RowAt w (some ⟨ab, ao + lo, none⟩) W g 0) := Lib.hid (by rw [HGF.out]; exact hrow)
                have HWC := Lib.hid hwc
                clear hrow hwc hW1
                go_wp2_with fail
                go_meet
                case rel => exact ⟨⟨_, _, rfl, HWC.out, HROW.out⟩, rfl⟩
            case rest =>
              clear f0 f2 a0 a1 a2 hhc hlh hhd hcl
              obtain ⟨⟨a2, c2, rfl, hwc, hrow⟩, rfl⟩ := hcut
              have HROW := Lib.hid hrow
              have HWC := Lib.hid hwc
              clear hrow hwc
              obtain ⟨L, hL⟩ : ∃ L, L = tlen g W := ⟨_, rfl⟩
              have HL := Lib.hid hL
              clear hL
              go_upto_block 2 with fail
              go_cut [8] (fun v8 wx => (∃ c2, v8 = .slice a2 L c2 ∧ L ≤ c2) ∧ wr = wx)
              case first => as_aux_lemma =>
                go_wp2_with fail
                go_loopw [8] (fun v8 wx => (∃ M c2 : Nat, v8 = .slice a2 M c2 ∧ M ≤ W ∧ M ≤ c2 ∧ tlen g M = L) ∧ wr = wx) (fun v _ => lenOf v)
                case atStart => exact ⟨⟨W, c2, rfl, Nat.le_refl _, HWC.out, HL.out.symm⟩, rfl⟩
                case round =>
                  obtain ⟨⟨M, c3, rfl, hMW, hMc, hML⟩, rfl⟩ := hrel
                  by_cases hM0 : M = 0
                  · subst hM0
                    have HZL : Hid (0 = L) := Lib.hid hML
                    clear hMW hMc hML
                    go_wp2_with fail
                    go_meet
                    case rel => exact ⟨⟨c3, by rw [HZL.out], by rw [← HZL.out]; exact Nat.zero_le _⟩, rfl⟩
                  · obtain ⟨M', hM0⟩ : ∃ M', M = M' + 1 := ⟨M - 1, by omega⟩
                    obtain ⟨ab, ao, rfl, hbl, hcell⟩ := HROW.out M' (by omega)
                    have hcell := (HB.out.cell (p := ⟨ab, ao + M', none⟩) hbl).trans hcell
                    rw [Nat.zero_add] at hcell
                    obtain ⟨gv, hgv⟩ : ∃ gv, gv = g M' := ⟨_, rfl⟩
                    rw [← hgv] at hcell
                    have hm0 : (0 : Int) < (M : Int) := by omega
                    have hm1 : M' < M := by omega
                    have hm1i : (M' : Int) < (M : Int) := by omega
                    have hm2 : M' ≤ c3 := by omega
                    have hm2i : (M' : Int) ≤ (c3 : Int) := by omega
                    have hm3 : ¬ c3 = 0 := by omega
                    have hm4 : M' ≤ M := by omega
                    have hW1 := HWB.out
                    have E1 : Hid (wrap64 ((M : Int) - 1) = (M' : Int)) := Lib.hid (wr_nat (by omega) (by omega))
                    have HM := Lib.hid hM0
                    have HMW := Lib.hid hMW
                    have HMC := Lib.hid hMc
                    clear hM0 hMW hMc hW1 hbl
                    by_cases hz : gv = 0
                    · subst hz
                      have HNX : Hid (tlen g M' = L) := Lib.hid (by rw [← hML, HM.out, tlen, if_pos hgv.symm])
                      clear hgv hML
                      have e1 := E1.out
                      go_wp2_with fail
                      clear e1
                      go_roundw
                      case rel => exact ⟨⟨M', c3, rfl, by have := HMW.out; have := HM.out; omega, by have := HMC.out; have := HM.out; omega, HNX.out⟩, by first | trivial | rfl⟩
                      case measure => exact hm1
                    · have hz2 : ¬ (gv : Int) = 0 := by omega
                      have hz3 : ((gv : Int) == 0) = false := by simp; omega
                      have HNX : Hid (M = L) := Lib.hid (by rw [← hML, HM.out, tlen, if_neg (by rw [← hgv]; exact hz)])
                      clear hgv hML hz
                      have e1 := E1.out
                      go_wp2_with fail
                      clear e1
                      go_meet
                      case rel => exact ⟨⟨c3, by rw [HNX.out], by rw [← HNX.out]; exact HMC.out⟩, rfl⟩
              case rest =>
                obtain ⟨⟨c3, rfl, hLc⟩, rfl⟩ := hcut
                have HLW : Hid (L ≤ W) := Lib.hid (by rw [HL.out]; exact tlen_le _ _)
                have HLC := Lib.hid hLc
                have HTOT2 : Hid (t ++ ((if L = 0 then [] else item ap 36) ++ (itR g 0 L ++ rowsR f W (H - (r + 1)) (r + 1) ((if L = 0 then ap else 0) + 1))) = runsS W H f) := Lib.hid (by
                  have h1 := HTOT.out
                  rw [show H - r = (H - (r + 1)) + 1 by have := HRH.out; omega, rowsR_next, ← HGF.out, ← HL.out] at h1
                  exact h1)
                have HTL := Lib.hid (pre_len HTOT.out (runsS_len HWB.out HHB.out))
                clear hLc
                obtain ⟨ap1, hap1⟩ : ∃ ap1, ap1 = if L = 0 then ap else 0 := ⟨_, rfl⟩
                obtain ⟨it, hit⟩ : ∃ it : List UInt8, it = if L = 0 then [] else item ap 36 := ⟨_, rfl⟩
                rw [← hap1, ← hit] at HTOT2
                have HAP1 := Lib.hid hap1
                have HIT := Lib.hid hit
                clear hap1 hit
                go_upto_if 62 with fail
                go_cut [6] (fun v6 wx => v6 = .int .i64 ((ap1 : Nat) : Int) ∧ Is bb bb (t ++ it) wx ∧ Row wx gb 35 (boxP W H a n c) ∧ Below w.heap.size w wx ∧ bb < wx.heap.size)
                case first => as_aux_lemma =>
                  by_cases hL0 : L = 0
                  · subst hL0
                    have HE1 : Hid (ap1 = ap) := Lib.hid (by rw [HAP1.out, if_pos rfl])
                    have HE2 : Hid (it = []) := Lib.hid (by rw [HIT.out, if_pos rfl])
                    go_wp2_with fail
                    go_meet
                    case rel => exact ⟨by rw [HE1.out], by rw [HE2.out, List.append_nil]; exact HI.out, HG.out, HB.out, HSZ.out⟩
                  · have hL1 : (0 : Int) < (L : Int) := by omega
                    have HE1 : Hid (ap1 = 0) := Lib.hid (by rw [HAP1.out, if_neg hL0])
                    have HE2 : Hid (it = item ap 36) := Lib.hid (by rw [HIT.out, if_neg hL0])
                    have HCI := Lib.hid (item_any bb bb ap 36 t wr (by have := HAP.out; have := HRH.out; have := HHB.out; omega) (HT.out _ HB.out) HI.out (Nat.le_trans HTL.out (by decide)) (Nat.le_of_lt HSZ.out) HSZ.out)
                    clear hL0
                    go_wp2_with fail
                    refine HCI.out.mono ?_
                    rintro e7 w7 ⟨rfl, hi7, hb7, hk7⟩
                    have HI7 := Lib.hid hi7
                    have HG7 := Lib.hid (hk7 _ _ _ HGB.out.1 (by decide) HG.out)
                    have HB7 := Lib.hid (HB.out.trans (hb7.mono HGB.out.2))
                    have HSZ7 := Lib.hid (Nat.lt_of_lt_of_le HSZ.out hb7.size)
                    clear hi7 hb7 hk7 HCI
                    go_wp2_with fail
                    go_meet
                    case rel => exact ⟨by rw [HE1.out]; rfl, by rw [HE2.out]; exact HI7.out, HG7.out, HB7.out, HSZ7.out⟩
                case rest =>
                  clear HI HG HB HSZ
                  obtain ⟨rfl, hi, hg, hb, hsz⟩ := hcut
                  have HI := Lib.hid hi
                  have HG := Lib.hid hg
                  have HB := Lib.hid hb
                  have HSZ := Lib.hid hsz
                  have HT2 : Hid (∃ t1, t1 = t ++ it ∧ t1 ++ (itR g 0 L ++ rowsR f W (H - (r + 1)) (r + 1) (ap1 + 1)) = runsS W H f) := Lib.hid ⟨_, rfl, by rw [List.append_assoc]; exact HTOT2.out⟩
                  obtain ⟨t1, ht1, htt⟩ := HT2.out
                  rw [← ht1] at HI
                  have HTT := Lib.hid htt
                  clear hi hg hb hsz ht1 htt HT2 HTOT2 HTOT HTL
                  go_upto_block 4 with fail
                  go_cut [8, 9] (fun _ _ wx => ∃ t2, t2 ++ rowsR f W (H - (r + 1)) (r + 1) (ap1 + 1) = runsS W H f ∧ Is bb bb t2 wx ∧ Row wx gb 35 (boxP W H a n c) ∧ Below w.heap.size w wx ∧ bb < wx.heap.size)
                  case first => as_aux_lemma =>
                    go_wp2_with fail
                    go_loopw [8] (fun v8 wx => ∃ (a4 : Option Addr) (x M c4 : Nat) (t4 : List UInt8), v8 = .slice a4 M c4 ∧ x + M = L ∧ M ≤ c4 ∧ RowAt w a4 M g x ∧ t4 ++ (itR g x L ++ rowsR f W (H - (r + 1)) (r + 1) (ap1 + 1)) = runsS W H f ∧ Is bb bb t4 wx ∧ Row wx gb 35 (boxP W H a n c) ∧ Below w.heap.size w wx ∧ bb < wx.heap.size) (fun v _ => lenOf v)
                    case atStart => exact ⟨a2, 0, L, c3, t1, rfl, Nat.zero_add _, HLC.out, fun j hj => HROW.out j (Nat.lt_of_lt_of_le hj HLW.out), HTT.out, HI.out, HG.out, HB.out, HSZ.out⟩
                    case round =>
                      clear HI HG HB HSZ HTT
                      obtain ⟨a4, x, M, c4, t4, rfl, hxM, hMc, hrow, htt, hi, hg, hb, hsz⟩ := hrel
                      have HI := Lib.hid hi
                      have HG := Lib.hid hg
                      have HB := Lib.hid hb
                      have HSZ := Lib.hid hsz
                      have HTT := Lib.hid htt
                      have HXM := Lib.hid hxM
                      have HMC := Lib.hid hMc
                      have HRA := Lib.hid hrow
                      clear hi hg hb hsz htt hxM hMc hrow
                      by_cases hM : M = 0
                      · subst hM
                        have HEND : Hid (itR g x L = []) := Lib.hid (itR_end (by have := HXM.out; omega))
                        go_wp2_with fail
                        go_meet
                        case rel => exact ⟨t4, by have h := HTT.out; rw [HEND.out, List.nil_append] at h; exact h, HI.out, HG.out, HB.out, HSZ.out⟩
                      · have hM1 : (0 : Int) < (M : Int) := by omega
                        have HMP := Lib.hid (Nat.pos_of_ne_zero hM)
                        have HNX : Hid (itR g x L = item (runl g (g x) M x) (tag (g x)) ++ itR g (x + runl g (g x) M x) L) := Lib.hid (by
                          have h := itR_next (g := g) (x := x) (L := L) (by have := HXM.out; have := HMP.out; omega)
                          rw [show L - x = M by have := HXM.out; omega] at h
                          exact h)
                        have HRP : Hid (0 < runl g (g x) M x ∧ runl g (g x) M x ≤ M) := Lib.hid ⟨by
                          have h := runl_pos (g := g) (x := x) (L := L) (by have := HXM.out; have := HMP.out; omega)
                          rw [show L - x = M by have := HXM.out; omega] at h
                          exact h, runl_le _ _ _ _⟩
                        have HSM := Lib.hid (runl_same g (g x) M x)
                        have HST := Lib.hid (runl_stop g (g x) M x)
                        clear hM
                        obtain ⟨R, hR⟩ : ∃ R, R = runl g (g x) M x := ⟨_, rfl⟩
                        rw [← hR] at HNX HRP HSM HST
                        clear hR
                        obtain ⟨cv, hcv⟩ : ∃ cv, cv = g x := ⟨_, rfl⟩
                        rw [← hcv] at HNX HSM HST
                        have HCV := Lib.hid hcv
                        clear hcv
                        obtain ⟨ab, ao, rfl, hbl, hc0⟩ := HRA.out 0 HMP.out
                        rw [Nat.add_zero, Nat.add_zero, ← HCV.out] at hc0
                        have HC0 := Lib.hid hc0
                        have HBL := Lib.hid hbl
                        clear hbl hc0
                        go_upto_block 6 with fail
                        clear hM1
                        try generalize decide (0 < M) = q67 at *
                        try generalize decide ((0 : Int) < (M : Int)) = q67 at *
                        go_cut [9] (fun v9 wx => v9 = .int .i64 ((R : Nat) : Int) ∧ ∃ k, wx = World.drewN wr k)
                        case first => as_aux_lemma =>
                          go_wp2_with fail
                          go_loopw [9] (fun v9 wx => ∃ m k : Nat, v9 = .int .i64 ((m : Nat) : Int) ∧ m ≤ R ∧ 0 < m ∧ wx = World.drewN wr k) (fun v _ => M - (RowKit.intOf v).toNat)
                          case atStart => exact ⟨1, 0, rfl, HRP.out.1, Nat.one_pos, rfl⟩
                          case round =>
                            obtain ⟨m, k, rfl, hmR, hm0, rfl⟩ := hrel
                            have HMR := Lib.hid hmR
                            have HM0 := Lib.hid hm0
                            have HBK : Hid (Below w.heap.size w (World.drewN wr k)) := Lib.hid (below_dn HB.out k)
                            have z0 := (HBK.out.cell (p := ⟨ab, ao, none⟩) HBL.out).trans HC0.out
                            clear hmR hm0
                            generalize hwk : World.drewN wr k = wk at *
                            by_cases hmM : m < M
                            · have hmi : (m : Int) < (M : Int) := by omega
                              obtain ⟨ab2, ao2, hab, _, hcm⟩ := HRA.out m hmM
                              cases hab
                              have zm := (HBK.out.cell (p := ⟨ab, ao + m, none⟩) HBL.out).trans hcm
                              obtain ⟨gm, hgm⟩ : ∃ gm, gm = g (x + m) := ⟨_, rfl⟩
                              rw [← hgm] at zm
                              clear hcm
                              by_cases hlt : m < R
                              · have hce : gm = cv := by rw [hgm]; exact HSM.out m hlt
                                subst hce
                                have HLT := Lib.hid hlt
                                have HMM := Lib.hid hmM
                                have HWn := HWB.out
                                have HLn := HLW.out
                                have HXn := HXM.out
                                have E1 : Hid (wrap64 ((m : Int) + 1) = ((m + 1 : Nat) : Int)) := Lib.hid (wr_nat (by push_cast; rfl) (by omega))
                                clear hlt hgm hmM HWn HLn HXn
                                go_upto_region 18 with fail
                                go_big_quiet (fail)
                                go_wp2_with fail
                                go_roundw
                                case rel => exact ⟨m + 1, _, congrArg (Value.int .i64) E1.out, HLT.out, Nat.succ_pos _, by rw [← hwk]; exact drewN_add _ _ _⟩
                                case measure => exact meas E1.out (by have := HMM.out; omega)
                              · have hmR : m = R := by have := HMR.out; omega
                                have hne : gm ≠ cv := by rw [hgm, hmR]; exact HST.out (by rw [← hmR]; exact hmM)
                                have hnei : ¬ (gm : Int) = (cv : Int) := by omega
                                have hneb : ((gm : Int) == (cv : Int)) = false := by simp; omega
                                have HMRe := Lib.hid hmR
                                clear hlt hgm hmM hmR hne
                                go_upto_region 18 with fail
                                go_big_quiet (fail)
                                go_wp2_with fail
                                go_meet
                                case rel => exact ⟨by rw [HMRe.out], _, by rw [← hwk]; exact drewN_add _ _ _⟩
                            · have hmi : ¬ (m : Int) < (M : Int) := by omega
                              have hmR : m = R := by have := HMR.out; have := HRP.out.2; omega
                              have HMRe := Lib.hid hmR
                              clear hmM hmR
                              go_upto_region 18 with fail
                              go_big_quiet (fail)
                              go_wp2_with fail
                              go_meet
                              case rel => exact ⟨by rw [HMRe.out], _, by rw [← hwk]; exact drewN_add _ _ _⟩
                        case rest =>
                          obtain ⟨rfl, k, rfl⟩ := hcut
                          have hdn : Below wr.heap.size wr (World.drewN wr k) := below_dn (Below.refl _ _) k
                          have HI := Lib.hid (HI.out.keep hdn)
                          have HG := Lib.hid (HG.out.keep hdn HG.out.lt)
                          have HB := Lib.hid (HB.out.trans (hdn.mono HB.out.size))
                          have HSZ := Lib.hid (Nat.lt_of_lt_of_le HSZ.out hdn.size)
                          clear hdn
                          generalize World.drewN wr k = wk at *
                          have z0 := (HB.out.cell (p := ⟨ab, ao, none⟩) HBL.out).trans HC0.out
                          have HTL := Lib.hid (pre_len HTT.out (runsS_len HWB.out HHB.out))
                          have HCI := Lib.hid (item_any bb bb R (tag cv) t4 wk (by have := HRP.out; have := HXM.out; have := HLW.out; have := HWB.out; omega) (HT.out _ HB.out) HI.out (Nat.le_trans HTL.out (by decide)) (Nat.le_of_lt HSZ.out) HSZ.out)
                          have HTG : Hid (cv < 2) := Lib.hid (by rw [HCV.out, HGF.out]; exact HF.out _ _)
                          have hcv2 : cv = 0 ∨ cv = 1 := by have := HTG.out; omega
                          have hRc : R ≤ c4 := Nat.le_trans HRP.out.2 HMC.out
                          have hRM := HRP.out.2
                          have hRMi : (R : Int) ≤ (M : Int) := by omega
                          have HXR : Hid (x + R + (M - R) = L) := Lib.hid (by have := HXM.out; omega)
                          have HMR2 : Hid (M - R ≤ c4 - R ∧ M - R < M ∧ M - R ≤ c4) := Lib.hid (by have := HMC.out; have := HRP.out; omega)
                          have HTT2 : Hid ((t4 ++ item R (tag cv)) ++ (itR g (x + R) L ++ rowsR f W (H - (r + 1)) (r + 1) (ap1 + 1)) = runsS W H f) := Lib.hid (by have h := HTT.out; rw [HNX.out] at h; rw [← h]; simp)
                          have HRA2 : Hid (∀ (h : ¬ c4 = R), RowAt w (some ⟨ab, ao + R, none⟩) (M - R) g (x + R)) := Lib.hid (fun _ j hj => by
                            obtain ⟨b3, o3, e3, h3, h4⟩ := HRA.out (R + j) (by omega)
                            cases e3
                            exact ⟨_, _, rfl, h3, by rw [Nat.add_assoc ao, Nat.add_assoc x]; exact h4⟩)
                          have HRA3 : Hid (∀ (h : c4 = R), RowAt w (some ⟨ab, ao, none⟩) (M - R) g (x + R)) := Lib.hid (fun h j hj => by have := HMC.out; omega)
                          clear hRMi
                          rcases hcv2 with hcv2 | hcv2
                          · subst hcv2
                            have HCI : Hid (Calls Tryd.prog 45 #[.pointer (some ⟨bb, 0, none⟩), .int .i64 R, .int .u8 98] wk fun e w' => e = .returned (.tuple #[]) ∧ Is bb bb (t4 ++ item R (tag 0)) w' ∧ Below bb wk w' ∧ KeepsR bb wk w') := HCI
                            go_wp2_with fail
                            refine HCI.out.mono ?_
                            rintro e7 w7 ⟨rfl, hi7, hb7, hk7⟩
                            have HI7 := Lib.hid hi7
                            have HG7 := Lib.hid (hk7 _ _ _ HGB.out.1 (by decide) HG.out)
                            have HB7 := Lib.hid (HB.out.trans (hb7.mono HGB.out.2))
                            have HSZ7 := Lib.hid (Nat.lt_of_lt_of_le HSZ.out hb7.size)
                            clear hi7 hb7 hk7 HCI z0
                            by_cases hcR : c4 = R
                            · have HE := Lib.hid (HRA3.out hcR)
                              have HX2 := Lib.hid (And.intro HMR2.out.2.2 hcR)
                              go_wp2_with fail
                              go_roundw
                              case rel => exact ⟨_, x + R, M - R, _, _, rfl, HXR.out, (by have := HMR2.out; omega), HE.out, HTT2.out, HI7.out, HG7.out, HB7.out, HSZ7.out⟩
                              case measure => exact HMR2.out.2.1
                            · have HE := Lib.hid (HRA2.out hcR)
                              go_wp2_with fail
                              go_roundw
                              case rel => exact ⟨_, x + R, M - R, _, _, rfl, HXR.out, HMR2.out.1, HE.out, HTT2.out, HI7.out, HG7.out, HB7.out, HSZ7.out⟩
                              case measure => exact HMR2.out.2.1
                          · subst hcv2
                            have HCI : Hid (Calls Tryd.prog 45 #[.pointer (some ⟨bb, 0, none⟩), .int .i64 R, .int .u8 111] wk fun e w' => e = .returned (.tuple #[]) ∧ Is bb bb (t4 ++ item R (tag 1)) w' ∧ Below bb wk w' ∧ KeepsR bb wk w') := HCI
                            go_wp2_with fail
                            refine HCI.out.mono ?_
                            rintro e7 w7 ⟨rfl, hi7, hb7, hk7⟩
                            have HI7 := Lib.hid hi7
                            have HG7 := Lib.hid (hk7 _ _ _ HGB.out.1 (by decide) HG.out)
                            have HB7 := Lib.hid (HB.out.trans (hb7.mono HGB.out.2))
                            have HSZ7 := Lib.hid (Nat.lt_of_lt_of_le HSZ.out hb7.size)
                            clear hi7 hb7 hk7 HCI z0
                            by_cases hcR : c4 = R
                            · have HE := Lib.hid (HRA3.out hcR)
                              have HX2 := Lib.hid (And.intro HMR2.out.2.2 hcR)
                              go_wp2_with fail
                              go_roundw
                              case rel => exact ⟨_, x + R, M - R, _, _, rfl, HXR.out, (by have := HMR2.out; omega), HE.out, HTT2.out, HI7.out, HG7.out, HB7.out, HSZ7.out⟩
                              case measure => exact HMR2.out.2.1
                            · have HE := Lib.hid (HRA2.out hcR)
                              go_wp2_with fail
                              go_roundw
                              case rel => exact ⟨_, x + R, M - R, _, _, rfl, HXR.out, HMR2.out.1, HE.out, HTT2.out, HI7.out, HG7.out, HB7.out, HSZ7.out⟩
                              case measure => exact HMR2.out.2.1
                  case rest =>
                    clear HI HG HB HSZ
                    obtain ⟨t2, htt, hi, hg, hb, hsz⟩ := hcut
                    have HI := Lib.hid hi
                    have HG := Lib.hid hg
                    have HB := Lib.hid hb
                    have HSZ := Lib.hid hsz
                    have HTT := Lib.hid htt
                    have hr3 := HRH.out
                    have hH3 := HHB.out
                    have hap3 := HAP.out
                    have hap4 : ap1 ≤ r := by rw [HAP1.out]; split <;> omega
                    have HAP4 := Lib.hid hap4
                    have E1 : Hid (wrap64 ((ap1 : Int) + 1) = ((ap1 + 1 : Nat) : Int)) := Lib.hid (wr_nat (by push_cast; rfl) (by omega))
                    have E2 : Hid (wrap64 ((r : Int) + 1) = ((r + 1 : Nat) : Int)) := Lib.hid (wr_nat (by push_cast; rfl) (by omega))
                    clear hi hg hb hsz htt hap3 hap4 hr3 hH3
                    go_wp2_with fail
                    go_roundw
                    case rel => exact ⟨r + 1, ap1 + 1, t2, HRH.out, congrArg (Value.int .i64) E2.out, congrArg (Value.int .i64) E1.out, Nat.succ_le_succ HAP4.out, HTT.out, HI.out, HG.out, HB.out, HSZ.out⟩
                    case measure => exact meas E2.out (by have := HRH.out; omega)
          · have hnl : ¬ (r : Int) < (H : Int) := by omega
            have f1 := HG.out.cell 1
            unfold boxP at f1
            dsimp only [List.getElem?_cons_succ, List.getElem?_cons_zero] at f1
            have HTE : Hid (t ++ [33, 10] = runsS W H f) := Lib.hid (by have h := HTOT.out; rw [show H - r = 0 by omega] at h; exact h)
            have HTL := Lib.hid (pre_len HTOT.out (runsS_len HWB.out HHB.out))
            have HWS := Lib.hid (ws_any bb bb t ⟨#[33, 10]⟩ wr HI.out (by have := HTL.out; have e : (ByteArray.mk #[33, 10]).size = 2 := rfl; omega) (Nat.le_of_lt HSZ.out))
            clear hrH
            go_wp2_with fail
            refine HWS.out.mono ?_
            rintro e7 w7 ⟨⟨v7, rfl⟩, hi7, hb7, hk7⟩
            have HB7 := Lib.hid (HB.out.trans (hb7.mono HGB.out.2))
            have HS7 := Lib.hid (str bb bb (t ++ [33, 10]) w7 hi7 (Nat.le_of_lt (Nat.lt_of_lt_of_le HSZ.out hb7.size)))
            clear hi7 hb7 hk7 HWS f1
            go_wp2_with fail
            refine HS7.out.mono ?_
            rintro e8 w8 ⟨rfl, hb8⟩
            have HB8 := Lib.hid (HB7.out.trans (hb8.mono HGB.out.2))
            clear hb8 HS7
            go_wp2_with fail
            go_ret2
            exact ⟨by rw [HTE.out]; rfl, HB8.out⟩
      exact Rt.AllC.nil
    exact Rt.AllC.nil
  exact Rt.AllC.nil
end Pw
end Go.Proofs.YtgagophijmiceaaDoor
