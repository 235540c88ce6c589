/- PARENTS: the document's finder as it stands; what set hands back. -/
import Derived.Test.YthipeeagpllfeaaDoorPpRm
namespace Go.Proofs.YthipeeagpllfeaaDoor
set_option linter.unusedSimpArgs false
set_option linter.unusedVariables false
open Go.RowKit
namespace Pn
open Tld Mem Bl

theorem infoBool : (Tryd.prog.info? 4).map (fun i => (i.zero, i.size, i.bytes)) = some (some (.bool false), 1, 1) := by kernel_rfl
theorem mk_bools (P : Nat) (hP : P ≤ 1000000) (w : World) : (Instr.makeSlice 61 (.int .i64 (P : Int)) (.int .i64 (P : Int))).run Tryd.prog w = .ok (.slice (some ⟨w.heap.size, 0, none⟩) P P) (w.alloc (.cells (Array.replicate P (Value.bool false)) 4)) := by
  obtain ⟨i0, hI0, hz0, hz1, hz2⟩ := info_parts infoBool
  have hr := run_make (P := Tryd.prog) w 61 4 i0 (.bool false) Tryd.underlying61 hI0 hz0 .i64 .i64 P P (by omega) (Int.le_refl _) (by rw [hz2]; omega) (by omega)
  rw [Int.toNat_natCast, hz1, Nat.mul_one, Ops.madeCells_one (.bool false) rfl, List.toArray_replicate] at hr
  exact hr
theorem lstN_len2 (n : Nat) (g : Nat → Nat) : (lstN n g).length = n := by simp [lstN]
theorem is_row2 {w : World} {b : Nat} {T : TypeId} {zs : List Int} {n : Nat} (h : Row w b T (zs.map (Value.int .i64))) (hn : zs.length = n) (hm : n ≤ maxLen) : Ints.Is w (some ⟨b, 0, none⟩) n zs :=
  ⟨hn, fun i hi => ⟨b, 0, rfl, h.lt, by
    dsimp only
    rw [Nat.zero_add, h.cell, List.getElem?_map, List.getD_eq_getElem?_getD, List.getElem?_eq_getElem (show i < zs.length by omega)]
    rfl⟩, hm⟩
theorem row_ne {w : World} {b b' : Nat} {T T' : TypeId} {vs vs' : List Value} (h : Row w b T vs) (h' : Row w b' T' vs') (hT : T ≠ T') : b ≠ b' := fun e => by
  subst e
  have := h.symm.trans h'
  simp at this
  exact hT this.2
theorem range_set {n i : Nat} {F : Nat → Value} {v : Value} : ((List.range n).map F).set i v = (List.range n).map (fun t => if t = i then v else F t) := by
  apply List.ext_getElem?
  intro j
  rw [List.getElem?_set]
  by_cases hj : j < n
  · rw [List.getElem?_map, List.getElem?_map, List.getElem?_range hj]
    by_cases hij : i = j
    · subst hij
      simp [hj]
    · rw [if_neg hij]
      simp [Ne.symm hij]
  · simp only [List.length_map, List.length_range]
    rw [List.getElem?_eq_none (by simp; omega), List.getElem?_eq_none (by simp; omega)]
    split
    · rw [if_neg (by omega)]
    · rfl
/-- A place's row of what is known. -/
def bsl (u : Nat → Bool) (bk : Nat → Nat) (sz t : Nat) : Value := if u t = true then .slice (some ⟨bk t, 0, none⟩) sz sz else .slice none 0 0
/-- The document's finder, as it stands. -/
structure SSt (w0 w : World) (ck : Nat → Nat → Prop) (fb qb bb m sz : Nat) (FD : List Value) (g : Nat → Nat) (u : Nat → Bool) (bk : Nat → Nat) (bv : Nat → Nat → Bool) : Prop where
  f : Row w fb 44 FD
  q : Row w qb 3 ((lstN m g).map (Value.int .i64))
  b : Row w bb 61 ((List.range m).map (bsl u bk sz))
  k : ∀ t, t < m → u t = true → Row w (bk t) 4 ((List.range sz).map fun k => Value.bool (bv t k)) ∧ w0.heap.size ≤ bk t
  inj : ∀ t t', t < m → t' < m → u t = true → u t' = true → bk t = bk t' → t = t'
  tr : ∀ t k, t < m → k < sz → u t = true → bv t k = true → CelF ck (m - t) t k none
  g2 : ∀ j, g j < 2
  bel : Below w0.heap.size w0 w
section
variable {w0 w w2 : World} {ck : Nat → Nat → Prop} {fb qb bb m sz : Nat} {FD : List Value} {g : Nat → Nat} {u : Nat → Bool} {bk : Nat → Nat} {bv : Nat → Nat → Bool}
theorem SSt.keep (h : SSt w0 w ck fb qb bb m sz FD g u bk bv) (k : Below w.heap.size w w2) : SSt w0 w2 ck fb qb bb m sz FD g u bk bv :=
  ⟨h.f.keep k h.f.lt, h.q.keep k h.q.lt, h.b.keep k h.b.lt, fun t ht hu => ⟨(h.k t ht hu).1.keep k (h.k t ht hu).1.lt, (h.k t ht hu).2⟩, h.inj, h.tr, h.g2, h.bel.trans (k.mono h.bel.size)⟩
theorem SSt.cell (h : SSt w0 w ck fb qb bb m sz FD g u bk bv) (i c : Nat) (hi : i < m) (hc : c < 2) (hqb : w0.heap.size ≤ qb) : SSt w0 (w.setCell ⟨qb, i, none⟩ (.int .i64 (c : Nat))) ck fb qb bb m sz FD (fun j => if j = i then c else g j) u bk bv := by
  have ho := only_setCell w qb i (.int .i64 (c : Nat))
  have hq := h.q.set i (.int .i64 (c : Nat))
  refine ⟨h.f.other ho (row_ne h.f h.q (by decide)), ?_, h.b.other ho (row_ne h.b h.q (by decide)), fun t ht hu => ⟨(h.k t ht hu).1.other ho (row_ne (h.k t ht hu).1 h.q (by decide)), (h.k t ht hu).2⟩, h.inj, h.tr, fun j => ?_, h.bel.trans (ho.below hqb)⟩
  · have e : ((lstN m g).map (Value.int .i64)).set i (.int .i64 (c : Nat)) = (lstN m (fun j => if j = i then c else g j)).map (Value.int .i64) := by
      unfold lstN
      rw [List.map_map, List.map_map, range_set]
      refine List.map_congr_left fun t _ => ?_
      show (if t = i then _ else _) = Value.int .i64 (((if t = i then c else g t : Nat) : Nat) : Int)
      split <;> rfl
    rwa [e] at hq
  · show (if j = i then c else g j) < 2
    split
    · exact hc
    · exact h.g2 j
theorem SSt.newrow (h : SSt w0 w ck fb qb bb m sz FD g u bk bv) {i nb : Nat} (hi : i < m) (hr : Row w nb 4 (List.replicate sz (.bool false))) (hn : w0.heap.size ≤ nb) (hnew : ∀ t, t < m → u t = true → bk t ≠ nb) (hbb : w0.heap.size ≤ bb) :
    SSt w0 (w.setCell ⟨bb, i, none⟩ (.slice (some ⟨nb, 0, none⟩) sz sz)) ck fb qb bb m sz FD g (fun t => if t = i then true else u t) (fun t => if t = i then nb else bk t) (fun t k => if t = i then false else bv t k) := by
  have ho := only_setCell w bb i (.slice (some ⟨nb, 0, none⟩) sz sz)
  have hb := h.b.set i (.slice (some ⟨nb, 0, none⟩) sz sz)
  have hrr := hr.other ho (row_ne hr h.b (by decide))
  refine ⟨h.f.other ho (row_ne h.f h.b (by decide)), h.q.other ho (row_ne h.q h.b (by decide)), ?_, fun t ht hu => ?_, fun t t' ht ht' hu hu' he => ?_, fun t k ht hk hu hv => ?_, h.g2, h.bel.trans (ho.below hbb)⟩
  · rw [range_set] at hb
    have e : (fun t => if t = i then Value.slice (some ⟨nb, 0, none⟩) sz sz else bsl u bk sz t) = bsl (fun t => if t = i then true else u t) (fun t => if t = i then nb else bk t) sz := by
      funext t
      unfold bsl
      by_cases ht : t = i
      · simp [ht]
      · simp [ht]
    rwa [e] at hb
  · by_cases hti : t = i
    · simp only [hti, if_pos]
      refine ⟨?_, hn⟩
      rw [show ((List.range sz).map fun k => Value.bool false) = List.replicate sz (.bool false) by rw [List.map_const', List.length_range]]
      exact hrr
    · simp only [hti, if_false] at hu ⊢
      exact ⟨(h.k t ht hu).1.other ho (row_ne (h.k t ht hu).1 h.b (by decide)), (h.k t ht hu).2⟩
  · have he' : (if t = i then nb else bk t) = (if t' = i then nb else bk t') := he
    have h1 : (if t = i then true else u t) = true := hu
    have h2 : (if t' = i then true else u t') = true := hu'
    by_cases hti : t = i
    · by_cases hti' : t' = i
      · rw [hti, hti']
      · rw [if_pos hti, if_neg hti'] at he'
        rw [if_neg hti'] at h2
        exact absurd he'.symm (hnew t' ht' h2)
    · rw [if_neg hti] at h1
      by_cases hti' : t' = i
      · rw [if_neg hti, if_pos hti'] at he'
        exact absurd he' (hnew t ht h1)
      · rw [if_neg hti, if_neg hti'] at he'
        rw [if_neg hti'] at h2
        exact h.inj t t' ht ht' h1 h2 he'
  · by_cases hti : t = i
    · simp [hti] at hv
    · simp only [hti, if_false] at hu hv
      exact h.tr t k ht hk hu hv
theorem SSt.mark (h : SSt w0 w ck fb qb bb m sz FD g u bk bv) {i ky : Nat} (hi : i < m) (hk : ky < sz) (hu : u i = true) (ht : CelF ck (m - i) i ky none) :
    SSt w0 (w.setCell ⟨bk i, ky, none⟩ (.bool true)) ck fb qb bb m sz FD g u bk (fun t k => if t = i ∧ k = ky then true else bv t k) := by
  have hri := (h.k i hi hu).1
  have ho := only_setCell w (bk i) ky (.bool true)
  have hb := hri.set ky (.bool true)
  refine ⟨h.f.other ho (row_ne h.f hri (by decide)), h.q.other ho (row_ne h.q hri (by decide)), h.b.other ho (row_ne h.b hri (by decide)), fun t ht2 hu2 => ?_, h.inj, fun t k ht2 hk2 hu2 hv => ?_, h.g2, h.bel.trans (ho.below (h.k i hi hu).2)⟩
  · by_cases hti : t = i
    · subst hti
      refine ⟨?_, (h.k t ht2 hu2).2⟩
      rw [range_set] at hb
      have e : (fun k => if k = ky then Value.bool true else Value.bool (bv t k)) = fun k => Value.bool (if t = t ∧ k = ky then true else bv t k) := by
        funext k
        by_cases hkk : k = ky <;> simp [hkk]
      rwa [e] at hb
    · refine ⟨?_, (h.k t ht2 hu2).2⟩
      have e : (fun k => Value.bool (if t = i ∧ k = ky then true else bv t k)) = fun k => Value.bool (bv t k) := by
        funext k
        simp [hti]
      rw [e]
      exact (h.k t ht2 hu2).1.other ho (fun e2 => hti (h.inj t i ht2 hi hu2 hu e2))
  · by_cases hc : t = i ∧ k = ky
    · rw [hc.1, hc.2]; exact ht
    · simp only [hc, if_false] at hv
      exact h.tr t k ht2 hk2 hu2 hv
end
/-- What set hands back. -/
def SetP (w0 : World) (ck : Nat → Nat → Prop) (fb qb bb m sz : Nat) (FD : List Value) (k at' P : Nat) (u : Nat → Bool) (e : Ending) (w' : World) : Prop :=
  (e = .returned (.bool true) ∧ ∃ s g, CelF ck k at' P (some s) ∧ Row w' fb 44 FD ∧ Row w' qb 3 ((lstN m g).map (Value.int .i64)) ∧ (∀ j, j < m → g j = bt (P * 2 ^ k + s) (m - 1 - j)) ∧ Below w0.heap.size w0 w') ∨
  (e = .returned (.bool false) ∧ CelF ck k at' P none ∧ ∃ g u' bk bv, SSt w0 w' ck fb qb bb m sz FD g u' bk bv ∧ (∀ j, j < at' → g j = bt P (at' - 1 - j)) ∧ ∀ t, u t = true → u' t = true)
theorem SetP.yes {w0 : World} {ck : Nat → Nat → Prop} {fb qb bb m sz : Nat} {FD : List Value} {k at' P : Nat} {u : Nat → Bool} {e : Ending} {w' : World} {s : Nat} {g : Nat → Nat} (he : e = .returned (.bool true)) (h : CelF ck k at' P (some s)) (hf : Row w' fb 44 FD) (hq : Row w' qb 3 ((lstN m g).map (Value.int .i64))) (hg : ∀ j, j < m → g j = bt (P * 2 ^ k + s) (m - 1 - j)) (hb : Below w0.heap.size w0 w') : SetP w0 ck fb qb bb m sz FD k at' P u e w' := .inl ⟨he, s, g, h, hf, hq, hg, hb⟩
theorem SetP.no {w0 : World} {ck : Nat → Nat → Prop} {fb qb bb m sz : Nat} {FD : List Value} {k at' P : Nat} {u : Nat → Bool} {e : Ending} {w' : World} {g : Nat → Nat} {u' : Nat → Bool} {bk : Nat → Nat} {bv : Nat → Nat → Bool} (he : e = .returned (.bool false)) (h : CelF ck k at' P none) (hs : SSt w0 w' ck fb qb bb m sz FD g u' bk bv) (hg : ∀ j, j < at' → g j = bt P (at' - 1 - j)) (hu : ∀ t, u t = true → u' t = true) : SetP w0 ck fb qb bb m sz FD k at' P u e w' := .inr ⟨he, h, g, u', bk, bv, hs, hg, hu⟩
/-- What becomes of the cell that the newest one makes right. -/
theorem mid_ck {B S w t P : Nat} {g : Nat → Nat} (hw : 0 < w) (hx : 2 ≤ t % w) (hy : 2 ≤ t / w) (hg : ∀ j, j ≤ t → g j = bt P (t - j)) : midV B S g w (t % w - 2) (t / w - 2) = bec B S (bt P (w + 1)) (nineB w P - bt P (w + 1)) := by
  obtain ⟨x, hx'⟩ : ∃ x, t % w = x + 2 := ⟨t % w - 2, by omega⟩
  obtain ⟨y, hy'⟩ : ∃ y, t / w = y + 2 := ⟨t / w - 2, by omega⟩
  have ht : t = (y + 2) * w + (x + 2) := by
    have := Nat.div_add_mod' t w
    rw [hx', hy'] at this
    exact this.symm
  have h2 : (y + 2) * w = y * w + w + w := by rw [Nat.add_mul]; omega
  have h1 : (y + 1) * w = y * w + w := by rw [Nat.add_mul]; omega
  rw [hx', hy', Nat.add_sub_cancel, Nat.add_sub_cancel]
  have G : ∀ j e, j + e = t → g j = bt P e := fun j e h => by rw [hg j (by omega)]; congr 1; omega
  have c0 : g (y * w + x) = bt P (2 * w + 2) := G _ _ (by rw [ht, h2]; omega)
  have c1 : g (y * w + x + 1) = bt P (2 * w + 1) := G _ _ (by rw [ht, h2]; omega)
  have c2 : g (y * w + x + 2) = bt P (2 * w) := G _ _ (by rw [ht, h2]; omega)
  have c3 : g ((y + 1) * w + x) = bt P (w + 2) := G _ _ (by rw [ht, h2, h1]; omega)
  have c4 : g ((y + 1) * w + x + 1) = bt P (w + 1) := G _ _ (by rw [ht, h2, h1]; omega)
  have c5 : g ((y + 1) * w + x + 2) = bt P w := G _ _ (by rw [ht, h2, h1]; omega)
  have c6 : g ((y + 2) * w + x) = bt P 2 := G _ _ (by rw [ht]; omega)
  have c7 : g ((y + 2) * w + x + 1) = bt P 1 := G _ _ (by rw [ht]; omega)
  have c8 : g ((y + 2) * w + x + 2) = bt P 0 := G _ _ (by rw [ht]; omega)
  have hs : mS g w x y 9 = 0 + g (y * w + x) + g (y * w + x + 1) + g (y * w + x + 2) + g ((y + 1) * w + x) + 0 + g ((y + 1) * w + x + 2) + g ((y + 2) * w + x) + g ((y + 2) * w + x + 1) + g ((y + 2) * w + x + 2) := rfl
  unfold midV
  rw [hs, c0, c1, c2, c3, c4, c5, c6, c7, c8]
  congr 1
  unfold nineB
  omega
theorem sz_nums {wd i : Nat} (hwd : wd ≤ 7) (hi : i < 2 * wd) : wrap64 (((4 * 2 ^ i : Nat) : Int) * 2) = ((4 * 2 ^ (i + 1) : Nat) : Int) := by
  have h : 2 ^ i ≤ 2 ^ 14 := Nat.pow_le_pow_right (by decide) (by omega)
  have h2 : (2 : Nat) ^ 14 = 16384 := by decide
  rw [Nat.pow_succ]
  exact wr_nat (by push_cast; omega) (by omega)

end Pn
end Go.Proofs.YthipeeagpllfeaaDoor
