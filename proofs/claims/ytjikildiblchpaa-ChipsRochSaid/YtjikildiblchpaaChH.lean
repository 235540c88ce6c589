/- PLAIN: how far places are, found by looking at all edges again and again (the document's way). -/
import Derived.Test.YtjikildiblchpaaChB
import Derived.Test.YtjikildiblchpaaChS
namespace Go.Proofs.Ytjikildiblchpaa
set_option linter.unusedSimpArgs false
set_option linter.unusedVariables false
open Go.RowKit Go.Lib
namespace Ch
open Rt (btw deg Btw eA eB eT EdgeN ConnG GOk sumN btw_pos)

theorem bf_row {P : Nat} {w : Nat → Nat → Nat} (hG : Gr P w) {a : Nat} {h : Nat} : ∀ (o : Nat), o ≤ P → ∀ {far : Nat → Int} {q : List Nat}, Bf P w a far (h :: q) 0 → ∃ far' q', Bf P w a far' (h :: q') o ∧ 2 * (P - cntF P far') + q'.length ≤ 2 * (P - cntF P far) + q.length
  | 0, _, far, q, b => ⟨far, q, b, Nat.le_refl _⟩
  | o + 1, ho, far, q, b => by
    obtain ⟨far1, q1, b1, hm1⟩ := bf_row hG o (by omega) b
    by_cases hn : 0 < w h o ∧ far1 o < 0
    · have b2 := b1.new hG.sym (by omega) hn.1 hn.2
      have hc := cntF_add (P := P) (far := far1) (o := o) (v := far1 h + 1) (by omega) hn.2 (by have := (b1.inQ h (List.mem_cons_self ..)).2; omega)
      have hcl := cntF_le (P := P) (far := updZ far1 o (far1 h + 1))
      refine ⟨_, q1 ++ [o], b2, ?_⟩
      rw [hc] at hcl ⊢
      rw [List.length_append]
      show 2 * (P - (cntF P far1 + 1)) + (q1.length + 1) ≤ _
      omega
    · exact ⟨far1, q1, b1.skip fun hw => Int.not_lt.1 fun hx => hn ⟨hw, hx⟩, hm1⟩
theorem bf_all {P : Nat} {w : Nat → Nat → Nat} (hG : Gr P w) {a : Nat} : ∀ (n : Nat) {far : Nat → Int} {q : List Nat}, Bf P w a far q 0 → 2 * (P - cntF P far) + q.length ≤ n → ∃ far', Bf P w a far' [] 0
  | _, far, [], b, _ => ⟨far, b⟩
  | 0, far, h :: q, b, hn => by rw [List.length_cons] at hn; omega
  | n + 1, far, h :: q, b, hn => by
    obtain ⟨far1, q1, b1, hm⟩ := bf_row hG P (Nat.le_refl _) b
    rw [List.length_cons] at hn
    exact bf_all hG n b1.pop (by omega)
theorem exists_far {P : Nat} {w : Nat → Nat → Nat} (hG : Gr P w) {a : Nat} (ha : a < P) : ∃ d : Nat → Nat, (∀ k, k < P → d k < P) ∧ FarOk P w a d := by
  obtain ⟨far, b⟩ := bf_all hG _ (Bf.start (w := w) ha) (Nat.le_refl _)
  obtain ⟨d, h1, h2⟩ := b.fin hG ha
  exact ⟨d, fun k hk => (h1 k hk).2, h2⟩
/-- One place is brought nearer by another. -/
def relax (far : Nat → Int) (x y : Nat) : Nat → Int := if far y + 1 < far x then updZ far x (far y + 1) else far
theorem relax_le {far : Nat → Int} {x y k : Nat} : relax far x y k ≤ far k := by
  unfold relax
  split
  · by_cases e : k = x
    · rw [e, updZ_at]; omega
    · rw [updZ_no e]; exact Int.le_refl _
  · exact Int.le_refl _
theorem relax_at {far : Nat → Int} {x y : Nat} : relax far x y x ≤ far y + 1 := by
  unfold relax
  split
  · rw [updZ_at]; exact Int.le_refl _
  · omega
/-- Where the looking stands: places no farther than n are right; of the edges, the first i are through. -/
structure Bm (P : Nat) (f : Nat → Nat → Int) (d : Nat → Nat) (far : Nat → Int) (n i : Nat) : Prop where
  ge : ∀ k, k < P → (d k : Int) ≤ far k
  eq : ∀ k, k < P → d k ≤ n → far k = (d k : Int)
  ed : ∀ j, j < i → ∀ x y, Btw f j x y → d x ≤ n → far y ≤ (d x : Int) + 1
  top : ∀ k, k < P → far k ≤ 100
theorem Bm.rlx {P m : Nat} {f : Nat → Nat → Int} {d : Nat → Nat} {a : Nat} {far : Nat → Int} {n i x y : Nat} (h : Bm P f d far n i) (hF : FarOk P (fun a b => btw f a b m) a d) (hx : x < P) (hy : y < P) (hw : 0 < btw f x y m) (hP : ∀ j, j < i → EdgeN P f j) : Bm P f d (relax far x y) n i := by
  have hge : ∀ k, k < P → (d k : Int) ≤ Ch.relax far x y k := fun k hk => by
    unfold Ch.relax
    split
    · by_cases e : k = x
      · rw [e, updZ_at]
        have h1 := h.ge y hy
        have h2 := hF.lip x y hx hy hw
        omega
      · rw [updZ_no e]; exact h.ge k hk
    · exact h.ge k hk
  refine ⟨hge, fun k hk hn => Int.le_antisymm (by rw [← h.eq k hk hn]; exact relax_le) (hge k hk), fun j hj u v hb hu => Int.le_trans relax_le (h.ed j hj u v hb hu), fun k hk => Int.le_trans relax_le (h.top k hk)⟩
theorem Bm.edge {P m : Nat} {f : Nat → Nat → Int} {d : Nat → Nat} {a : Nat} {far : Nat → Int} {n i : Nat} (h : Bm P f d far n i) (hF : FarOk P (fun a b => btw f a b m) a d) (hE : ∀ j, j < m → EdgeN P f j) (hi : i < m) : Bm P f d (relax (relax far (eA f i) (eB f i)) (eB f i) (eA f i)) n (i + 1) := by
  have he := hE i hi
  have hw : 0 < btw f (eA f i) (eB f i) m := (btw_pos hE).2 ⟨i, hi, .inl ⟨rfl, rfl⟩⟩
  have hw2 : 0 < btw f (eB f i) (eA f i) m := (btw_pos hE).2 ⟨i, hi, .inr ⟨rfl, rfl⟩⟩
  have h1 := h.rlx hF he.al he.bl hw fun j hj => hE j (by omega)
  have h2 := h1.rlx hF he.bl he.al hw2 fun j hj => hE j (by omega)
  refine ⟨h2.ge, h2.eq, fun j hj x y hb hx => ?_, h2.top⟩
  by_cases e : j = i
  · subst e
    rcases hb with ⟨rfl, rfl⟩ | ⟨rfl, rfl⟩
    · have h3 := h1.eq _ he.al hx
      have h4 := relax_at (far := relax far (eA f j) (eB f j)) (x := eB f j) (y := eA f j)
      omega
    · have h3 := h.eq _ he.bl hx
      have h4 := relax_at (far := far) (x := eA f j) (y := eB f j)
      exact Int.le_trans relax_le (by omega)
  · exact h2.ed j (by omega) x y hb hx
theorem Bm.round {P m : Nat} {f : Nat → Nat → Int} {d : Nat → Nat} {a : Nat} {far : Nat → Int} {n : Nat} (h : Bm P f d far n m) (hF : FarOk P (fun a b => btw f a b m) a d) (hE : ∀ j, j < m → EdgeN P f j) : Bm P f d far (n + 1) 0 := by
  refine ⟨h.ge, fun k hk hn => ?_, fun j hj => absurd hj (Nat.not_lt_zero _), h.top⟩
  by_cases e : d k ≤ n
  · exact h.eq k hk e
  · have hk0 : k ≠ a := fun e2 => by have := (hF.zero k hk).2 e2; omega
    obtain ⟨o, ho, hw, he⟩ := hF.near k hk hk0
    obtain ⟨j, hj, hb⟩ := (btw_pos hE).1 hw
    have h1 := h.ed j hj o k hb.swap (by omega)
    have h2 := h.ge k hk
    omega
theorem Bm.start {P m : Nat} {f : Nat → Nat → Int} {d : Nat → Nat} {a : Nat} (hF : FarOk P (fun a b => btw f a b m) a d) (hd : ∀ k, k < P → d k < P) (hP : P ≤ 10) (ha : a < P) : Bm P f d (updZ (fun _ => 100) a 0) 0 0 := by
  have h0 := (hF.zero a ha).2 rfl
  refine ⟨fun k hk => ?_, fun k hk hn => ?_, fun j hj => absurd hj (Nat.not_lt_zero _), fun k hk => ?_⟩
  · by_cases e : k = a
    · rw [e, updZ_at, h0]; exact Int.le_refl _
    · rw [updZ_no e]; have := hd k hk; omega
  · have e := (hF.zero k hk).1 (by omega)
    rw [e, updZ_at, h0]; rfl
  · by_cases e : k = a
    · rw [e, updZ_at]; omega
    · rw [updZ_no e]; exact Int.le_refl _
theorem Bm.fin {P : Nat} {f : Nat → Nat → Int} {d : Nat → Nat} {far : Nat → Int} {i : Nat} (h : Bm P f d far P i) (hd : ∀ k, k < P → d k < P) : ∀ k, k < P → far k = (d k : Int) := fun k hk => h.eq k hk (by have := hd k hk; omega)
end Ch
end Go.Proofs.Ytjikildiblchpaa
