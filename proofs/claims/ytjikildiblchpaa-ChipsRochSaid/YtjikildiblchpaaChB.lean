/- PLAIN: how far places are, found by a queue. -/
import Derived.Test.YtjikildiblchpaaChP1
namespace Go.Proofs.Ytjikildiblchpaa
set_option linter.unusedSimpArgs false
set_option linter.unusedVariables false
namespace Ch
open Rt (btw deg Btw eA eB eT EdgeN ConnG GOk sumN sumN_le sumN_congr sumN_add sumN_zero sumN_one ind ind_yes ind_no ind_le ind_imp sumN_pickF sumN_pick)

def updZ (F : Nat → Int) (i : Nat) (v : Int) (k : Nat) : Int := if k = i then v else F k
theorem updZ_at {F : Nat → Int} {i : Nat} {v : Int} : updZ F i v i = v := if_pos rfl
theorem updZ_no {F : Nat → Int} {i k : Nat} {v : Int} (h : k ≠ i) : updZ F i v k = F k := if_neg h
/-- How many places are known. -/
def cntF (P : Nat) (far : Nat → Int) : Nat := sumN (fun k => ind (0 ≤ far k)) P
theorem cntF_le {P : Nat} {far : Nat → Int} : cntF P far ≤ P := by
  have h := sumN_le (F := fun k => ind (0 ≤ far k)) (G := fun _ => 1) (n := P) fun k _ => ind_le
  rw [Rt.sumN_const] at h
  unfold cntF
  omega
theorem cntF_add {P : Nat} {far : Nat → Int} {o : Nat} {v : Int} (ho : o < P) (h : far o < 0) (hv : 0 ≤ v) : cntF P (updZ far o v) = cntF P far + 1 := by
  have e := sumN_pick (a := o) (n := P)
  rw [ind_yes ho] at e
  unfold cntF
  rw [← e, ← sumN_add]
  refine sumN_congr fun k _ => ?_
  by_cases hk : k = o
  · subst hk
    rw [updZ_at, ind_yes hv, ind_no (by omega), ind_yes rfl]
  · rw [updZ_no hk, ind_no (show ¬ o = k from fun e => hk e.symm)]; rfl
/-- Where a search stands: the queue's first is looked at, of its neighbours the first o are through. -/
structure Bf (P : Nat) (w : Nat → Nat → Nat) (a : Nat) (far : Nat → Int) (Q : List Nat) (o : Nat) : Prop where
  at0 : far a = 0
  inQ : ∀ x, x ∈ Q → x < P ∧ 0 ≤ far x
  near : ∀ k, k < P → k ≠ a → 0 ≤ far k → ∃ x, x < P ∧ 0 < w k x ∧ 0 ≤ far x ∧ far x + 1 = far k
  sorted : Q.Pairwise fun x y => far x ≤ far y
  done : ∀ x, x < P → 0 ≤ far x → x ∉ Q → ∀ y, y < P → 0 < w x y → 0 ≤ far y ∧ far y ≤ far x + 1
  head : ∀ h q, Q = h :: q → (∀ y, y < o → y < P → 0 < w h y → 0 ≤ far y ∧ far y ≤ far h + 1) ∧ ∀ k, k < P → far k ≤ far h + 1
  few : ∀ k, k < P → far k + 1 ≤ (cntF P far : Int)
  len : Q.length ≤ cntF P far
theorem Bf.start {P : Nat} {w : Nat → Nat → Nat} {a : Nat} (ha : a < P) : Bf P w a (updZ (fun _ => -1) a 0) [a] 0 := by
  have hc : cntF P (updZ (fun _ => -1) a 0) = 1 := by
    have : cntF P (fun _ => (-1 : Int)) = 0 := by
      unfold cntF
      rw [sumN_congr (G := fun _ => 0) fun _ _ => ind_no (show ¬ (0 : Int) ≤ -1 by omega), sumN_zero]
    rw [cntF_add ha (by omega) (by omega), this]
  have hv : ∀ k, 0 ≤ updZ (fun _ => (-1 : Int)) a 0 k → k = a := fun k h => Classical.byContradiction fun e => by rw [updZ_no e] at h; omega
  have hle : ∀ k, updZ (fun _ => (-1 : Int)) a 0 k ≤ 0 := fun k => by
    by_cases e : k = a
    · subst e; rw [updZ_at]; exact Int.le_refl _
    · rw [updZ_no e]; omega
  refine ⟨updZ_at, fun x hx => ?_, fun k hk hne h => absurd (hv k h) hne, List.pairwise_singleton _ _, fun x hx h hq => absurd (List.mem_singleton.2 (hv x h)) hq, fun h q hq => ?_, fun k hk => ?_, ?_⟩
  · obtain rfl := List.mem_singleton.1 hx
    exact ⟨ha, by rw [updZ_at]; omega⟩
  · cases hq
    refine ⟨fun y hy => absurd hy (Nat.not_lt_zero _), fun k hk => ?_⟩
    rw [updZ_at]
    have := hle k
    omega
  · rw [hc]
    have := hle k
    omega
  · rw [hc]; exact Nat.le_refl _
/-- A neighbour that is known, or none: on. -/
theorem Bf.skip {P : Nat} {w : Nat → Nat → Nat} {a : Nat} {far : Nat → Int} {h : Nat} {q : List Nat} {o : Nat} (b : Bf P w a far (h :: q) o) (hs : 0 < w h o → 0 ≤ far o) : Bf P w a far (h :: q) (o + 1) :=
  ⟨b.at0, b.inQ, b.near, b.sorted, b.done, fun h' q' e => by
    cases e
    obtain ⟨h1, h2⟩ := b.head h q rfl
    refine ⟨fun y hy hyP hw => ?_, h2⟩
    by_cases e : y = o
    · subst e; exact ⟨hs hw, h2 y hyP⟩
    · exact h1 y (by omega) hyP hw, b.few, b.len⟩
/-- A neighbour that is new. -/
theorem Bf.new {P : Nat} {w : Nat → Nat → Nat} (hsym : ∀ a b, w a b = w b a) {a : Nat} {far : Nat → Int} {h : Nat} {q : List Nat} {o : Nat} (b : Bf P w a far (h :: q) o) (ho : o < P) (hw : 0 < w h o) (hf : far o < 0) : Bf P w a (updZ far o (far h + 1)) (h :: q ++ [o]) (o + 1) := by
  obtain ⟨hh1, hh2⟩ := b.inQ h (List.mem_cons_self ..)
  obtain ⟨hd1, hd2⟩ := b.head h q rfl
  have hc := cntF_add (far := far) ho hf (show 0 ≤ far h + 1 by omega)
  have hne : ∀ k, 0 ≤ far k → k ≠ o := fun k hk e => by rw [e] at hk; omega
  have hkeep : ∀ k, 0 ≤ far k → updZ far o (far h + 1) k = far k := fun k hk => updZ_no (hne k hk)
  have hho := hkeep h hh2
  have hao : a ≠ o := hne a (by rw [b.at0]; omega)
  have hge : ∀ k, 0 ≤ updZ far o (far h + 1) k → k = o ∨ 0 ≤ far k := fun k hk => by
    by_cases e : k = o
    · exact .inl e
    · rw [updZ_no e] at hk; exact .inr hk
  refine ⟨by rw [updZ_no hao]; exact b.at0, fun x hx => ?_, fun k hk hka h0 => ?_, ?_, fun x hx h0 hxq y hy hwy => ?_, fun h' q' e => ?_, fun k hk => ?_, ?_⟩
  · rw [List.mem_append] at hx
    rcases hx with hx | hx
    · obtain ⟨h1, h2⟩ := b.inQ x hx
      exact ⟨h1, by rw [hkeep x h2]; exact h2⟩
    · obtain rfl := List.mem_singleton.1 hx
      exact ⟨ho, by rw [updZ_at]; omega⟩
  · rcases hge k h0 with e | h1
    · subst e
      exact ⟨h, hh1, by rw [hsym]; exact hw, by rw [hho]; exact hh2, by rw [hho, updZ_at]⟩
    · rw [hkeep k h1]
      obtain ⟨x, hx, hwx, h2, h3⟩ := b.near k hk hka h1
      exact ⟨x, hx, hwx, by rw [hkeep x h2]; exact h2, by rw [hkeep x h2]; exact h3⟩
  · rw [List.pairwise_append]
    refine ⟨?_, List.pairwise_singleton _ _, fun x hx y hy => ?_⟩
    · refine List.Pairwise.imp_of_mem (R := fun x y => far x ≤ far y) (fun {x y} hx hy hxy => ?_) b.sorted
      rw [hkeep x (b.inQ x hx).2, hkeep y (b.inQ y hy).2]
      exact hxy
    · obtain rfl := List.mem_singleton.1 hy
      obtain ⟨h1, h2⟩ := b.inQ x hx
      rw [hkeep x h2, updZ_at]
      exact hd2 x h1
  · rw [List.mem_append, not_or] at hxq
    have hxo : x ≠ o := fun e => hxq.2 (List.mem_singleton.2 e)
    rcases hge x h0 with e | h1
    · exact absurd e hxo
    · obtain ⟨h2, h3⟩ := b.done x hx h1 hxq.1 y hy hwy
      rw [hkeep x h1, hkeep y h2]
      exact ⟨h2, h3⟩
  · rw [List.cons_append] at e
    cases e
    refine ⟨fun y hy hyP hwy => ?_, fun k hk => ?_⟩
    · by_cases e : y = o
      · rw [e, updZ_at, hho]; omega
      · obtain ⟨h1, h2⟩ := hd1 y (by omega) hyP hwy
        rw [hkeep y h1, hho]
        exact ⟨h1, h2⟩
    · by_cases e : k = o
      · rw [e, updZ_at, hho]; exact Int.le_refl _
      · rw [updZ_no e, hho]; exact hd2 k hk
  · rw [hc]
    have := b.few h hh1
    by_cases e : k = o
    · rw [e, updZ_at]; omega
    · rw [updZ_no e]
      have := b.few k hk
      omega
  · rw [hc, List.length_append]
    have := b.len
    show (h :: q).length + 1 ≤ _
    omega
/-- The queue's first is through. -/
theorem Bf.pop {P : Nat} {w : Nat → Nat → Nat} {a : Nat} {far : Nat → Int} {h : Nat} {q : List Nat} (b : Bf P w a far (h :: q) P) : Bf P w a far q 0 := by
  obtain ⟨hd1, hd2⟩ := b.head h q rfl
  refine ⟨b.at0, fun x hx => b.inQ x (List.mem_cons_of_mem _ hx), b.near, (List.pairwise_cons.1 b.sorted).2, fun x hx h0 hxq y hy hw => ?_, fun h' q' e => ?_, b.few, ?_⟩
  · by_cases e : x = h
    · subst e; exact hd1 y hy hy hw
    · exact b.done x hx h0 (fun hm => (List.mem_cons.1 hm).elim e hxq) y hy hw
  · subst e
    refine ⟨fun y hy => absurd hy (Nat.not_lt_zero _), fun k hk => ?_⟩
    have := hd2 k hk
    have := (List.pairwise_cons.1 b.sorted).1 h' (List.mem_cons_self ..)
    omega
  · have := b.len
    rw [List.length_cons] at this
    omega
/-- All are found. -/
theorem Bf.fin {P : Nat} {w : Nat → Nat → Nat} (hG : Gr P w) {a : Nat} (ha : a < P) {far : Nat → Int} {o : Nat} (b : Bf P w a far [] o) : ∃ d : Nat → Nat, (∀ k, k < P → far k = (d k : Int) ∧ d k < P) ∧ FarOk P w a d := by
  have hall : ∀ k, k < P → 0 ≤ far k := hG.conn a ha (fun k => 0 ≤ far k) (by rw [b.at0]; omega) fun x y hx hy hw h0 => (b.done x hx h0 (by simp) y hy hw).1
  have hd : ∀ k, k < P → far k = ((far k).toNat : Int) := fun k hk => by have := hall k hk; omega
  refine ⟨fun k => (far k).toNat, fun k hk => ⟨hd k hk, ?_⟩, fun k hk => ⟨fun h => ?_, fun h => ?_⟩, fun k hk hne => ?_, fun k x hk hx hw => ?_⟩
  · have := b.few k hk
    have := cntF_le (P := P) (far := far)
    have := hall k hk
    show (far k).toNat < P
    omega
  · refine Classical.byContradiction fun hne => ?_
    obtain ⟨x, hx, _, h0, h1⟩ := b.near k hk hne (hall k hk)
    have := hd k hk
    omega
  · subst h
    rw [b.at0]; rfl
  · obtain ⟨x, hx, hw, h0, h1⟩ := b.near k hk hne (hall k hk)
    exact ⟨x, hx, hw, by have := hall k hk; show (far x).toNat + 1 = (far k).toNat; omega⟩
  · obtain ⟨h1, h2⟩ := b.done x hx (hall x hx) (by simp) k hk (by rw [hG.sym]; exact hw)
    show (far k).toNat ≤ (far x).toNat + 1
    omega
end Ch
end Go.Proofs.Ytjikildiblchpaa
