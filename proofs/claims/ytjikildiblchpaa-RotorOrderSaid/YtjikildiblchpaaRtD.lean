/- PLAIN: boards that go on from where they stand: lists of signs and chips. -/
import Derived.Test.YtjikildiblchpaaRtW
namespace Go.Proofs.Ytjikildiblchpaa
set_option linter.unusedSimpArgs false
set_option linter.unusedVariables false
open Go.RowKit Go.Lib
namespace Rt

theorem arr_congr {B : Bd} {sg sg' : Nat → Nat} {j k n : Nat} (h : sg j = sg' j) : arr B sg j k n = arr B sg' j k n := by
  unfold arr; rw [h]
theorem inb_congr {B : Bd} {sg sg' c c' u : Nat → Nat} {k : Nat} (hs : ∀ j, j < B.P → sg j = sg' j) (hc : c k = c' k) : inb B sg c u k = inb B sg' c' u k := by
  unfold inb
  rw [hc, sumN_congr fun j hj => arr_congr (hs j hj)]
theorem Leg.congr {B : Bd} {sg sg' c c' u : Nat → Nat} (hs : ∀ j, j < B.P → sg j = sg' j) (hc : ∀ j, j < B.P → c j = c' j) (h : Leg B sg c u) : Leg B sg' c' u := by
  induction h with
  | zero => exact .zero
  | @step u k hl hk hks hlt ih => exact .step ih hk hks (by rw [← inb_congr hs (hc k hk)]; exact hlt)
theorem Done.congr {B : Bd} {sg sg' c c' u : Nat → Nat} (hs : ∀ j, j < B.P → sg j = sg' j) (hc : ∀ j, j < B.P → c j = c' j) (h : Done B sg c u) : Done B sg' c' u := fun k hk hks => by
  rw [← inb_congr hs (hc k hk)]; exact h k hk hks
theorem chU_congr {B : Bd} {sg sg' c c' u : Nat → Nat} {k : Nat} (hs : ∀ j, j < B.P → sg j = sg' j) (hc : c k = c' k) : chU B sg c u k = chU B sg' c' u k := by
  unfold chU
  rw [inb_congr hs hc]
theorem sgU_congr {B : Bd} {sg sg' u : Nat → Nat} {k : Nat} (h : sg k = sg' k) : sgU B sg u k = sgU B sg' u k := by
  unfold sgU; rw [h]
theorem ch_shift {B : Bd} (hB : B.Ok) {sg c t m : Nat → Nat} {k : Nat} (ht : Leg B sg c t) (hm : ∀ j, j = B.sink → m j = 0) : chU B (sgU B sg t) (chU B sg c t) m k = chU B sg c (fun j => t j + m j) k := by
  by_cases e : k = B.sink
  · rw [show chU B (sgU B sg t) (chU B sg c t) m k = 0 from if_pos e, show chU B sg c (fun j => t j + m j) k = 0 from if_pos e]
  · have := inb_shift hB (m := m) ht hm e
    rw [show chU B (sgU B sg t) (chU B sg c t) m k = inb B (sgU B sg t) (chU B sg c t) m k - m k from if_neg e, show chU B sg c (fun j => t j + m j) k = inb B sg c (fun j => t j + m j) k - (t k + m k) from if_neg e]
    omega
theorem ch_sum {B : Bd} (hB : B.Ok) {sg c t : Nat → Nat} (ht : Leg B sg c t) : sumN (chU B sg c t) B.P ≤ sumN c B.P := by
  have h1 := ht.total hB
  have h2 : sumN (chU B sg c t) B.P + sumN t B.P ≤ sumN (inb B sg c t) B.P := by
    rw [← sumN_add]
    refine sumN_le fun k hk => ?_
    have := ht.nonneg k
    unfold chU
    split <;> omega
  omega
theorem tree_congr {B : Bd} (hB : B.Ok) {sg sg' : Nat → Nat} (hs : ∀ j, j < B.P → sg j = sg' j) (hv : ∀ j, j < B.P → j ≠ B.sink → sg j < B.d j) (h : IsTree B sg) : IsTree B sg' := fun k hk => by
  have : ∀ n, itr (nx B sg) n k = itr (nx B sg') n k ∧ itr (nx B sg) n k < B.P := fun n => by
    induction n with
    | zero => exact ⟨rfl, hk⟩
    | succ n ih =>
      show nx B sg _ = nx B sg' _ ∧ nx B sg _ < B.P
      obtain ⟨h1, h2⟩ := ih
      rw [← h1]
      generalize itr (nx B sg) n k = a at *
      unfold nx
      by_cases e : a = B.sink
      · rw [if_pos e, if_pos e]; exact ⟨rfl, hB.sink⟩
      · rw [if_neg e, if_neg e, ← hs _ h2]
        exact ⟨rfl, (hB.way _ h2 _ (hv _ h2 e)).1⟩
  rw [← (this B.P).1]
  exact h k hk
/-- Lists that tell how a board stands. -/
structure Stands (p s m : Nat) (f : Nat → Nat → Int) (sg c t : Nat → Nat) (l1 l2 : List Int) : Prop where
  len1 : l1.length = p
  len2 : l2.length = p
  at1 : ∀ k, k < p → l1.getD k 0 = (sgU (bdG p m s f) sg t k : Int)
  at2 : ∀ k, k < p → l2.getD k 0 = (chU (bdG p m s f) sg c t k : Int)
theorem Stands.n1 {p s m : Nat} {f : Nat → Nat → Int} {sg c t : Nat → Nat} {l1 l2 : List Int} (h : Stands p s m f sg c t l1 l2) : ∀ k, k < (bdG p m s f).P → sgN l1 k = sgU (bdG p m s f) sg t k := fun k hk => by
  unfold sgN; rw [h.at1 k hk]; exact Int.toNat_natCast _
theorem Stands.n2 {p s m : Nat} {f : Nat → Nat → Int} {sg c t : Nat → Nat} {l1 l2 : List Int} (h : Stands p s m f sg c t l1 l2) : ∀ k, k < (bdG p m s f).P → sgN l2 k = chU (bdG p m s f) sg c t k := fun k hk => by
  unfold sgN; rw [h.at2 k hk]; exact Int.toNat_natCast _
theorem stands_start {p s m : Nat} {f : Nat → Nat → Int} {sz cz : List Int} (hok : GOk p m f) (hs : s < p) (hl : sz.length = p) (hsg : ∀ k, k < p → SignOk s (fun k => deg f k m) k (sz.getD k 0)) (hc : cfault p s cz = 0) : Stands p s m f (sgN sz) (sgN cz) (fun _ => 0) sz cz := by
  obtain ⟨hcl, hcs, hck⟩ := chips_ok hc hs
  have hsk := signs_ok hsg
  refine ⟨hl, hcl, fun k hk => ?_, fun k hk => ?_⟩
  · obtain ⟨h1, h2, h3⟩ := hsk k hk
    rw [h1]
    show (sgN sz k : Int) = (((sgN sz k + 0) % deg f k m : Nat) : Int)
    rw [Nat.add_zero]
    by_cases e : k = s
    · rw [h2 e, Nat.zero_mod]
    · rw [Nat.mod_eq_of_lt (h3 e)]
  · rw [(hck k hk).1]
    show (sgN cz k : Int) = (((if k = s then 0 else inb (bdG p m s f) (sgN sz) (sgN cz) (fun _ => 0) k - 0) : Nat) : Int)
    by_cases e : k = s
    · rw [if_pos e, e, hcs]
    · rw [if_neg e]
      unfold inb
      rw [sumN_congr (G := fun _ => 0) fun j _ => show arr _ _ j k 0 = 0 from rfl, sumN_zero, Nat.add_zero, Nat.sub_zero]
theorem gok_fault {p m : Nat} {f : Nat → Nat → Int} (h : GOk p m f) : gfault (p : Int) m f = 0 := gfault_ok (by have := h.p1; have := h.p10; omega) (by have := h.m40; omega) (fun i hi => by
    have h := h.edge i hi
    have := h.a; have := h.b; have := h.t; have := h.al; have := h.bl; have := h.ne; have := h.tl; have := h.th
    unfold EdgeOk
    refine ⟨?_, ?_, ?_, ?_, ?_, ?_, ?_⟩ <;> omega) (by rw [Int.toNat_natCast]; exact h.conn)
theorem Stands.signs {p s m : Nat} {f : Nat → Nat → Int} {sg c t : Nat → Nat} {l1 l2 : List Int} (h : Stands p s m f sg c t l1 l2) (hok : GOk p m f) (hs : s < p) (ht : Leg (bdG p m s f) sg c t) (hsg : ∀ k, k < p → (k = s → sg k = 0)) : ∀ k, k < p → SignOk s (fun k => deg f k m) k (l1.getD k 0) := fun k hk => by
  rw [h.at1 k hk]
  refine ⟨by omega, fun e => ?_, fun e => ?_⟩
  · unfold sgU
    rw [hsg k hk e, ht.out k (.inl e), Nat.zero_mod]; rfl
  · have := Nat.mod_lt (sg k + t k) (deg_pos hok hk hs e)
    show (((sg k + t k) % deg f k m : Nat) : Int) < ((deg f k m : Nat) : Int)
    omega
theorem Stands.fine {p s m : Nat} {f : Nat → Nat → Int} {sg c t : Nat → Nat} {l1 l2 : List Int} (h : Stands p s m f sg c t l1 l2) (hok : GOk p m f) (hs : s < p) (ht : Leg (bdG p m s f) sg c t) (hsg : ∀ k, k < p → (k = s → sg k = 0)) (hc : sumN c p ≤ 1000) :
    sfault (p : Int) m f (s : Int) l1 = 0 ∧ bfault (p : Int) m f (s : Int) l1 l2 = 0 ∧ sumN (sgN l2) p ≤ 1000 := by
  have hbo := bdG_ok hok hs
  have h1 : sfault (p : Int) m f (s : Int) l1 = 0 := sfault_ok (gok_fault hok) (by omega) (by rw [h.len1]; omega) (by rw [Int.toNat_natCast, Int.toNat_natCast]; exact h.signs hok hs ht hsg)
  have h3 : sumN (sgN l2) p ≤ 1000 := by
    have e : sumN (sgN l2) p = sumN (chU (bdG p m s f) sg c t) p := sumN_congr h.n2
    rw [e]
    exact Nat.le_trans (ch_sum hbo ht) hc
  refine ⟨h1, ?_, h3⟩
  rw [bfault_c h1, Int.toNat_natCast, Int.toNat_natCast]
  unfold cfault
  rw [if_neg (fun e => e h.len2)]
  refine if_neg fun e => ?_
  rcases e with e | e
  · apply e
    rw [h.at2 s hs]
    unfold chU
    have : (if s = (bdG p m s f).sink then 0 else inb (bdG p m s f) sg c t s - t s) = 0 := if_pos rfl
    rw [this]; rfl
  · obtain ⟨x, hx, hb⟩ := List.any_eq_true.1 e
    obtain ⟨k, hk, rfl⟩ := List.getElem_of_mem hx
    have hk' : k < p := by rw [← h.len2]; exact hk
    have h4 := h.at2 k hk'
    rw [List.getD_eq_getElem?_getD, List.getElem?_eq_getElem hk] at h4
    have h5 : l2[k] = (chU (bdG p m s f) sg c t k : Int) := h4
    have h6 : chU (bdG p m s f) sg c t k ≤ sumN c p := ch_most hbo ht hk'
    rw [h5] at hb
    unfold pbad at hb
    have := of_decide_eq_true hb
    omega
/-- On from there. -/
theorem Stands.on {p s m : Nat} {f : Nat → Nat → Int} {sg c t u : Nat → Nat} {l1 l2 : List Int} (h : Stands p s m f sg c t l1 l2) (hok : GOk p m f) (hs : s < p) (ht : Leg (bdG p m s f) sg c t) (hu : Leg (bdG p m s f) (sgN l1) (sgN l2) u) :
    Leg (bdG p m s f) sg c (fun j => t j + u j) ∧ (Done (bdG p m s f) (sgN l1) (sgN l2) u → Done (bdG p m s f) sg c (fun j => t j + u j)) ∧ (∀ k, k < p → sgU (bdG p m s f) (sgN l1) u k = sgU (bdG p m s f) sg (fun j => t j + u j) k) ∧ (∀ k, k < p → chU (bdG p m s f) (sgN l1) (sgN l2) u k = chU (bdG p m s f) sg c (fun j => t j + u j) k) := by
  have hbo := bdG_ok hok hs
  have hu' := hu.congr h.n1 h.n2
  refine ⟨ht.shift hbo hu', fun hd => Done.shift hbo ht hu' (hd.congr h.n1 h.n2), fun k hk => ?_, fun k hk => ?_⟩
  · rw [sgU_congr (h.n1 k hk), sgU_shift]
  · rw [chU_congr h.n1 (h.n2 k hk)]
    exact ch_shift hbo ht fun j hj => hu'.out j (.inl hj)
theorem walk_one {p s : Nat} {B : Bd} {sg c u : Nat → Nat} {k : Int} (h : walkL p s B sg c (fun _ => 0) [k] = .ok u) : ∃ q : Nat, k = (q : Int) ∧ q < p ∧ q ≠ s ∧ u = bump (fun _ => 0) q 1 := by
  unfold walkL at h
  by_cases h1 : k < 0 ∨ (p : Int) ≤ k ∨ k = (s : Int)
  · rw [if_pos h1] at h; cases h
  · rw [if_neg h1] at h
    by_cases h2 : chU B sg c (fun _ => 0) k.toNat = 0
    · rw [if_pos h2] at h; cases h
    · rw [if_neg h2] at h
      unfold walkL at h
      cases h
      exact ⟨k.toNat, by omega, by omega, by omega, rfl⟩
theorem add_bump {t : Nat → Nat} {q : Nat} : (fun j => t j + bump (fun _ => 0) q 1 j) = bump t q 1 := funext fun j => by
  by_cases e : j = q
  · subst e; rw [bump_at, bump_at]
  · rw [bump_no e, bump_no e, Nat.add_zero]
end Rt
end Go.Proofs.Ytjikildiblchpaa
