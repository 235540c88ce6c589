/- RANKS of lists: chips.Rank in few words; the canonical list; the fact of ChipsRoch. -/
import Derived.Test.YtjikildiblchpaaCkR
import Derived.Test.YtjikildiblchpaaCkG
namespace Go.Proofs.Ytjikildiblchpaa
set_option linter.unusedSimpArgs false
set_option linter.unusedVariables false
open Go.RowKit Go.Lib
namespace Ch
open Tld Mem Rt

theorem btw_ge {P : Nat} {f : Nat → Nat → Int} {k : Nat} : ∀ {m : Nat}, (∀ i, i < m → EdgeN P f i) → deg f k m ≤ sumN (fun o => btw f k o m) P
  | 0, _ => Nat.zero_le _
  | m + 1, h => by
    have ih := btw_ge (k := k) (m := m) fun i hi => h i (by omega)
    have hm := h m (by omega)
    have e : sumN (fun o => btw f k o (m + 1)) P = sumN (fun o => btw f k o m) P + sumN (fun o => if Btw f m k o then eT f m else 0) P := by
      rw [← sumN_add]
      exact sumN_congr fun o _ => btw_succ
    rw [e, deg_succ]
    refine Nat.add_le_add ih ?_
    by_cases ha : eA f m = k
    · have h1 := sumN_one (F := fun o => if Btw f m k o then eT f m else 0) (a := eB f m) (n := P) hm.bl
      rw [if_pos (.inl ⟨ha, rfl⟩)] at h1
      rw [if_pos (.inl ha)]
      exact h1
    · by_cases hb : eB f m = k
      · have h1 := sumN_one (F := fun o => if Btw f m k o then eT f m else 0) (a := eA f m) (n := P) hm.al
        rw [if_pos (.inr ⟨rfl, hb⟩)] at h1
        rw [if_pos (.inr hb)]
        exact h1
      · rw [if_neg (fun h => h.elim ha hb)]
        exact Nat.zero_le _
theorem btw_eq {P : Nat} {f : Nat → Nat → Int} {k m : Nat} (h : ∀ i, i < m → EdgeN P f i) : sumN (fun o => btw f k o m) P = deg f k m := Nat.le_antisymm (btw_sum h) (btw_ge h)
theorem canL_get {p m : Nat} {f : Nat → Nat → Int} {j : Nat} : ∀ {k : Nat}, j < k → (canL p m f k).getD j 0 = (deg f j m : Int) - 2
  | k + 1, h => by
    show (canL p m f k ++ [(deg f k m : Int) - 2]).getD j 0 = _
    by_cases e : j = k
    · subst e
      rw [List.getD_eq_getElem?_getD, List.getElem?_append_right (by rw [canL_len]; exact Nat.le_refl _), canL_len, Nat.sub_self]
      rfl
    · rw [List.getD_eq_getElem?_getD, List.getElem?_append_left (by rw [canL_len]; omega), ← List.getD_eq_getElem?_getD]
      exact canL_get (by omega)
theorem canL_can {p m : Nat} {f : Nat → Nat → Int} (h : GOk p m f) {j : Nat} (hj : j < p) : (canL p m f p).getD j 0 = can p (fun a b => btw f a b m) j := by
  rw [canL_get hj]
  unfold can
  rw [btw_eq h.edge]
theorem edges_two {p m : Nat} {f : Nat → Nat → Int} (h : GOk p m f) : sumN (fun v => sumN (fun o => btw f v o m) p) p = 2 * sumN (fun i => eT f i) m := by
  rw [sumN_congr (G := fun v => deg f v m) fun v _ => btw_eq h.edge]
  exact deg_total h.edge
theorem genZ_small {p m : Nat} {f : Nat → Nat → Int} (h : GOk p m f) : -10 ≤ genZ p m f ∧ genZ p m f ≤ 5000 := by
  have hst : sumN (fun i => eT f i) m ≤ 4000 := by
    have := sumN_le (F := fun i => eT f i) (G := fun _ => 100) (n := m) fun i hi => (h.edge i hi).th
    rw [Rt.sumN_const] at this
    have := h.m40
    omega
  have := h.p10
  unfold genZ
  omega
theorem canL_small {p m : Nat} {f : Nat → Nat → Int} (h : GOk p m f) {j : Nat} (hj : j < p) : -2 ≤ (canL p m f p).getD j 0 ∧ (canL p m f p).getD j 0 ≤ 4000 := by
  rw [canL_get hj]
  have h1 := deg_le (a := j) (m := m) h.edge
  have := h.m40
  omega
theorem Rk.congr {P : Nat} {w : Nat → Nat → Nat} {D D' : Nat → Int} {k : Nat} (h : Rk P w D k) (g : ∀ j, j < P → D j = D' j) : Rk P w D' k := ⟨fun j hj e he => (h.less j hj e he).congr fun i hi => by rw [g i hi], fun ha => h.lost fun e he => (ha e he).congr fun i hi => by rw [g i hi]⟩
theorem RankIs.rk {P : Nat} {w : Nat → Nat → Nat} {zs : List Int} {k : Nat} {g : Nat → Int} (h : RankIs P (Tak P w zs) k g) : Rk P w (fun i => zs.getD i 0) k := ⟨h.less, fun ha => h.first.lost (ha g h.first.eff)⟩
/-- What chips.Rank comes to, the graph being fine. -/
def RkPost (p m : Nat) (f : Nat → Nat → Int) (zs : List Int) (w : World) (e : Ending) (w' : World) : Prop :=
  ((∃ z : Int, e = .returned (.tuple #[.int .i64 0, .slice none 0 0, .iface 59 (.int .i64 z)]) ∧ (dfault p zs ≠ 0 ∨ 6 < p ∨ 12 < sumZ (fun k => zs.getD k 0) p)) ∨
   (dfault p zs = 0 ∧ p ≤ 6 ∧ ∃ (k c : Nat) (a : Option Addr), Rk p (fun a b => btw f a b m) (fun k => zs.getD k 0) k ∧ k ≤ 13 ∧ e = .returned (.tuple #[.int .i64 ((k : Int) - 1), .slice a p c, .nilIface]))) ∧ Below w.heap.size w w'
theorem rk_any (p : Nat) (ea : Option Addr) (m ec : Nat) (f : Nat → Nat → Int) (da : Option Addr) (dn dc : Nat) (zs : List Int) (w : World) (hE : Mem.Rows w ea m 3 (fun i j => .int .i64 (f i j))) (hg : gfault (p : Int) m f = 0) (hm : m ≤ 9223372036854775807) (hD : Ints.Is w da dn zs) :
    Calls Try.prog 17 #[.agg #[.int .i64 (p : Int), .slice ea m ec], .slice da dn dc] w (RkPost p m f zs w) := by
  refine (rankP_any (p : Int) ea m ec f da dn dc zs w hE hm hD).mono ?_
  rintro e w' ⟨⟨hf, rfl⟩ | ⟨hf, h1, rfl⟩ | ⟨hf, h6, _, p', k, c, a, g, hp', hk13, hrk, rfl, _⟩, hb⟩
  · refine ⟨.inl ⟨_, by rw [errV_some hf], .inl fun h => hf (ch_one hg h)⟩, hb⟩
  · refine ⟨.inl ⟨4, by rw [errV_some (n := 4) (by decide)], .inr ?_⟩, hb⟩
    rw [Int.toNat_natCast] at h1
    rcases h1 with h1 | h1
    · exact .inl (by omega)
    · exact .inr h1
  · obtain rfl : p = p' := by omega
    exact ⟨.inr ⟨ch_d hf, by omega, k, c, a, hrk.rk, hk13, rfl⟩, hb⟩
/-- RIEMANN AND ROCH for lists. -/
theorem roch {p m : Nat} {f : Nat → Nat → Int} (h : GOk p m f) {D D' : Nat → Int} (hD : ∀ j, j < p → D' j = (canL p m f p).getD j 0 - D j) {k l : Nat} (hk : Rk p (fun a b => btw f a b m) D k) (hl : Rk p (fun a b => btw f a b m) D' l) : ((k : Int) - 1) - ((l : Int) - 1) = sumZ D p - genZ p m f + 1 := by
  have h1 := rr (gr_of h) h.p1 (edges_two h) (D := D) (D' := D') (fun j hj => by rw [hD j hj, canL_can h hj]) hk hl
  unfold genZ
  omega
theorem roch_can {p m : Nat} {f : Nat → Nat → Int} (h : GOk p m f) {k : Nat} (hk : Rk p (fun a b => btw f a b m) (fun j => (canL p m f p).getD j 0) k) : (k : Int) - 1 = genZ p m f - 1 := by
  have h1 := rr (gr_of h) h.p1 (edges_two h) (D := fun j => (canL p m f p).getD j 0) (D' := fun _ => 0) (fun j hj => by rw [canL_can h hj]; omega) hk (rk_zero (gr_of h) h.p1 fun _ _ => rfl)
  rw [sumZ_congr (fun j hj => canL_can h hj), can_sum (edges_two h)] at h1
  unfold genZ
  omega
theorem dfault_len {p n : Nat} {zs : List Int} (h : dfault p zs = 0) (hl : zs.length = n) : n = p := by
  have := (dfault_zero h).1
  omega
theorem t2_gr : GOk 2 1 t2 := by
  obtain ⟨p, hp, h⟩ := gfault_zero t2_ok
  obtain rfl : p = 2 := by omega
  exact h
theorem two_sum {F : Nat → Int} : sumZ F 2 = F 0 + F 1 := by
  show 0 + F 0 + F 1 = _
  omega
theorem t2_lap {σ : Nat → Int} : lap 2 (fun a b => btw t2 a b 1) σ 0 = 2 * (σ 0 - σ 1) := by
  unfold lap
  rw [two_sum]
  dsimp only
  rw [show btw t2 0 0 1 = 0 from by decide, show btw t2 0 1 1 = 2 from by decide]
  simp
/-- THE FACT: two places, two edges, two chips: rank 1. -/
theorem t2_rk {k : Nat} (h : Rk 2 (fun a b => btw t2 a b 1) (fun k => [(2 : Int), 0].getD k 0) k) : k = 2 := by
  have hw : ∀ x y : Int, 0 ≤ x → 0 ≤ y → x + y ≤ 1 → Tk 2 (fun a b => btw t2 a b 1) (fun k => [(2 : Int), 0].getD k 0) (fun k => if k = 0 then x else y) := fun x y hx hy hs => by
    by_cases c : y = 0
    · refine ⟨_, .refl, fun k hk => ?_⟩
      match k, hk with
      | 0, _ => show 0 ≤ 2 - x; omega
      | 1, _ => show 0 ≤ 0 - y; omega
    · refine ⟨fun k => if k = 0 then 0 else 1, ⟨fun k => if k = 0 then 1 else 0, fun k hk => ?_⟩, fun k hk => by show (0 : Int) ≤ if k = 0 then 0 else 1; split <;> omega⟩
      have hx0 : x = 0 := by omega
      have hy1 : y = 1 := by omega
      subst hx0
      subst hy1
      match k, hk with
      | 0, _ => decide
      | 1, _ => decide
  have hall : ∀ j : Nat, j < 2 → AllW 2 (Tk 2 (fun a b => btw t2 a b 1) (fun k => [(2 : Int), 0].getD k 0)) (j : Int) := fun j hj e he => by
    have h1 := he.pos 0 (by omega)
    have h2 := he.pos 1 (by omega)
    have h3 := he.sum
    rw [two_sum] at h3
    refine (hw (e 0) (e 1) h1 h2 (by omega)).congr fun i hi => ?_
    match i, hi with
    | 0, _ => rfl
    | 1, _ => rfl
  have hlost : ¬ AllW 2 (Tk 2 (fun a b => btw t2 a b 1) (fun k => [(2 : Int), 0].getD k 0)) ((2 : Nat) : Int) := fun h => by
    obtain ⟨F, ⟨σ, hs⟩, hF⟩ := h (fun _ => 1) ⟨fun _ _ => by omega, rfl⟩
    have hg := Eqv.sum (gr_of t2_gr).sym ⟨σ, hs⟩
    have h0 := hs 0 (by omega)
    rw [t2_lap] at h0
    have f0 := hF 0 (by omega)
    have f1 := hF 1 (by omega)
    rw [two_sum, two_sum] at hg
    have e0 : ([(2 : Int), 0].getD 0 0) = 2 := rfl
    have e1 : ([(2 : Int), 0].getD 1 0) = 0 := rfl
    dsimp only at hg h0
    rw [e0, e1] at hg
    rw [e0] at h0
    omega
  have h2 : Rk 2 (fun a b => btw t2 a b 1) (fun k => [(2 : Int), 0].getD k 0) 2 := ⟨hall, hlost⟩
  exact h.unique h2
end Ch
end Go.Proofs.Ytjikildiblchpaa
