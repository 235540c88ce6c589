/- PLAIN (no program in sight): graphs: edges between places, ways of a place, what one comes to; what is wrong with a graph. -/
import Derived.Test.YtjikildiblchpaaRtPl
namespace Go.Proofs.Ytjikildiblchpaa
set_option linter.unusedSimpArgs false
set_option linter.unusedVariables false
namespace Rt

/-- Edges: m of them; the i-th is f i 0, f i 1, f i 2 times. -/
def eA (f : Nat → Nat → Int) (i : Nat) : Nat := (f i 0).toNat
def eB (f : Nat → Nat → Int) (i : Nat) : Nat := (f i 1).toNat
def eT (f : Nat → Nat → Int) (i : Nat) : Nat := (f i 2).toNat
def EdgeOk (P : Int) (f : Nat → Nat → Int) (i : Nat) : Prop := 0 ≤ f i 0 ∧ f i 0 < P ∧ 0 ≤ f i 1 ∧ f i 1 < P ∧ f i 0 ≠ f i 1 ∧ 1 ≤ f i 2 ∧ f i 2 ≤ 100
structure EdgeN (P : Nat) (f : Nat → Nat → Int) (i : Nat) : Prop where
  a : f i 0 = ((eA f i : Nat) : Int)
  b : f i 1 = ((eB f i : Nat) : Int)
  t : f i 2 = ((eT f i : Nat) : Int)
  al : eA f i < P
  bl : eB f i < P
  ne : eA f i ≠ eB f i
  tl : 1 ≤ eT f i
  th : eT f i ≤ 100
theorem EdgeOk.nat {P : Nat} {f : Nat → Nat → Int} {i : Nat} (h : EdgeOk (P : Int) f i) : EdgeN P f i := by
  obtain ⟨h1, h2, h3, h4, h5, h6, h7⟩ := h
  have a1 : f i 0 = ((eA f i : Nat) : Int) := by unfold eA; omega
  have a2 : f i 1 = ((eB f i : Nat) : Int) := by unfold eB; omega
  have a3 : f i 2 = ((eT f i : Nat) : Int) := by unfold eT; omega
  exact ⟨a1, a2, a3, by omega, by omega, by omega, by omega, by omega⟩
/-- An edge between two places. -/
def Btw (f : Nat → Nat → Int) (i a b : Nat) : Prop := (eA f i = a ∧ eB f i = b) ∨ (eA f i = b ∧ eB f i = a)
instance (f : Nat → Nat → Int) (i a b : Nat) : Decidable (Btw f i a b) := by unfold Btw; infer_instance
theorem Btw.swap {f : Nat → Nat → Int} {i a b : Nat} (h : Btw f i a b) : Btw f i b a := h.elim .inr .inl
/-- How many edges two places have, among the first m. -/
def btw (f : Nat → Nat → Int) (a b m : Nat) : Nat := sumN (fun i => if Btw f i a b then eT f i else 0) m
def deg (f : Nat → Nat → Int) (a m : Nat) : Nat := sumN (fun i => if eA f i = a ∨ eB f i = a then eT f i else 0) m
theorem btw_succ {f : Nat → Nat → Int} {a b m : Nat} : btw f a b (m + 1) = btw f a b m + if Btw f m a b then eT f m else 0 := rfl
theorem deg_succ {f : Nat → Nat → Int} {a m : Nat} : deg f a (m + 1) = deg f a m + if eA f m = a ∨ eB f m = a then eT f m else 0 := rfl
theorem btw_le {P : Nat} {f : Nat → Nat → Int} {a b : Nat} : ∀ {m : Nat}, (∀ i, i < m → EdgeN P f i) → btw f a b m ≤ 100 * m
  | 0, _ => Nat.zero_le _
  | m + 1, h => by
    have h1 := btw_le (a := a) (b := b) (m := m) fun i hi => h i (by omega)
    have h2 := (h m (by omega)).th
    rw [btw_succ]
    split <;> omega
theorem deg_le {P : Nat} {f : Nat → Nat → Int} {a : Nat} : ∀ {m : Nat}, (∀ i, i < m → EdgeN P f i) → deg f a m ≤ 100 * m
  | 0, _ => Nat.zero_le _
  | m + 1, h => by
    have h1 := deg_le (a := a) (m := m) fun i hi => h i (by omega)
    have h2 := (h m (by omega)).th
    rw [deg_succ]
    split <;> omega
theorem btw_pos {P : Nat} {f : Nat → Nat → Int} {a b : Nat} : ∀ {m : Nat}, (∀ i, i < m → EdgeN P f i) → (0 < btw f a b m ↔ ∃ i, i < m ∧ Btw f i a b)
  | 0, _ => ⟨fun h => absurd h (Nat.not_lt_zero _), fun ⟨_, h, _⟩ => absurd h (Nat.not_lt_zero _)⟩
  | m + 1, h => by
    have ih := btw_pos (a := a) (b := b) (m := m) fun i hi => h i (by omega)
    have h2 := (h m (by omega)).tl
    have e : btw f a b (m + 1) = btw f a b m + if Btw f m a b then eT f m else 0 := rfl
    rw [e]
    constructor
    · intro h3
      by_cases hb : Btw f m a b
      · exact ⟨m, by omega, hb⟩
      · rw [if_neg hb, Nat.add_zero] at h3
        obtain ⟨i, hi, hb⟩ := ih.1 h3
        exact ⟨i, by omega, hb⟩
    · rintro ⟨i, hi, hb⟩
      by_cases e : i = m
      · subst e; rw [if_pos hb]; omega
      · have := ih.2 ⟨i, by omega, hb⟩; omega
/-- One comes from place 0 to it. -/
def Reach (f : Nat → Nat → Int) (m k : Nat) : Prop := ∀ S : Nat → Prop, S 0 → (∀ i a b, i < m → Btw f i a b → S a → S b) → S k
def ConnG (P : Nat) (f : Nat → Nat → Int) (m : Nat) : Prop := ∀ k, k < P → Reach f m k
theorem reach_zero {f : Nat → Nat → Int} {m : Nat} : Reach f m 0 := fun _ h _ => h
theorem Reach.step {f : Nat → Nat → Int} {m i a b : Nat} (h : Reach f m a) (hi : i < m) (hb : Btw f i a b) : Reach f m b := fun S h0 hs => hs i a b hi hb (h S h0 hs)
/-- From any place to any other. -/
theorem ConnG.any {P : Nat} {f : Nat → Nat → Int} {m : Nat} (hP : 0 < P) (h : ConnG P f m) {S : Nat → Prop} {s : Nat} (hs : s < P) (h0 : S s) (hS : ∀ i a b, i < m → Btw f i a b → S a → S b) {k : Nat} (hk : k < P) : S k := by
  have hz : S 0 := Classical.byContradiction fun hn => h s hs (fun j => ¬ S j) hn (fun i a b hi hb ha hb' => ha (hS i b a hi hb.swap hb')) h0
  exact h k hk S hz hS

/-- What is wrong with a graph. -/
noncomputable def gfault (P : Int) (m : Nat) (f : Nat → Nat → Int) : Int := by
  classical exact if P < 1 ∨ 10 < P then 1 else if 40 < m then 4 else if ∃ i, i < m ∧ ¬ EdgeOk P f i then 1 else if ¬ ConnG P.toNat f m then 3 else 0
theorem gfault_range {P : Int} {m : Nat} {f : Nat → Nat → Int} (h : P < 1 ∨ 10 < P) : gfault P m f = 1 := by unfold gfault; rw [if_pos h]
theorem gfault_full {P : Int} {m : Nat} {f : Nat → Nat → Int} (h : ¬ (P < 1 ∨ 10 < P)) (h2 : 40 < m) : gfault P m f = 4 := by unfold gfault; rw [if_neg h, if_pos h2]
theorem gfault_edge {P : Int} {m : Nat} {f : Nat → Nat → Int} (h : ¬ (P < 1 ∨ 10 < P)) (h2 : ¬ 40 < m) {i : Nat} (hi : i < m) (he : ¬ EdgeOk P f i) : gfault P m f = 1 := by unfold gfault; rw [if_neg h, if_neg h2, if_pos ⟨i, hi, he⟩]
theorem gfault_apart {P : Int} {m : Nat} {f : Nat → Nat → Int} (h : ¬ (P < 1 ∨ 10 < P)) (h2 : ¬ 40 < m) (h3 : ∀ i, i < m → EdgeOk P f i) (h4 : ¬ ConnG P.toNat f m) : gfault P m f = 3 := by
  unfold gfault; rw [if_neg h, if_neg h2, if_neg (fun ⟨i, hi, he⟩ => he (h3 i hi)), if_pos h4]
theorem gfault_ok {P : Int} {m : Nat} {f : Nat → Nat → Int} (h : ¬ (P < 1 ∨ 10 < P)) (h2 : ¬ 40 < m) (h3 : ∀ i, i < m → EdgeOk P f i) (h4 : ConnG P.toNat f m) : gfault P m f = 0 := by
  unfold gfault; rw [if_neg h, if_neg h2, if_neg (fun ⟨i, hi, he⟩ => he (h3 i hi)), if_neg (fun h => h h4)]
/-- A graph that is none. -/
structure GOk (P m : Nat) (f : Nat → Nat → Int) : Prop where
  p1 : 1 ≤ P
  p10 : P ≤ 10
  m40 : m ≤ 40
  edge : ∀ i, i < m → EdgeN P f i
  conn : ConnG P f m
theorem gfault_zero {P : Int} {m : Nat} {f : Nat → Nat → Int} (h : gfault P m f = 0) : ∃ p : Nat, P = (p : Int) ∧ GOk p m f := by
  classical
  by_cases h1 : P < 1 ∨ 10 < P
  · rw [gfault_range h1] at h; omega
  by_cases h2 : 40 < m
  · rw [gfault_full h1 h2] at h; omega
  by_cases h3 : ∃ i, i < m ∧ ¬ EdgeOk P f i
  · obtain ⟨i, hi, he⟩ := h3
    rw [gfault_edge h1 h2 hi he] at h; omega
  have h3' : ∀ i, i < m → EdgeOk P f i := fun i hi => Classical.byContradiction fun he => h3 ⟨i, hi, he⟩
  by_cases h4 : ConnG P.toNat f m
  · refine ⟨P.toNat, by omega, by omega, by omega, by omega, fun i hi => ?_, h4⟩
    have := h3' i hi
    rw [show P = ((P.toNat : Nat) : Int) by omega] at this
    exact this.nat
  · rw [gfault_apart h1 h2 h3' h4] at h; omega
theorem gfault_cases {P : Int} {m : Nat} {f : Nat → Nat → Int} : gfault P m f = 0 ∨ gfault P m f = 1 ∨ gfault P m f = 3 ∨ gfault P m f = 4 := by
  classical
  by_cases h1 : P < 1 ∨ 10 < P
  · exact .inr (.inl (gfault_range h1))
  by_cases h2 : 40 < m
  · exact .inr (.inr (.inr (gfault_full h1 h2)))
  by_cases h3 : ∃ i, i < m ∧ ¬ EdgeOk P f i
  · obtain ⟨i, hi, he⟩ := h3
    exact .inr (.inl (gfault_edge h1 h2 hi he))
  have h3' : ∀ i, i < m → EdgeOk P f i := fun i hi => Classical.byContradiction fun he => h3 ⟨i, hi, he⟩
  by_cases h4 : ConnG P.toNat f m
  · exact .inl (gfault_ok h1 h2 h3' h4)
  · exact .inr (.inr (.inl (gfault_apart h1 h2 h3' h4)))

/-- The ways of a place, of the first m edges. -/
def wayL (f : Nat → Nat → Int) (k : Nat) : Nat → List Nat
  | 0 => []
  | m + 1 => wayL f k m ++ if eA f m = k then List.replicate (eT f m) (eB f m) else if eB f m = k then List.replicate (eT f m) (eA f m) else []
theorem wayL_len {P : Nat} {f : Nat → Nat → Int} {k : Nat} : ∀ {m : Nat}, (wayL f k m).length = deg f k m
  | 0 => rfl
  | m + 1 => by
    rw [deg_succ]
    show (wayL f k m ++ _).length = _
    rw [List.length_append, wayL_len (P := P)]
    congr 1
    by_cases h1 : eA f m = k
    · rw [if_pos h1, if_pos (.inl h1), List.length_replicate]
    · by_cases h2 : eB f m = k
      · rw [if_neg h1, if_pos h2, if_pos (.inr h2), List.length_replicate]
      · rw [if_neg h1, if_neg h2, if_neg (fun h => h.elim h1 h2)]; rfl
theorem wayL_mem {P : Nat} {f : Nat → Nat → Int} {k x : Nat} : ∀ {m : Nat}, (∀ i, i < m → EdgeN P f i) → (x ∈ wayL f k m ↔ ∃ i, i < m ∧ Btw f i k x)
  | 0, _ => ⟨fun h => (by cases h), fun ⟨_, h, _⟩ => absurd h (Nat.not_lt_zero _)⟩
  | m + 1, h => by
    have ih := wayL_mem (k := k) (x := x) (m := m) fun i hi => h i (by omega)
    have h2 := h m (by omega)
    have h3 := h2.tl
    have h4 := h2.ne
    unfold wayL
    rw [List.mem_append]
    have hl : ∀ {y : Nat}, (∃ i, i < m + 1 ∧ Btw f i k x) ↔ (∃ i, i < m ∧ Btw f i k x) ∨ Btw f m k x := fun {_} => by
      constructor
      · rintro ⟨i, hi, hb⟩
        by_cases e : i = m
        · subst e; exact .inr hb
        · exact .inl ⟨i, by omega, hb⟩
      · rintro (⟨i, hi, hb⟩ | hb)
        · exact ⟨i, by omega, hb⟩
        · exact ⟨m, by omega, hb⟩
    rw [hl (y := 0), ih]
    refine or_congr_right ?_
    unfold Btw
    by_cases e1 : eA f m = k
    · rw [if_pos e1, List.mem_replicate]
      constructor
      · rintro ⟨_, rfl⟩; exact .inl ⟨e1, rfl⟩
      · rintro (⟨_, e⟩ | ⟨e, e2⟩)
        · exact ⟨by omega, e.symm⟩
        · exact absurd (e1.trans e2.symm) h4
    · by_cases e2 : eB f m = k
      · rw [if_neg e1, if_pos e2, List.mem_replicate]
        constructor
        · rintro ⟨_, rfl⟩; exact .inr ⟨rfl, e2⟩
        · rintro (⟨e, _⟩ | ⟨e, _⟩)
          · exact absurd e e1
          · exact ⟨by omega, e.symm⟩
      · rw [if_neg e1, if_neg e2]
        constructor
        · intro h; cases h
        · rintro (⟨e, _⟩ | ⟨_, e⟩)
          · exact absurd e e1
          · exact absurd e e2
/-- A graph's board. -/
def bdG (P m s : Nat) (f : Nat → Nat → Int) : Bd := ⟨P, s, fun k => deg f k m, fun k i => (wayL f k m).getD i 0⟩
theorem bdG_way {P m s k i : Nat} {f : Nat → Nat → Int} (h : i < deg f k m) : (bdG P m s f).way k i ∈ wayL f k m := by
  show (wayL f k m).getD i 0 ∈ _
  have hl : i < (wayL f k m).length := by rw [wayL_len (P := 0)]; exact h
  rw [List.getD_eq_getElem?_getD, List.getElem?_eq_getElem hl]
  exact List.getElem_mem hl
theorem deg_pos {P m k : Nat} {f : Nat → Nat → Int} (h : GOk P m f) (hk : k < P) {s : Nat} (hs : s < P) (hne : k ≠ s) : 0 < deg f k m := by
  rcases Nat.eq_zero_or_pos (deg f k m) with h0 | h0
  · have hno : ∀ x, ¬ x ∈ wayL f k m := fun x hx => by
      have : (wayL f k m).length = 0 := by rw [wayL_len (P := P)]; exact h0
      rw [List.length_eq_zero_iff] at this
      rw [this] at hx; cases hx
    have := h.conn.any (by have := h.p1; omega) (S := fun j => j = k) hk rfl (fun i a b hi hb e => by
      have e' : a = k := e
      subst e'
      exact absurd ((wayL_mem h.edge).2 ⟨i, hi, hb⟩) (hno b)) hs
    exact absurd this.symm hne
  · exact h0
theorem bdG_ok {P m s : Nat} {f : Nat → Nat → Int} (h : GOk P m f) (hs : s < P) : (bdG P m s f).Ok where
  sink := hs
  pos := fun k hk hne => deg_pos h hk hs hne
  way := fun k hk i hi => by
    have h1 := bdG_way (P := P) (s := s) hi
    obtain ⟨j, hj, hb⟩ := (wayL_mem h.edge).1 h1
    generalize (bdG P m s f).way k i = x at *
    have h2 := h.edge j hj
    have := h2.al
    have := h2.bl
    have := h2.ne
    show x < P ∧ x ≠ k
    rcases hb with ⟨e1, e2⟩ | ⟨e1, e2⟩ <;> omega
theorem bdG_conn {P m s : Nat} {f : Nat → Nat → Int} (h : GOk P m f) (hs : s < P) : (bdG P m s f).Conn := by
  intro S h0 hS k hk
  refine h.conn.any (by have := h.p1; omega) (S := fun j => j < P → S j) hs (fun _ => h0) (fun i a b hi hb ha hbP => ?_) hk hk
  have h2 := h.edge i hi
  have haP : a < P := by
    have := h2.al
    have := h2.bl
    rcases hb with ⟨e1, e2⟩ | ⟨e1, e2⟩ <;> omega
  have hm : a ∈ wayL f b m := (wayL_mem h.edge).2 ⟨i, hi, hb.swap⟩
  obtain ⟨j, hj, e⟩ := List.getElem_of_mem hm
  refine hS a b j haP hbP ?_ ?_ (ha haP)
  · show j < deg f b m
    rw [← wayL_len (P := P)]; exact hj
  · show (wayL f b m).getD j 0 = a
    rw [List.getD_eq_getElem?_getD, List.getElem?_eq_getElem hj]
    exact e

/-! ### the search for all places -/
theorem cnt_snoc {l : List Nat} {x P : Nat} (hx : x < P) (hn : ¬ x ∈ l) : sumN (fun k => ind (k ∈ l ++ [x])) P = sumN (fun k => ind (k ∈ l)) P + 1 := by
  have h1 : sumN (fun k => ind (k ∈ l ++ [x])) P = sumN (fun k => ind (k ∈ l) + ind (x = k)) P := sumN_congr fun k _ => by
    unfold ind
    by_cases h1 : k ∈ l
    · rw [if_pos (List.mem_append_left _ h1), if_pos h1, if_neg (fun e => hn (by rw [e]; exact h1))]
    · by_cases h2 : x = k
      · rw [if_pos (List.mem_append_right _ (by rw [h2]; exact List.mem_singleton.2 rfl)), if_neg h1, if_pos h2]
      · rw [if_neg (fun h => (List.mem_append.1 h).elim h1 (fun h => h2 (List.mem_singleton.1 h).symm)), if_neg h1, if_neg h2]
  rw [h1, sumN_add, sumN_pick, ind_yes hx]
theorem cnt_all {l : List Nat} {P : Nat} (h : P ≤ sumN (fun k => ind (k ∈ l)) P) : ∀ k, k < P → k ∈ l := fun k hk => by
  refine Classical.byContradiction fun hn => ?_
  have := sumN_lt (F := fun k => ind (k ∈ l)) (G := fun _ => 1) (n := P) (a := k) (fun _ _ => ind_le) hk (by
    show ind (k ∈ l) < 1
    rw [ind_no hn]; omega)
  rw [sumN_const] at this
  omega
theorem cnt_le {l : List Nat} {P : Nat} : sumN (fun k => ind (k ∈ l)) P ≤ P := by
  have := sumN_le (F := fun k => ind (k ∈ l)) (G := fun _ => 1) (n := P) fun _ _ => ind_le
  rw [sumN_const] at this
  omega
/-- The list of places that the search has been at: the first i of them have been looked round. -/
structure Been (P m : Nat) (f : Nat → Nat → Int) (l : List Nat) : Prop where
  zero : 0 ∈ l
  reach : ∀ k, k ∈ l → k < P ∧ Reach f m k
  cnt : l.length = sumN (fun k => ind (k ∈ l)) P
/-- All neighbours of a place below k are there. -/
def Round (f : Nat → Nat → Int) (m a k : Nat) (l : List Nat) : Prop := ∀ b, b < k → 0 < btw f a b m → b ∈ l
theorem been_start {P m : Nat} {f : Nat → Nat → Int} (hP : 1 ≤ P) : Been P m f [0] where
  zero := List.mem_singleton.2 rfl
  reach := fun k hk => by
    obtain rfl := List.mem_singleton.1 hk
    exact ⟨by omega, reach_zero⟩
  cnt := by
    have := cnt_snoc (l := []) (x := 0) (P := P) (by omega) (by simp)
    rw [List.nil_append] at this
    rw [this, sumN_congr (G := fun _ => 0) fun k _ => ind_no (by simp), sumN_zero]
    rfl
theorem Been.add {P m : Nat} {f : Nat → Nat → Int} {l : List Nat} (hE : ∀ i, i < m → EdgeN P f i) (h : Been P m f l) {a b : Nat} (ha : a ∈ l) (hb : b < P) (hn : ¬ b ∈ l) (hp : 0 < btw f a b m) : Been P m f (l ++ [b]) where
  zero := List.mem_append_left _ h.zero
  reach := fun k hk => by
    rcases List.mem_append.1 hk with hk | hk
    · exact h.reach k hk
    · obtain rfl := List.mem_singleton.1 hk
      obtain ⟨i, hi, hB⟩ := (btw_pos hE).1 hp
      exact ⟨hb, (h.reach a ha).2.step hi hB⟩
  cnt := by rw [cnt_snoc hb hn, List.length_append, h.cnt]; rfl
theorem Been.done {P m : Nat} {f : Nat → Nat → Int} {l : List Nat} (hE : ∀ i, i < m → EdgeN P f i) (h : Been P m f l) (hr : ∀ a, a ∈ l → Round f m a P l) : ConnG P f m ↔ ¬ l.length < P := by
  constructor
  · intro hc hlt
    have hall : ∀ k, k < P → k ∈ l := fun k hk => by
      have := hc k hk (fun j => j ∈ l) h.zero (fun i a b hi hB ha => by
        have h2 := hE i hi
        have hb : b < P := by
          have := h2.al
          have := h2.bl
          rcases hB with ⟨e1, e2⟩ | ⟨e1, e2⟩ <;> omega
        exact hr a ha b hb ((btw_pos hE).2 ⟨i, hi, hB⟩))
      exact this
    have e : sumN (fun k => ind (k ∈ l)) P = P := by
      rw [sumN_congr (G := fun _ => 1) fun k hk => ind_yes (hall k hk), sumN_const, Nat.mul_one]
    have := h.cnt
    omega
  · intro hn k hk
    have := h.cnt
    exact (h.reach k (cnt_all (by omega) k hk)).2
end Rt
end Go.Proofs.Ytjikildiblchpaa
