/- PLAIN (no program in sight): tiles with coloured sides: what fits, and the first cells that do. -/
import Derived.WalkKit
namespace Go.Proofs.YthggpjpmjhaidaaDoor
set_option linter.unusedSimpArgs false
set_option linter.unusedVariables false
namespace Wg

/-- A tile. -/
structure Tl where
  u : Int
  r : Int
  d : Int
  l : Int
def col (c : Int) : Bool := decide (0 ≤ c) && decide (c ≤ 7)
def Tl.ok (t : Tl) : Bool := col t.u && col t.r && col t.d && col t.l
def noTile : Tl := ⟨0, 0, 0, 0⟩
/-- What is wrong with tiles; with tiles and two sides; with cells. -/
def tfault (ts : List Tl) : Int := if ts.length < 1 ∨ 16 < ts.length then 4 else if ts.all Tl.ok = true then 0 else 1
def side (n : Int) : Prop := 1 ≤ n ∧ n ≤ 5
instance (n : Int) : Decidable (side n) := inferInstanceAs (Decidable (_ ∧ _))
def sfault (ts : List Tl) (W H : Int) : Int := if tfault ts ≠ 0 then tfault ts else if side W ∧ side H then 0 else 1
def cfault (n : Nat) (k : Int) (cs : List Int) : Int := if (cs.length : Int) ≠ k then 3 else if ∀ c ∈ cs, 0 ≤ c ∧ c < n then 0 else 1

theorem all_snoc_false {α : Type} {f : α → Bool} {l : List α} {x : α} (h : x ∈ l) (hx : f x = false) : l.all f = false := by
  rw [List.all_eq_false]
  exact ⟨x, h, by rw [hx]; exact Bool.false_ne_true⟩
theorem tl_mem {ts : List Tl} {k : Nat} (h : k < ts.length) : ts.getD k noTile ∈ ts := by
  rw [List.getD_eq_getElem?_getD, List.getElem?_eq_getElem h]; exact List.getElem_mem h
theorem int_mem {cs : List Int} {k : Nat} (h : k < cs.length) : cs.getD k 0 ∈ cs := by
  rw [List.getD_eq_getElem?_getD, List.getElem?_eq_getElem h]; exact List.getElem_mem h
theorem all_of_get {ts : List Tl} (h : ∀ k, k < ts.length → (ts.getD k noTile).ok = true) : ts.all Tl.ok = true := by
  rw [List.all_eq_true]
  intro t ht
  obtain ⟨k, hk, rfl⟩ := List.getElem_of_mem ht
  have := h k hk
  rw [List.getD_eq_getElem?_getD, List.getElem?_eq_getElem hk] at this
  exact this
theorem ints_of_get {cs : List Int} {P : Int → Prop} (h : ∀ k, k < cs.length → P (cs.getD k 0)) : ∀ c ∈ cs, P c := by
  intro t ht
  obtain ⟨k, hk, rfl⟩ := List.getElem_of_mem ht
  have := h k hk
  rw [List.getD_eq_getElem?_getD, List.getElem?_eq_getElem hk] at this
  exact this
theorem tfault_zero {ts : List Tl} (h : tfault ts = 0) : 1 ≤ ts.length ∧ ts.length ≤ 16 ∧ ∀ t ∈ ts, t.ok = true := by
  unfold tfault at h
  split at h
  · cases h
  split at h
  · rename_i h1 h2
    exact ⟨by omega, by omega, List.all_eq_true.1 h2⟩
  · cases h
theorem sfault_zero {ts : List Tl} {W H : Int} (h : sfault ts W H = 0) : tfault ts = 0 ∧ side W ∧ side H := by
  unfold sfault at h
  split at h
  · rename_i h1
    exact absurd h h1
  split at h
  · rename_i h1 h2
    exact ⟨Decidable.of_not_not h1, h2.1, h2.2⟩
  · cases h

/-- All cells fit; t: the tile of each cell. -/
structure Good (W H : Nat) (ring : Bool) (t : Nat → Tl) : Prop where
  right : ∀ y, y < H → ∀ x, x + 1 < W → (t (y * W + x)).r = (t (y * W + (x + 1))).l
  down : ∀ y, y + 1 < H → ∀ x, x < W → (t (y * W + x)).d = (t ((y + 1) * W + x)).u
  rim : ring = true → ∀ y, y < H → (t (y * W + (W - 1))).r = (t (y * W)).l
  floor : ring = true → ∀ x, x < W → (t ((H - 1) * W + x)).d = (t x).u
/-- What the program asks at a place. -/
structure Looks (W H : Nat) (ring : Bool) (t : Nat → Tl) (y x : Nat) : Prop where
  right : ring = true ∨ x + 1 < W → (t (y * W + x)).r = (t (y * W + (x + 1) % W)).l
  down : ring = true ∨ y + 1 < H → (t (y * W + x)).d = (t ((y + 1) % H * W + x)).u
theorem looks_good {W H : Nat} {ring : Bool} {t : Nat → Tl} (hW : 0 < W) (hH : 0 < H) (h : ∀ y, y < H → ∀ x, x < W → Looks W H ring t y x) : Good W H ring t := by
  refine ⟨fun y hy x hx => ?_, fun y hy x hx => ?_, fun hr y hy => ?_, fun hr x hx => ?_⟩
  · have := (h y hy x (by omega)).right (.inr hx)
    rwa [Nat.mod_eq_of_lt hx] at this
  · have := (h y (by omega) x hx).down (.inr hy)
    rwa [Nat.mod_eq_of_lt hy] at this
  · have := (h y hy (W - 1) (by omega)).right (.inl hr)
    rwa [show W - 1 + 1 = W from by omega, Nat.mod_self, Nat.add_zero] at this
  · have := (h (H - 1) (by omega) x hx).down (.inl hr)
    rwa [show H - 1 + 1 = H from by omega, Nat.mod_self, Nat.zero_mul, Nat.zero_add] at this
theorem good_looks {W H : Nat} {ring : Bool} {t : Nat → Tl} (h : Good W H ring t) {y : Nat} (hy : y < H) {x : Nat} (hx : x < W) : Looks W H ring t y x := by
  refine ⟨fun hr => ?_, fun hr => ?_⟩
  · by_cases hx1 : x + 1 < W
    · rw [Nat.mod_eq_of_lt hx1]; exact h.right y hy x hx1
    · have hr' : ring = true := by rcases hr with hr | hr; exact hr; exact absurd hr hx1
      have e : x = W - 1 := by omega
      rw [show x + 1 = W from by omega, Nat.mod_self, Nat.add_zero, e]
      exact h.rim hr' y hy
  · by_cases hy1 : y + 1 < H
    · rw [Nat.mod_eq_of_lt hy1]; exact h.down y hy1 x hx
    · have hr' : ring = true := by rcases hr with hr | hr; exact hr; exact absurd hr hy1
      have e : y = H - 1 := by omega
      rw [show y + 1 = H from by omega, Nat.mod_self, Nat.zero_mul, Nat.zero_add, e]
      exact h.floor hr' x hx

/-- What is asked of a place and those ahead of it, but for the floor. -/
structure FitW (W : Nat) (ring : Bool) (t : Nat → Tl) (k : Nat) : Prop where
  left : 0 < k % W → (t (k - 1)).r = (t k).l
  up : 0 < k / W → (t (k - W)).d = (t k).u
  rim : ring = true → k % W = W - 1 → (t k).r = (t (k - k % W)).l
/-- .. of a ring's floor. -/
def FitF (W H : Nat) (ring : Bool) (t : Nat → Tl) (k : Nat) : Prop := ring = true → k / W = H - 1 → (t k).d = (t (k % W)).u
theorem at_mod {W y x : Nat} (hx : x < W) : (y * W + x) % W = x := by rw [Nat.mul_comm, Nat.mul_add_mod, Nat.mod_eq_of_lt hx]
theorem at_div {W y x : Nat} (hx : x < W) : (y * W + x) / W = y := by
  rw [Nat.mul_comm, Nat.mul_add_div (by omega), Nat.div_eq_of_lt hx, Nat.add_zero]
theorem at_lt {W H y x : Nat} (hx : x < W) (hy : y < H) : y * W + x < W * H := by
  have : (y + 1) * W ≤ H * W := Nat.mul_le_mul_right _ hy
  rw [Nat.add_mul, Nat.one_mul] at this
  rw [Nat.mul_comm W H]
  omega
theorem fit_good {W H : Nat} {ring : Bool} {t : Nat → Tl} (hW : 0 < W) (hH : 0 < H) (h : ∀ k, k < W * H → FitW W ring t k) (hf : ∀ k, k < W * H → FitF W H ring t k) : Good W H ring t := by
  refine ⟨fun y hy x hx => ?_, fun y hy x hx => ?_, fun hr y hy => ?_, fun hr x hx => ?_⟩
  · have := (h (y * W + (x + 1)) (at_lt hx hy)).left (by rw [at_mod hx]; omega)
    rwa [show y * W + (x + 1) - 1 = y * W + x from by omega] at this
  · have := (h ((y + 1) * W + x) (at_lt hx hy)).up (by rw [at_div hx]; omega)
    rwa [show (y + 1) * W + x - W = y * W + x from by rw [Nat.add_mul]; omega] at this
  · have hx : W - 1 < W := by omega
    have := (h (y * W + (W - 1)) (at_lt hx hy)).rim hr (at_mod hx)
    rwa [at_mod hx, show y * W + (W - 1) - (W - 1) = y * W from by omega] at this
  · have := hf ((H - 1) * W + x) (at_lt hx (by omega)) hr (at_div hx)
    rwa [at_mod hx] at this
theorem good_fit {W H : Nat} {ring : Bool} {t : Nat → Tl} (h : Good W H ring t) {k : Nat} (hk : k < W * H) : FitW W ring t k ∧ FitF W H ring t k := by
  have hW : 0 < W := by rcases Nat.eq_zero_or_pos W with h0 | h0; subst h0; rw [Nat.zero_mul] at hk; omega; exact h0
  obtain ⟨y, x, hx, hy, rfl⟩ : ∃ y x, x < W ∧ y < H ∧ k = y * W + x := ⟨k / W, k % W, Nat.mod_lt _ hW, Nat.div_lt_of_lt_mul hk, (Nat.div_add_mod' _ _).symm⟩
  refine ⟨⟨fun h0 => ?_, fun h0 => ?_, fun hr h0 => ?_⟩, fun hr h0 => ?_⟩
  · rw [at_mod hx] at h0
    have := h.right y hy (x - 1) (by omega)
    rwa [show y * W + (x - 1) = y * W + x - 1 from by omega, show x - 1 + 1 = x from by omega] at this
  · rw [at_div hx] at h0
    have := h.down (y - 1) (by omega) x hx
    rwa [show y - 1 + 1 = y from by omega, show (y - 1) * W + x = y * W + x - W from by
      rw [Nat.sub_mul, Nat.one_mul]
      have : 1 * W ≤ y * W := Nat.mul_le_mul_right _ h0
      omega] at this
  · rw [at_mod hx] at h0 ⊢
    have := h.rim hr y hy
    rw [h0, show y * W + (W - 1) - (W - 1) = y * W from by omega]
    exact this
  · rw [at_div hx] at h0
    rw [at_mod hx, h0]
    exact h.floor hr x hx
theorem FitW.congr {W : Nat} {ring : Bool} {t t' : Nat → Tl} {k : Nat} (h : FitW W ring t k) (e : ∀ j, j ≤ k → t j = t' j) : FitW W ring t' k := by
  refine ⟨fun h0 => ?_, fun h0 => ?_, fun hr h0 => ?_⟩
  · rw [← e _ (Nat.sub_le _ _), ← e _ (Nat.le_refl _)]; exact h.left h0
  · rw [← e _ (Nat.sub_le _ _), ← e _ (Nat.le_refl _)]; exact h.up h0
  · rw [← e _ (Nat.sub_le _ _), ← e _ (Nat.le_refl _)]; exact h.rim hr h0
theorem FitF.congr {W H : Nat} {ring : Bool} {t t' : Nat → Tl} {k : Nat} (h : FitF W H ring t k) (e : ∀ j, j ≤ k → t j = t' j) : FitF W H ring t' k := fun hr h0 => by
  rw [← e _ (Nat.mod_le _ _), ← e _ (Nat.le_refl _)]; exact h hr h0

/-! ### the first of all -/
/-- The first of the numbers i, i + 1, .. (d of them) at which f tells something. -/
def tr {α : Type} (f : Nat → Option α) : Nat → Nat → Option α
  | 0, _ => none
  | d + 1, i => match f i with | some x => some x | none => tr f d (i + 1)
theorem tr_none {α : Type} {f : Nat → Option α} : ∀ {d i : Nat}, (∀ j, i ≤ j → j < i + d → f j = none) → tr f d i = none
  | 0, _, _ => rfl
  | d + 1, i, h => by
    unfold tr
    rw [h i (Nat.le_refl _) (by omega)]
    exact tr_none fun j h1 h2 => h j (by omega) (by omega)
theorem tr_some {α : Type} {f : Nat → Option α} {x : α} : ∀ {d i : Nat}, tr f d i = some x → ∃ j, i ≤ j ∧ j < i + d ∧ f j = some x
  | 0, _, h => by cases h
  | d + 1, i, h => by
    unfold tr at h
    split at h
    · rename_i y hy
      cases h
      exact ⟨i, Nat.le_refl _, by omega, hy⟩
    · obtain ⟨j, h1, h2, h3⟩ := tr_some h
      exact ⟨j, by omega, by omega, h3⟩
theorem tr_all {α : Type} {f : Nat → Option α} : ∀ {d i : Nat}, tr f d i = none → ∀ j, i ≤ j → j < i + d → f j = none
  | 0, _, _, j, h1, h2 => by omega
  | d + 1, i, h, j, h1, h2 => by
    unfold tr at h
    split at h
    · cases h
    · rename_i hn
      by_cases hj : j = i
      · subst hj; exact hn
      · exact tr_all h j (by omega) (by omega)
theorem tr_congr {α : Type} {f g : Nat → Option α} : ∀ {d i : Nat}, (∀ j, i ≤ j → j < i + d → f j = g j) → tr f d i = tr g d i
  | 0, _, _ => rfl
  | d + 1, i, h => by
    unfold tr
    rw [h i (Nat.le_refl _) (by omega), tr_congr (d := d) (i := i + 1) fun j h1 h2 => h j (by omega) (by omega)]
theorem tr_map {α β : Type} (f : Nat → Option α) (g : α → β) : ∀ (d i : Nat), tr (fun k => (f k).map g) d i = (tr f d i).map g
  | 0, _ => rfl
  | d + 1, i => by
    unfold tr
    cases h : f i with
    | none => simpa using tr_map f g d (i + 1)
    | some x => simp

open Classical in
/-- The first list over n numbers that begins as cs, has m numbers more, and is as P says. -/
noncomputable def ff (n : Nat) (P : List Nat → Prop) : Nat → List Nat → Option (List Nat)
  | 0, cs => if P cs then some cs else none
  | m + 1, cs => tr (fun k => ff n P m (cs ++ [k])) n 0
theorem ff_none {n : Nat} {P : List Nat → Prop} : ∀ {m : Nat} {cs : List Nat}, (∀ l : List Nat, l.length = m → (∀ x ∈ l, x < n) → ¬ P (cs ++ l)) → ff n P m cs = none
  | 0, cs, h => by
    unfold ff
    have := h [] rfl (fun x hx => by cases hx)
    rw [List.append_nil] at this
    rw [if_neg this]
  | m + 1, cs, h => by
    unfold ff
    refine tr_none fun k _ hk => ff_none fun l hl hb => ?_
    have := h (k :: l) (by simp [hl]) (fun x hx => by
      rcases List.mem_cons.1 hx with rfl | hx
      · omega
      · exact hb x hx)
    rwa [List.append_assoc, List.singleton_append]
theorem ff_all {n : Nat} {P : List Nat → Prop} : ∀ {m : Nat} {cs : List Nat}, ff n P m cs = none → ∀ l : List Nat, l.length = m → (∀ x ∈ l, x < n) → ¬ P (cs ++ l)
  | 0, cs, h, l, hl, _ => by
    obtain rfl : l = [] := List.eq_nil_of_length_eq_zero hl
    unfold ff at h
    split at h
    · cases h
    · rename_i hp
      rw [List.append_nil]
      exact hp
  | m + 1, cs, h, l, hl, hb => by
    obtain ⟨k, r, rfl⟩ : ∃ k r, l = k :: r := by cases l with | nil => cases hl | cons k r => exact ⟨k, r, rfl⟩
    unfold ff at h
    have := ff_all (tr_all h k (Nat.zero_le _) (by have := hb k (List.mem_cons_self ..); omega)) r (by simpa using hl) (fun x hx => hb x (List.mem_cons_of_mem _ hx))
    rwa [List.append_assoc, List.singleton_append] at this
theorem ff_some {n : Nat} {P : List Nat → Prop} {r : List Nat} : ∀ {m : Nat} {cs : List Nat}, ff n P m cs = some r → P r ∧ ∃ l : List Nat, r = cs ++ l ∧ l.length = m ∧ ∀ x ∈ l, x < n
  | 0, cs, h => by
    unfold ff at h
    split at h
    · rename_i hp
      cases h
      exact ⟨hp, [], by simp, rfl, fun x hx => by cases hx⟩
    · cases h
  | m + 1, cs, h => by
    unfold ff at h
    obtain ⟨k, _, hk, hr⟩ := tr_some h
    obtain ⟨hp, l, rfl, hl, hb⟩ := ff_some hr
    refine ⟨hp, k :: l, by simp, by simp [hl], fun x hx => ?_⟩
    rcases List.mem_cons.1 hx with rfl | hx
    · omega
    · exact hb x hx

/-- The tile of each cell. -/
def tl (T : Nat → Tl) (cs : List Nat) (k : Nat) : Tl := T (cs.getD k 0)
theorem tl_app {T : Nat → Tl} {cs l : List Nat} {k : Nat} (h : k < cs.length) : tl T (cs ++ l) k = tl T cs k := by
  unfold tl
  rw [List.getD_eq_getElem?_getD, List.getD_eq_getElem?_getD, List.getElem?_append_left h]
theorem tl_last {T : Nat → Tl} {cs : List Nat} {i : Nat} : tl T (cs ++ [i]) cs.length = T i := by
  unfold tl
  rw [List.getD_eq_getElem?_getD, List.getElem?_append_right (Nat.le_refl _)]
  simp
/-- The first cells that fit. -/
noncomputable def fillS (T : Nat → Tl) (n W H : Nat) (ring : Bool) : Option (List Nat) := ff n (fun cs => Good W H ring (tl T cs)) (W * H) []
/-- What does not fit is left. -/
theorem prune {T : Nat → Tl} {n W H : Nat} {ring : Bool} {m i : Nat} {cs : List Nat} (hm : cs.length + (m + 1) = W * H) (hno : ¬ (FitW W ring (tl T (cs ++ [i])) cs.length ∧ FitF W H ring (tl T (cs ++ [i])) cs.length)) :
    ff n (fun cs => Good W H ring (tl T cs)) m (cs ++ [i]) = none := by
  refine ff_none fun l hl _ hg => hno ?_
  have := good_fit hg (k := cs.length) (by omega)
  have e : ∀ j, j ≤ cs.length → tl T (cs ++ [i] ++ l) j = tl T (cs ++ [i]) j := fun j hj => tl_app (by simp; omega)
  exact ⟨this.1.congr e, this.2.congr e⟩

/-! ### what the tiles behind a place have to look at -/
structure Rm where
  pos : Nat
  over : List Int
  left : Int
  first : List Int
  top : List Int
def Rm.x (r : Rm) (W : Nat) : Nat := r.pos % W
def Rm.next (r : Rm) (W : Nat) (ring : Bool) (t : Tl) : Rm where
  pos := r.pos + 1
  over := r.over.set (r.x W) t.d
  left := t.r
  first := if ring = true ∧ r.x W = 0 then r.first.set 0 t.l else r.first
  top := if ring = true ∧ r.pos < W then r.top.set (r.x W) t.u else r.top
/-- May the tile stand here? -/
structure Rm.May (r : Rm) (W : Nat) (ring : Bool) (t : Tl) : Prop where
  up : r.over.getD (r.x W) 0 = -1 ∨ t.u = r.over.getD (r.x W) 0
  left : 0 < r.x W → t.l = r.left
  rim : ring = true → r.x W = W - 1 → t.r = (r.next W ring t).first.getD 0 0
open Classical in
noncomputable def comp (T : Nat → Tl) (n W : Nat) (ring : Bool) : Nat → Rm → Option (List Nat)
  | 0, r => if ring = true → ∀ x, x < W → r.over.getD x 0 = r.top.getD x 0 then some [] else none
  | m + 1, r => tr (fun k => if r.May W ring (T k) then (comp T n W ring m (r.next W ring (T k))).map (k :: ·) else none) n 0

/-- A rim tells of the cells ahead of it. -/
structure Of (T : Nat → Tl) (W : Nat) (ring : Bool) (cs : List Nat) (r : Rm) : Prop where
  pos : r.pos = cs.length
  lover : r.over.length = 5
  lfirst : r.first.length = 5
  ltop : r.top.length = 5
  none : ∀ x, x < W → cs.length ≤ x → r.over.getD x 0 = -1
  over : ∀ k, k < cs.length → cs.length ≤ k + W → r.over.getD (k % W) 0 = (tl T cs k).d
  left : 0 < cs.length % W → r.left = (tl T cs (cs.length - 1)).r
  top : ring = true → ∀ x, x < W → x < cs.length → r.top.getD x 0 = (tl T cs x).u
  first : ring = true → 0 < cs.length % W → r.first.getD 0 0 = (tl T cs (cs.length - cs.length % W)).l
theorem getD_set {l : List Int} {i j : Nat} {v : Int} (hi : i < l.length) : (l.set i v).getD j 0 = if i = j then v else l.getD j 0 := by
  rw [List.getD_eq_getElem?_getD, List.getElem?_set, List.getD_eq_getElem?_getD]
  split
  · rename_i e
    subst e
    first | rfl | (rw [if_pos hi]; rfl)
  · rfl
theorem succ_mod {W a : Nat} (hW : 0 < W) : ((a + 1) % W = a % W + 1 ∧ a % W + 1 < W) ∨ ((a + 1) % W = 0 ∧ a % W + 1 = W) := by
  have h1 := Nat.mod_lt a hW
  have e : (a + 1) % W = (a % W + 1) % W := by rw [Nat.add_mod a 1 W, Nat.add_mod (a % W) 1 W, Nat.mod_mod]
  by_cases h : a % W + 1 < W
  · left; rw [e, Nat.mod_eq_of_lt h]; exact ⟨rfl, h⟩
  · right
    have : a % W + 1 = W := by omega
    rw [e, this, Nat.mod_self]
    exact ⟨rfl, rfl⟩
theorem same_col {W a k : Nat} (h : k % W = a % W) (hk : k < a) (h2 : a + 1 ≤ k + W) : False := by
  have h1 := Nat.div_add_mod a W
  have h3 := Nat.div_add_mod k W
  rw [h] at h3
  have hd : k / W < a / W := by
    rcases Nat.lt_or_ge (k / W) (a / W) with hlt | hge
    · exact hlt
    · have : W * (a / W) ≤ W * (k / W) := Nat.mul_le_mul_left _ hge
      omega
  have : W * (k / W + 1) ≤ W * (a / W) := Nat.mul_le_mul_left _ hd
  rw [Nat.mul_add, Nat.mul_one] at this
  omega
theorem Of.next {T : Nat → Tl} {W i : Nat} {ring : Bool} {cs : List Nat} {r : Rm} (hW : 0 < W) (hW5 : W ≤ 5) (h : Of T W ring cs r) : Of T W ring (cs ++ [i]) (r.next W ring (T i)) := by
  have hx : r.x W = cs.length % W := by unfold Rm.x; rw [h.pos]
  have hlt := Nat.mod_lt cs.length hW
  have hl : (cs ++ [i]).length = cs.length + 1 := by simp
  have hle := Nat.mod_le cs.length W
  refine ⟨by rw [hl]; unfold Rm.next; simp only; rw [h.pos], by unfold Rm.next; simp [h.lover], ?_, ?_, fun x hxW hx1 => ?_, fun k hk hk1 => ?_, fun h0 => ?_, fun hr x hxW hx1 => ?_, fun hr h0 => ?_⟩
  · unfold Rm.next; simp only; split
    · simp [h.lfirst]
    · exact h.lfirst
  · unfold Rm.next; simp only; split
    · simp [h.ltop]
    · exact h.ltop
  · rw [hl] at hx1
    show (r.over.set (r.x W) (T i).d).getD x 0 = -1
    rw [getD_set (by rw [h.lover, hx]; omega), if_neg (by rw [hx]; omega)]
    exact h.none x hxW (by omega)
  · rw [hl] at hk hk1
    show (r.over.set (r.x W) (T i).d).getD (k % W) 0 = _
    rw [getD_set (by rw [h.lover, hx]; omega), hx]
    by_cases hkl : k = cs.length
    · subst hkl
      rw [if_pos rfl, tl_last]
    · have hk' : k < cs.length := by omega
      rw [if_neg (fun e => same_col e.symm hk' hk1), tl_app hk']
      exact h.over k hk' (by omega)
  · rw [hl, Nat.add_sub_cancel, tl_last]
    rfl
  · rw [hl] at hx1
    show (if ring = true ∧ r.pos < W then r.top.set (r.x W) (T i).u else r.top).getD x 0 = _
    by_cases hxl : x = cs.length
    · subst hxl
      rw [if_pos ⟨hr, by rw [h.pos]; exact hxW⟩, getD_set (by rw [h.ltop, hx]; omega), hx, Nat.mod_eq_of_lt hxW, if_pos rfl, tl_last]
    · have hx' : x < cs.length := by omega
      rw [tl_app hx']
      split
      · rename_i hc
        have hp := hc.2
        rw [h.pos] at hp
        rw [getD_set (by rw [h.ltop, hx]; omega), hx, Nat.mod_eq_of_lt hp, if_neg (by omega)]
        exact h.top hr x hxW hx'
      · exact h.top hr x hxW hx'
  · rw [hl] at h0 ⊢
    show (if ring = true ∧ r.x W = 0 then r.first.set 0 (T i).l else r.first).getD 0 0 = _
    rcases succ_mod (a := cs.length) hW with ⟨e, h1⟩ | ⟨e, h1⟩
    · rw [e]
      rw [show cs.length + 1 - (cs.length % W + 1) = cs.length - cs.length % W from by omega]
      by_cases hz : cs.length % W = 0
      · rw [if_pos ⟨hr, by rw [hx]; exact hz⟩, getD_set (by rw [h.lfirst]; omega), if_pos rfl, hz, Nat.sub_zero, tl_last]
      · rw [if_neg (fun hc => hz (by rw [← hx]; exact hc.2)), tl_app (by omega)]
        exact h.first hr (by omega)
    · rw [e] at h0; omega
theorem may_iff {T : Nat → Tl} {W i : Nat} {ring : Bool} {cs : List Nat} {r : Rm} (hW : 0 < W) (h : Of T W ring cs r) (hcol : ∀ k, 0 ≤ (T k).d) : r.May W ring (T i) ↔ FitW W ring (tl T (cs ++ [i])) cs.length := by
  have hx : r.x W = cs.length % W := by unfold Rm.x; rw [h.pos]
  have hlt := Nat.mod_lt cs.length hW
  have hle := Nat.mod_le cs.length W
  have hup : 0 < cs.length / W → cs.length - W < cs.length ∧ W ≤ cs.length := fun h0 => by
    have := Nat.div_add_mod cs.length W
    have h1 : W * 1 ≤ W * (cs.length / W) := Nat.mul_le_mul_left _ h0
    omega
  have hov : 0 < cs.length / W → r.over.getD (r.x W) 0 = (tl T (cs ++ [i]) (cs.length - W)).d := fun h0 => by
    obtain ⟨h1, h2⟩ := hup h0
    have h3 := h.over (cs.length - W) h1 (by omega)
    rw [hx, tl_app h1, ← h3]
    congr 1
    exact (Nat.mod_eq_sub_mod h2)
  have hfirst : ring = true → cs.length % W = W - 1 → (r.next W ring (T i)).first.getD 0 0 = (tl T (cs ++ [i]) (cs.length - cs.length % W)).l := fun hr h0 => by
    show (if ring = true ∧ r.x W = 0 then r.first.set 0 (T i).l else r.first).getD 0 0 = _
    by_cases hz : cs.length % W = 0
    · rw [if_pos ⟨hr, by rw [hx]; exact hz⟩, getD_set (by rw [h.lfirst]; omega), if_pos rfl, hz, Nat.sub_zero, tl_last]
    · rw [if_neg (fun hc => hz (by rw [← hx]; exact hc.2)), tl_app (by omega)]
      exact h.first hr (by omega)
  constructor
  · intro hm
    refine ⟨fun h0 => ?_, fun h0 => ?_, fun hr h0 => ?_⟩
    · rw [tl_last, tl_app (by omega), hm.left (by rw [hx]; exact h0), h.left h0]
    · rw [tl_last, ← hov h0]
      rcases hm.up with h1 | h1
      · exfalso
        have := hcol ((cs ++ [i]).getD (cs.length - W) 0)
        rw [hov h0] at h1
        unfold tl at h1
        omega
      · exact h1.symm
    · rw [tl_last, ← hfirst hr h0]
      exact hm.rim hr (by rw [hx]; exact h0)
  · intro hf
    refine ⟨?_, fun h0 => ?_, fun hr h0 => ?_⟩
    · by_cases h0 : 0 < cs.length / W
      · right
        have := hf.up h0
        rw [tl_last] at this
        rw [hov h0]
        exact this.symm
      · left
        have h1 : cs.length < W := by
          rcases Nat.lt_or_ge cs.length W with hl | hl
          · exact hl
          · exact absurd (Nat.div_pos hl hW) h0
        rw [hx]
        exact h.none _ hlt (by rw [Nat.mod_eq_of_lt h1]; exact Nat.le_refl _)
    · rw [hx] at h0
      have := hf.left h0
      rw [tl_last, tl_app (by omega)] at this
      rw [h.left h0]
      exact this.symm
    · rw [hx] at h0
      have := hf.rim hr h0
      rw [tl_last] at this
      rw [hfirst hr h0]
      exact this
/-- The program's search is the search of all. -/
theorem comp_ff {T : Nat → Tl} {n W H : Nat} {ring : Bool} (hW : 0 < W) (hW5 : W ≤ 5) (hH : 0 < H) (hcol : ∀ k, 0 ≤ (T k).d) : ∀ (m : Nat) (cs : List Nat) (r : Rm), cs.length + m = W * H → Of T W ring cs r → (∀ k, k < cs.length → FitW W ring (tl T cs) k) →
    ff n (fun cs => Good W H ring (tl T cs)) m cs = (comp T n W ring m r).map (cs ++ ·)
  | 0, cs, r, hm, ho, hf => by
    have hlen : cs.length = W * H := by omega
    unfold ff comp
    have hiff : Good W H ring (tl T cs) ↔ (ring = true → ∀ x, x < W → r.over.getD x 0 = r.top.getD x 0) := by
      have hk : ∀ x, x < W → (H - 1) * W + x < cs.length ∧ cs.length ≤ (H - 1) * W + x + W ∧ x < cs.length := fun x hx => by
        have h1 := at_lt hx (show H - 1 < H from by omega)
        have h2 := at_lt hx hH
        have h3 : (H - 1) * W + W = W * H := by rw [Nat.mul_comm W H]; have : (H - 1 + 1) * W = H * W := by rw [show H - 1 + 1 = H from by omega]
                                                rw [Nat.add_mul, Nat.one_mul] at this; exact this
        omega
      constructor
      · intro hg hr x hx
        obtain ⟨h1, h2, h3⟩ := hk x hx
        have h4 := ho.over _ h1 h2
        rw [at_mod hx] at h4
        rw [h4, ho.top hr x hx h3]
        exact hg.floor hr x hx
      · intro hr
        refine fit_good hW hH (fun k hk => hf k (by omega)) (fun k hkk hr1 h0 => ?_)
        have hx := Nat.mod_lt k hW
        obtain ⟨h1, h2, h3⟩ := hk _ hx
        have h4 := ho.over _ h1 h2
        rw [at_mod hx] at h4
        have e : k = (H - 1) * W + k % W := by
          have := Nat.div_add_mod' k W
          rw [h0] at this
          exact this.symm
        have h5 := hr hr1 _ hx
        rw [h4, ho.top hr1 _ hx h3] at h5
        rw [← e] at h5
        exact h5
    by_cases hg : Good W H ring (tl T cs)
    · rw [if_pos hg, if_pos (hiff.1 hg)]
      simp
    · rw [if_neg hg, if_neg (fun h => hg (hiff.2 h))]
      rfl
  | m + 1, cs, r, hm, ho, hf => by
    unfold ff comp
    rw [← tr_map]
    refine tr_congr fun i _ _ => ?_
    by_cases hi : r.May W ring (T i)
    · rw [if_pos hi]
      rw [comp_ff hW hW5 hH hcol m (cs ++ [i]) (r.next W ring (T i)) (by simp; omega) (ho.next hW hW5) (fun k hk => by
        simp at hk
        by_cases hkl : k = cs.length
        · subst hkl
          exact (may_iff hW ho hcol).1 hi
        · exact (hf k (by omega)).congr fun j hj => (tl_app (by omega)).symm)]
      cases comp T n W ring m (r.next W ring (T i)) with
      | none => rfl
      | some l => simp
    · rw [if_neg hi, prune hm fun h => hi ((may_iff hW ho hcol).2 h.1)]
      rfl
/-- The rim ahead of all. -/
def rim0 : Rm := ⟨0, [-1, -1, -1, -1, -1], 0, [0, 0, 0, 0, 0], [0, 0, 0, 0, 0]⟩
theorem of_rim0 (T : Nat → Tl) (W : Nat) (ring : Bool) (hW5 : W ≤ 5) : Of T W ring [] rim0 := by
  refine ⟨rfl, rfl, rfl, rfl, fun x hx _ => ?_, fun k hk => absurd hk (Nat.not_lt_zero _), fun h0 => ?_, fun _ x _ hx => absurd hx (Nat.not_lt_zero _), fun _ h0 => ?_⟩
  · have : x < 5 := by omega
    match x, this with
    | 0, _ => rfl
    | 1, _ => rfl
    | 2, _ => rfl
    | 3, _ => rfl
    | 4, _ => rfl
  · simp at h0
  · simp at h0
theorem fill_comp {T : Nat → Tl} {n W H : Nat} {ring : Bool} (hW : 0 < W) (hW5 : W ≤ 5) (hH : 0 < H) (hcol : ∀ k, 0 ≤ (T k).d) : fillS T n W H ring = comp T n W ring (W * H) rim0 := by
  unfold fillS
  rw [comp_ff hW hW5 hH hcol _ [] rim0 (by simp) (of_rim0 T W ring hW5) (fun k hk => absurd hk (Nat.not_lt_zero _))]
  cases comp T n W ring (W * H) rim0 <;> simp

/-! ### the reference's search: back and forth -/
/-- What comes of the cells cs, if at the next place the numbers from i on are still to be tried. -/
noncomputable def back (n : Nat) (P : List Nat → Prop) (all : Nat) : Nat → List Nat → Nat → Option (List Nat)
  | 0, _, _ => none
  | d + 1, cs, i => match tr (fun k => ff n P (all - cs.length - 1) (cs ++ [k])) (n - i) i with
    | some r => some r
    | none => match cs.reverse with
      | [] => none
      | k :: up => back n P all d up.reverse (k + 1)
theorem back_end {n : Nat} {P : List Nat → Prop} {all d i : Nat} {cs : List Nat} {k : Nat} (hi : n ≤ i) : back n P all (d + 1) (cs ++ [k]) i = back n P all d cs (k + 1) := by
  have hz : n - i = 0 := by omega
  rw [back, hz]
  simp [tr]
theorem back_last {n : Nat} {P : List Nat → Prop} {all d i : Nat} (hi : n ≤ i) : back n P all (d + 1) [] i = none := by
  have hz : n - i = 0 := by omega
  rw [back, hz]
  simp [tr]
theorem back_no {n : Nat} {P : List Nat → Prop} {all d i : Nat} {cs : List Nat} (hi : i < n) (hno : ff n P (all - cs.length - 1) (cs ++ [i]) = none) : back n P all (d + 1) cs i = back n P all (d + 1) cs (i + 1) := by
  have hz : n - i = (n - (i + 1)) + 1 := by omega
  rw [back, hz, tr, hno, back]
theorem back_yes {n : Nat} {P : List Nat → Prop} {all d i : Nat} {cs r : List Nat} (hi : i < n) (hr : ff n P (all - cs.length - 1) (cs ++ [i]) = some r) : back n P all (d + 1) cs i = some r := by
  have hz : n - i = (n - (i + 1)) + 1 := by omega
  rw [back, hz, tr, hr]
theorem back_down {n : Nat} {P : List Nat → Prop} {all d i : Nat} {cs : List Nat} (hi : i < n) (hl : cs.length + 1 < all) : back n P all (d + 1) cs i = back n P all (d + 2) (cs ++ [i]) 0 := by
  have hz : n - i = (n - (i + 1)) + 1 := by omega
  obtain ⟨m, hm⟩ : ∃ m, all - cs.length - 1 = m + 1 := ⟨all - cs.length - 2, by omega⟩
  rw [show back n P all (d + 2) (cs ++ [i]) 0 = match tr (fun k => ff n P (all - (cs ++ [i]).length - 1) (cs ++ [i] ++ [k])) (n - 0) 0 with
    | some r => some r
    | none => match (cs ++ [i]).reverse with
      | [] => none
      | k :: up => back n P all (d + 1) up.reverse (k + 1) from rfl]
  have hm2 : all - (cs ++ [i]).length - 1 = m := by simp; omega
  rw [hm2, Nat.sub_zero]
  have hff : ff n P (all - cs.length - 1) (cs ++ [i]) = tr (fun k => ff n P m (cs ++ [i] ++ [k])) n 0 := by rw [hm]; rfl
  rw [← hff]
  cases h : ff n P (all - cs.length - 1) (cs ++ [i]) with
  | some r => rw [back_yes hi h]
  | none =>
    rw [back_no hi h]
    simp
theorem back_all {n : Nat} {P : List Nat → Prop} {all : Nat} (h : 0 < all) : back n P all 1 [] 0 = ff n P all [] := by
  obtain ⟨m, rfl⟩ : ∃ m, all = m + 1 := ⟨all - 1, by omega⟩
  rw [back]
  show _ = tr (fun k => ff n P m ([] ++ [k])) n 0
  simp only [List.length_nil, Nat.sub_zero, Nat.add_sub_cancel]
  cases tr (fun k => ff n P m ([] ++ [k])) n 0 <;> rfl
end Wg
end Go.Proofs.YthggpjpmjhaidaaDoor
