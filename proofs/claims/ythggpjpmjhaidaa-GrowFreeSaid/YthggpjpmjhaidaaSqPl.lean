/- PLAIN LAW (no program in sight): the first square and the first overlap of a text: what the nested search of the code and that of the reference both come to. -/
import Derived.WalkKit
import Derived.BigQuiet
import Derived.Deep.QuietTactic
import Derived.Lib.Strings
namespace Go.Proofs.Ythggpjpmjhaidaa
namespace Sq

/-- A world that differs from another by draws alone. -/
def Drew (w w' : World) : Prop := ∃ k, w' = w.drewN k
theorem Drew.refl (w : World) : Drew w w := ⟨0, rfl⟩
theorem Drew.trans {a b c : World} (h : Drew a b) (k : Drew b c) : Drew a c := by
  obtain ⟨n, rfl⟩ := h
  obtain ⟨m, rfl⟩ := k
  exact ⟨n + m, World.drewN_drewN _ _ _⟩
theorem Drew.mk (w : World) (n : Nat) : Drew w (w.drewN n) := ⟨n, rfl⟩

/-- The truth value of a sentence, as a Bool that no walk takes apart. -/
noncomputable def tv (p : Prop) : Bool := @decide p (Classical.propDecidable p)
theorem tv_yes {p : Prop} (h : p) : tv p = true := @decide_eq_true p (Classical.propDecidable p) h
theorem tv_no {p : Prop} (h : ¬ p) : tv p = false := @decide_eq_false p (Classical.propDecidable p) h

def at_ (s : ByteArray) (i : Nat) : UInt8 := s.data.toList.getD i 0

/-- What ends at 'e', is 'n' long, stands there twice (and goes on for 'more' letters). -/
def Rep (s : ByteArray) (more e n : Nat) : Prop := ∀ i, i < n + more → at_ s (e - (2 * n + more) + i) = at_ s (e - (2 * n + more) + n + i)

/-- Nothing is there at 'e' with a size below 'n'. -/
def NoneAt (s : ByteArray) (more e n : Nat) : Prop := ∀ k, 1 ≤ k → k < n → 2 * k + more ≤ e → ¬ Rep s more e k
/-- Nothing ends ahead of 'e'. -/
def NoneTo (s : ByteArray) (more e : Nat) : Prop := ∀ e', e' < e → 1 ≤ e' → ∀ k, 1 ≤ k → 2 * k + more ≤ e' → ¬ Rep s more e' k

/-- The first that is there. -/
structure Found (s : ByteArray) (more e n : Nat) : Prop where
  lo : 1 ≤ n
  fits : 2 * n + more ≤ e
  hi : e ≤ s.size
  rep : Rep s more e n
  none : NoneAt s more e n
  to : NoneTo s more e

def Firsts (s : ByteArray) (more : Nat) (r : Int × Int × Bool) : Prop :=
  (s.size ≤ 40000 ∧ ∃ e n : Nat, Found s more e n ∧ r = ((e : Int) - (2 * n + more : Nat), (n : Int), true)) ∨ (r = (0, 0, false) ∧ (40000 < s.size ∨ NoneTo s more (s.size + 1)))

theorem found_unique {s : ByteArray} {more e n e' n' : Nat} (h : Found s more e n) (k : Found s more e' n') : e = e' ∧ n = n' := by
  have he : e = e' := by
    rcases Nat.lt_trichotomy e e' with l | l | l
    · exact absurd h.rep (k.to e l (by have := h.fits; have := h.lo; omega) n h.lo h.fits)
    · exact l
    · exact absurd k.rep (h.to e' l (by have := k.fits; have := k.lo; omega) n' k.lo k.fits)
  subst he
  refine ⟨rfl, ?_⟩
  rcases Nat.lt_trichotomy n n' with l | l | l
  · exact absurd h.rep (k.none n h.lo l h.fits)
  · exact l
  · exact absurd k.rep (h.none n' k.lo l k.fits)

theorem firsts_unique {s : ByteArray} {more : Nat} {r r' : Int × Int × Bool} (h : Firsts s more r) (k : Firsts s more r') : r = r' := by
  have no : ∀ e n, Found s more e n → ¬ NoneTo s more (s.size + 1) := fun e n f g => g e (by have := f.hi; omega) (by have := f.fits; have := f.lo; omega) n f.lo f.fits f.rep
  rcases h with ⟨z, e, n, f, rfl⟩ | ⟨rfl, h⟩
  · rcases k with ⟨_, e', n', f', rfl⟩ | ⟨rfl, k⟩
    · obtain ⟨rfl, rfl⟩ := found_unique f f'
      rfl
    · rcases k with k | k
      · omega
      · exact absurd k (no e n f)
  · rcases k with ⟨z, e', n', f', rfl⟩ | ⟨rfl, k⟩
    · rcases h with h | h
      · omega
      · exact absurd h (no e' n' f')
    · rfl

/-- The answer as a value. -/
noncomputable def fr (s : ByteArray) (more : Nat) : Int × Int × Bool := Classical.epsilon (Firsts s more)
theorem fr_eq {s : ByteArray} {more : Nat} {r : Int × Int × Bool} (h : Firsts s more r) : fr s more = r :=
  firsts_unique (Classical.epsilon_spec ⟨r, h⟩) h

noncomputable def frv (s : ByteArray) (more : Nat) : Value := .tuple #[.int .i64 (fr s more).1, .int .i64 (fr s more).2.1, .bool (fr s more).2.2]
theorem frv_eq {s : ByteArray} {more : Nat} {a n : Int} {b : Bool} (h : Firsts s more (a, n, b)) : frv s more = .tuple #[.int .i64 a, .int .i64 n, .bool b] := by
  unfold frv
  rw [fr_eq h]

theorem frv_far {s : ByteArray} {more : Nat} (h : 40000 < s.size) : Value.tuple #[.int .i64 0, .int .i64 0, .bool false] = frv s more :=
  (frv_eq (.inr ⟨rfl, .inl h⟩)).symm
theorem frv_none {s : ByteArray} {more e : Nat} (h : NoneTo s more e) (he : s.size < e) : Value.tuple #[.int .i64 0, .int .i64 0, .bool false] = frv s more :=
  (frv_eq (.inr ⟨rfl, .inr fun e' l => h e' (by omega)⟩)).symm
theorem frv_found {s : ByteArray} {more e n : Nat} (z : s.size ≤ 40000) (h : Found s more e n) : Value.tuple #[.int .i64 ((e : Int) - (2 * n + more : Nat)), .int .i64 n, .bool true] = frv s more :=
  (frv_eq (.inl ⟨z, e, n, h, rfl⟩)).symm

theorem none_start (s : ByteArray) (more : Nat) : NoneTo s more 1 := fun e' h h' => by omega
theorem none_at_start (s : ByteArray) (more e : Nat) : NoneAt s more e 1 := fun k h h' => by omega
theorem none_at_next {s : ByteArray} {more e n : Nat} (h : NoneAt s more e n) (g : ¬ Rep s more e n) : NoneAt s more e (n + 1) := fun k a b c => by
  by_cases hk : k = n
  · subst hk; exact g
  · exact h k a (by omega) c
theorem none_next {s : ByteArray} {more e n : Nat} (h : NoneTo s more e) (k : NoneAt s more e n) (hn : e < 2 * n + more) : NoneTo s more (e + 1) := fun e' l l' j a b => by
  by_cases he : e' = e
  · subst he; exact k j a (by omega) b
  · exact h e' (by omega) l' j a b

theorem at_extract (s : ByteArray) (a b i : Nat) (h : i < b - a) : at_ (s.extract a b) i = at_ s (a + i) := by
  unfold at_
  rw [Lib.extract_data, List.getD_eq_getElem?_getD, List.getD_eq_getElem?_getD, List.getElem?_take_of_lt h, List.getElem?_drop]

theorem at_get (s : ByteArray) (i : Nat) (h : i < s.size) : s[i]'h = at_ s i := by
  unfold at_
  rw [List.getD_eq_getElem?_getD, List.getElem?_eq_getElem (by rw [← Lib.size_eq]; exact h)]
  rfl
theorem byte_eq (a b : UInt8) : ((a.toNat : Int) == (b.toNat : Int)) = (a == b) := by
  rw [Bool.eq_iff_iff, beq_iff_eq, beq_iff_eq, ← UInt8.toNat_inj]
  omega

/-- Two pieces as lists of letters are the same. -/
theorem pieces (s : ByteArray) (a b c d : Nat) (hb : b ≤ s.size) (hd : d ≤ s.size) (h : b - a = d - c) :
    ((s.extract a b).toList == (s.extract c d).toList) = true ↔ ∀ i, i < b - a → at_ s (a + i) = at_ s (c + i) := by
  have hz : s.size = s.data.toList.length := Lib.size_eq s
  rw [beq_iff_eq, Lib.extract_toList, Lib.extract_toList]
  constructor
  · intro e i hi
    have := congrArg (fun l => l.getD i 0) e
    simp only [List.getD_eq_getElem?_getD] at this
    rw [List.getElem?_take_of_lt hi, List.getElem?_take_of_lt (by omega), List.getElem?_drop, List.getElem?_drop] at this
    unfold at_
    rw [List.getD_eq_getElem?_getD, List.getD_eq_getElem?_getD]
    exact this
  · intro e
    apply List.ext_getElem?
    intro i
    by_cases hi : i < b - a
    · rw [List.getElem?_take_of_lt hi, List.getElem?_take_of_lt (by omega), List.getElem?_drop, List.getElem?_drop]
      have := e i hi
      unfold at_ at this
      rw [List.getD_eq_getElem?_getD, List.getD_eq_getElem?_getD] at this
      rw [List.getElem?_eq_getElem (by omega), List.getElem?_eq_getElem (by omega)] at this ⊢
      simpa using this
    · rw [List.getElem?_eq_none (by simp; omega), List.getElem?_eq_none (by simp; omega)]

/-- 'same': are two pieces the same, letter by letter? -/
def Same (s : ByteArray) (a b n : Nat) : Prop := ∀ k, k < n → at_ s (a + k) = at_ s (b + k)
theorem Same.next {s : ByteArray} {a b i : Nat} (h : Same s a b i) (e : at_ s (a + i) = at_ s (b + i)) : Same s a b (i + 1) := fun k hk => by
  by_cases hki : k = i
  · rw [hki]; exact e
  · exact h k (by omega)

theorem same_rep {s : ByteArray} {more e n : Nat} (h : 2 * n + more ≤ e) :
    Same s ((e : Int) - 2 * n - more).toNat ((e : Int) - 2 * n - more + n).toNat ((n : Int) + more).toNat ↔ Rep s more e n := by
  rw [show ((e : Int) - 2 * n - more).toNat = e - (2 * n + more) from by omega, show ((e : Int) - 2 * n - more + n).toNat = e - (2 * n + more) + n from by omega, show ((n : Int) + more).toNat = n + more from by omega]
  exact Iff.rfl

theorem sq_same (l : ByteArray) (n : Nat) (h : l.size = 2 * n) : ((l.extract 0 n).toList == (l.extract n (2 * n)).toList) = tv (Same l 0 n n) := by
  have hp := pieces l 0 n n (2 * n) (by omega) (by omega) (by omega)
  simp only [Nat.sub_zero] at hp
  by_cases hs : Same l 0 n n
  · rw [tv_yes hs]; exact hp.2 hs
  · rw [tv_no hs]; exact eq_false_of_ne_true (mt hp.1 hs)
theorem ov_no (l : ByteArray) (n : Nat) (h : l.size = 2 * n + 1) (hb : ((l.extract 0 n).toList == (l.extract n (2 * n)).toList) = false) : false = tv (Same l 0 n (n + 1)) := by
  have hp := pieces l 0 n n (2 * n) (by omega) (by omega) (by omega)
  simp only [Nat.sub_zero] at hp
  rw [tv_no]
  intro hs
  rw [hp.2 fun i hi => hs i (by omega)] at hb
  exact absurd hb (by decide)
theorem ov_yes (l : ByteArray) (n : Nat) (h : l.size = 2 * n + 1) (hb : ((l.extract 0 n).toList == (l.extract n (2 * n)).toList) = true) : (at_ l (2 * n) == at_ l 0) = tv (Same l 0 n (n + 1)) := by
  have hp := pieces l 0 n n (2 * n) (by omega) (by omega) (by omega)
  simp only [Nat.sub_zero] at hp
  have hh := hp.1 hb
  -- the letter behind is the first of the second piece, and so the first
  by_cases he : at_ l n = at_ l (2 * n)
  · by_cases h0 : n = 0
    · subst h0
      have hs : Same l 0 0 (0 + 1) := fun k hk => rfl
      rw [tv_yes hs]
      simp
    · have e0 := hh 0 (by omega)
      simp only [Nat.zero_add, Nat.add_zero] at e0
      have hs : Same l 0 n (n + 1) := fun k hk => by
        by_cases hk' : k = n
        · subst hk'; rw [Nat.zero_add, he, Nat.two_mul]
        · exact hh k (by omega)
      rw [tv_yes hs, beq_iff_eq, e0, he]
  · by_cases h0 : n = 0
    · subst h0; exact absurd rfl he
    · have e0 := hh 0 (by omega)
      simp only [Nat.zero_add, Nat.add_zero] at e0
      rw [tv_no (fun hs => he (by have := hs n (by omega); rw [Nat.zero_add, ← Nat.two_mul] at this; exact this))]
      rw [beq_eq_false_iff_ne, e0]
      exact fun x => he x.symm

theorem rep_extract {s : ByteArray} {more e n : Nat} (h : 2 * n + more ≤ e) (he : e ≤ s.size) :
    Same (s.extract (e - (2 * n + more)) e) 0 n (n + more) ↔ Rep s more e n := by
  constructor
  · intro g i hi
    have := g i hi
    rw [at_extract _ _ _ _ (by omega), at_extract _ _ _ _ (by omega), Nat.zero_add, ← Nat.add_assoc] at this
    exact this
  · intro g i hi
    have := g i hi
    rw [at_extract _ _ _ _ (by omega), at_extract _ _ _ _ (by omega)]
    rw [Nat.zero_add, ← Nat.add_assoc]
    exact this

theorem rep_extract0 {s : ByteArray} {e n : Nat} (h : 2 * n ≤ e) (he : e ≤ s.size) :
    Same (s.extract (e - 2 * n) e) 0 n n ↔ Rep s 0 e n := rep_extract (more := 0) h he
theorem ext_size (s : ByteArray) (a b : Nat) (h : b ≤ s.size) : (s.extract a b).size = b - a := by
  rw [ByteArray.size_extract]; omega

end Sq
end Go.Proofs.Ythggpjpmjhaidaa
