/- WALK: counter.read: one line as an instruction, by its fields. -/
import Derived.Test.YtfhhnajnanlmgaaGreatDoorRdK
import Derived.Test.YtfhhnajnanlmgaaGreatDoorRdR
import Derived.Test.YtfhhnajnanlmgaaGreatDoorCrA
namespace Go.Proofs.YtfhhnajnanlmgaaGreatDoor
set_option linter.unusedSimpArgs false
set_option linter.unusedVariables false
open Go.RowKit Go.Shelf
namespace Rd
open Tld Mem Cr

theorem split_any (c : UInt8) (s : ByteArray) (w : World) (hs : s.size ≤ 1048576) (hm : ∃ m, w.cell? ⟨4, 0, none⟩ = some (.int .i64 m)) :
    Calls Tryz.prog 16 #[.string s, .string ⟨#[c]⟩] w fun e w' => ∃ PS : List ByteArray, PS.map (·.data.toList) = segc c s.data.toList ∧ e = .returned (.slice (some ⟨w.heap.size, 0, none⟩) PS.length PS.length) ∧
      Row w' w.heap.size 9 (PS.map Value.string) ∧ Below w.heap.size w w' := by
  obtain ⟨m, hm⟩ := hm
  refine (Tryz.strings_Split s ⟨#[c]⟩ m w (by omega) hm (Nat.le_refl 1)).mono ?_
  rintro e w' ⟨rfl, rfl⟩
  refine ⟨_, split_data c s, ?_, row_alloc w _ _, (Below.refl _ _).alloc (Nat.le_refl _) _⟩
  rw [Lib.splitB_all ⟨#[c]⟩ (Nat.le_refl 1) 0 _ s rfl]
theorem segc_len {c : UInt8} : ∀ {l : List UInt8} {f : List UInt8}, f ∈ segc c l → f.length ≤ l.length
  | [], f, h => by
    unfold segc at h
    rw [List.mem_singleton.1 h]
    exact Nat.le_refl _
  | b :: l, f, h => by
    by_cases hb : b = c
    · subst hb
      rw [segc_hit] at h
      rcases List.mem_cons.1 h with rfl | h
      · exact Nat.zero_le _
      · have := segc_len h
        rw [List.length_cons]; omega
    · rcases hl : segc c l with _ | ⟨g, gs⟩
      · exact absurd hl (segc_ne c l)
      · rw [segc_cons hb hl] at h
        rcases List.mem_cons.1 h with rfl | h
        · have := segc_len (c := c) (l := l) (f := g) (by rw [hl]; exact List.mem_cons_self)
          rw [List.length_cons, List.length_cons]; omega
        · have := segc_len (c := c) (l := l) (f := f) (by rw [hl]; exact List.mem_cons_of_mem _ h)
          rw [List.length_cons]; omega
theorem segc_num {c : UInt8} : ∀ {l : List UInt8}, (segc c l).length ≤ l.length + 1
  | [] => Nat.le_refl _
  | b :: l => by
    by_cases hb : b = c
    · subst hb
      rw [segc_hit]
      have := segc_num (c := b) (l := l)
      simp only [List.length_cons]; omega
    · rcases hl : segc c l with _ | ⟨g, gs⟩
      · exact absurd hl (segc_ne c l)
      · rw [segc_cons hb hl]
        have := segc_num (c := c) (l := l)
        rw [hl] at this
        simp only [List.length_cons] at this ⊢; omega

/-- Does a line's first field and number of fields fit an instruction? -/
def fits (f : List UInt8) (n : Nat) (k : Int) : Prop := f = (wordOf k).data.toList ∧ (n : Int) = numsOf k
theorem fits_none {f : List UInt8} {fs : List (List UInt8)} (h : ∀ k : Nat, 1 ≤ k → k < 4 → ¬ fits f fs.length k) : lineF f fs = none := by
  unfold lineF
  rw [if_neg (fun e => h 1 (by omega) (by omega) ⟨e.1, by rw [e.2]; rfl⟩), if_neg (fun e => h 2 (by omega) (by omega) ⟨e.1, by rw [e.2]; rfl⟩), if_neg (fun e => h 3 (by omega) (by omega) ⟨e.1, by rw [e.2]; rfl⟩)]
def mkI (k : Int) (vs : List Int) : In := ⟨k, vs.getD 0 0, vs.getD 1 0, vs.getD 2 0⟩
theorem getD_len {vs : List Int} {n : Nat} (h : vs.length ≤ n) : vs.getD n 0 = 0 := by
  rw [List.getD_eq_getElem?_getD, List.getElem?_eq_none h]
  rfl
theorem fits_some {f : List UInt8} {fs : List (List UInt8)} {k : Nat} (h1 : 1 ≤ k) (h4 : k < 4) (h : fits f fs.length k) : lineF f fs = (mapF fs).map (mkI k) := by
  obtain ⟨hf, hn⟩ := h
  have hk : k = 1 ∨ k = 2 ∨ k = 3 := by omega
  unfold lineF
  rcases hk with rfl | rfl | rfl
  · have hn2 : fs.length = 2 := by have : numsOf ((1 : Nat) : Int) = 2 := rfl
                                   omega
    rw [if_pos ⟨hf, hn2⟩]
    rcases hm : mapF fs with _ | vs
    · rfl
    · have := mapF_len hm
      show some _ = some _
      unfold mkI
      rw [getD_len (n := 2) (by omega)]
      rfl
  · have hn2 : fs.length = 3 := by have : numsOf ((2 : Nat) : Int) = 3 := rfl
                                   omega
    have hne : ¬ f = [105, 110, 99] := fun e => by rw [hf] at e; revert e; decide
    rw [if_neg (fun e => hne e.1), if_pos ⟨hf, hn2⟩]
    rcases hm : mapF fs with _ | vs <;> rfl
  · have hn2 : fs.length = 0 := by have : numsOf ((3 : Nat) : Int) = 0 := rfl
                                   omega
    have hne : ¬ f = [105, 110, 99] := fun e => by rw [hf] at e; revert e; decide
    have hne2 : ¬ f = [100, 101, 99] := fun e => by rw [hf] at e; revert e; decide
    rw [if_neg (fun e => hne e.1), if_neg (fun e => hne2 e.1), if_pos ⟨hf, hn2⟩]
    have : fs = [] := List.eq_nil_of_length_eq_zero hn2
    subst this
    rfl
/-- One field more. -/
theorem mapF_app : ∀ (fs : List (List UInt8)) (g : List UInt8), mapF (fs ++ [g]) = (mapF fs).bind fun vs => (field g).map fun v => vs ++ [v]
  | [], g => by
    show mapF [g] = _
    unfold mapF mapF
    cases field g <;> rfl
  | f :: fs, g => by
    rw [List.cons_append]
    unfold mapF
    rw [mapF_app fs g]
    cases field f with
    | none => rfl
    | some v =>
      cases mapF fs with
      | none => rfl
      | some vs => cases field g <;> rfl
theorem mapF_none : ∀ {fs : List (List UInt8)} {i : Nat}, i < fs.length → field (fs.getD i []) = none → mapF fs = none
  | f :: fs, 0, _, h => by
    have h : field f = none := h
    unfold mapF
    rw [h]
  | f :: fs, i + 1, hi, h => by
    unfold mapF
    rw [mapF_none (fs := fs) (i := i) (by simpa using hi) (by simpa using h)]
    cases field f <;> rfl
theorem mapF_take {fs : List (List UInt8)} {i : Nat} (hi : i < fs.length) {vs : List Int} {v : Int} (h : mapF (fs.take i) = some vs) (h2 : field (fs.getD i []) = some v) : mapF (fs.take (i + 1)) = some (vs ++ [v]) := by
  rw [List.take_succ_eq_append_getElem hi, mapF_app, h]
  rw [List.getD_eq_getElem?_getD, List.getElem?_eq_getElem hi] at h2
  have h2 : field fs[i] = some v := h2
  rw [h2]
  rfl
def xl (k : Int) (vs : List Int) : List Value := (mkI k vs).l
theorem xl_set {k : Int} {vs : List Int} {i : Nat} (hl : vs.length = i) (hi : i < 3) (v : Int) : (xl k vs).set (1 + i) (.int .i64 v) = xl k (vs ++ [v]) := by
  rcases vs with _ | ⟨a, _ | ⟨b, _ | ⟨c, t⟩⟩⟩
  · subst hl; rfl
  · subst hl; rfl
  · subst hl; rfl
  · simp at hl; omega

def ReadP (w : World) (o : Option In) (e : Ending) (w' : World) : Prop :=
  (match o with
  | some q => e = .returned (.tuple #[q.v, .bool true])
  | none => ∃ q : In, e = .returned (.tuple #[q.v, .bool false])) ∧ Below w.heap.size w w'
theorem read_ret {a : Act} {w w2 : World} {b : Nat} {q : In} {ok : Bool} {o : Option In} (h : Row w2 b 34 q.l) (ha : a.tmps.getD 2 undef = .pointer (some ⟨b, 0, none⟩)) (hq : a.tmps.getD 3 undef = .bool ok) (hd : a.defers = []) (hb : Below w.heap.size w w2) (hs : if ok then o = some q else o = none) :
    bodyPost Tryz.prog Tryz.f17 (ReadP w o) Exit.ret a w2 := by
  have f0 := h.cell 0
  have f1 := h.cell 1
  have f2 := h.cell 2
  have f3 := h.cell 3
  unfold In.l at f0 f1 f2 f3
  dsimp only [List.getElem?_cons_succ, List.getElem?_cons_zero] at f0 f1 f2 f3
  have hP : ReadP w o (.returned (.tuple #[q.v, .bool ok])) w2 := by
    cases ok
    · subst hs
      exact ⟨⟨q, rfl⟩, hb⟩
    · subst hs
      exact ⟨rfl, hb⟩
  refine bodyPost_ret (v := .tuple #[q.v, .bool ok]) ?_ hd hP
  rw [results_cell_tmp rfl, ha, hq]
  unfold In.v
  go_simp
end Rd
end Go.Proofs.YtfhhnajnanlmgaaGreatDoor
