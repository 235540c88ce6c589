/- A machine's text, plain: lines, fields, and what both readings come to. -/
import Derived.Lib.Split
import Derived.Lib.SplitLaws
import Derived.Test.YtfhhnajnanlmgaaGreatDoorRdL
namespace Go.Proofs.YtfhhnajnanlmgaaGreatDoor
set_option linter.unusedSimpArgs false
set_option linter.unusedVariables false
namespace Rd

/-- What stands between bytes c. -/
def segc (c : UInt8) : List UInt8 → List (List UInt8)
  | [] => [[]]
  | b :: r => if b = c then [] :: segc c r else match segc c r with
    | [] => [[b]]
    | f :: fs => (b :: f) :: fs
theorem segc_ne (c : UInt8) : ∀ r, segc c r ≠ []
  | [] => by simp [segc]
  | b :: r => by
    unfold segc
    split
    · simp
    · split <;> simp
theorem sp_segc : ∀ r, sp r = segc 32 r
  | [] => rfl
  | b :: r => by unfold sp segc; rw [sp_segc r]; split <;> (first | rfl | (cases segc 32 r <;> rfl))
theorem segc_hit (c : UInt8) (r : List UInt8) : segc c (c :: r) = [] :: segc c r := by
  conv => lhs; unfold segc
  rw [if_pos rfl]
theorem segc_cons {c b : UInt8} (h : b ≠ c) {r f : List UInt8} {fs : List (List UInt8)} (hr : segc c r = f :: fs) : segc c (b :: r) = (b :: f) :: fs := by
  conv => lhs; unfold segc
  rw [if_neg h, hr]
theorem segc_app {c : UInt8} : ∀ {ds : List UInt8}, (∀ b ∈ ds, b ≠ c) → ∀ r, segc c (ds ++ c :: r) = ds :: segc c r
  | [], _, r => segc_hit c r
  | b :: ds, h, r => segc_cons (h b List.mem_cons_self) (segc_app (fun x hx => h x (List.mem_cons_of_mem _ hx)) r)
theorem segc_all {c : UInt8} : ∀ {ds : List UInt8}, (∀ b ∈ ds, b ≠ c) → segc c ds = [ds]
  | [], _ => rfl
  | b :: ds, h => segc_cons (h b List.mem_cons_self) (segc_all (fun x hx => h x (List.mem_cons_of_mem _ hx)))
theorem segc_parts {c : UInt8} : ∀ {l f : List UInt8} {fs : List (List UInt8)}, segc c l = f :: fs → (∀ b ∈ f, b ≠ c) ∧ ((fs = [] ∧ l = f) ∨ ∃ r, l = f ++ c :: r ∧ segc c r = fs)
  | [], f, fs, h => by
    unfold segc at h
    cases h
    exact ⟨fun b hb => (by cases hb), .inl ⟨rfl, rfl⟩⟩
  | b :: l, f, fs, h => by
    by_cases hb : b = c
    · subst hb
      rw [segc_hit] at h
      cases h
      exact ⟨fun b hb => (by cases hb), .inr ⟨l, rfl, rfl⟩⟩
    · rcases hl : segc c l with _ | ⟨g, gs⟩
      · exact absurd hl (segc_ne c l)
      · rw [segc_cons hb hl] at h
        cases h
        obtain ⟨h1, h2⟩ := segc_parts hl
        refine ⟨fun x hx => ?_, ?_⟩
        · rcases List.mem_cons.1 hx with rfl | hx
          · exact hb
          · exact h1 x hx
        · rcases h2 with ⟨rfl, rfl⟩ | ⟨r, rfl, h3⟩
          · exact .inl ⟨rfl, rfl⟩
          · exact .inr ⟨r, rfl, h3⟩

/-! ### strings.Split by one byte -/
theorem index_hit (c : UInt8) (l : List UInt8) : Lib.index (c :: l) [c] = 0 := by
  unfold Lib.index
  rw [if_pos (by simp [List.isPrefixOf])]
theorem index_next {c b : UInt8} (h : b ≠ c) (l : List UInt8) : Lib.index (b :: l) [c] = if Lib.index l [c] == -1 then -1 else Lib.index l [c] + 1 := by
  conv => lhs; unfold Lib.index
  rw [if_neg]
  simp [List.isPrefixOf]
  exact fun e => h e.symm
theorem splitK_segc (c : UInt8) : ∀ l : List UInt8, Lib.splitK [c] 0 (Lib.count l [c]) l = segc c l
  | [] => by
    have : Lib.count [] [c] = 0 := Lib.count_miss (by unfold Lib.index; rfl)
    rw [this]
    rfl
  | b :: l => by
    have ih := splitK_segc c l
    by_cases hb : b = c
    · subst hb
      have h0 := index_hit b l
      have hc : Lib.count (b :: l) [b] = Lib.count l [b] + 1 := by
        rw [Lib.count_hit (i := 0) (by simp) h0, Nat.add_comm]
        rfl
      rw [hc, segc_hit, ← ih]
      conv => lhs; unfold Lib.splitK
      rw [if_neg (by rw [h0]; decide), h0]
      rfl
    · by_cases hm : Lib.index l [c] = -1
      · have h0 : Lib.index (b :: l) [c] = -1 := by rw [index_next hb, hm]; rfl
        have hc : Lib.count l [c] = 0 := Lib.count_miss hm
        rw [Lib.count_miss h0]
        rw [hc] at ih
        have : segc c l = l :: [] := ih.symm
        rw [segc_cons hb this]
        rfl
      · obtain ⟨i, hi⟩ : ∃ i : Nat, Lib.index l [c] = i := ⟨(Lib.index l [c]).toNat, by have := Lib.index_ge l [c]; omega⟩
        have hmb : (Lib.index l [c] == -1) = false := by rw [beq_eq_false_iff_ne]; exact hm
        have h0 : Lib.index (b :: l) [c] = ((i + 1 : Nat) : Int) := by rw [index_next hb, hmb, hi]; rfl
        have hc : Lib.count l [c] = Lib.count (l.drop (i + 1)) [c] + 1 := by
          rw [Lib.count_hit (by simp) hi, Nat.add_comm]
          rfl
        have hc2 : Lib.count (b :: l) [c] = Lib.count (l.drop (i + 1)) [c] + 1 := by
          rw [Lib.count_hit (by simp) h0, Nat.add_comm]
          rfl
        rw [hc] at ih
        rw [hc2]
        generalize Lib.count (l.drop (i + 1)) [c] = k at *
        have e1 : segc c l = l.take i :: Lib.splitK [c] 0 k (l.drop (i + 1)) := by
          rw [← ih]
          conv => lhs; unfold Lib.splitK
          rw [hmb, if_neg (by decide), hi]
          rfl
        rw [segc_cons hb e1]
        conv => lhs; unfold Lib.splitK
        have hm2 : ((((i + 1 : Nat) : Int)) == -1) = false := by rw [beq_eq_false_iff_ne]; omega
        rw [h0, hm2, if_neg (by decide)]
        rfl
theorem split_data (c : UInt8) (s : ByteArray) : (Lib.splitB ⟨#[c]⟩ 0 (Lib.countB s ⟨#[c]⟩) s).map (·.data.toList) = segc c s.data.toList := by
  rw [Lib.splitB_data]
  exact splitK_segc c s.data.toList

/-! ### a line by its fields -/
theorem mapF_len : ∀ {fs : List (List UInt8)} {vs : List Int}, mapF fs = some vs → vs.length = fs.length
  | [], vs, h => by unfold mapF at h; cases h; rfl
  | f :: fs, vs, h => by
    unfold mapF at h
    split at h
    · cases h
    · rcases hm : mapF fs with _ | us
      · rw [hm] at h; cases h
      · rw [hm] at h
        cases h
        simp [mapF_len hm]
theorem numsR_ne {b : UInt8} (h : b ≠ 32) (r : List UInt8) : numsR (b :: r) = none := by unfold numsR; rw [if_neg h]
/-- The line by its fields. -/
def lineF (f : List UInt8) (fs : List (List UInt8)) : Option In :=
  if f = [105, 110, 99] ∧ fs.length = 2 then (mapF fs).map fun vs => ⟨1, vs.getD 0 0, vs.getD 1 0, 0⟩
  else if f = [100, 101, 99] ∧ fs.length = 3 then (mapF fs).map fun vs => ⟨2, vs.getD 0 0, vs.getD 1 0, vs.getD 2 0⟩
  else if f = [104, 97, 108, 116] ∧ fs.length = 0 then some ⟨3, 0, 0, 0⟩
  else none
theorem lineR_tail {l : List UInt8} (h1 : l ≠ [104, 97, 108, 116]) (h2 : ¬ (l.take 3 = [105, 110, 99] ∨ l.take 3 = [100, 101, 99])) : lineR l = none := by
  unfold lineR
  rw [if_neg h1]
  split
  · rfl
  · split
    · rfl
    · rw [if_neg (fun h => h2 (.inl h.1)), if_neg (fun h => h2 (.inr h.1))]
theorem lineR_nums {l : List UInt8} (h1 : l ≠ [104, 97, 108, 116]) (h2 : numsR (l.drop 3) = none) : lineR l = none := by
  unfold lineR
  rw [if_neg h1, h2]
  split <;> rfl
theorem lineR_F {l f : List UInt8} {fs : List (List UInt8)} (h : segc 32 l = f :: fs) : lineR l = lineF f fs := by
  obtain ⟨hf, hh⟩ := segc_parts h
  rcases hh with ⟨rfl, rfl⟩ | ⟨r, rfl, hr⟩
  · unfold lineF
    rw [if_neg (fun e => by have := e.2; simp at this), if_neg (fun e => by have := e.2; simp at this)]
    by_cases hl : l = [104, 97, 108, 116]
    · rw [if_pos ⟨hl, rfl⟩]
      unfold lineR
      rw [if_pos hl]
    · rw [if_neg (fun e => hl e.1)]
      rcases hd : l.drop 3 with _ | ⟨b, t⟩
      · unfold lineR
        rw [if_neg hl, hd]
        split
        · rfl
        · have : numsR [] = some [] := by unfold numsR; rfl
          rw [this]
          simp
      · refine lineR_nums hl ?_
        rw [hd]
        refine numsR_ne (hf b ?_) t
        have : b ∈ l.drop 3 := by rw [hd]; exact List.mem_cons_self
        exact List.mem_of_mem_drop this
  · have h32 : f ++ 32 :: r ≠ [104, 97, 108, 116] := fun e => by
      have : (32 : UInt8) ∈ f ++ 32 :: r := List.mem_append_right _ List.mem_cons_self
      rw [e] at this
      revert this
      decide
    have hfs : fs.length ≠ 0 := fun e => segc_ne 32 r (by rw [hr]; exact List.eq_nil_of_length_eq_zero e)
    by_cases h3 : f.length = 3
    · have ht : (f ++ 32 :: r).take 3 = f := by rw [← h3]; exact List.take_left
      have hd : (f ++ 32 :: r).drop 3 = 32 :: r := by rw [← h3]; exact List.drop_left
      have hn : numsR (32 :: r) = mapF fs := by rw [numsR_sp r.length r (Nat.le_refl _), sp_segc, hr]
      unfold lineR lineF
      rw [if_neg h32, if_neg (by simp; omega), hd, hn, ht]
      rcases hm : mapF fs with _ | vs
      · dsimp only
        split
        · rfl
        · split
          · rfl
          · rw [if_neg (fun e => hfs e.2)]
      · have hl := mapF_len hm
        dsimp only
        rw [hl]
        split
        · rfl
        · split
          · rfl
          · rw [if_neg (fun e => hfs e.2)]
    · have hF : lineF f fs = none := by
        unfold lineF
        rw [if_neg (fun e => h3 (by rw [e.1]; rfl)), if_neg (fun e => h3 (by rw [e.1]; rfl)), if_neg (fun e => hfs e.2)]
      rw [hF]
      by_cases hlt : f.length < 3
      · refine lineR_tail h32 ?_
        have : (32 : UInt8) ∈ (f ++ 32 :: r).take 3 := by
          rw [List.take_append]
          apply List.mem_append_right
          obtain ⟨k, hk⟩ : ∃ k, 3 - f.length = k + 1 := ⟨2 - f.length, by omega⟩
          rw [hk, List.take_succ_cons]
          exact List.mem_cons_self
        rintro (e | e) <;> (rw [e] at this; revert this; decide)
      · refine lineR_nums h32 ?_
        rw [List.drop_append_of_le_length (by omega)]
        rcases hd : f.drop 3 with _ | ⟨b, t⟩
        · have := congrArg List.length hd
          rw [List.length_drop, List.length_nil] at this
          omega
        · refine numsR_ne (hf b ?_) _
          have : b ∈ f.drop 3 := by rw [hd]; exact List.mem_cons_self
          exact List.mem_of_mem_drop this

/-! ### lines -/
/-- How many lines were read, and what of them; none: a line is wrong. -/
def parseF : List (List UInt8) → List In → Nat × Option (List In)
  | [], acc => (acc.length, none)
  | [last], acc => (acc.length, if last = [] then some acc else none)
  | f :: g :: fs, acc => match lineR f with
    | none => (acc.length, none)
    | some q => parseF (g :: fs) (acc ++ [q])
theorem parseF_last (last : List UInt8) (acc : List In) : parseF [last] acc = (acc.length, if last = [] then some acc else none) := rfl
theorem parseF_bad {f : List UInt8} {fs : List (List UInt8)} (hfs : fs ≠ []) (h : lineR f = none) (acc : List In) : parseF (f :: fs) acc = (acc.length, none) := by
  rcases fs with _ | ⟨g, fs⟩
  · exact absurd rfl hfs
  · unfold parseF; rw [h]
theorem parseF_next {f : List UInt8} {fs : List (List UInt8)} (hfs : fs ≠ []) {q : In} (h : lineR f = some q) (acc : List In) : parseF (f :: fs) acc = parseF fs (acc ++ [q]) := by
  rcases fs with _ | ⟨g, fs⟩
  · exact absurd rfl hfs
  · conv => lhs; unfold parseF
    rw [h]
/-- Lines by places. -/
theorem seg_line {c : UInt8} {l : List UInt8} {a i : Nat} (h1 : a ≤ i) (h2 : i < l.length) (hc : l.getD i 0 = c) (h : ∀ b ∈ (l.take i).drop a, b ≠ c) : segc c (l.drop a) = (l.take i).drop a :: segc c (l.drop (i + 1)) := by
  have e : l.drop a = (l.take i).drop a ++ c :: l.drop (i + 1) := by
    rw [List.getD_eq_getElem?_getD, List.getElem?_eq_getElem h2] at hc
    have hc2 : l[i] = c := hc
    rw [← hc2, ← List.drop_eq_getElem_cons h2]
    have := List.take_append_drop i l
    conv => lhs; rw [← this]
    rw [List.drop_append_of_le_length (by rw [List.length_take]; omega)]
  rw [e]
  exact segc_app h _
theorem seg_end {c : UInt8} {l : List UInt8} {a : Nat} (h : ∀ b ∈ (l.take l.length).drop a, b ≠ c) : segc c (l.drop a) = [l.drop a] := by
  rw [List.take_length] at h
  exact segc_all h
theorem none_next {c : UInt8} {l : List UInt8} {a i : Nat} (h1 : a ≤ i) (h2 : i < l.length) (hc : l.getD i 0 ≠ c) (h : ∀ b ∈ (l.take i).drop a, b ≠ c) : ∀ b ∈ (l.take (i + 1)).drop a, b ≠ c := by
  rw [List.take_succ_eq_append_getElem h2, List.drop_append_of_le_length (by rw [List.length_take]; omega)]
  intro b hb
  rcases List.mem_append.1 hb with hb | hb
  · exact h b hb
  · rw [List.mem_singleton.1 hb]
    rw [List.getD_eq_getElem?_getD, List.getElem?_eq_getElem h2] at hc
    exact hc
def insL (zs : List In) : List Value := zs.flatMap In.l
theorem insL_next (zs : List In) (q : In) : insL (zs ++ [q]) = insL zs ++ q.l := by unfold insL; rw [List.flatMap_append]; simp
def insF (zs : List In) (i j : Nat) : Int := match j with
  | 0 => (zs.getD i ⟨0, 0, 0, 0⟩).op
  | 1 => (zs.getD i ⟨0, 0, 0, 0⟩).a
  | 2 => (zs.getD i ⟨0, 0, 0, 0⟩).t
  | _ => (zs.getD i ⟨0, 0, 0, 0⟩).e
theorem insL_len : ∀ zs : List In, (insL zs).length = 4 * zs.length
  | [] => rfl
  | q :: zs => by
    have := insL_len zs
    unfold insL at this ⊢
    rw [List.flatMap_cons, List.length_append, this]
    show 4 + _ = _
    rw [List.length_cons]
    omega
theorem insL_get : ∀ (zs : List In) (i j : Nat), i < zs.length → j < 4 → (insL zs)[i * 4 + j]? = some (.int .i64 (insF zs i j))
  | q :: zs, 0, j, _, hj => by
    have e : insL (q :: zs) = q.l ++ insL zs := by unfold insL; rw [List.flatMap_cons]
    rw [e, Nat.zero_mul, Nat.zero_add, List.getElem?_append_left (by exact hj)]
    match j, hj with
    | 0, _ => rfl
    | 1, _ => rfl
    | 2, _ => rfl
    | 3, _ => rfl
  | q :: zs, i + 1, j, h, hj => by
    have e : insL (q :: zs) = q.l ++ insL zs := by unfold insL; rw [List.flatMap_cons]
    rw [e, List.getElem?_append_right (by show 4 ≤ _; omega), show (i + 1) * 4 + j - (q.l).length = i * 4 + j by show _ - 4 = _; omega]
    rw [insL_get zs i j (by simpa using h) hj]
    rfl
end Rd
end Go.Proofs.YtfhhnajnanlmgaaGreatDoor
