/- PLAIN (no program in sight): words that grow: letters, rounds, counts. -/
import Derived.WalkKit
import Derived.Lib.Strings
namespace Go.Proofs.Ythggpjpmjhaidaa
namespace Gr

/-- Is a byte one of the first n letters? -/
def isLetter (n : Nat) (c : UInt8) : Bool := decide (97 ≤ c.toNat) && decide (c.toNat < 97 + n)
def letters (n : Nat) (l : List UInt8) : Bool := l.all (isLetter n)

theorem getD_mem {l : List UInt8} {k : Nat} (h : k < l.length) : l.getD k 0 ∈ l := by
  rw [List.getD_eq_getElem?_getD, List.getElem?_eq_getElem h]; exact List.getElem_mem h
theorem take_snoc {l : List UInt8} {k : Nat} (h : k < l.length) : l.take (k + 1) = l.take k ++ [l.getD k 0] := by
  rw [List.take_succ_eq_append_getElem h, List.getD_eq_getElem?_getD, List.getElem?_eq_getElem h]; rfl
theorem get_getD (s : ByteArray) (i : Nat) (h : i < s.size) : s[i]'h = s.data.toList.getD i 0 := by
  rw [List.getD_eq_getElem?_getD, List.getElem?_eq_getElem (by rw [← Lib.size_eq]; exact h)]
  rfl
theorem letters_snoc {n : Nat} {l : List UInt8} {k : Nat} (h : k < l.length) (hl : letters n (l.take k) = true) (hc : isLetter n (l.getD k 0) = true) : letters n (l.take (k + 1)) = true := by
  unfold letters at *
  rw [take_snoc h, List.all_append, hl]
  simpa using hc
theorem letters_no {n : Nat} {l : List UInt8} {k : Nat} (h : k < l.length) (hc : isLetter n (l.getD k 0) = false) : letters n l = false := by
  unfold letters
  rw [List.all_eq_false]
  exact ⟨_, getD_mem h, by rw [hc]; exact Bool.false_ne_true⟩

/-- What is wrong with words: the first fault. -/
def faults (n : Nat) : List ByteArray → Int
  | [] => 0
  | s :: r => if 12 < s.size then 4 else if letters n s.data.toList then faults n r else 2
/-- What is wrong with a substitution. -/
def images (ss : List ByteArray) : Int := if ss.length < 1 ∨ 8 < ss.length then 1 else faults ss.length ss
/-- .. with it, a word, and rounds. -/
def fault (ss : List ByteArray) (word : ByteArray) (n : Int) : Int :=
  if images ss ≠ 0 then images ss else if 40000 < word.size then 4 else if letters ss.length word.data.toList = false then 2 else if n < 0 ∨ 60 < n then 1 else 0

theorem drop_cons {ss : List ByteArray} {k : Nat} (h : k < ss.length) : ss.drop k = ss.getD k ByteArray.empty :: ss.drop (k + 1) := by
  rw [List.drop_eq_getElem_cons h, List.getD_eq_getElem?_getD, List.getElem?_eq_getElem h]; rfl
theorem faults_long {n : Nat} {ss : List ByteArray} {k : Nat} (h : k < ss.length) (hf : faults n ss = faults n (ss.drop k)) (hs : 12 < (ss.getD k ByteArray.empty).size) : faults n ss = 4 := by
  rw [hf, drop_cons h, faults, if_pos hs]
theorem faults_bad {n : Nat} {ss : List ByteArray} {k : Nat} (h : k < ss.length) (hf : faults n ss = faults n (ss.drop k)) (hs : ¬ 12 < (ss.getD k ByteArray.empty).size) (hl : letters n (ss.getD k ByteArray.empty).data.toList = false) : faults n ss = 2 := by
  rw [hf, drop_cons h, faults, if_neg hs, if_neg (by rw [hl]; exact Bool.false_ne_true)]
theorem faults_next {n : Nat} {ss : List ByteArray} {k : Nat} (h : k < ss.length) (hf : faults n ss = faults n (ss.drop k)) (hs : ¬ 12 < (ss.getD k ByteArray.empty).size) (hl : letters n (ss.getD k ByteArray.empty).data.toList = true) : faults n ss = faults n (ss.drop (k + 1)) := by
  rw [hf, drop_cons h, faults, if_neg hs, if_pos hl]
theorem faults_end {n : Nat} {ss : List ByteArray} {k : Nat} (h : ss.length ≤ k) (hf : faults n ss = faults n (ss.drop k)) : faults n ss = 0 := by
  rw [hf, List.drop_of_length_le h, faults]
theorem images_range {ss : List ByteArray} (h : ss.length < 1 ∨ 8 < ss.length) : images ss = 1 := if_pos h
theorem images_faults {ss : List ByteArray} (h1 : 1 ≤ ss.length) (h2 : ss.length ≤ 8) : images ss = faults ss.length ss := if_neg (by omega)

theorem fault_images {ss : List ByteArray} {word : ByteArray} {n : Int} (h : images ss ≠ 0) : fault ss word n = images ss := if_pos h
theorem fault_long {ss : List ByteArray} {word : ByteArray} {n : Int} (h : images ss = 0) (h1 : 40000 < word.size) : fault ss word n = 4 := by
  unfold fault; rw [if_neg (fun g => g h), if_pos h1]
theorem fault_letters {ss : List ByteArray} {word : ByteArray} {n : Int} (h : images ss = 0) (h1 : ¬ 40000 < word.size) (h2 : letters ss.length word.data.toList = false) : fault ss word n = 2 := by
  unfold fault; rw [if_neg (fun g => g h), if_neg h1, if_pos h2]
theorem fault_range {ss : List ByteArray} {word : ByteArray} {n : Int} (h : images ss = 0) (h1 : ¬ 40000 < word.size) (h2 : letters ss.length word.data.toList = true) (h3 : n < 0 ∨ 60 < n) : fault ss word n = 1 := by
  unfold fault; rw [if_neg (fun g => g h), if_neg h1, if_neg (by rw [h2]; decide), if_pos h3]
theorem fault_none {ss : List ByteArray} {word : ByteArray} {n : Int} (h : images ss = 0) (h1 : ¬ 40000 < word.size) (h2 : letters ss.length word.data.toList = true) (h3 : ¬ (n < 0 ∨ 60 < n)) : fault ss word n = 0 := by
  unfold fault; rw [if_neg (fun g => g h), if_neg h1, if_neg (by rw [h2]; decide), if_neg h3]
theorem fault_zero {ss : List ByteArray} {word : ByteArray} {n : Int} (h : fault ss word n = 0) : images ss = 0 ∧ word.size ≤ 40000 ∧ letters ss.length word.data.toList = true ∧ 0 ≤ n ∧ n ≤ 60 := by
  unfold fault at h
  split at h
  · exact absurd h (by assumption)
  split at h
  · cases h
  split at h
  · cases h
  split at h
  · cases h
  rename_i a b c d
  refine ⟨Decidable.of_not_not a, by omega, by simpa using c, by omega, by omega⟩
theorem images_le {ss : List ByteArray} (h : images ss = 0) : 1 ≤ ss.length ∧ ss.length ≤ 8 := by
  unfold images at h
  split at h
  · cases h
  · omega

/-- What a letter becomes. -/
def image (ss : List ByteArray) (c : UInt8) : List UInt8 := (ss.getD (c.toNat - 97) ByteArray.empty).data.toList
/-- A round. -/
def roundW (ss : List ByteArray) (l : List UInt8) : List UInt8 := l.flatMap (image ss)
/-- n rounds, as long as none is too long. -/
def growTo (ss : List ByteArray) : Nat → List UInt8 → Option (List UInt8)
  | 0, l => some l
  | n + 1, l => if 40000 < (roundW ss l).length then none else growTo ss n (roundW ss l)

theorem faults_mem {n : Nat} : ∀ {ss : List ByteArray}, faults n ss = 0 → ∀ s ∈ ss, s.size ≤ 12 ∧ letters n s.data.toList = true
  | [], _, s, hs => by simp at hs
  | t :: r, h, s, hs => by
    unfold faults at h
    split at h
    · cases h
    split at h
    · rename_i h1 h2
      rcases List.mem_cons.1 hs with rfl | hs
      · exact ⟨by omega, h2⟩
      · exact faults_mem h s hs
    · cases h
theorem images_mem {ss : List ByteArray} (h : images ss = 0) : ∀ s ∈ ss, s.size ≤ 12 ∧ letters ss.length s.data.toList = true := by
  unfold images at h
  split at h
  · cases h
  · exact faults_mem h
theorem getD_mem_ss {ss : List ByteArray} {k : Nat} (h : k < ss.length) : ss.getD k ByteArray.empty ∈ ss := by
  rw [List.getD_eq_getElem?_getD, List.getElem?_eq_getElem h]; exact List.getElem_mem h
theorem isLetter_lt {n : Nat} {c : UInt8} (h : isLetter n c = true) : 97 ≤ c.toNat ∧ c.toNat - 97 < n := by
  unfold isLetter at h; simp at h; omega
theorem image_letters {ss : List ByteArray} (h : images ss = 0) {c : UInt8} (hc : isLetter ss.length c = true) : letters ss.length (image ss c) = true := (images_mem h _ (getD_mem_ss (isLetter_lt hc).2)).2
theorem image_length {ss : List ByteArray} (h : images ss = 0) {c : UInt8} (hc : isLetter ss.length c = true) : (image ss c).length ≤ 12 := by
  have := (images_mem h _ (getD_mem_ss (isLetter_lt hc).2)).1
  unfold image
  rw [Lib.size_eq] at this
  exact this
theorem letters_mem {n : Nat} {l : List UInt8} (h : letters n l = true) {c : UInt8} (hc : c ∈ l) : isLetter n c = true := List.all_eq_true.1 h c hc
theorem round_letters {ss : List ByteArray} (h : images ss = 0) {l : List UInt8} (hl : letters ss.length l = true) : letters ss.length (roundW ss l) = true := by
  unfold letters roundW
  rw [List.all_eq_true]
  intro c hc
  obtain ⟨d, hd, hcd⟩ := List.mem_flatMap.1 hc
  exact letters_mem (image_letters h (letters_mem hl hd)) hcd
theorem round_length {ss : List ByteArray} (h : images ss = 0) : ∀ {l : List UInt8}, letters ss.length l = true → (roundW ss l).length ≤ 12 * l.length
  | [], _ => by simp [roundW]
  | c :: r, hl => by
    have h1 := image_length h (letters_mem hl (List.mem_cons_self ..))
    have h2 := round_length h (l := r) (by unfold letters at *; simp at hl; simpa using hl.2)
    simp only [roundW, List.flatMap_cons, List.length_append, List.length_cons] at *
    omega
theorem round_take {ss : List ByteArray} {l : List UInt8} {k : Nat} (h : k < l.length) : roundW ss (l.take (k + 1)) = roundW ss (l.take k) ++ image ss (l.getD k 0) := by
  unfold roundW
  rw [take_snoc h, List.flatMap_append]
  simp
theorem letters_take {n : Nat} {l : List UInt8} (h : letters n l = true) (k : Nat) : letters n (l.take k) = true := by
  unfold letters at *
  rw [List.all_eq_true] at *
  intro c hc
  exact h c (List.mem_of_mem_take hc)
theorem grow_next {ss : List ByteArray} {n i : Nat} {l : List UInt8} (hi : i < n) (h : ¬ 40000 < (roundW ss l).length) : growTo ss (n - i) l = growTo ss (n - (i + 1)) (roundW ss l) := by
  obtain ⟨m, hm⟩ : ∃ m, n - i = m + 1 := ⟨n - i - 1, by omega⟩
  rw [hm, growTo, if_neg h]
  congr 1
  omega
theorem grow_full {ss : List ByteArray} {n i : Nat} {l : List UInt8} (hi : i < n) (h : 40000 < (roundW ss l).length) : growTo ss (n - i) l = none := by
  obtain ⟨m, hm⟩ : ∃ m, n - i = m + 1 := ⟨n - i - 1, by omega⟩
  rw [hm, growTo, if_pos h]

theorem mk_toList (l : List UInt8) : (⟨l.toArray⟩ : ByteArray).data.toList = l := rfl
theorem round_all {ss : List ByteArray} {s : ByteArray} {j : Nat} (h : s.size ≤ j) : roundW ss (s.data.toList.take j) = roundW ss s.data.toList := by
  rw [List.take_of_length_le (by rw [← Lib.size_eq]; exact h)]

/-! ### counts of letters -/
/-- How many of the letter i. -/
def cnt (l : List UInt8) (i : Nat) : Nat := l.countP fun c => c.toNat == 97 + i
/-- Eight numbers as cells. -/
def arr (f : Nat → Nat) : List Value := (List.range 8).map fun i => Value.int .i64 (f i : Nat)
theorem arr_length (f : Nat → Nat) : (arr f).length = 8 := by simp [arr]
theorem arr_get (f : Nat → Nat) {i : Nat} (h : i < 8) : (arr f)[i]? = some (.int .i64 (f i : Nat)) := by
  unfold arr
  rw [List.getElem?_map, List.getElem?_range h]; rfl
theorem arr_set (f g : Nat → Nat) {i : Nat} (hi : i < 8) (h : ∀ j, j ≠ i → g j = f j) : (arr f).set i (.int .i64 (g i : Nat)) = arr g := by
  apply List.ext_getElem?
  intro j
  by_cases hj : j < 8
  · rw [arr_get g hj, List.getElem?_set]
    split
    · rename_i e
      subst e
      rw [arr_length, if_pos hi]
    · rename_i e
      rw [arr_get f hj, h j (fun x => e x.symm)]
  · rw [List.getElem?_eq_none (by simp [arr_length]; omega), List.getElem?_eq_none (by rw [arr_length]; omega)]
theorem arr_one (f : Nat → Nat) : ∀ v ∈ arr f, v.oneCell' = true := by
  intro v hv
  obtain ⟨i, _, rfl⟩ := List.mem_map.1 hv
  rfl
theorem cnt_snoc (l : List UInt8) (x : UInt8) (i : Nat) : cnt (l ++ [x]) i = cnt l i + if x.toNat = 97 + i then 1 else 0 := by
  unfold cnt
  rw [List.countP_append]
  simp
theorem cnt_le (l : List UInt8) (i : Nat) : cnt l i ≤ l.length := List.countP_le_length
theorem arr_snoc (l : List UInt8) (x : UInt8) (h : 97 ≤ x.toNat) (h8 : x.toNat - 97 < 8) : (arr (cnt l)).set (x.toNat - 97) (.int .i64 ((cnt l (x.toNat - 97) : Int) + 1)) = arr (cnt (l ++ [x])) := by
  have := arr_set (cnt l) (cnt (l ++ [x])) h8 (fun j hj => by rw [cnt_snoc, if_neg (by omega)]; rfl)
  rw [← this, cnt_snoc, if_pos (by omega)]
  rfl

/-- The word of the letter i. -/
def img (ss : List ByteArray) (i : Nat) : List UInt8 := (ss.getD i ByteArray.empty).data.toList
/-- Counts behind a round over the first n letters, f of each; and how long the words are together. -/
def sumC (ss : List ByteArray) (f : Nat → Nat) : Nat → Nat → Nat
  | 0, _ => 0
  | i + 1, k => sumC ss f i k + f i * cnt (img ss i) k
def sumL (ss : List ByteArray) (f : Nat → Nat) : Nat → Nat
  | 0 => 0
  | i + 1 => sumL ss f i + f i * (img ss i).length
theorem sumC_le (ss : List ByteArray) (f : Nat → Nat) : ∀ (i k : Nat), sumC ss f i k ≤ sumL ss f i
  | 0, _ => Nat.le_refl _
  | i + 1, k => Nat.add_le_add (sumC_le ss f i k) (Nat.mul_le_mul_left _ (cnt_le _ _))
theorem sumL_mono (ss : List ByteArray) (f : Nat → Nat) {i n : Nat} (h : i ≤ n) : sumL ss f i ≤ sumL ss f n := by
  induction h with
  | refl => exact Nat.le_refl _
  | step _ ih => exact Nat.le_trans ih (Nat.le_add_right _ _)
/-- .. within the word of i, behind t letters. -/
def midC (ss : List ByteArray) (f : Nat → Nat) (i t k : Nat) : Nat := sumC ss f i k + f i * cnt ((img ss i).take t) k
def midL (ss : List ByteArray) (f : Nat → Nat) (i t : Nat) : Nat := sumL ss f i + f i * t
theorem midC_zero (ss : List ByteArray) (f : Nat → Nat) (i : Nat) : midC ss f i 0 = sumC ss f i := by
  funext k; simp [midC, cnt]
theorem midL_zero (ss : List ByteArray) (f : Nat → Nat) (i : Nat) : midL ss f i 0 = sumL ss f i := by simp [midL]
theorem midC_end (ss : List ByteArray) (f : Nat → Nat) {i t : Nat} (h : (img ss i).length ≤ t) : midC ss f i t = sumC ss f (i + 1) := by
  funext k; simp [midC, sumC, List.take_of_length_le h]
theorem midL_end (ss : List ByteArray) (f : Nat → Nat) {i t : Nat} (h : (img ss i).length = t) : midL ss f i t = sumL ss f (i + 1) := by
  simp [midL, sumL, h]
theorem midL_next (ss : List ByteArray) (f : Nat → Nat) (i t : Nat) : midL ss f i (t + 1) = midL ss f i t + f i := by
  simp [midL, Nat.mul_add, Nat.add_assoc]
theorem midC_le (ss : List ByteArray) (f : Nat → Nat) (i t k : Nat) : midC ss f i t k ≤ midL ss f i t :=
  Nat.add_le_add (sumC_le ss f i k) (Nat.mul_le_mul_left _ (Nat.le_trans (cnt_le _ _) (List.length_take_le _ _)))
theorem midL_le (ss : List ByteArray) (f : Nat → Nat) {i t n : Nat} (hi : i < n) (ht : t ≤ (img ss i).length) : midL ss f i t ≤ sumL ss f n :=
  Nat.le_trans (Nat.add_le_add_left (Nat.mul_le_mul_left _ ht) _) (sumL_mono ss f (i := i + 1) hi)
theorem midC_next (ss : List ByteArray) (f : Nat → Nat) {i t : Nat} (ht : t < (img ss i).length) (h : 97 ≤ ((img ss i).getD t 0).toNat) (h8 : ((img ss i).getD t 0).toNat - 97 < 8) :
    (arr (midC ss f i t)).set (((img ss i).getD t 0).toNat - 97) (.int .i64 ((midC ss f i t (((img ss i).getD t 0).toNat - 97) : Int) + (f i : Int))) = arr (midC ss f i (t + 1)) := by
  have hn : ∀ k, midC ss f i (t + 1) k = midC ss f i t k + f i * (if ((img ss i).getD t 0).toNat = 97 + k then 1 else 0) := fun k => by
    unfold midC
    rw [take_snoc ht, cnt_snoc, Nat.mul_add, Nat.add_assoc]
  have := arr_set (midC ss f i t) (midC ss f i (t + 1)) h8 (fun j hj => by rw [hn, if_neg (by omega)]; simp)
  rw [← this, hn, if_pos (by omega)]
  simp
/-- The most letters that are counted. -/
def most : Nat := 1000000000000000000

/-- n rounds of counts, as long as there are not too many letters. -/
def countTo (ss : List ByteArray) : Nat → (Nat → Nat) → Option (Nat → Nat)
  | 0, f => some f
  | n + 1, f => if most < sumL ss f ss.length then none else countTo ss n (sumC ss f ss.length)
theorem count_next {ss : List ByteArray} {n i : Nat} {f : Nat → Nat} (hi : i < n) (h : sumL ss f ss.length ≤ most) : countTo ss (n - i) f = countTo ss (n - (i + 1)) (sumC ss f ss.length) := by
  obtain ⟨m, hm⟩ : ∃ m, n - i = m + 1 := ⟨n - i - 1, by omega⟩
  rw [hm, countTo, if_neg (by omega)]
  congr 1
  omega
theorem count_full {ss : List ByteArray} {n i : Nat} {f : Nat → Nat} (hi : i < n) (h : most < sumL ss f ss.length) : countTo ss (n - i) f = none := by
  obtain ⟨m, hm⟩ : ∃ m, n - i = m + 1 := ⟨n - i - 1, by omega⟩
  rw [hm, countTo, if_pos h]

theorem round_take_le (ss : List ByteArray) (l : List UInt8) (j : Nat) : (roundW ss (l.take j)).length ≤ (roundW ss l).length := by
  have : roundW ss l = roundW ss (l.take j) ++ roundW ss (l.drop j) := by
    unfold roundW; rw [← List.flatMap_append, List.take_append_drop]
  rw [this, List.length_append]
  omega
/-- As the reference answers: a text and 0, or none and 4. -/
def textR : Option (List UInt8) → Value
  | some l => .tuple #[.string ⟨l.toArray⟩, .int .i64 0]
  | none => .tuple #[.string ⟨#[]⟩, .int .i64 4]
theorem textR_some {o : Option (List UInt8)} {l : List UInt8} (h : o = some l) : textR o = .tuple #[.string ⟨l.toArray⟩, .int .i64 0] := by subst h; rfl
theorem textR_none {o : Option (List UInt8)} (h : o = none) : textR o = .tuple #[.string ⟨#[]⟩, .int .i64 4] := by subst h; rfl

/-- n numbers as cells. -/
def arrN (n : Nat) (f : Nat → Nat) : List Value := (List.range n).map fun i => Value.int .i64 (f i : Nat)
theorem arrN_length (n : Nat) (f : Nat → Nat) : (arrN n f).length = n := by simp [arrN]
theorem arrN_get {n : Nat} (f : Nat → Nat) {i : Nat} (h : i < n) : (arrN n f)[i]? = some (.int .i64 (f i : Nat)) := by
  unfold arrN
  rw [List.getElem?_map, List.getElem?_range h]; rfl
theorem arrN_set {n : Nat} (f g : Nat → Nat) {i : Nat} (hi : i < n) (h : ∀ j, j ≠ i → g j = f j) : (arrN n f).set i (.int .i64 (g i : Nat)) = arrN n g := by
  apply List.ext_getElem?
  intro j
  by_cases hj : j < n
  · rw [arrN_get g hj, List.getElem?_set]
    split
    · rename_i e
      subst e
      rw [arrN_length, if_pos hi]
    · rename_i e
      rw [arrN_get f hj, h j (fun x => e x.symm)]
  · rw [List.getElem?_eq_none (by simp [arrN_length]; omega), List.getElem?_eq_none (by rw [arrN_length]; omega)]
theorem arrN_zero (n : Nat) : List.replicate n (Value.int .i64 0) = arrN n fun _ => 0 := by
  apply List.ext_getElem?
  intro j
  by_cases hj : j < n
  · rw [arrN_get _ hj, List.getElem?_replicate, if_pos hj]; rfl
  · rw [List.getElem?_eq_none (by simp; omega), List.getElem?_eq_none (by rw [arrN_length]; omega)]
theorem arrN_snoc {n : Nat} (l : List UInt8) (x : UInt8) (h : 97 ≤ x.toNat) (h8 : x.toNat - 97 < n) : (arrN n (cnt l)).set (x.toNat - 97) (.int .i64 ((cnt l (x.toNat - 97) : Int) + 1)) = arrN n (cnt (l ++ [x])) := by
  have := arrN_set (cnt l) (cnt (l ++ [x])) h8 (fun j hj => by rw [cnt_snoc, if_neg (by omega)]; rfl)
  rw [← this, cnt_snoc, if_pos (by omega)]
  rfl
theorem midC_nextN {n : Nat} (ss : List ByteArray) (f : Nat → Nat) {i t : Nat} (ht : t < (img ss i).length) (h : 97 ≤ ((img ss i).getD t 0).toNat) (h8 : ((img ss i).getD t 0).toNat - 97 < n) :
    (arrN n (midC ss f i t)).set (((img ss i).getD t 0).toNat - 97) (.int .i64 ((midC ss f i t (((img ss i).getD t 0).toNat - 97) : Int) + (f i : Int))) = arrN n (midC ss f i (t + 1)) := by
  have hn : ∀ k, midC ss f i (t + 1) k = midC ss f i t k + f i * (if ((img ss i).getD t 0).toNat = 97 + k then 1 else 0) := fun k => by
    unfold midC
    rw [take_snoc ht, cnt_snoc, Nat.mul_add, Nat.add_assoc]
  have := arrN_set (midC ss f i t) (midC ss f i (t + 1)) h8 (fun j hj => by rw [hn, if_neg (by omega)]; simp)
  rw [← this, hn, if_pos (by omega)]
  simp

end Gr
end Go.Proofs.Ythggpjpmjhaidaa
