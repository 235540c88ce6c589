/- PLAIN: any letter of a word that grows (no program in sight). -/
import Derived.Test.YthggpjpmjhaidaaGrPl
namespace Go.Proofs.Ythggpjpmjhaidaa
namespace Gr

/-- n rounds, however long the words. -/
def growI (ss : List ByteArray) : Nat → List UInt8 → List UInt8
  | 0, l => l
  | n + 1, l => growI ss n (roundW ss l)
theorem round_app (ss : List ByteArray) (a b : List UInt8) : roundW ss (a ++ b) = roundW ss a ++ roundW ss b := List.flatMap_append
theorem growI_app (ss : List ByteArray) : ∀ (n : Nat) (a b : List UInt8), growI ss n (a ++ b) = growI ss n a ++ growI ss n b
  | 0, _, _ => rfl
  | n + 1, a, b => by rw [growI, round_app, growI_app ss n]; rfl
theorem growI_add (ss : List ByteArray) : ∀ (n m : Nat) (l : List UInt8), growI ss (n + m) l = growI ss m (growI ss n l)
  | 0, m, l => by rw [Nat.zero_add]; rfl
  | n + 1, m, l => by rw [show n + 1 + m = (n + m) + 1 from by omega, growI, growI_add ss n m]; rfl
theorem growI_nil (ss : List ByteArray) : ∀ n, growI ss n [] = []
  | 0 => rfl
  | n + 1 => growI_nil ss n
theorem growI_letters {ss : List ByteArray} (h : images ss = 0) : ∀ (n : Nat) {l : List UInt8}, letters ss.length l = true → letters ss.length (growI ss n l) = true
  | 0, _, hl => hl
  | n + 1, _, hl => growI_letters h n (round_letters h hl)
theorem round_one (ss : List ByteArray) (c : UInt8) : roundW ss [c] = image ss c := by simp [roundW]

/-- How long a letter is behind k rounds. -/
def lenL (ss : List ByteArray) (k : Nat) (c : UInt8) : Nat := (growI ss k [c]).length
theorem lenL_zero (ss : List ByteArray) (c : UInt8) : lenL ss 0 c = 1 := rfl
/-- .. a word. -/
def lenW (ss : List ByteArray) (k : Nat) (l : List UInt8) : Nat := (growI ss k l).length
theorem lenW_app (ss : List ByteArray) (k : Nat) (a b : List UInt8) : lenW ss k (a ++ b) = lenW ss k a + lenW ss k b := by
  unfold lenW; rw [growI_app, List.length_append]
theorem lenW_nil (ss : List ByteArray) (k : Nat) : lenW ss k [] = 0 := by unfold lenW; rw [growI_nil]; rfl
theorem lenL_succ (ss : List ByteArray) (k : Nat) (c : UInt8) : lenL ss (k + 1) c = lenW ss k (image ss c) := by
  unfold lenL lenW; rw [growI, round_one]
theorem lenW_take {ss : List ByteArray} {k : Nat} {l : List UInt8} {t : Nat} (h : t < l.length) : lenW ss k (l.take (t + 1)) = lenW ss k (l.take t) + lenL ss k (l.getD t 0) := by
  rw [take_snoc h, lenW_app]; rfl
theorem lenW_take_le (ss : List ByteArray) (k : Nat) (l : List UInt8) (t : Nat) : lenW ss k (l.take t) ≤ lenW ss k l := by
  have : lenW ss k l = lenW ss k (l.take t) + lenW ss k (l.drop t) := by rw [← lenW_app, List.take_append_drop]
  omega

/-- The cap of the table. -/
def cap : Nat := 2000000000000000000
/-- The letter i as a byte. -/
def letr (i : Nat) : UInt8 := UInt8.ofNat (97 + i)
theorem letr_of {x : UInt8} (h : 97 ≤ x.toNat) : letr (x.toNat - 97) = x := by
  unfold letr
  rw [show 97 + (x.toNat - 97) = x.toNat from by omega, UInt8.ofNat_toNat]
theorem letr_nat {i : Nat} (h : i < 8) : (letr i).toNat = 97 + i := by
  unfold letr
  rw [UInt8.toNat_ofNat']
  omega
/-- The table: how long the letter i is behind k rounds, capped. -/
def tab (ss : List ByteArray) (k i : Nat) : Nat := min (lenL ss k (letr i)) cap
theorem tab_zero (ss : List ByteArray) (i : Nat) : tab ss 0 i = 1 := rfl
/-- .. a part of it, within the word of i. -/
def tabP (ss : List ByteArray) (k i t : Nat) : Nat := min (lenW ss k ((img ss i).take t)) cap
theorem tabP_zero (ss : List ByteArray) (k i : Nat) : tabP ss k i 0 = 0 := by simp [tabP, lenW_nil]
theorem tabP_next {ss : List ByteArray} {k i t : Nat} (h : t < (img ss i).length) (h97 : 97 ≤ ((img ss i).getD t 0).toNat) :
    min (tabP ss k i t + tab ss k (((img ss i).getD t 0).toNat - 97)) cap = tabP ss k i (t + 1) := by
  unfold tabP tab
  rw [letr_of h97, lenW_take h]
  generalize lenW ss k ((img ss i).take t) = a
  generalize lenL ss k ((img ss i).getD t 0) = b
  generalize cap = c
  omega
theorem tabP_end {ss : List ByteArray} {k i t : Nat} (h : (img ss i).length ≤ t) (hi : i < 8) : tabP ss k i t = tab ss (k + 1) i := by
  unfold tabP tab
  rw [List.take_of_length_le h, lenL_succ]
  unfold image img
  rw [letr_nat hi, Nat.add_sub_cancel_left]
theorem tab_le (ss : List ByteArray) (k i : Nat) : tab ss k i ≤ cap := Nat.min_le_right _ _
theorem tabP_le (ss : List ByteArray) (k i t : Nat) : tabP ss k i t ≤ cap := Nat.min_le_right _ _

/-- The search stands at the letter 'at' of what the word l becomes behind k rounds; that letter is 'x'. -/
structure At (ss : List ByteArray) (k : Nat) (l : List UInt8) (at_ : Nat) (x : UInt8) : Prop where
  lt : at_ < lenW ss k l
  is : (growI ss k l).getD at_ 0 = x
theorem getD_app_left {a b : List UInt8} {i : Nat} (h : i < a.length) : (a ++ b).getD i 0 = a.getD i 0 := by
  rw [List.getD_eq_getElem?_getD, List.getD_eq_getElem?_getD, List.getElem?_append_left h]
theorem getD_app_right {a b : List UInt8} {i : Nat} (h : a.length ≤ i) : (a ++ b).getD i 0 = b.getD (i - a.length) 0 := by
  rw [List.getD_eq_getElem?_getD, List.getD_eq_getElem?_getD, List.getElem?_append_right h]
/-- Behind the first letter. -/
theorem At.skip {ss : List ByteArray} {k : Nat} {c : UInt8} {r : List UInt8} {at_ : Nat} {x : UInt8} (h : At ss k (c :: r) at_ x) (hc : lenL ss k c ≤ at_) : At ss k r (at_ - lenL ss k c) x := by
  have e : growI ss k (c :: r) = growI ss k [c] ++ growI ss k r := by rw [← growI_app]; rfl
  have h1 := h.lt
  have h2 := h.is
  unfold lenW at h1
  rw [e, List.length_append] at h1
  rw [e, getD_app_right hc] at h2
  unfold lenL at *
  exact ⟨by unfold lenW; omega, h2⟩
/-- Within the first letter. -/
theorem At.down {ss : List ByteArray} {k : Nat} {c : UInt8} {r : List UInt8} {at_ : Nat} {x : UInt8} (h : At ss (k + 1) (c :: r) at_ x) (hc : at_ < lenL ss (k + 1) c) : At ss k (image ss c) at_ x := by
  have e : growI ss (k + 1) (c :: r) = growI ss (k + 1) [c] ++ growI ss (k + 1) r := by rw [← growI_app]; rfl
  have h2 := h.is
  unfold lenL at hc
  rw [e, getD_app_left hc] at h2
  rw [growI, round_one] at h2 hc
  exact ⟨hc, h2⟩
theorem At.here {ss : List ByteArray} {c : UInt8} {r : List UInt8} {at_ : Nat} {x : UInt8} (h : At ss 0 (c :: r) at_ x) (hc : at_ < 1) : c = x := by
  have : at_ = 0 := by omega
  subst this
  exact h.is
theorem At.nil {ss : List ByteArray} {k : Nat} {at_ : Nat} {x : UInt8} (h : At ss k [] at_ x) : False := by
  have := h.lt
  rw [lenW_nil] at this
  omega
theorem At.drop {ss : List ByteArray} {k : Nat} {l : List UInt8} {j at_ : Nat} {x : UInt8} (hj : j < l.length) (h : At ss k (l.drop j) at_ x) : At ss k (l.getD j 0 :: l.drop (j + 1)) at_ x := by
  rw [List.drop_eq_getElem_cons hj] at h
  rw [List.getD_eq_getElem?_getD, List.getElem?_eq_getElem hj]
  exact h

/-! ### counts are of the word itself -/
theorem sumC_add (ss : List ByteArray) (f g : Nat → Nat) (k : Nat) : ∀ n, sumC ss (fun i => f i + g i) n k = sumC ss f n k + sumC ss g n k
  | 0 => rfl
  | n + 1 => by simp only [sumC, sumC_add ss f g k n, Nat.add_mul]; omega
theorem sumL_add (ss : List ByteArray) (f g : Nat → Nat) : ∀ n, sumL ss (fun i => f i + g i) n = sumL ss f n + sumL ss g n
  | 0 => rfl
  | n + 1 => by simp only [sumL, sumL_add ss f g n, Nat.add_mul]; omega
theorem sumC_one (ss : List ByteArray) (j k : Nat) : ∀ n, sumC ss (fun i => if j = i then 1 else 0) n k = if j < n then cnt (img ss j) k else 0
  | 0 => rfl
  | n + 1 => by
    simp only [sumC, sumC_one ss j k n]
    by_cases h : j = n
    · subst h; simp
    · by_cases h2 : j < n
      · simp [h, h2, show j < n + 1 from by omega]
      · simp [h, h2, show ¬ j < n + 1 from by omega]
theorem sumL_one (ss : List ByteArray) (j : Nat) : ∀ n, sumL ss (fun i => if j = i then 1 else 0) n = if j < n then (img ss j).length else 0
  | 0 => rfl
  | n + 1 => by
    simp only [sumL, sumL_one ss j n]
    by_cases h : j = n
    · subst h; simp
    · by_cases h2 : j < n
      · simp [h, h2, show j < n + 1 from by omega]
      · simp [h, h2, show ¬ j < n + 1 from by omega]
theorem cnt_cons {c : UInt8} (l : List UInt8) (h : 97 ≤ c.toNat) : cnt (c :: l) = fun i => (if c.toNat - 97 = i then 1 else 0) + cnt l i := by
  funext i
  unfold cnt
  rw [List.countP_cons, Nat.add_comm]
  congr 1
  by_cases hc : c.toNat - 97 = i
  · rw [if_pos hc, if_pos (by simp; omega)]
  · rw [if_neg hc, if_neg (by simp; omega)]
theorem cnt_nil : cnt [] = fun _ => 0 := rfl
theorem sumC_zero (ss : List ByteArray) (k : Nat) : ∀ n, sumC ss (fun _ => 0) n k = 0
  | 0 => rfl
  | n + 1 => by simp [sumC, sumC_zero ss k n]
theorem sumL_zero (ss : List ByteArray) : ∀ n, sumL ss (fun _ => 0) n = 0
  | 0 => rfl
  | n + 1 => by simp [sumL, sumL_zero ss n]
theorem cnt_app (a b : List UInt8) (i : Nat) : cnt (a ++ b) i = cnt a i + cnt b i := by unfold cnt; rw [List.countP_append]
theorem cnt_round {ss : List ByteArray} : ∀ {l : List UInt8}, letters ss.length l = true → cnt (roundW ss l) = sumC ss (cnt l) ss.length
  | [], _ => by funext k; rw [cnt_nil, sumC_zero]; rfl
  | c :: r, h => by
    have hc := isLetter_lt (letters_mem h (List.mem_cons_self ..))
    have hr : letters ss.length r = true := by unfold letters at *; simp at h; simpa using h.2
    funext k
    have e : roundW ss (c :: r) = image ss c ++ roundW ss r := rfl
    rw [e, cnt_app, cnt_round hr, cnt_cons r hc.1, sumC_add, sumC_one, if_pos hc.2]
    rfl
theorem len_round {ss : List ByteArray} : ∀ {l : List UInt8}, letters ss.length l = true → (roundW ss l).length = sumL ss (cnt l) ss.length
  | [], _ => by rw [cnt_nil, sumL_zero]; rfl
  | c :: r, h => by
    have hc := isLetter_lt (letters_mem h (List.mem_cons_self ..))
    have hr : letters ss.length r = true := by unfold letters at *; simp at h; simpa using h.2
    have e : roundW ss (c :: r) = image ss c ++ roundW ss r := rfl
    rw [e, List.length_append, len_round hr, cnt_cons r hc.1, sumL_add, sumL_one, if_pos hc.2]
    rfl
/-- What is counted is there. -/
theorem count_growI {ss : List ByteArray} (h : images ss = 0) : ∀ (n : Nat) {l : List UInt8} {g : Nat → Nat}, letters ss.length l = true → countTo ss n (cnt l) = some g → g = cnt (growI ss n l)
  | 0, _, _, _, hg => by cases hg; rfl
  | n + 1, l, g, hl, hg => by
    unfold countTo at hg
    split at hg
    · cases hg
    · rw [← cnt_round hl] at hg
      exact count_growI h n (round_letters h hl) hg
theorem count_last {ss : List ByteArray} (h : images ss = 0) : ∀ (n : Nat) {l : List UInt8} {g : Nat → Nat}, letters ss.length l = true → l.length ≤ most → countTo ss n (cnt l) = some g → (growI ss n l).length ≤ most
  | 0, _, _, _, hm, _ => hm
  | n + 1, l, g, hl, hm, hg => by
    unfold countTo at hg
    split at hg
    · cases hg
    · rename_i hle
      rw [← cnt_round hl] at hg
      rw [← len_round hl] at hle
      exact count_last h n (round_letters h hl) (by omega) hg
/-- All letters together. -/
def sumTo (f : Nat → Nat) : Nat → Nat
  | 0 => 0
  | n + 1 => sumTo f n + f n
theorem sumTo_add (f g : Nat → Nat) : ∀ n, sumTo (fun i => f i + g i) n = sumTo f n + sumTo g n
  | 0 => rfl
  | n + 1 => by simp only [sumTo, sumTo_add f g n]; omega
theorem sumTo_one (j : Nat) : ∀ n, sumTo (fun i => if j = i then 1 else 0) n = if j < n then 1 else 0
  | 0 => rfl
  | n + 1 => by
    simp only [sumTo, sumTo_one j n]
    by_cases h : j = n
    · subst h; simp
    · by_cases h2 : j < n
      · simp [h, h2, show j < n + 1 from by omega]
      · simp [h, h2, show ¬ j < n + 1 from by omega]
theorem sumTo_zero : ∀ n, sumTo (fun _ => 0) n = 0
  | 0 => rfl
  | n + 1 => by simp [sumTo, sumTo_zero n]
theorem sumTo_cnt {n : Nat} : ∀ {l : List UInt8}, letters n l = true → sumTo (cnt l) n = l.length
  | [], _ => by rw [cnt_nil, sumTo_zero]; rfl
  | c :: r, h => by
    have hc := isLetter_lt (letters_mem h (List.mem_cons_self ..))
    have hr : letters n r = true := by unfold letters at *; simp at h; simpa using h.2
    rw [cnt_cons r hc.1, sumTo_add, sumTo_one, if_pos hc.2, sumTo_cnt hr, List.length_cons]
    omega
theorem sumTo_mono (f : Nat → Nat) {i n : Nat} (h : i ≤ n) : sumTo f i ≤ sumTo f n := by
  induction h with
  | refl => exact Nat.le_refl _
  | step _ ih => exact Nat.le_trans ih (Nat.le_add_right _ _)
end Gr
end Go.Proofs.Ythggpjpmjhaidaa
