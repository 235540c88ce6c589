/- PLAIN: what the reference needs to know to find a letter: the counts of parts of a word are told where the word's are. -/
import Derived.Test.YthggpjpmjhaidaaDoorGrL
namespace Go.Proofs.YthggpjpmjhaidaaDoor
namespace Gr

theorem sumC_mono2 (ss : List ByteArray) {f g : Nat → Nat} (h : ∀ i, f i ≤ g i) (k : Nat) : ∀ n, sumC ss f n k ≤ sumC ss g n k
  | 0 => Nat.le_refl _
  | n + 1 => Nat.add_le_add (sumC_mono2 ss h k n) (Nat.mul_le_mul_right _ (h n))
theorem sumL_mono2 (ss : List ByteArray) {f g : Nat → Nat} (h : ∀ i, f i ≤ g i) : ∀ n, sumL ss f n ≤ sumL ss g n
  | 0 => Nat.le_refl _
  | n + 1 => Nat.add_le_add (sumL_mono2 ss h n) (Nat.mul_le_mul_right _ (h n))
/-- The counts are told. -/
def Ok (ss : List ByteArray) (k : Nat) (f : Nat → Nat) : Prop := ∃ g, countTo ss k f = some g
theorem Ok.less {ss : List ByteArray} : ∀ {k : Nat} {f g : Nat → Nat}, (∀ i, f i ≤ g i) → Ok ss k g → Ok ss k f
  | 0, f, _, _, _ => ⟨f, rfl⟩
  | k + 1, f, g, h, ⟨G, hG⟩ => by
    unfold countTo at hG
    split at hG
    · cases hG
    · rename_i hle
      obtain ⟨F, hF⟩ := Ok.less (k := k) (f := sumC ss f ss.length) (fun i => sumC_mono2 ss h i _) ⟨G, hG⟩
      refine ⟨F, ?_⟩
      unfold countTo
      rw [if_neg (by have := sumL_mono2 ss h ss.length; omega), hF]
theorem cnt_mem {l : List UInt8} {c : UInt8} (h : c ∈ l) (i : Nat) : cnt [c] i ≤ cnt l i :=
  List.Sublist.countP_le (List.singleton_sublist.2 h)
theorem Ok.letter {ss : List ByteArray} {k : Nat} {l : List UInt8} {c : UInt8} (h : Ok ss k (cnt l)) (hc : c ∈ l) : Ok ss k (cnt [c]) := h.less (cnt_mem hc)
theorem letters_one {n : Nat} {c : UInt8} (h : isLetter n c = true) : letters n [c] = true := by
  unfold letters; simp [h]
theorem Ok.down {ss : List ByteArray} {k : Nat} {c : UInt8} (hc : isLetter ss.length c = true) (h : Ok ss (k + 1) (cnt [c])) : Ok ss k (cnt (image ss c)) := by
  obtain ⟨g, hg⟩ := h
  unfold countTo at hg
  split at hg
  · cases hg
  · rw [← cnt_round (letters_one hc), round_one] at hg
    exact ⟨g, hg⟩
/-- One letter's counts. -/
theorem one_counts {ss : List ByteArray} (h0 : images ss = 0) {k : Nat} {c : UInt8} (hc : isLetter ss.length c = true) {g : Nat → Nat} (h : countTo ss k (cnt [c]) = some g) :
    sumTo g ss.length = lenL ss k c ∧ lenL ss k c ≤ most := by
  rw [count_growI h0 k (letters_one hc) h, sumTo_cnt (growI_letters h0 k (letters_one hc))]
  exact ⟨rfl, count_last h0 k (letters_one hc) (by show 1 ≤ most; unfold most; omega) h⟩
theorem At.zero {ss : List ByteArray} {l : List UInt8} {j : Nat} {x : UInt8} (h : At ss 0 l j x) : j < l.length ∧ l.getD j 0 = x := ⟨h.lt, h.is⟩
theorem fault_one {ss : List ByteArray} {c : UInt8} {k : Nat} {s : ByteArray} (h0 : images ss = 0) (hs : s = ⟨#[c]⟩) (hc : isLetter ss.length c = true) (hk : k ≤ 60) : fault ss s k = 0 := by
  subst hs
  exact fault_none h0 (by show ¬ 40000 < 1; omega) (letters_one hc) (by omega)
end Gr
end Go.Proofs.YthggpjpmjhaidaaDoor
