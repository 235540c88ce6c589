/- PLAIN: what GrowFree says, without a program: Thue's words have none; rounds add up; what is counted is there. -/
import Derived.Test.YthggpjpmjhaidaaSqFree
namespace Go.Proofs.Ythggpjpmjhaidaa
namespace SqF
open Sq Gr

theorem growTo_is {ss : List ByteArray} : ∀ {n : Nat} {l r : List UInt8}, growTo ss n l = some r → r = growI ss n l
  | 0, _, _, h => by cases h; rfl
  | n + 1, l, r, h => by
    unfold growTo at h
    split at h
    · cases h
    · show r = growI ss n (roundW ss l); exact growTo_is h
theorem growTo_add {ss : List ByteArray} : ∀ {n : Nat} (m : Nat) {l r : List UInt8}, growTo ss n l = some r → growTo ss (n + m) l = growTo ss m r
  | 0, m, _, _, h => by cases h; rw [Nat.zero_add]
  | n + 1, m, l, r, h => by
    unfold growTo at h
    split at h
    · cases h
    · rename_i hl
      rw [show n + 1 + m = (n + m) + 1 from by omega, growTo, if_neg hl]
      exact growTo_add m h
theorem growTo_le {ss : List ByteArray} : ∀ {n : Nat} {l r : List UInt8}, l.length ≤ 40000 → growTo ss n l = some r → r.length ≤ 40000
  | 0, _, _, hl, h => by cases h; exact hl
  | n + 1, l, r, hl, h => by
    unfold growTo at h
    split at h
    · cases h
    · rename_i h2
      exact growTo_le (by omega) h

/-- Where a word is grown, it is counted. -/
theorem count_of_grow {ss : List ByteArray} (h : images ss = 0) : ∀ {n : Nat} {l r : List UInt8}, letters ss.length l = true → growTo ss n l = some r → countTo ss n (cnt l) = some (cnt r)
  | 0, _, _, _, hr => by cases hr; rfl
  | n + 1, l, r, hl, hr => by
    unfold growTo at hr
    split at hr
    · cases hr
    · rename_i hle
      have e := len_round hl
      unfold countTo
      rw [if_neg (by unfold most; omega), ← cnt_round hl]
      exact count_of_grow h (round_letters h hl) hr

/-- A word that begins with 'a', whose word begins with 'a', begins so ever on. -/
theorem growI_head {ss : List ByteArray} {t : List UInt8} (h : image ss 97 = 97 :: t) : ∀ (m : Nat) (R : List UInt8), ∃ R', growI ss m (97 :: R) = 97 :: R'
  | 0, R => ⟨R, rfl⟩
  | m + 1, R => by
    have e : roundW ss (97 :: R) = 97 :: (t ++ roundW ss R) := by
      show image ss 97 ++ roundW ss R = _
      rw [h]; rfl
    rw [growI, e]
    exact growI_head h m _
theorem growI_prefix {ss : List ByteArray} {t : List UInt8} (h : image ss 97 = 97 :: t) (n m : Nat) : ∃ R, growI ss (m + n) [97] = growI ss n [97] ++ R := by
  obtain ⟨R, hR⟩ := growI_head h m []
  exact ⟨growI ss n R, by rw [growI_add, hR, ← growI_app]; rfl⟩
theorem growI_like {ss : List ByteArray} {t : List UInt8} (h : image ss 97 = 97 :: t) (k n i : Nat) (hk : 1200 ≤ (growI ss k [97]).length) (hi : i < 1200) (hn : i < (growI ss n [97]).length) : (growI ss n [97]).getD i 0 = (growI ss k [97]).getD i 0 := by
  rcases Nat.le_total n k with hnk | hnk
  · obtain ⟨R, hR⟩ := growI_prefix h n (k - n)
    rw [show k - n + n = k from by omega] at hR
    rw [hR, getD_app_left hn]
  · obtain ⟨R, hR⟩ := growI_prefix h k (n - k)
    rw [show n - k + k = n from by omega] at hR
    rw [hR, getD_app_left (by omega)]

theorem tm_len : 1200 ≤ (growI tm 11 [97]).length := by decide +kernel
theorem tern_len : 1200 ≤ (growI tern 10 [97]).length := by decide +kernel
theorem tm_some : ∀ n, n ≤ 15 → (growTo tm n [97]).isSome = true := by
  have h : ((List.range 16).all fun n => (growTo tm n [97]).isSome) = true := by decide +kernel
  intro n hn
  exact List.all_eq_true.1 h n (List.mem_range.2 (by omega))
theorem tern_some : ∀ n, n ≤ 14 → (growTo tern n [97]).isSome = true := by
  have h : ((List.range 15).all fun n => (growTo tern n [97]).isSome) = true := by decide +kernel
  intro n hn
  exact List.all_eq_true.1 h n (List.mem_range.2 (by omega))
theorem fib_fact : growTo [⟨#[97, 98]⟩, ⟨#[97]⟩] 4 [97] = some [97, 98, 97, 97, 98, 97, 98, 97] := by decide +kernel

/-- The text of what grows, cut at 1200. -/
def cut (l : List UInt8) : ByteArray := ⟨(l.take 1200).toArray⟩
theorem cut_size (l : List UInt8) : (cut l).size = min 1200 l.length := by
  rw [Lib.size_eq]
  show (l.take 1200).length = _
  rw [List.length_take]
theorem cut_at (l : List UInt8) {i : Nat} (h : i < 1200) : at_ (cut l) i = l.getD i 0 := by
  show (l.take 1200).getD i 0 = _
  rw [List.getD_eq_getElem?_getD, List.getD_eq_getElem?_getD, List.getElem?_take_of_lt h]
theorem free_cut {ss : List ByteArray} {t : List UInt8} {k more : Nat} (h : image ss 97 = 97 :: t) (hk : 1200 ≤ (growI ss k [97]).length) (hf : free (plane 98 (growI ss k [97])) (plane 99 (growI ss k [97])) 1200 more 1200 = true) (n : Nat) : NoneTo (cut (growI ss n [97])) more ((cut (growI ss n [97])).size + 1) := by
  have hz := cut_size (growI ss n [97])
  refine none_of_free (len := 1200) (by omega) (fun i hi => ?_) hf
  rw [cut_at _ (by omega)]
  exact growI_like h k n i hk (by omega) (by omega)
theorem tm_none (n : Nat) : NoneTo (cut (growI tm n [97])) 1 ((cut (growI tm n [97])).size + 1) := free_cut (t := [98]) rfl tm_len tm_free n
theorem tern_none (n : Nat) : NoneTo (cut (growI tern n [97])) 0 ((cut (growI tern n [97])).size + 1) := free_cut (t := [98, 99]) rfl tern_len tern_free n
theorem fr_none {s : ByteArray} {more : Nat} (h : NoneTo s more (s.size + 1)) : fr s more = (0, 0, false) := fr_eq (.inr ⟨rfl, .inr h⟩)
theorem none_empty (more : Nat) : NoneTo ⟨#[]⟩ more ((⟨#[]⟩ : ByteArray).size + 1) := fun e h1 h2 => by
  have : (⟨#[]⟩ : ByteArray).size = 0 := rfl
  omega
end SqF
end Go.Proofs.Ythggpjpmjhaidaa
