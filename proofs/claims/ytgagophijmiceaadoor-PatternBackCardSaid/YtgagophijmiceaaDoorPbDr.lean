/- Several texts laid together: PbPl PbDr. -/
import Derived.Test.YtgagophijmiceaaDoorPwPl
import Derived.Test.YtgagophijmiceaaDoorPrPl
import Derived.Test.YtgagophijmiceaaDoorPwDrPl
import Derived.Test.YtgagophijmiceaaDoorPrIx
/- WRITTEN AND READ, plain: what is written by runs says the pattern. -/
namespace Go.Proofs.YtgagophijmiceaaDoor
set_option linter.unusedSimpArgs false
set_option linter.unusedVariables false
namespace Pr
open Rd Pw Bl

theorem getD_app {pre r : List UInt8} (j : Nat) : (pre ++ r).getD (pre.length + j) 0 = r.getD j 0 := by
  rw [List.getD_eq_getElem?_getD, List.getD_eq_getElem?_getD, List.getElem?_append_right (Nat.le_add_right _ _), Nat.add_sub_cancel_left]
theorem drop_app {pre r : List UInt8} : (pre ++ r).drop pre.length = r := by simp
theorem far_app {pre ws r : List UInt8} : ∀ k, k ≤ ws.length → far (pre ++ (ws ++ r)) ws pre.length k = k
  | 0, _ => rfl
  | k + 1, h => by
    unfold far
    rw [far_app k (by omega), if_pos]
    refine ⟨rfl, by simp; omega, ?_⟩
    rw [getD_app, List.getD_eq_getElem?_getD, List.getD_eq_getElem?_getD, List.getElem?_append_left (by omega)]
theorem word_app {pre ws r : List UInt8} {K : Nat → Hd} : word (pre ++ (ws ++ r)) ws pre.length K = K (pre ++ ws).length := by
  unfold word
  rw [far_app _ (Nat.le_refl _), if_neg (Nat.lt_irrefl _), List.length_append]
theorem takeWhile_app {P : UInt8 → Bool} : ∀ {ds r : List UInt8}, (∀ b ∈ ds, P b = true) → (r = [] ∨ ∃ b t, r = b :: t ∧ P b = false) → (ds ++ r).takeWhile P = ds
  | [], r, _, h => by
    rcases h with rfl | ⟨b, t, rfl, hb⟩
    · rfl
    · rw [List.nil_append, List.takeWhile_cons, hb]
      rfl
  | d :: ds, r, hd, h => by
    rw [List.cons_append, List.takeWhile_cons, hd d List.mem_cons_self]
    simp only [if_true]
    rw [takeWhile_app (fun b hb => hd b (List.mem_cons_of_mem _ hb)) h]
theorem dgs_app {pre ds r : List UInt8} (hd : ∀ b ∈ ds, digB b = true) (h : r = [] ∨ ∃ b t, r = b :: t ∧ digB b = false) : dgs (pre ++ (ds ++ r)) pre.length = ds := by
  unfold dgs
  rw [drop_app, takeWhile_app hd h]
theorem skp_none {pre r : List UInt8} (h : r = [] ∨ ∃ b t, r = b :: t ∧ blB b = false) : skp (pre ++ r) pre.length = pre.length := by
  unfold skp
  rw [drop_app]
  have := takeWhile_app (P := blB) (ds := []) (r := r) (fun b hb => absurd hb List.not_mem_nil) h
  rw [List.nil_append] at this
  rw [this]
  rfl
theorem dig_of {d : Nat} (h : d < 10) : digB (UInt8.ofNat (48 + d)) = true := by
  unfold digB
  have : (UInt8.ofNat (48 + d)).toNat = 48 + d := by
    rw [UInt8.toNat_ofNat']
    omega
  rw [this]
  exact decide_eq_true (by omega)
theorem byte_dig {d : Nat} (h : d < 10) : ((UInt8.ofNat (48 + d)).toNat : Int) = 48 + d := by
  have : (UInt8.ofNat (48 + d)).toNat = 48 + d := by
    rw [UInt8.toNat_ofNat']
    omega
  rw [this]
  rfl
theorem dec_dig (n : Nat) : ∀ b ∈ Lib.decDigits n, digB b = true := by
  induction n using Nat.strongRecOn with
  | _ n ih =>
    intro b hb
    rw [Lib.decDigits] at hb
    split at hb
    · rename_i h
      rw [List.mem_singleton] at hb
      subst hb
      exact dig_of h
    · rename_i h
      rcases List.mem_append.1 hb with hb | hb
      · exact ih (n / 10) (by omega) b hb
      · rw [List.mem_singleton] at hb
        subst hb
        exact dig_of (by omega)
theorem dec_ne (n : Nat) : Lib.decDigits n ≠ [] := by
  rw [Lib.decDigits]
  split
  · simp
  · simp
theorem dec_head (n : Nat) (hn : 0 < n) : (Lib.decDigits n).head? ≠ some 48 := by
  induction n using Nat.strongRecOn with
  | _ n ih =>
    rw [Lib.decDigits]
    split
    · rename_i h
      intro he
      have h1 : UInt8.ofNat (48 + n) = 48 := Option.some.inj he
      have h2 := byte_dig h
      rw [h1] at h2
      have h3 : ((48 : UInt8).toNat : Int) = 48 := rfl
      omega
    · rename_i h
      have h2 := ih (n / 10) (by omega) (by omega)
      cases hq : Lib.decDigits (n / 10) with
      | nil => exact absurd hq (dec_ne _)
      | cons b u =>
        rw [hq] at h2
        exact h2
theorem dec_val (n : Nat) (hn : n ≤ 999999) : val (Lib.decDigits n) = n := by
  induction n using Nat.strongRecOn with
  | _ n ih =>
    rw [Lib.decDigits]
    split
    · rename_i h
      show val1 0 _ = _
      unfold val1
      rw [if_pos (by decide), byte_dig h]
      omega
    · rename_i h
      have h1 := ih (n / 10) (by omega) (by omega)
      unfold val at h1 ⊢
      rw [List.foldl_append, h1, List.foldl_cons, List.foldl_nil]
      unfold val1
      rw [if_pos (by omega), byte_dig (by omega)]
      omega
theorem dec_num (n : Nat) (hn : n ≤ 999) : numv (Lib.decDigits n) = n := by
  unfold numv goodN
  rw [decide_eq_true, if_pos rfl, dec_val n (by omega)]
  refine ⟨dec_ne n, fun h => ?_⟩
  rcases Nat.eq_zero_or_pos n with rfl | h0
  · have h2 := h.2
    rw [Lib.decDigits] at h2
    simp at h2
  · exact dec_head n h0 h.1
theorem side_app {pre r : List UInt8} {n : Nat} {K : Nat → Nat → Hd} (hn : n ≤ 100) : side (pre ++ (Lib.decDigits n ++ r)) pre.length (Lib.decDigits n) K = K n (pre ++ Lib.decDigits n).length := by
  unfold side
  have h1 := dec_num n (by omega)
  have h2 := dec_len (n := n) (by omega)
  rw [h1, if_neg (by omega), if_neg (by omega), Int.toNat_natCast, List.length_append]
/-- What stands ahead is read. -/
theorem head_app {W H : Nat} {r : List UInt8} (hW : W ≤ 100) (hH : H ≤ 100) : head (headS W H ++ r) = .ok W H (headS W H).length := by
  have e1 : headS W H ++ r = [] ++ (w1 ++ (Lib.decDigits W ++ (w2 ++ (Lib.decDigits H ++ (w3 ++ r))))) := by
    unfold headS w1 w2 w3
    simp
  have e2 : headS W H = (((([] ++ w1) ++ Lib.decDigits W) ++ w2) ++ Lib.decDigits H) ++ w3 := by
    unfold headS w1 w2 w3
    simp
  have a1 : [] ++ (w1 ++ (Lib.decDigits W ++ (w2 ++ (Lib.decDigits H ++ (w3 ++ r))))) = ([] ++ w1) ++ (Lib.decDigits W ++ (w2 ++ (Lib.decDigits H ++ (w3 ++ r)))) := by simp
  have a2 : [] ++ (w1 ++ (Lib.decDigits W ++ (w2 ++ (Lib.decDigits H ++ (w3 ++ r))))) = (([] ++ w1) ++ Lib.decDigits W) ++ (w2 ++ (Lib.decDigits H ++ (w3 ++ r))) := by simp
  have a3 : [] ++ (w1 ++ (Lib.decDigits W ++ (w2 ++ (Lib.decDigits H ++ (w3 ++ r))))) = ((([] ++ w1) ++ Lib.decDigits W) ++ w2) ++ (Lib.decDigits H ++ (w3 ++ r)) := by simp
  have a4 : [] ++ (w1 ++ (Lib.decDigits W ++ (w2 ++ (Lib.decDigits H ++ (w3 ++ r))))) = (((([] ++ w1) ++ Lib.decDigits W) ++ w2) ++ Lib.decDigits H) ++ (w3 ++ r) := by simp
  rw [e1, e2]
  unfold head
  rw [show (0 : Nat) = ([] : List UInt8).length from rfl, word_app]
  rw [a1, dgs_app (r := w2 ++ (Lib.decDigits H ++ (w3 ++ r))) (dec_dig W) (.inr ⟨44, _, rfl, rfl⟩), side_app hW]
  rw [← a1, a2, word_app]
  rw [← a2, a3, dgs_app (r := w3 ++ r) (dec_dig H) (.inr ⟨10, _, rfl, rfl⟩), side_app hH]
  rw [← a3, a4, word_app]

theorem cnt_dec {n : Nat} (h : n ≤ 999) : cnt (Lib.decDigits n) = n := by
  unfold cnt
  rw [if_neg (dec_ne n), dec_val n (by omega), Int.toNat_natCast]
/-- A tag that was written is read. -/
theorem step_item {pre r : List UInt8} {n : Nat} {t : UInt8} {W H row col : Nat} {F : Nat → Nat} (hn : 0 < n) (hn2 : n ≤ 999) (ht : digB t = false) (ht2 : blB t = false) :
    ∃ j ds, (n = 1 → ds = []) ∧ cnt ds = n ∧ j + ds.length + 1 = (pre ++ item n t).length ∧ step (pre ++ (item n t ++ r)) W H pre.length row col F = stepT (pre ++ (item n t ++ r)) W H j row col F ds t := by
  by_cases h1 : n = 1
  · subst h1
    have e : item 1 t = [t] := rfl
    refine ⟨pre.length, [], fun _ => rfl, rfl, by rw [e]; simp, ?_⟩
    rw [e]
    unfold step
    have hs : skp (pre ++ ([t] ++ r)) pre.length = pre.length := skp_none (.inr ⟨t, r, rfl, ht2⟩)
    have hd : dgs (pre ++ ([t] ++ r)) pre.length = [] := dgs_app (ds := []) (r := [t] ++ r) (fun b hb => absurd hb List.not_mem_nil) (.inr ⟨t, r, rfl, ht⟩)
    rw [hs, hd]
    unfold stepJ
    rw [if_neg (fun h => h.1 rfl), if_neg (by simp)]
    congr 1
    rw [List.length_nil, getD_app]
    rfl
  · have e : item n t = Lib.decDigits n ++ [t] := by
      unfold item
      rw [if_neg (by omega), if_neg h1]
    refine ⟨pre.length, Lib.decDigits n, fun h => absurd h h1, cnt_dec hn2, by rw [e]; simp; omega, ?_⟩
    have e2 : pre ++ (item n t ++ r) = pre ++ (Lib.decDigits n ++ ([t] ++ r)) := by rw [e]; simp
    rw [e2]
    unfold step
    obtain ⟨b, u, hbu⟩ : ∃ b u, Lib.decDigits n = b :: u := by
      cases h : Lib.decDigits n with
      | nil => exact absurd h (dec_ne n)
      | cons b u => exact ⟨b, u, rfl⟩
    have hb : blB b = false := by
      have hb := dec_dig n b (by rw [hbu]; exact List.mem_cons_self)
      unfold digB at hb
      have hb := of_decide_eq_true hb
      unfold blB
      refine decide_eq_false (fun h => ?_)
      rcases h with rfl | rfl
      · exact absurd hb.1 (by decide)
      · exact absurd hb.1 (by decide)
    have hs : skp (pre ++ (Lib.decDigits n ++ ([t] ++ r))) pre.length = pre.length := skp_none (.inr ⟨b, u ++ ([t] ++ r), by rw [hbu]; rfl, hb⟩)
    have hd : dgs (pre ++ (Lib.decDigits n ++ ([t] ++ r))) pre.length = Lib.decDigits n := dgs_app (dec_dig n) (.inr ⟨t, r, rfl, ht⟩)
    rw [hs, hd]
    unfold stepJ
    have hnum := dec_num n hn2
    have hlen := dec_len hn2
    rw [if_neg (fun h => by have := h.2; omega), if_neg (by simp)]
    congr 1
    rw [getD_app, List.getD_eq_getElem?_getD, List.getElem?_append_right (Nat.le_refl _), Nat.sub_self]
    rfl
theorem place {w x y : Nat} (hx : x < w) : (y * w + x) % w = x ∧ (y * w + x) / w = y := by
  rw [Nat.mul_comm, Nat.mul_add_mod, Nat.mod_eq_of_lt hx, Nat.mul_add_div (by omega), Nat.div_eq_of_lt hx, Nat.add_zero]
  exact ⟨rfl, rfl⟩
/-- The cells of the rows ahead of a place. -/
def upto (f : Nat → Nat → Nat) (W r x k : Nat) : Nat := if k < r * W + x then f (k % W) (k / W) else 0
theorem item_app {n : Nat} {t : UInt8} {pre r : List UInt8} : pre ++ (item n t ++ r) = (pre ++ item n t) ++ r := by simp
theorem upto_fill {f : Nat → Nat → Nat} {W r x n : Nat} (hx : x + n ≤ W) (h : ∀ j, j < n → f (x + j) r = 1) : fill (upto f W r x) (r * W + x) n = upto f W r (x + n) := by
  funext k
  unfold fill upto
  by_cases h1 : r * W + x ≤ k ∧ k < r * W + x + n
  · rw [if_pos h1, if_pos (by omega)]
    have e := place (w := W) (x := k - r * W) (y := r) (by omega)
    rw [show r * W + (k - r * W) = k by omega] at e
    rw [e.1, e.2, show k - r * W = x + (k - r * W - x) by omega]
    exact (h _ (by omega)).symm
  · rw [if_neg h1]
    by_cases h2 : k < r * W + x
    · rw [if_pos h2, if_pos (by omega)]
    · rw [if_neg h2, if_neg (by omega)]
theorem upto_skip {f : Nat → Nat → Nat} {W r x n : Nat} (hx : x + n ≤ W) (h : ∀ j, j < n → f (x + j) r = 0) : upto f W r x = upto f W r (x + n) := by
  funext k
  unfold upto
  by_cases h2 : k < r * W + x
  · rw [if_pos h2, if_pos (by omega)]
  · rw [if_neg h2]
    by_cases h1 : k < r * W + (x + n)
    · rw [if_pos h1]
      have e := place (w := W) (x := k - r * W) (y := r) (by omega)
      rw [show r * W + (k - r * W) = k by omega] at e
      rw [e.1, e.2, show k - r * W = x + (k - r * W - x) by omega]
      exact (h _ (by omega)).symm
    · rw [if_neg h1]
theorem tlen_zero {g : Nat → Nat} : ∀ {W j : Nat}, tlen g W ≤ j → j < W → g j = 0
  | 0, j, _, h => absurd h (Nat.not_lt_zero _)
  | W + 1, j, h1, h2 => by
    unfold tlen at h1
    by_cases h0 : g W = 0
    · rw [if_pos h0] at h1
      by_cases hj : j = W
      · rw [hj]; exact h0
      · exact tlen_zero h1 (by omega)
    · rw [if_neg h0] at h1
      omega
/-- A row that was written is read. -/
theorem run_row {f : Nat → Nat → Nat} {W H r : Nat} (hW : W ≤ 100) (hr : r < H) (hf : ∀ x y, f x y < 2) (rest : List UInt8) : ∀ (m x : Nat) (pre : List UInt8), tlen (fun x => f x r) W - x ≤ m → x ≤ tlen (fun x => f x r) W →
    runR (pre ++ (itR (fun x => f x r) x (tlen (fun x => f x r) W) ++ rest)) W H pre.length r x (upto f W r x) = runR (pre ++ (itR (fun x => f x r) x (tlen (fun x => f x r) W) ++ rest)) W H (pre ++ itR (fun x => f x r) x (tlen (fun x => f x r) W)).length r (tlen (fun x => f x r) W) (upto f W r (tlen (fun x => f x r) W))
  | m, x, pre, hm, hx => by
    by_cases hlt : x < tlen (fun x => f x r) W
    · have hm0 : 0 < m := by omega
      obtain ⟨m', rfl⟩ : ∃ m', m = m' + 1 := ⟨m - 1, by omega⟩
      have hL := tlen_le (fun x => f x r) W
      generalize hLe : tlen (fun x => f x r) W = L at *
      have hp := runl_pos (g := fun x => f x r) hlt
      have hle := runl_le (fun x => f x r) (f x r) (L - x) x
      have hsm := runl_same (fun x => f x r) (f x r) (L - x) x
      rw [itR_next hlt]
      generalize hR : runl (fun x => f x r) (f x r) (L - x) x = R at *
      have htag : digB (tag (f x r)) = false ∧ blB (tag (f x r)) = false ∧ (tag (f x r) = 98 ∨ tag (f x r) = 111) ∧ (tag (f x r) = 111 ↔ f x r = 1) := by
        unfold tag
        by_cases h1 : f x r = 1
        · rw [if_pos h1]; exact ⟨rfl, rfl, .inr rfl, fun _ => h1, fun _ => rfl⟩
        · rw [if_neg h1]; exact ⟨rfl, rfl, .inl rfl, fun h => absurd h (by decide), fun h => absurd h h1⟩
      have hv := hf x r
      obtain ⟨j, ds, _, hcnt, hj, hst⟩ := step_item (pre := pre) (r := itR (fun x => f x r) (x + R) L ++ rest) (n := R) (t := tag (f x r)) (W := W) (H := H) (row := r) (col := x) (F := upto f W r x) hp (by omega) htag.1 htag.2.1
      have hgo : stepT (pre ++ (item R (tag (f x r)) ++ (itR (fun x => f x r) (x + R) L ++ rest))) W H j r x (upto f W r x) ds (tag (f x r)) = .go (pre ++ item R (tag (f x r))).length r (x + R) (upto f W r (x + R)) := by
        unfold stepT
        rw [if_pos htag.2.2.1, hcnt, if_neg (by omega), hj]
        congr 1
        by_cases h1 : f x r = 1
        · rw [if_pos (htag.2.2.2.2 h1)]
          exact upto_fill (by omega) (fun i hi => by rw [← h1]; exact hsm i hi)
        · rw [if_neg (fun h => h1 (htag.2.2.2.1 h))]
          exact upto_skip (by omega) (fun i hi => by rw [hsm i hi]; omega)
      rw [hgo] at hst
      have e : pre ++ (item R (tag (f x r)) ++ itR (fun x => f x r) (x + R) L ++ rest) = pre ++ (item R (tag (f x r)) ++ (itR (fun x => f x r) (x + R) L ++ rest)) := by simp
      rw [e, runR_go (by simp) hst]
      rw [item_app]
      have := run_row hW hr hf rest m' (x + R) (pre ++ item R (tag (f x r))) (by rw [hLe]; omega) (by rw [hLe]; omega)
      rw [hLe] at this
      rw [this]
      simp
    · have he : x = tlen (fun x => f x r) W := by omega
      rw [← he, itR_end (Nat.le_refl _)]
      simp
theorem upto_next {f : Nat → Nat → Nat} {W r : Nat} : upto f W r W = upto f W (r + 1) 0 := by
  funext k
  unfold upto
  rw [show (r + 1) * W + 0 = r * W + W by rw [Nat.succ_mul]; omega]
/-- What was written from a row on is read. -/
theorem run_rows {f : Nat → Nat → Nat} {W H : Nat} (hW : W ≤ 100) (hH : H ≤ 100) (hf : ∀ x y, f x y < 2) : ∀ (k r a c : Nat) (pre : List UInt8), r + k = H → a ≤ r → c ≤ W → (a = 0 → c = 0) →
    runR (pre ++ rowsR f W k r a) W H pre.length (r - a) c (upto f W r 0) = .ok (upto f W H 0)
  | 0, r, a, c, pre, hr, ha, hc, h0 => by
    obtain rfl : r = H := by omega
    refine runR_ok (by simp) ?_
    unfold step rowsR
    have hs : skp (pre ++ [33, 10]) pre.length = pre.length := skp_none (.inr ⟨33, [10], rfl, rfl⟩)
    have hd : dgs (pre ++ [33, 10]) pre.length = [] := dgs_app (ds := []) (r := [33, 10]) (fun b hb => absurd hb List.not_mem_nil) (.inr ⟨33, [10], rfl, rfl⟩)
    rw [hs, hd]
    unfold stepJ
    rw [if_neg (fun h => h.1 rfl), if_neg (by simp)]
    rw [List.length_nil, getD_app]
    unfold stepT
    rw [if_neg (by decide), if_neg (by decide), if_pos (by decide), if_neg (fun h => h rfl)]
    have e : pre ++ [33, 10] = (pre ++ [33]) ++ [10] := by simp
    have hs2 : skp (pre ++ [33, 10]) (pre.length + ([] : List UInt8).length + 1) = (pre ++ [33, 10]).length := by
      unfold skp
      rw [e, show pre.length + ([] : List UInt8).length + 1 = (pre ++ [33]).length by simp, drop_app]
      have := takeWhile_app (P := blB) (ds := [10]) (r := []) (fun b hb => by rw [List.mem_singleton] at hb; subst hb; rfl) (.inl rfl)
      rw [List.append_nil] at this
      rw [this]
      simp
    rw [hs2, if_neg (Nat.lt_irrefl _)]
  | k + 1, r, a, c, pre, hr, ha, hc, h0 => by
    have hrH : r < H := by omega
    unfold rowsR
    have hL := tlen_le (fun x => f x r) W
    have hz : upto f W r (tlen (fun x => f x r) W) = upto f W (r + 1) 0 := by
      rw [← upto_next]
      have := upto_skip (f := f) (W := W) (r := r) (x := tlen (fun x => f x r) W) (n := W - tlen (fun x => f x r) W) (by omega) (fun j hj => tlen_zero (g := fun x => f x r) (Nat.le_add_right _ _) (by omega))
      rw [show tlen (fun x => f x r) W + (W - tlen (fun x => f x r) W) = W by omega] at this
      exact this
    by_cases ht : tlen (fun x => f x r) W = 0
    · rw [if_pos ht]
      rw [ht] at hz
      have := run_rows hW hH hf k (r + 1) (a + 1) c pre (by omega) (by omega) hc (fun h => by omega)
      rw [hz, ← this]
      rw [show r + 1 - (a + 1) = r - a by omega]
    · rw [if_neg ht]
      have key : ∀ pre2 : List UInt8, runR (pre2 ++ (itR (fun x => f x r) 0 (tlen (fun x => f x r) W) ++ rowsR f W k (r + 1) 1)) W H pre2.length r 0 (upto f W r 0) = .ok (upto f W H 0) := fun pre2 => by
        rw [run_row hW hrH hf _ _ 0 pre2 (Nat.le_refl _) (Nat.zero_le _), hz]
        have := run_rows hW hH hf k (r + 1) 1 (tlen (fun x => f x r) W) (pre2 ++ itR (fun x => f x r) 0 (tlen (fun x => f x r) W)) (by omega) (by omega) hL (fun h => by omega)
        rw [List.append_assoc] at this
        rw [← this]
        rfl
      by_cases ha0 : a = 0
      · subst ha0
        rw [h0 rfl]
        have := key pre
        exact this
      · obtain ⟨j, ds, _, hcnt, hj, hst⟩ := step_item (pre := pre) (r := itR (fun x => f x r) 0 (tlen (fun x => f x r) W) ++ rowsR f W k (r + 1) 1) (n := a) (t := 36) (W := W) (H := H) (row := r - a) (col := c) (F := upto f W r 0) (by omega) (by omega) rfl rfl
        have hgo : stepT (pre ++ (item a 36 ++ (itR (fun x => f x r) 0 (tlen (fun x => f x r) W) ++ rowsR f W k (r + 1) 1))) W H j (r - a) c (upto f W r 0) ds 36 = .go (pre ++ item a 36).length r 0 (upto f W r 0) := by
          unfold stepT
          rw [if_neg (by decide), if_pos rfl, hcnt, if_neg (by omega), hj, show r - a + a = r by omega]
        rw [hgo] at hst
        rw [runR_go (by simp) hst, item_app]
        exact key (pre ++ item a 36)
/-- WHAT IS WRITTEN BY RUNS SAYS THE PATTERN. -/
theorem parse_runs {W H : Nat} {f : Nat → Nat → Nat} (hW : W ≤ 100) (hH : H ≤ 100) (hf : ∀ x y, f x y < 2) : parse (runsS W H f) = .ok W H (upto f W H 0) := by
  have hl := runsS_len (f := f) hW hH
  unfold parse
  rw [if_neg (by omega)]
  unfold runsS
  rw [head_app hW hH]
  have := run_rows hW hH hf H 0 0 0 (headS W H) (by omega) (Nat.le_refl _) (Nat.zero_le _) (fun _ => rfl)
  have e : upto f W 0 0 = fun _ => 0 := by
    funext k
    unfold upto
    rw [if_neg (by omega)]
  rw [e, Nat.sub_self] at this
  show fin W H (runR (headS W H ++ rowsR f W H 0 0) W H (headS W H).length 0 0 fun _ => 0) = _
  rw [this]
  rfl
end Pr
end Go.Proofs.YtgagophijmiceaaDoor

/- WRITTEN AND READ, plain: what is drawn says the pattern. -/
namespace Go.Proofs.YtgagophijmiceaaDoor
set_option linter.unusedSimpArgs false
set_option linter.unusedVariables false
namespace Pr
open Rd Pw Bl Pn

theorem drB_split (W : Nat) (f : Nat → Nat → Nat) (k : Nat) : ∀ K, k ≤ K → ∃ r, drB W f K = drB W f k ++ r
  | 0, h => ⟨[], by rw [Nat.le_zero.1 h, List.append_nil]⟩
  | K + 1, h => by
    by_cases e : k = K + 1
    · exact ⟨[], by rw [e, List.append_nil]⟩
    · obtain ⟨r, hr⟩ := drB_split W f k K (by omega)
      exact ⟨r ++ rb (rnN W f K), by rw [drB, hr, List.append_assoc]⟩
theorem drB_at {W : Nat} {f : Nat → Nat → Nat} {k K : Nat} (h : k < K) : ∃ r, drB W f K = drB W f k ++ (rb (rnN W f k) ++ r) := by
  obtain ⟨r, hr⟩ := drB_split W f (k + 1) K h
  exact ⟨r, by rw [hr, drB, List.append_assoc]⟩
theorem tok_app {p r : List UInt8} {n : Nat} (h : n = 10 ∨ n = 9679 ∨ n = 183) : tok (p ++ (rb n ++ r)) p.length = if n = 10 then 2 else if n = 9679 then 1 else 0 := by
  unfold tok
  have h0 := getD_app (pre := p) (r := rb n ++ r) 0
  rw [Nat.add_zero] at h0
  rw [h0, getD_app, getD_app]
  have hl : (p ++ (rb n ++ r)).length - p.length = (rb n ++ r).length := by rw [List.length_append]; omega
  rw [hl]
  rcases h with rfl | rfl | rfl
  · show tokN _ (10 : UInt8).toNat _ _ = _
    unfold tokN
    rw [if_neg (fun h => absurd h.1 (by decide)), if_neg (fun h => absurd h.1 (by decide)), if_pos (by decide), if_pos rfl]
  · show tokN _ (226 : UInt8).toNat (151 : UInt8).toNat (143 : UInt8).toNat = _
    unfold tokN
    rw [if_neg (fun h => absurd h.1 (by decide)), if_pos ⟨by decide, by simp [rb], by decide, by decide⟩, if_neg (by decide), if_pos rfl]
  · show tokN _ (194 : UInt8).toNat (183 : UInt8).toNat _ = _
    unfold tokN
    rw [if_pos ⟨by decide, by simp [rb], by decide⟩, if_neg (by decide), if_neg (by decide)]
theorem put_upto {f : Nat → Nat → Nat} {W x y : Nat} (hx : x < W) (hf : f x y < 2) : put (upto f W y x) (y * W + x) (if f x y = 1 then 1 else 0) = upto f W y (x + 1) := by
  funext k
  unfold put upto
  by_cases h : k = y * W + x
  · rw [if_pos h, h, if_pos (show y * W + x < y * W + (x + 1) by omega), (place hx).1, (place hx).2]
    split <;> omega
  · rw [if_neg h]
    by_cases h2 : k < y * W + x
    · rw [if_pos h2, if_pos (by omega)]
    · rw [if_neg h2, if_neg (by omega)]
/-- A row of a drawing, read. -/
theorem draw_row {f : Nat → Nat → Nat} {W H y W0 fr : Nat} (hW : W ≤ 100) (hH : H ≤ 100) (hy : y < H) (hf : ∀ x y, f x y < 2) : ∀ m x, x + m = W →
    drunR (drawS W H f) fr x (drB W f (y * (W + 1) + x)).length W0 y (y * W + x) (upto f W y x) = drunR (drawS W H f) fr W (drB W f (y * (W + 1) + W)).length W0 y (y * W + W) (upto f W y W)
  | 0, x, h => by
    have : x = W := by omega
    subst this
    rfl
  | m + 1, x, h => by
    have hk : y * (W + 1) + x < H * (W + 1) := by
      have := at_lt (x := x) (W := W + 1) (H := H) (y := y) (by omega) hy
      rw [Nat.mul_comm H]
      exact this
    obtain ⟨r, hr⟩ := drB_at (f := f) hk
    have hn := rnN_cell (y := y) f (show x < W by omega)
    have ht : tok (drawS W H f) (drB W f (y * (W + 1) + x)).length = if f x y = 1 then 1 else 0 := by
      unfold drawS
      rw [hr, tok_app (rnN_some W f _), hn]
      by_cases h1 : f x y = 1
      · rw [if_pos h1, if_pos h1]; rfl
      · rw [if_neg h1, if_neg h1]; rfl
    have hlen : (drB W f (y * (W + 1) + x)).length + 2 + (if f x y = 1 then 1 else 0) = (drB W f (y * (W + 1) + (x + 1))).length := by
      rw [← Nat.add_assoc, drB, List.length_append, hn]
      by_cases h1 : f x y = 1
      · rw [if_pos h1, if_pos h1]; rfl
      · rw [if_neg h1, if_neg h1]; rfl
    have hl : (drB W f (y * (W + 1) + x)).length + 2 ≤ (drawS W H f).length := by
      unfold drawS
      rw [hr, List.length_append, List.length_append]
      have : 2 ≤ (rb (rnN W f (y * (W + 1) + x))).length := by
        rw [hn]
        by_cases h1 : f x y = 1
        · rw [if_pos h1]; decide
        · rw [if_neg h1]; decide
      omega
    have hs := ds_cell (l := drawS W H f) (fr := fr) (n := x) (i := (drB W f (y * (W + 1) + x)).length) (W := W0) (H := y) (N := y * W + x) (F := upto f W y x) (by omega) (by rw [ht]; split <;> omega) (by omega) (by omega)
    rw [ht, hlen, put_upto (by omega) (hf x y)] at hs
    rw [drunR_go (by omega) hs, show y * W + x + 1 = y * W + (x + 1) by omega]
    exact draw_row hW hH hy hf m (x + 1) (by omega)
/-- The rows of a drawing, read. -/
theorem draw_rows {f : Nat → Nat → Nat} {W H : Nat} (hW : W ≤ 100) (hH : H ≤ 100) (hf : ∀ x y, f x y < 2) : ∀ m y, y + m = H →
    drunR (drawS W H f) (drB W f (y * (W + 1))).length 0 (drB W f (y * (W + 1))).length (if y = 0 then 0 else W) y (y * W) (upto f W y 0) = .ok (if H = 0 then 0 else W) H (H * W) (upto f W H 0)
  | 0, y, h => by
    have : y = H := by omega
    subst this
    refine drunR_ok (Nat.le_refl _) (ds_ok (Nat.le_refl _) ?_)
    exact Nat.lt_irrefl _
  | m + 1, y, h => by
    have hy : y < H := by omega
    have h1 := draw_row (W0 := if y = 0 then 0 else W) (fr := (drB W f (y * (W + 1))).length) hW hH hy hf W 0 (by omega)
    rw [show y * (W + 1) + 0 = y * (W + 1) from rfl, show y * W + 0 = y * W from rfl] at h1
    rw [h1]
    have hk : y * (W + 1) + W < H * (W + 1) := by
      have := at_lt (x := W) (W := W + 1) (H := H) (y := y) (by omega) hy
      rw [Nat.mul_comm H]
      exact this
    obtain ⟨r, hr⟩ := drB_at (f := f) hk
    have hn := rnN_end (W := W) (y := y) f
    have ht : tok (drawS W H f) (drB W f (y * (W + 1) + W)).length = 2 := by
      unfold drawS
      rw [hr, tok_app (rnN_some W f _), hn]
      rfl
    have hlen : (drB W f (y * (W + 1) + W)).length + 1 = (drB W f ((y + 1) * (W + 1))).length := by
      rw [show (y + 1) * (W + 1) = y * (W + 1) + W + 1 by rw [Nat.succ_mul]; omega, drB, List.length_append, hn]
      rfl
    have hl : (drB W f (y * (W + 1) + W)).length + 1 ≤ (drawS W H f).length := by
      unfold drawS
      rw [hr, List.length_append, List.length_append, hn]
      have : (rb 10).length = 1 := rfl
      omega
    have hs := ds_row (l := drawS W H f) (fr := (drB W f (y * (W + 1))).length) (n := W) (i := (drB W f (y * (W + 1) + W)).length) (W := if y = 0 then 0 else W) (H := y) (N := y * W + W) (F := upto f W y W) (by omega) ht (by omega) (by
      intro h
      rw [if_neg (by omega)] at h
      exact h.2 rfl)
    rw [hlen] at hs
    rw [drunR_go (by omega) hs, upto_next, show y * W + W = (y + 1) * W by rw [Nat.succ_mul]]
    have := draw_rows hW hH hf m (y + 1) (by omega)
    rw [if_neg (by omega)] at this
    exact this
/-- WHAT IS DRAWN SAYS THE PATTERN. -/
theorem parse_draw {W H : Nat} {f : Nat → Nat → Nat} (hW : W ≤ 100) (hH : H ≤ 100) (hf : ∀ x y, f x y < 2) : dparse (drawS W H f) = .ok (if H = 0 then 0 else W) H (H * W) (upto f W H 0) := by
  have hl := drB_len W f (H * (W + 1))
  have hm : H * (W + 1) ≤ 100 * 101 := Nat.mul_le_mul hH (by omega)
  rw [dparse_run (by unfold drawS; omega)]
  have := draw_rows hW hH hf H 0 (by omega)
  have e : upto f W 0 0 = fun _ => 0 := by
    funext k
    unfold upto
    rw [if_neg (by omega)]
  rw [e, if_pos rfl, Nat.zero_mul, Nat.zero_mul] at this
  exact this
theorem upto_all {f : Nat → Nat → Nat} {W H : Nat} : lstN (W * H) (upto f W H 0) = flat W H f := by
  unfold lstN flat
  refine List.map_congr_left fun k hk => ?_
  have hk := List.mem_range.1 hk
  unfold upto
  rw [if_pos (by rw [Nat.mul_comm H]; omega)]
end Pr
end Go.Proofs.YtgagophijmiceaaDoor
