/- Several texts laid together: PrDPl PrIx. -/
import Derived.Test.YtgagophijmiceaaDoorPrPl
import Derived.Lib.DecodeN
import Derived.Shelf.Unicode.DecodeSlow
import Derived.Test.YtgagophijmiceaaDoorPwDw
import Derived.Test.YtgagophijmiceaaDoorPwRuns
/- TEXTS AS PATTERNS, plain: what a drawing says, step by step. -/
namespace Go.Proofs.YtgagophijmiceaaDoor
set_option linter.unusedSimpArgs false
set_option linter.unusedVariables false
namespace Pr
open Rd

/-- What stands there: an empty cell, a living one, a row's end, or nothing that is known. -/
def tokN (n b0 b1 b2 : Nat) : Nat := if b0 = 194 ∧ 1 < n ∧ b1 = 183 then 0 else if b0 = 226 ∧ 2 < n ∧ b1 = 151 ∧ b2 = 143 then 1 else if b0 = 10 then 2 else 3
def tok (l : List UInt8) (i : Nat) : Nat := tokN (l.length - i) (l.getD i 0).toNat (l.getD (i + 1) 0).toNat (l.getD (i + 2) 0).toNat
theorem tokN_dec {n b0 b1 b2 b3 : Nat} (h0 : b0 < 256) (h1 : b1 < 256) (h2 : b2 < 256) (h3 : b3 < 256) :
    (tokN n b0 b1 b2 = 0 ∧ Lib.decodeN n b0 b1 b2 b3 = (183, 2)) ∨ (tokN n b0 b1 b2 = 1 ∧ Lib.decodeN n b0 b1 b2 b3 = (9679, 3)) ∨ (tokN n b0 b1 b2 = 2 ∧ Lib.decodeN n b0 b1 b2 b3 = (10, 1)) ∨
    (tokN n b0 b1 b2 = 3 ∧ (Lib.decodeN n b0 b1 b2 b3).1 ≠ 183 ∧ (Lib.decodeN n b0 b1 b2 b3).1 ≠ 9679 ∧ (Lib.decodeN n b0 b1 b2 b3).1 ≠ 10) := by
  unfold tokN
  by_cases c0 : b0 = 194 ∧ 1 < n ∧ b1 = 183
  · obtain ⟨rfl, hn, rfl⟩ := c0
    refine .inl ⟨if_pos ⟨rfl, hn, rfl⟩, ?_⟩
    unfold Lib.decodeN
    rw [if_neg (by decide), if_pos ⟨by decide, hn, by decide⟩]
    decide
  · rw [if_neg c0]
    by_cases c1 : b0 = 226 ∧ 2 < n ∧ b1 = 151 ∧ b2 = 143
    · obtain ⟨rfl, hn, rfl, rfl⟩ := c1
      refine .inr (.inl ⟨if_pos ⟨rfl, hn, rfl, rfl⟩, ?_⟩)
      unfold Lib.decodeN
      rw [if_neg (by decide), if_neg (fun h => absurd h.1 (by decide)), if_pos ⟨by decide, ⟨by omega, by decide⟩, hn, by decide⟩]
      decide
    · rw [if_neg c1]
      by_cases c2 : b0 = 10
      · subst c2
        exact .inr (.inr (.inl ⟨if_pos rfl, by unfold Lib.decodeN; rw [if_pos (by decide)]⟩))
      · rw [if_neg c2]
        refine .inr (.inr (.inr ⟨rfl, ?_⟩))
        unfold Lib.decodeN
        repeat' split
        all_goals (refine ⟨?_, ?_, ?_⟩ <;> dsimp only <;> omega)
theorem tok_cases (l : List UInt8) (i : Nat) : tok l i = 0 ∨ tok l i = 1 ∨ tok l i = 2 ∨ tok l i = 3 := by
  unfold tok tokN
  split
  · exact .inl rfl
  · split
    · exact .inr (.inl rfl)
    · split
      · exact .inr (.inr (.inl rfl))
      · exact .inr (.inr (.inr rfl))
theorem tok_le {l : List UInt8} {i : Nat} (h : tok l i < 2) : i + 2 + tok l i ≤ l.length := by
  unfold tok at h ⊢
  generalize (l.getD i 0).toNat = b0 at *
  generalize (l.getD (i + 1) 0).toNat = b1 at *
  generalize (l.getD (i + 2) 0).toNat = b2 at *
  unfold tokN at h ⊢
  split at h
  · rename_i c
    rw [if_pos c]
    omega
  · rename_i c
    split at h
    · rename_i d
      rw [if_neg c, if_pos d]
      omega
    · split at h <;> omega
/-- What a drawing comes to: a fault at a place, sides and cells, or it goes on: from a row's beginning, so many cells on, at a place. -/
inductive DO
  | bad (pl : Nat) (e : Int)
  | ok (W H N : Nat) (F : Nat → Nat)
  | go (fr n i W H N : Nat) (F : Nat → Nat)
def put (F : Nat → Nat) (N t : Nat) (k : Nat) : Nat := if k = N then t else F k
def dstepT (t fr n i W H N : Nat) (F : Nat → Nat) : DO :=
  if t = 3 then .bad i 2
  else if t = 2 then (if H = 100 then .bad fr 1 else if 0 < H ∧ n ≠ W then .bad fr 3 else .go (i + 1) 0 (i + 1) n (H + 1) N F)
  else if n = 100 then .bad i 1
  else if n = 0 ∧ H = 100 then .bad fr 1
  else .go fr (n + 1) (i + 2 + t) W H (N + 1) (put F N t)
def dstep (l : List UInt8) (fr n i W H N : Nat) (F : Nat → Nat) : DO :=
  if l.length ≤ i then (if fr < l.length then .bad l.length 2 else .ok W H N F) else dstepT (tok l i) fr n i W H N F
def drun (l : List UInt8) : Nat → Nat → Nat → Nat → Nat → Nat → Nat → (Nat → Nat) → DO
  | 0, _, _, _, _, _, _, _ => .bad 0 0
  | k + 1, fr, n, i, W, H, N, F => match dstep l fr n i W H N F with
    | .go fr' n' i' W' H' N' F' => drun l k fr' n' i' W' H' N' F'
    | o => o
theorem dstep_go {l : List UInt8} {fr n i W H N : Nat} {F : Nat → Nat} {fr' n' i' W' H' N' : Nat} {F' : Nat → Nat} (h : dstep l fr n i W H N F = .go fr' n' i' W' H' N' F') : i < i' ∧ i' ≤ l.length := by
  unfold dstep at h
  split at h
  · split at h <;> cases h
  · unfold dstepT at h
    split at h
    · cases h
    · split at h
      · split at h
        · cases h
        · split at h
          · cases h
          · cases h
            omega
      · split at h
        · cases h
        · split at h
          · cases h
          · cases h
            have ht := tok_cases l i
            have := tok_le (l := l) (i := i) (by omega)
            omega
theorem drun_fuel (l : List UInt8) : ∀ k m fr n i W H N F, l.length < k + i → l.length < m + i → i ≤ l.length → drun l k fr n i W H N F = drun l m fr n i W H N F
  | 0, _, fr, n, i, W, H, N, F, h, _, hi => by omega
  | _, 0, fr, n, i, W, H, N, F, _, h, hi => by omega
  | k + 1, m + 1, fr, n, i, W, H, N, F, h, h2, hi => by
    unfold drun
    cases hs : dstep l fr n i W H N F with
    | bad => rfl
    | ok => rfl
    | go fr' n' i' W' H' N' F' =>
      have := dstep_go hs
      exact drun_fuel l k m fr' n' i' W' H' N' F' (by omega) (by omega) this.2
/-- What comes of a drawing from a place on. -/
def drunR (l : List UInt8) (fr n i W H N : Nat) (F : Nat → Nat) : DO := drun l (l.length + 1 - i) fr n i W H N F
theorem drunR_go {l : List UInt8} {fr n i W H N : Nat} {F : Nat → Nat} {fr' n' i' W' H' N' : Nat} {F' : Nat → Nat} (hi : i ≤ l.length) (h : dstep l fr n i W H N F = .go fr' n' i' W' H' N' F') : drunR l fr n i W H N F = drunR l fr' n' i' W' H' N' F' := by
  have := dstep_go h
  unfold drunR
  rw [show l.length + 1 - i = (l.length - i) + 1 by omega, drun, h]
  exact drun_fuel l _ _ _ _ _ _ _ _ _ (by omega) (by omega) this.2
theorem drunR_bad {l : List UInt8} {fr n i W H N : Nat} {F : Nat → Nat} {p : Nat} {e : Int} (hi : i ≤ l.length) (h : dstep l fr n i W H N F = .bad p e) : drunR l fr n i W H N F = .bad p e := by
  unfold drunR
  rw [show l.length + 1 - i = (l.length - i) + 1 by omega, drun, h]
theorem drunR_ok {l : List UInt8} {fr n i W H N : Nat} {F : Nat → Nat} {W' H' N' : Nat} {F' : Nat → Nat} (hi : i ≤ l.length) (h : dstep l fr n i W H N F = .ok W' H' N' F') : drunR l fr n i W H N F = .ok W' H' N' F' := by
  unfold drunR
  rw [show l.length + 1 - i = (l.length - i) + 1 by omega, drun, h]
def dparse (l : List UInt8) : DO := if 40000 < l.length then .bad 0 4 else drunR l 0 0 0 0 0 0 fun _ => 0
theorem dparse_long {l : List UInt8} (h : 40000 < l.length) : dparse l = .bad 0 4 := by
  unfold dparse
  rw [if_pos h]
theorem dparse_run {l : List UInt8} (h : l.length ≤ 40000) : dparse l = drunR l 0 0 0 0 0 0 fun _ => 0 := by
  unfold dparse
  rw [if_neg (by omega)]
/-! The steps, one by one. -/
theorem ds_end {l : List UInt8} {fr n i W H N : Nat} {F : Nat → Nat} (h : l.length ≤ i) (h2 : fr < l.length) : dstep l fr n i W H N F = .bad l.length 2 := by unfold dstep; rw [if_pos h, if_pos h2]
theorem ds_ok {l : List UInt8} {fr n i W H N : Nat} {F : Nat → Nat} (h : l.length ≤ i) (h2 : ¬ fr < l.length) : dstep l fr n i W H N F = .ok W H N F := by unfold dstep; rw [if_pos h, if_neg h2]
theorem ds_bad {l : List UInt8} {fr n i W H N : Nat} {F : Nat → Nat} (h : i < l.length) (ht : tok l i = 3) : dstep l fr n i W H N F = .bad i 2 := by
  unfold dstep dstepT
  rw [if_neg (by omega), if_pos ht]
theorem ds_row100 {l : List UInt8} {fr n i W H N : Nat} {F : Nat → Nat} (h : i < l.length) (ht : tok l i = 2) (hH : H = 100) : dstep l fr n i W H N F = .bad fr 1 := by
  unfold dstep dstepT
  rw [if_neg (by omega), if_neg (by omega), if_pos ht, if_pos hH]
theorem ds_rowne {l : List UInt8} {fr n i W H N : Nat} {F : Nat → Nat} (h : i < l.length) (ht : tok l i = 2) (hH : H ≠ 100) (h0 : 0 < H ∧ n ≠ W) : dstep l fr n i W H N F = .bad fr 3 := by
  unfold dstep dstepT
  rw [if_neg (by omega), if_neg (by omega), if_pos ht, if_neg hH, if_pos h0]
theorem ds_row {l : List UInt8} {fr n i W H N : Nat} {F : Nat → Nat} (h : i < l.length) (ht : tok l i = 2) (hH : H ≠ 100) (h0 : ¬ (0 < H ∧ n ≠ W)) : dstep l fr n i W H N F = .go (i + 1) 0 (i + 1) n (H + 1) N F := by
  unfold dstep dstepT
  rw [if_neg (by omega), if_neg (by omega), if_pos ht, if_neg hH, if_neg h0]
theorem ds_n100 {l : List UInt8} {fr n i W H N : Nat} {F : Nat → Nat} (h : i < l.length) (ht : tok l i < 2) (hn : n = 100) : dstep l fr n i W H N F = .bad i 1 := by
  unfold dstep dstepT
  rw [if_neg (by omega), if_neg (by omega), if_neg (by omega), if_pos hn]
theorem ds_h100 {l : List UInt8} {fr n i W H N : Nat} {F : Nat → Nat} (h : i < l.length) (ht : tok l i < 2) (hn : n = 0 ∧ H = 100) : dstep l fr n i W H N F = .bad fr 1 := by
  unfold dstep dstepT
  rw [if_neg (by omega), if_neg (by omega), if_neg (by omega), if_neg (by omega), if_pos hn]
theorem ds_cell {l : List UInt8} {fr n i W H N : Nat} {F : Nat → Nat} (h : i < l.length) (ht : tok l i < 2) (hn : n ≠ 100) (h0 : ¬ (n = 0 ∧ H = 100)) : dstep l fr n i W H N F = .go fr (n + 1) (i + 2 + tok l i) W H (N + 1) (put F N (tok l i)) := by
  unfold dstep dstepT
  rw [if_neg (by omega), if_neg (by omega), if_neg (by omega), if_neg hn, if_neg h0]
end Pr
end Go.Proofs.YtgagophijmiceaaDoor

/- WALK: slices.Index of the two marks; what the decoder says at a place. -/
namespace Go.Proofs.YtgagophijmiceaaDoor
set_option linter.unusedSimpArgs false
set_option linter.unusedVariables false
open Go.RowKit
namespace Pr
open Tld Mem Bl Pn Pw Rd

theorem get_getD (s : ByteArray) (k : Nat) : s.get! k = s.data.toList.getD k 0 := by
  cases s with
  | mk d =>
    show d.getD k default = d.toList.getD k 0
    by_cases h : k < d.size
    · simp [Array.getD, h, List.getD_eq_getElem?_getD]
    · simp [Array.getD, h, List.getD_eq_getElem?_getD]
      rfl
theorem ext_list (s : ByteArray) (i : Nat) : (s.extract i s.size).data.toList = s.data.toList.drop i := by
  rw [ByteArray.data_extract, Array.toList_extract, List.extract_eq_take_drop]
  exact List.take_of_length_le (by rw [List.length_drop, ← Lib.size_eq]; omega)
theorem dec_tok (s : ByteArray) (i : Nat) (hi : i < s.size) :
    (tok s.data.toList i = 0 ∧ Lib.decodeGo (s.extract i s.size) = (183, 2)) ∨ (tok s.data.toList i = 1 ∧ Lib.decodeGo (s.extract i s.size) = (9679, 3)) ∨ (tok s.data.toList i = 2 ∧ Lib.decodeGo (s.extract i s.size) = (10, 1)) ∨
    (tok s.data.toList i = 3 ∧ (Lib.decodeGo (s.extract i s.size)).1 ≠ 183 ∧ (Lib.decodeGo (s.extract i s.size)).1 ≠ 9679 ∧ (Lib.decodeGo (s.extract i s.size)).1 ≠ 10) := by
  have hl := ext_list s i
  have hsz : (s.extract i s.size).size = s.size - i := by rw [ByteArray.size_extract]; omega
  have e : Lib.decodeGo (s.extract i s.size) = Lib.decodeN (s.data.toList.length - i) (s.data.toList.getD i 0).toNat (s.data.toList.getD (i + 1) 0).toNat (s.data.toList.getD (i + 2) 0).toNat (s.data.toList.getD (i + 3) 0).toNat := by
    unfold Lib.decodeGo
    rw [hsz, if_neg (by omega), Lib.decode_at, hsz, get_getD, get_getD, get_getD, get_getD, hl, ← Lib.size_eq]
    simp only [List.getD_eq_getElem?_getD, List.getElem?_drop, Nat.add_zero, Nat.zero_add, Nat.sub_zero]
  rw [e]
  exact tokN_dec (UInt8.toNat_lt _) (UInt8.toNat_lt _) (UInt8.toNat_lt _) (UInt8.toNat_lt _)
/-- A mark's place, or none. -/
def ixN (r : Int) : Int := if r = 183 then 0 else if r = 9679 then 1 else -1
set_option maxHeartbeats 8000000 in
set_option maxRecDepth 1000000 in
theorem marks_index (mb mo mc : Nat) (r : Int) (w : World) (h0 : w.cell? ⟨mb, mo + 0, none⟩ = some (.int .i32 183)) (h1 : w.cell? ⟨mb, mo + 1, none⟩ = some (.int .i32 9679)) :
    Calls Tryd.prog 39 #[.slice (some ⟨mb, mo, none⟩) 2 mc, .int .i32 r] w fun e w' => e = .returned (.int .i64 (ixN r)) ∧ Below w.heap.size w w' := by
  have HC : Hid (∀ wx, Below w.heap.size w wx → wx.cell? ⟨mb, mo + 0, none⟩ = some (.int .i32 183) ∧ wx.cell? ⟨mb, mo + 1, none⟩ = some (.int .i32 9679)) := Lib.hid (fun wx hb => ⟨(hb.cell (p := ⟨mb, mo + 0, none⟩) (Mem.lt_of_cell h0)).trans h0, (hb.cell (p := ⟨mb, mo + 1, none⟩) (Mem.lt_of_cell h1)).trans h1⟩)
  clear h0 h1
  go_enter Tryd.func39, Tryd.ntmps39
  go_wp2_with fail
  go_loopw [8] (fun v wr => ∃ k : Nat, v = .int .i64 (k : Int) ∧ k ≤ 2 ∧ (0 < k → r ≠ 183) ∧ (1 < k → r ≠ 9679) ∧ Below w.heap.size w wr) (fun v _ => 2 - (RowKit.intOf v).toNat)
  case atStart => exact ⟨0, rfl, by omega, fun h => absurd h (by omega), fun h => absurd h (by omega), Below.refl _ _⟩
  case round =>
    obtain ⟨k, rfl, hk, hr0, hr1, hb⟩ := hrel
    have hc := HC.out wr hb
    have HB := Lib.hid hb
    have hc0 : wr.cell? ⟨mb, mo, none⟩ = some (.int .i32 183) := hc.1
    have hc1 := hc.2
    have HR0 := Lib.hid hr0
    have HR1 := Lib.hid hr1
    clear hb hc hr0 hr1
    obtain rfl | rfl | rfl : k = 0 ∨ k = 1 ∨ k = 2 := by omega
    · by_cases hr : r = 183
      · have HX : Hid (ixN r = 0) := Lib.hid (by unfold ixN; rw [if_pos hr])
        have hq : (r == 183) = true := by rw [beq_iff_eq]; exact hr
        clear hr
        go_wp2_with fail
        go_ret
        exact ⟨by rw [HX.out]; rfl, HB.out⟩
      · have HR : Hid (r ≠ 183) := Lib.hid hr
        have hq : (r == 183) = false := by rw [beq_eq_false_iff_ne]; exact hr
        clear hr
        go_wp2_with fail
        go_roundw
        case rel => exact ⟨1, rfl, by omega, fun _ => HR.out, fun h => absurd h (by omega), HB.out⟩
        case measure => decide
    · by_cases hr : r = 9679
      · have HX : Hid (ixN r = 1) := Lib.hid (by unfold ixN; rw [if_neg (HR0.out (by decide)), if_pos hr])
        have hq : (r == 9679) = true := by rw [beq_iff_eq]; exact hr
        clear hr
        go_wp2_with fail
        go_ret
        exact ⟨by rw [HX.out]; rfl, HB.out⟩
      · have HR : Hid (r ≠ 9679) := Lib.hid hr
        have hq : (r == 9679) = false := by rw [beq_eq_false_iff_ne]; exact hr
        clear hr
        go_wp2_with fail
        go_roundw
        case rel => exact ⟨2, rfl, by omega, fun _ => HR0.out (by decide), fun _ => HR.out, HB.out⟩
        case measure => decide
    · have HX : Hid (ixN r = -1) := Lib.hid (by unfold ixN; rw [if_neg (HR0.out (by decide)), if_neg (HR1.out (by decide))])
      go_wp2_with fail
      go_ret
      exact ⟨by rw [HX.out]; rfl, HB.out⟩
end Pr
end Go.Proofs.YtgagophijmiceaaDoor
