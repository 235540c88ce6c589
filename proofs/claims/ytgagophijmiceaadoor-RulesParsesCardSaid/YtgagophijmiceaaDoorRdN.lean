/- WALK: edenref1.Number: a number in decimal from a place on, and where it ends. -/
import Derived.Test.YtgagophijmiceaaDoorOps
import Derived.Test.YtgagophijmiceaaDoorErr
import Derived.Test.YtgagophijmiceaaDoorRdPl
import Derived.Test.YtgagophijmiceaaDoorChecked
import Derived.WalkSpells
import Derived.WalkLawsBesides
import Derived.Lib.Hide
namespace Go.Proofs.YtgagophijmiceaaDoor
set_option linter.unusedSimpArgs false
set_option linter.unusedVariables false
open Go.RowKit
namespace Rd
open Mem

theorem tw_lt : ∀ {l : List UInt8} {j : Nat}, j < (l.takeWhile digB).length → j < l.length ∧ (l.takeWhile digB).getD j 0 = l.getD j 0 ∧ digB (l.getD j 0) = true
  | [], j, h => by simp at h
  | c :: l, j, h => by
    rw [List.takeWhile_cons] at h ⊢
    split at h
    · rename_i hc
      rw [if_pos hc]
      match j, h with
      | 0, _ => exact ⟨by simp, rfl, hc⟩
      | j + 1, h =>
        have := tw_lt (l := l) (j := j) (by simpa using h)
        simpa using this
    · simp at h
theorem tw_end : ∀ {l : List UInt8}, (l.takeWhile digB).length < l.length → digB (l.getD (l.takeWhile digB).length 0) = false
  | [], h => by simp at h
  | c :: l, h => by
    rw [List.takeWhile_cons] at h ⊢
    split at h
    · rename_i hc
      rw [if_pos hc]
      have := tw_end (l := l) (by simpa using h)
      simpa using this
    · rename_i hc
      rw [if_neg hc]
      simpa using hc
theorem tw_le (l : List UInt8) : (l.takeWhile digB).length ≤ l.length := by
  induction l with
  | nil => simp
  | cons c l ih => rw [List.takeWhile_cons]; split <;> simp <;> omega
theorem val_next {ds : List UInt8} {j : Nat} (h : j < ds.length) : val (ds.take (j + 1)) = val1 (val (ds.take j)) (ds.getD j 0) := by
  unfold val
  rw [List.take_succ_eq_append_getElem h, List.foldl_append, List.getD_eq_getElem?_getD, List.getElem?_eq_getElem h]
  rfl
theorem val_ge : ∀ (ds : List UInt8) (n : Int), (∀ b ∈ ds, digB b = true) → 0 ≤ n → n ≤ 10000000 → 0 ≤ ds.foldl val1 n ∧ ds.foldl val1 n ≤ 10000000
  | [], n, _, h0, h1 => ⟨h0, h1⟩
  | b :: ds, n, hd, h0, h1 => by
    have hb := hd b List.mem_cons_self
    unfold digB at hb
    have hb2 := of_decide_eq_true hb
    rw [List.foldl_cons]
    apply val_ge ds _ (fun x hx => hd x (List.mem_cons_of_mem _ hx))
    · unfold val1; split <;> omega
    · unfold val1; split <;> omega
theorem val_b {ds : List UInt8} (h : ∀ b ∈ ds, digB b = true) (j : Nat) : 0 ≤ val (ds.take j) ∧ val (ds.take j) ≤ 10000000 := val_ge _ 0 (fun b hb => h b (List.mem_of_mem_take hb)) (by omega) (by omega)

theorem get_drop (s : ByteArray) {k : Nat} (h : k < s.size) : s[k]'h = s.data.toList.getD k 0 := by
  have hk : k < s.data.toList.length := by rw [← Lib.size_eq]; exact h
  rw [List.getD_eq_getElem?_getD, List.getElem?_eq_getElem hk]
  simp [ByteArray.getElem_eq_getElem_data]
theorem drop_getD (l : List UInt8) (i j : Nat) : (l.drop i).getD j 0 = l.getD (i + j) 0 := by
  rw [List.getD_eq_getElem?_getD, List.getD_eq_getElem?_getD, List.getElem?_drop]

/-- The digits from a place on. -/
def digs (s : ByteArray) (i : Nat) : List UInt8 := (s.data.toList.drop i).takeWhile digB
/-- What Number tells of digits. -/
def num (ds : List UInt8) : Int := if goodN ds then val ds else -1
theorem digs_all (s : ByteArray) (i : Nat) : ∀ b ∈ digs s i, digB b = true := take_all _
theorem digs_le (s : ByteArray) (i : Nat) (hi : i ≤ s.size) : i + (digs s i).length ≤ s.size := by
  have h := tw_le (s.data.toList.drop i)
  rw [List.length_drop, ← Lib.size_eq] at h
  unfold digs
  omega
theorem digs_lt {s : ByteArray} {i j : Nat} (h : j < (digs s i).length) : i + j < s.size ∧ (digs s i).getD j 0 = s.data.toList.getD (i + j) 0 ∧ digB (s.data.toList.getD (i + j) 0) = true := by
  have h := tw_lt h
  rw [drop_getD] at h
  have h1 := h.1
  rw [List.length_drop, ← Lib.size_eq] at h1
  exact ⟨by omega, h.2⟩
theorem digs_end {s : ByteArray} {i : Nat} (h : i + (digs s i).length < s.size) : digB (s.data.toList.getD (i + (digs s i).length) 0) = false := by
  have h := tw_end (l := s.data.toList.drop i) (by rw [List.length_drop, ← Lib.size_eq]; unfold digs at h; omega)
  rw [drop_getD] at h
  exact h

theorem ret2 {a b c d : Int} (h : a = b) (k : c = d) : Ending.returned (.tuple #[.int .i64 a, .int .i64 c]) = Ending.returned (.tuple #[.int .i64 b, .int .i64 d]) := by rw [h, k]

set_option maxHeartbeats 4000000 in
set_option maxRecDepth 1000000 in
theorem Number_any (s : ByteArray) (i0 : Nat) (w : World) (hs : s.size ≤ 9223372036854775807) (hi : i0 ≤ s.size) : Calls Tryd.prog 32 #[.string s, .int .i64 i0] w fun e w' => e = .returned (.tuple #[.int .i64 (num (digs s i0)), .int .i64 ((i0 + (digs s i0).length : Nat) : Int)]) ∧ w' = w := by
  have hle := digs_le s i0 hi
  have HA := Lib.hid (digs_all s i0)
  have HL : Hid (∀ j, j < (digs s i0).length → i0 + j < s.size ∧ (digs s i0).getD j 0 = s.data.toList.getD (i0 + j) 0 ∧ digB (s.data.toList.getD (i0 + j) 0) = true) := fun j hj => digs_lt hj
  have HE : Hid (i0 + (digs s i0).length < s.size → digB (s.data.toList.getD (i0 + (digs s i0).length) 0) = false) := digs_end
  generalize digs s i0 = ds at *
  go_enter Tryd.func32, Tryd.ntmps32
  go_wp2_with fail
  go_loop [1, 7] (fun u v => ∃ j : Nat, ∃ n : Int, j ≤ ds.length ∧ u = .int .i64 ((i0 + j : Nat) : Int) ∧ v = .int .i64 n ∧ n = val (ds.take j)) (fun u _ => s.size + 2 - (RowKit.intOf u).toNat)
  case atStart => exact ⟨0, 0, Nat.zero_le _, rfl, rfl, rfl⟩
  case round =>
    obtain ⟨j, n, hj, rfl, rfl, hn⟩ := hrel
    have hb := val_b HA.out j
    rw [← hn] at hb
    have HN := Lib.hid hn
    clear hn
    have hnb := hb.1
    have hnc := hb.2
    clear hb
    by_cases hlt : j < ds.length
    · have h3 := HL.out j hlt
      have hkl := h3.1
      have hg := get_drop s hkl
      have hd := h3.2.2
      have HV : Hid (val1 n (s.data.toList.getD (i0 + j) 0) = val (ds.take (j + 1))) := by
        have := val_next hlt
        rw [h3.2.1, ← HN.out] at this
        exact this.symm
      clear h3
      generalize s.data.toList.getD (i0 + j) 0 = x at *
      unfold digB at hd
      have hd2 := of_decide_eq_true hd
      clear hd
      have hx1 : (48 : Int) ≤ (x.toNat : Int) := by omega
      have hx2 : (x.toNat : Int) ≤ 57 := by omega
      clear hd2
      by_cases hm : n < 1000000
      · have e : n * 10 + (x.toNat : Int) - 48 = val (ds.take (j + 1)) := by rw [← HV.out]; unfold val1; rw [if_pos hm]
        have HE2 := Lib.hid e
        clear e
        go_wp2_with fail
        go_round
        case rel => exact ⟨j + 1, _, by omega, by go_num, rfl, HE2.out⟩
        case measure => simp [RowKit.intOf]; omega
      · have e : n = val (ds.take (j + 1)) := by rw [← HV.out]; unfold val1; rw [if_neg hm]
        have HE2 := Lib.hid e
        clear e
        go_wp2_with fail
        go_round
        case rel => exact ⟨j + 1, _, by omega, by go_num, rfl, HE2.out⟩
        case measure => simp [RowKit.intOf]; omega
    · obtain rfl : j = ds.length := by omega
      have HF : Hid (n = val ds) := by
        have := HN.out
        rw [List.take_length] at this
        exact this
      have hend : s.size ≤ i0 + ds.length ∨ (∃ _ : i0 + ds.length < s.size, ((s.data.toList.getD (i0 + ds.length) 0).toNat : Int) < 48 ∨ (57 : Int) < ((s.data.toList.getD (i0 + ds.length) 0).toNat : Int)) := by
        by_cases h : i0 + ds.length < s.size
        · have := HE.out h
          unfold digB at this
          have := of_decide_eq_false this
          exact .inr ⟨h, by omega⟩
        · exact .inl (by omega)
      by_cases hz : ds.length = 0
      · have hds : ds = [] := List.eq_nil_of_length_eq_zero hz
        have e : num ds = -1 := by rw [hds]; rfl
        have HX := Lib.hid e
        have hq : ((i0 : Int) + (ds.length : Int) == (i0 : Int)) = true := by rw [beq_iff_eq]; omega
        clear e hds
        have HZ := Lib.hid hz
        have HK : Hid ((i0 : Int) + ds.length = ((i0 + ds.length : Nat) : Int)) := by show _ = _; omega
        clear hz
        rcases hend with hge | ⟨hlk, hc⟩
        · have hnl : ¬ ((i0 + ds.length : Nat) : Int) < (s.size : Int) := by omega
          go_wp2_with fail
          go_ret2
          refine ⟨?_, rfl⟩
          exact ret2 HX.out.symm HK.out
        · have hge2 := get_drop s hlk
          generalize s.data.toList.getD (i0 + ds.length) 0 = y at *
          rcases hc with hc | hc
          · go_wp2_with fail
            go_ret2
            refine ⟨?_, rfl⟩
            exact ret2 HX.out.symm HK.out
          · have hc0 : (48 : Int) ≤ (y.toNat : Int) := by omega
            have hc1 : ¬ (y.toNat : Int) ≤ 57 := by omega
            go_wp2_with fail
            go_ret2
            refine ⟨?_, rfl⟩
            exact ret2 HX.out.symm HK.out
      · have h3 := HL.out 0 (by omega)
        rw [Nat.add_zero] at h3
        have hk0 := h3.1
        have hg0 := get_drop s hk0
        have hq : ((i0 : Int) + (ds.length : Int) == (i0 : Int)) = false := by rw [beq_eq_false_iff_ne]; omega
        have hx0 := h3.2.1
        clear h3
        have hne : ds ≠ [] := fun e => by rw [e] at hz; exact hz rfl
        have hhd : ds.head? = some (s.data.toList.getD i0 0) := by
          rw [← hx0]
          rcases ds with _ | ⟨c, t⟩
          · exact absurd rfl hne
          · rfl
        clear hx0
        by_cases h48 : s.data.toList.getD i0 0 = 48
        · have hy : (((s.data.toList.getD i0 0).toNat : Int) == 48) = true := by rw [h48]; rfl
          by_cases h1 : ds.length = 1
          · have e : num ds = n := by
              unfold num goodN
              rw [if_pos (decide_eq_true ⟨hne, fun h => by have := h.2; omega⟩)]
              exact HF.out.symm
            have HX := Lib.hid e
            have hgt : decide ((i0 : Int) + 1 < (i0 : Int) + (ds.length : Int)) = false := decide_eq_false (by omega)
            have hgt2 : ¬ 1 < ds.length := by omega
            have hgt3 : ¬ (1 : Int) < (ds.length : Int) := by omega
            have hgt4 : ds.length ≤ 1 := by omega
            have hgt5 : (ds.length : Int) ≤ 1 := by omega
            have HK : Hid ((i0 : Int) + ds.length = ((i0 + ds.length : Nat) : Int)) := by show _ = _; omega
            have H1 := Lib.hid h1
            clear e hhd hne h48 h1
            generalize s.data.toList.getD i0 0 = x0 at *
            rcases hend with hge | ⟨hlk, hc⟩
            · have hnl : ¬ ((i0 + ds.length : Nat) : Int) < (s.size : Int) := by omega
              go_wp2_with fail
              go_ret2
              refine ⟨?_, rfl⟩
              exact ret2 HX.out.symm HK.out
            · have hge2 := get_drop s hlk
              generalize s.data.toList.getD (i0 + ds.length) 0 = y at *
              rcases hc with hc | hc
              · go_wp2_with fail
                go_ret2
                refine ⟨?_, rfl⟩
                exact ret2 HX.out.symm HK.out
              · have hc0 : (48 : Int) ≤ (y.toNat : Int) := by omega
                have hc1 : ¬ (y.toNat : Int) ≤ 57 := by omega
                go_wp2_with fail
                go_ret2
                refine ⟨?_, rfl⟩
                exact ret2 HX.out.symm HK.out
          · have e : num ds = -1 := by
              unfold num goodN
              rw [if_neg]
              rw [decide_eq_true_iff]
              rintro ⟨_, hh⟩
              exact hh ⟨by rw [hhd, h48], by omega⟩
            have HX := Lib.hid e
            have hgt : decide ((i0 : Int) + 1 < (i0 : Int) + (ds.length : Int)) = true := decide_eq_true (by omega)
            have hgt2 : 1 < ds.length := by omega
            have hgt3 : (1 : Int) < (ds.length : Int) := by omega
            have HK : Hid ((i0 : Int) + ds.length = ((i0 + ds.length : Nat) : Int)) := by show _ = _; omega
            have H1 := Lib.hid h1
            clear e hhd hne h48 h1
            generalize s.data.toList.getD i0 0 = x0 at *
            rcases hend with hge | ⟨hlk, hc⟩
            · have hnl : ¬ ((i0 + ds.length : Nat) : Int) < (s.size : Int) := by omega
              go_wp2_with fail
              go_ret2
              refine ⟨?_, rfl⟩
              exact ret2 HX.out.symm HK.out
            · have hge2 := get_drop s hlk
              generalize s.data.toList.getD (i0 + ds.length) 0 = y at *
              rcases hc with hc | hc
              · go_wp2_with fail
                go_ret2
                refine ⟨?_, rfl⟩
                exact ret2 HX.out.symm HK.out
              · have hc0 : (48 : Int) ≤ (y.toNat : Int) := by omega
                have hc1 : ¬ (y.toNat : Int) ≤ 57 := by omega
                go_wp2_with fail
                go_ret2
                refine ⟨?_, rfl⟩
                exact ret2 HX.out.symm HK.out
        · have e : num ds = n := by
            unfold num goodN
            rw [if_pos (decide_eq_true ⟨hne, fun h => h48 (by have := h.1; rw [hhd] at this; exact Option.some.inj this)⟩)]
            exact HF.out.symm
          have hy : (((s.data.toList.getD i0 0).toNat : Int) == 48) = false := by
            rw [beq_eq_false_iff_ne]
            intro hh
            exact h48 (UInt8.toNat_inj.1 (by exact_mod_cast hh))
          have HX := Lib.hid e
          have HK : Hid ((i0 : Int) + ds.length = ((i0 + ds.length : Nat) : Int)) := by show _ = _; omega
          clear e hhd hne h48
          generalize s.data.toList.getD i0 0 = x0 at *
          rcases hend with hge | ⟨hlk, hc⟩
          · have hnl : ¬ ((i0 + ds.length : Nat) : Int) < (s.size : Int) := by omega
            go_wp2_with fail
            go_ret2
            refine ⟨?_, rfl⟩
            exact ret2 HX.out.symm HK.out
          · have hge2 := get_drop s hlk
            generalize s.data.toList.getD (i0 + ds.length) 0 = y at *
            rcases hc with hc | hc
            · go_wp2_with fail
              go_ret2
              refine ⟨?_, rfl⟩
              exact ret2 HX.out.symm HK.out
            · have hc0 : (48 : Int) ≤ (y.toNat : Int) := by omega
              have hc1 : ¬ (y.toNat : Int) ≤ 57 := by omega
              go_wp2_with fail
              go_ret2
              refine ⟨?_, rfl⟩
              exact ret2 HX.out.symm HK.out
end Rd
end Go.Proofs.YtgagophijmiceaaDoor
