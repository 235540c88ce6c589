/- WALK: counter.number: a field as a number. -/
import Derived.Test.YtfhhnajnanlmgaaGreatDoorRdS
import Derived.Test.YtfhhnajnanlmgaaGreatDoorShelf
import Derived.Shelf.Strings.SlTrimAscii
import Derived.Lib.AtoiErrMem
namespace Go.Proofs.YtfhhnajnanlmgaaGreatDoor
set_option linter.unusedSimpArgs false
set_option linter.unusedVariables false
open Go.RowKit Go.Shelf
namespace Rd
open Tld Mem Cr

theorem below_q {B : Nat} {w w' : World} (h : Below B w w') (n : Nat) : Below B w (w'.drewN n) := ⟨h.os, h.tape, h.output, h.size, h.block⟩
theorem dec_val : ∀ (ds : List UInt8) (acc m : Nat), acc < 10 ^ m → m + ds.length ≤ 6 → (∀ b ∈ ds, digB b = true) → ∃ n : Nat, Lib.decFrom acc ds = some n ∧ ds.foldl val1 (acc : Int) = n
  | [], acc, m, _, _, _ => ⟨acc, rfl, rfl⟩
  | b :: ds, acc, m, ha, hm, hd => by
    have hb := hd b List.mem_cons_self
    unfold digB at hb
    have hb2 := of_decide_eq_true hb
    rw [List.length_cons] at hm
    have h5 : 10 ^ m ≤ 10 ^ 5 := Nat.pow_le_pow_right (by omega) (by omega)
    have hv : val1 (acc : Int) b = ((acc * 10 + (b.toNat - 48) : Nat) : Int) := by
      unfold val1
      rw [if_pos (by omega)]
      omega
    have hdv : Lib.digitVal b = some (b.toNat - 48) := by
      unfold Lib.digitVal
      rw [if_pos (by omega)]
    obtain ⟨n, h1, h2⟩ := dec_val ds (acc * 10 + (b.toNat - 48)) (m + 1) (by rw [Nat.pow_succ]; omega) (by omega) (fun x hx => hd x (List.mem_cons_of_mem _ hx))
    refine ⟨n, ?_, ?_⟩
    · unfold Lib.decFrom
      rw [hdv]
      exact h1
    · rw [List.foldl_cons, hv]
      exact h2
theorem atoi_val {ds : List UInt8} (h0 : ds ≠ []) (h6 : ds.length ≤ 6) (hd : ∀ b ∈ ds, digB b = true) : Lib.atoi ds = some (val ds) := by
  rcases ds with _ | ⟨b, r⟩
  · exact absurd rfl h0
  · obtain ⟨n, h1, h2⟩ := dec_val (b :: r) 0 0 (by decide) (by omega) hd
    have hb := hd b List.mem_cons_self
    have n45 : (b == 45) = false := by rw [beq_eq_false_iff_ne]; rintro rfl; revert hb; decide
    have n43 : (b == 43) = false := by rw [beq_eq_false_iff_ne]; rintro rfl; revert hb; decide
    unfold Lib.atoi
    dsimp only
    rw [n45, n43, if_neg (by decide), if_neg (by decide)]
    have : Lib.decNat (b :: r) = some n := h1
    rw [this]
    show some (n : Int) = _
    unfold val
    rw [← h2]
    rfl

def DIG : List UInt8 := [48, 49, 50, 51, 52, 53, 54, 55, 56, 57]
theorem dig_set (b : UInt8) : DIG.contains b = digB b := by
  have h : ∀ n, n < 256 → DIG.contains (UInt8.ofNat n) = digB (UInt8.ofNat n) := by decide +kernel
  have := h b.toNat b.toNat_lt
  rwa [UInt8.ofNat_toNat] at this
theorem trim_dig (l : List UInt8) : Lib.trimS l DIG = [] ↔ l.all digB = true := by
  have e : (fun b => DIG.contains b) = digB := funext dig_set
  unfold Lib.trimS Lib.trimLeftS Lib.trimRightS
  rw [e]
  constructor
  · intro h
    by_cases hl : l.all digB = true
    · exact hl
    · exfalso
      have hx : ∃ b ∈ l, digB b = false := by
        simp only [List.all_eq_true, Classical.not_forall] at hl
        obtain ⟨b, hb, hn⟩ := hl
        exact ⟨b, hb, by simpa using hn⟩
      obtain ⟨b, hb, hn⟩ := hx
      have keep : ∀ (xs : List UInt8), b ∈ xs → b ∈ xs.dropWhile digB := by
        intro xs
        induction xs with
        | nil => intro h; cases h
        | cons c xs ih =>
          intro h
          rw [List.dropWhile_cons]
          split
          · rename_i hc
            rcases List.mem_cons.1 h with rfl | h
            · rw [hn] at hc; cases hc
            · exact ih h
          · exact h
      have h1 := keep _ (List.mem_reverse.2 (keep _ (List.mem_reverse.2 hb)))
      rw [h] at h1
      cases h1
  · intro h
    have none : ∀ (xs : List UInt8), (∀ b ∈ xs, digB b = true) → xs.dropWhile digB = [] := by
      intro xs
      induction xs with
      | nil => intro _; rfl
      | cons c xs ih =>
        intro h
        rw [List.dropWhile_cons, if_pos (h c List.mem_cons_self)]
        exact ih (fun b hb => h b (List.mem_cons_of_mem _ hb))
    rw [none l.reverse (fun b hb => List.all_eq_true.1 h b (List.mem_reverse.1 hb))]
    rfl
theorem trim_any (s : ByteArray) (w : World) (hs : s.size ≤ 9223372036854775807) : Calls Tryz.prog 54 #[.string s, .string ⟨#[48, 49, 50, 51, 52, 53, 54, 55, 56, 57]⟩] w fun e w' => e = .returned (.string ⟨(Lib.trimS s.data.toList DIG).toArray⟩) ∧ Below w.heap.size w w' :=
  Any.strings_Trim_laid Tryz.lays160 (by kernel_rfl) s ⟨#[48, 49, 50, 51, 52, 53, 54, 55, 56, 57]⟩ w hs (by decide) (ascii_of_all (by decide))

/-- What number answers of a field. -/
def fieldQ (o : Option Int) : Value := .tuple #[.int .i64 (o.getD 0), .bool o.isSome]
set_option maxHeartbeats 8000000 in
set_option maxRecDepth 1000000 in
theorem field_any (s : ByteArray) (w : World) (hs : s.size ≤ 9223372036854775807) : Calls Tryz.prog 38 #[.string s] w fun e w' => e = .returned (fieldQ (field s.data.toList)) ∧ Below w.heap.size w w' := by
  obtain ⟨o, ho⟩ : ∃ o, o = field s.data.toList := ⟨_, rfl⟩
  rw [← ho]
  have HO := Lib.hid ho
  clear ho
  have hse := Lib.size_eq s
  by_cases h0 : s.size = 0
  · have HF : Hid (o = none) := by
      show _ = _
      have : s.data.toList = [] := List.eq_nil_of_length_eq_zero (by omega)
      rw [HO.out, this]
      rfl
    have q1 : s.toList = [] := by rw [Lib.toList_data]; exact List.eq_nil_of_length_eq_zero (by omega)
    have q2 : (s.toList == []) = true := by rw [q1]; rfl
    clear hse
    go_enter Tryz.func38, Tryz.ntmps38
    go_wp2_with fail
    go_ret2
    exact ⟨by rw [HF.out]; rfl, Below.refl _ _⟩
  · have hl0 : s.data.toList ≠ [] := fun e => h0 (by rw [hse, e]; rfl)
    have q2 : (s.toList == []) = false := by rw [Lib.toList_data, beq_eq_false_iff_ne]; exact hl0
    by_cases h6 : 6 < s.size
    · have HF : Hid (o = none) := by
        show _ = _
        rw [HO.out]
        unfold field
        rw [if_neg]
        rw [Bool.and_eq_true, decide_eq_true_iff]
        rintro ⟨_, h⟩
        omega
      have q6 : (6 : Int) < (s.size : Int) := by omega
      have Q2 := q2
      clear hse hl0
      go_enter Tryz.func38, Tryz.ntmps38
      go_wp2_with fail
      go_ret2
      exact ⟨by rw [HF.out]; rfl, Below.refl _ _⟩
    · have q6 : ¬ (6 : Int) < (s.size : Int) := by omega
      have hlt : 0 < s.size := by omega
      have hg := get_drop s hlt
      have hhd : s.data.toList.head? = some (s.data.toList.getD 0 0) := by
        rcases hx : s.data.toList with _ | ⟨c, t⟩
        · exact absurd hx hl0
        · rfl
      by_cases hz : s.data.toList.getD 0 0 = 48 ∧ 1 < s.size
      · have HF : Hid (o = none) := by
          show _ = _
          rw [HO.out]
          unfold field goodN
          rw [if_neg]
          rw [Bool.and_eq_true, Bool.and_eq_true, decide_eq_true_iff, decide_eq_true_iff]
          rintro ⟨⟨_, _, h⟩, _⟩
          exact h ⟨by rw [hhd, hz.1], by omega⟩
        have q48 : (((s.data.toList.getD 0 0).toNat : Int) == 48) = true := by rw [hz.1]; rfl
        have q1 : (1 : Int) < (s.size : Int) := by omega
        clear hse hl0 hz hhd HO
        generalize s.data.toList.getD 0 0 = x at *
        go_enter Tryz.func38, Tryz.ntmps38
        go_wp2_with fail
        go_ret2
        exact ⟨by rw [HF.out]; rfl, Below.refl _ _⟩
      · have hgood : goodN s.data.toList = true := by
          unfold goodN
          refine decide_eq_true ⟨hl0, fun h => hz ⟨?_, by omega⟩⟩
          have := h.1
          rw [hhd] at this
          exact Option.some.inj this
        have HTR := Lib.hid (fun wx => trim_any s wx hs)
        have htd := trim_dig s.data.toList
        by_cases had : s.data.toList.all digB = true
        · have hv : field s.data.toList = some (val s.data.toList) := by
            unfold field
            rw [if_pos]
            rw [had, hgood, decide_eq_true (by omega)]
            rfl
          have HF : Hid (o = some (val s.data.toList)) := HO.out.trans hv
          have HAT := Lib.hid (fun wx => Tryz.strconv_Atoi s (val s.data.toList) (by omega) (atoi_val hl0 (by omega) (List.all_eq_true.1 had)) wx)
          have ht0 := htd.2 had
          rw [ht0] at HTR
          clear hse hl0 hhd HO htd had hgood hv ht0
          generalize val s.data.toList = v at *
          by_cases h48 : s.data.toList.getD 0 0 = 48
          · have q1 : ¬ (1 : Int) < (s.size : Int) := fun h => hz ⟨h48, by omega⟩
            have q48 : (((s.data.toList.getD 0 0).toNat : Int) == 48) = true := by rw [h48]; rfl
            clear hz h48
            generalize s.data.toList.getD 0 0 = x at *
            go_enter Tryz.func38, Tryz.ntmps38
            go_wp2_with fail
            refine (HTR.out w).mono ?_
            rintro e1 w1 ⟨rfl, hb1⟩
            have HB := Lib.hid hb1
            clear hb1
            go_wp2_with fail
            refine (HAT.out w1).mono ?_
            rintro e2 w2 ⟨rfl, t2, rfl⟩
            have HB := Lib.hid (HB.out.trans ((Lib.bytesWorld_below w1 5 t2).mono HB.out.size))
            generalize Lib.bytesWorld w1 5 t2 = w2 at *
            go_upto_region 4 with fail
            go_quiet (fail)
            go_wp2_with fail
            go_ret2
            exact ⟨by rw [HF.out]; rfl, below_q HB.out _⟩
          · have q48 : (((s.data.toList.getD 0 0).toNat : Int) == 48) = false := by
              rw [beq_eq_false_iff_ne]
              intro h
              exact h48 (UInt8.toNat_inj.1 (by exact_mod_cast h))
            clear hz h48
            generalize s.data.toList.getD 0 0 = x at *
            go_enter Tryz.func38, Tryz.ntmps38
            go_wp2_with fail
            refine (HTR.out w).mono ?_
            rintro e1 w1 ⟨rfl, hb1⟩
            have HB := Lib.hid hb1
            clear hb1
            go_wp2_with fail
            refine (HAT.out w1).mono ?_
            rintro e2 w2 ⟨rfl, t2, rfl⟩
            have HB := Lib.hid (HB.out.trans ((Lib.bytesWorld_below w1 5 t2).mono HB.out.size))
            generalize Lib.bytesWorld w1 5 t2 = w2 at *
            go_upto_region 4 with fail
            go_quiet (fail)
            go_wp2_with fail
            go_ret2
            exact ⟨by rw [HF.out]; rfl, below_q HB.out _⟩
        · have hv : field s.data.toList = none := by
            unfold field
            rw [if_neg]
            rw [Bool.and_eq_true, Bool.and_eq_true]
            rintro ⟨⟨h, _⟩, _⟩
            exact had h
          have HF : Hid (o = none) := HO.out.trans hv
          have ht0 : Lib.trimS s.data.toList DIG ≠ [] := fun h => had (htd.1 h)
          clear hse hl0 hhd HO htd had hgood hv
          generalize Lib.trimS s.data.toList DIG = tr at *
          have qt : ((ByteArray.mk tr.toArray).toList == []) = false := by rw [Lib.toList_data, beq_eq_false_iff_ne]; exact ht0
          have qt2 : (tr == []) = false := by rw [beq_eq_false_iff_ne]; exact ht0
          have qt3 : tr.isEmpty = false := by cases tr <;> first | rfl | exact absurd rfl ht0
          clear ht0
          by_cases h48 : s.data.toList.getD 0 0 = 48
          · have q1 : ¬ (1 : Int) < (s.size : Int) := fun h => hz ⟨h48, by omega⟩
            have q48 : (((s.data.toList.getD 0 0).toNat : Int) == 48) = true := by rw [h48]; rfl
            clear hz h48
            generalize s.data.toList.getD 0 0 = x at *
            go_enter Tryz.func38, Tryz.ntmps38
            go_wp2_with fail
            refine (HTR.out w).mono ?_
            rintro e1 w1 ⟨rfl, hb1⟩
            have HB := Lib.hid hb1
            clear hb1
            go_wp2_with fail
            go_ret2
            exact ⟨by rw [HF.out]; rfl, HB.out⟩
          · have q48 : (((s.data.toList.getD 0 0).toNat : Int) == 48) = false := by
              rw [beq_eq_false_iff_ne]
              intro h
              exact h48 (UInt8.toNat_inj.1 (by exact_mod_cast h))
            clear hz h48
            generalize s.data.toList.getD 0 0 = x at *
            go_enter Tryz.func38, Tryz.ntmps38
            go_wp2_with fail
            refine (HTR.out w).mono ?_
            rintro e1 w1 ⟨rfl, hb1⟩
            have HB := Lib.hid hb1
            clear hb1
            go_wp2_with fail
            go_ret2
            exact ⟨by rw [HF.out]; rfl, HB.out⟩
end Rd
end Go.Proofs.YtfhhnajnanlmgaaGreatDoor
