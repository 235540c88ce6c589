/- WALK: chips.fire: a set gives. -/
import Derived.Test.YtjikildiblchpaaChP1
import Derived.Test.YtjikildiblchpaaRfV
import Derived.Test.YtjikildiblchpaaRtB
namespace Go.Proofs.Ytjikildiblchpaa
set_option linter.unusedSimpArgs false
set_option linter.unusedVariables false
open Go.RowKit Go.Lib
namespace Ch
open Tld Mem Rt

theorem wrap_sub_mul (a b c : Int) : wrap64 (wrap64 a - wrap64 (b * c)) = wrap64 (a - b * c) := by
  generalize b * c = d
  unfold wrap64; omega
theorem wrap_add_mul (a b c : Int) : wrap64 (wrap64 a + wrap64 (b * c)) = wrap64 (a + b * c) := by
  generalize b * c = d
  unfold wrap64; omega
/-- What has been taken from a place, when rows below k and of row k the first o are through. -/
def pA (P : Nat) (E : Nat → Nat → Nat) (S : Nat → Bool) (k o j : Nat) : Nat := if S j then (if j < k then outS P E S j else if j = k then sumN (fun i => if S i then 0 else E j i) o else 0) else 0
/-- .. and brought to it. -/
def pB (P : Nat) (E : Nat → Nat → Nat) (S : Nat → Bool) (k o j : Nat) : Nat := if S j then 0 else sumN (fun i => if S i then E i j else 0) k + if S k = true ∧ j < o then E k j else 0
def pF (P : Nat) (E : Nat → Nat → Nat) (D : Nat → Int) (S : Nat → Bool) (t : Int) (k o j : Nat) : Int := D j - t * (pA P E S k o j : Int) + t * (pB P E S k o j : Int)
theorem pF_start {P : Nat} {E : Nat → Nat → Nat} {D : Nat → Int} {S : Nat → Bool} {t : Int} {j : Nat} : pF P E D S t 0 0 j = D j := by
  have h1 : pA P E S 0 0 j = 0 := by
    unfold pA
    split
    · rw [if_neg (Nat.not_lt_zero _)]; split <;> rfl
    · rfl
  have h2 : pB P E S 0 0 j = 0 := by
    unfold pB
    split
    · rfl
    · rw [if_neg (fun h => absurd h.2 (Nat.not_lt_zero _))]; rfl
  unfold pF
  rw [h1, h2]; simp
theorem pF_row {P : Nat} {E : Nat → Nat → Nat} {D : Nat → Int} {S : Nat → Bool} {t : Int} {k j : Nat} (hj : j < P) : pF P E D S t k P j = pF P E D S t (k + 1) 0 j := by
  have h1 : pA P E S k P j = pA P E S (k + 1) 0 j := by
    unfold pA
    by_cases hs : S j = true
    · rw [if_pos hs, if_pos hs]
      by_cases h : j < k
      · rw [if_pos h, if_pos (by omega)]
      · by_cases e : j = k
        · rw [if_neg h, if_pos e, if_pos (by omega)]; rfl
        · rw [if_neg h, if_neg e, if_neg (by omega)]; split <;> rfl
    · rw [if_neg hs, if_neg hs]
  have h2 : pB P E S k P j = pB P E S (k + 1) 0 j := by
    unfold pB
    by_cases hs : S j = true
    · rw [if_pos hs, if_pos hs]
    · rw [if_neg hs, if_neg hs, if_neg (show ¬ (S (k + 1) = true ∧ j < 0) from fun h => absurd h.2 (Nat.not_lt_zero _)), Nat.add_zero]
      show _ = sumN _ k + (if S k = true then E k j else 0)
      by_cases e : S k = true
      · rw [if_pos ⟨e, hj⟩, if_pos e]
      · rw [if_neg (fun h => e h.1), if_neg e]
  unfold pF
  rw [h1, h2]
theorem pF_end {P : Nat} {E : Nat → Nat → Nat} (hs : ∀ a b, E a b = E b a) {D : Nat → Int} {S : Nat → Bool} {t : Int} {j : Nat} (hj : j < P) : pF P E D S t P 0 j = fireZ P E D S t j := by
  unfold pF fireZ pA pB
  by_cases e : S j = true
  · rw [if_pos e, if_pos e, if_pos e, if_pos hj]; simp
  · rw [if_neg e, if_neg e, if_neg e, if_neg (fun h => absurd h.2 (Nat.not_lt_zero _)), Nat.add_zero]
    have : sumN (fun i => if S i = true then E i j else 0) P = inS P E S j := by
      unfold inS
      exact sumN_congr fun i _ => by rw [hs]
    rw [this]; simp
theorem pF_skip {P : Nat} {E : Nat → Nat → Nat} {D : Nat → Int} {S : Nat → Bool} {t : Int} {k o j : Nat} (h : ¬ (S k = true ∧ S o = false)) : pF P E D S t k (o + 1) j = pF P E D S t k o j := by
  have h1 : pA P E S k (o + 1) j = pA P E S k o j := by
    unfold pA
    by_cases hs : S j = true
    · rw [if_pos hs, if_pos hs]
      by_cases hl : j < k
      · rw [if_pos hl, if_pos hl]
      · by_cases e : j = k
        · rw [if_neg hl, if_neg hl, if_pos e, if_pos e]
          show _ + (if S o = true then 0 else E j o) = _
          rw [if_pos]
          · rfl
          · refine Classical.byContradiction fun hn => h ⟨by rw [← e]; exact hs, ?_⟩
            cases hso : S o
            · rfl
            · exact absurd hso hn
        · rw [if_neg hl, if_neg hl, if_neg e, if_neg e]
    · rw [if_neg hs, if_neg hs]
  have h2 : pB P E S k (o + 1) j = pB P E S k o j := by
    unfold pB
    by_cases hs : S j = true
    · rw [if_pos hs, if_pos hs]
    · rw [if_neg hs, if_neg hs]
      congr 1
      by_cases e : S k = true
      · by_cases e2 : j < o
        · rw [if_pos ⟨e, by omega⟩, if_pos ⟨e, e2⟩]
        · rw [if_neg (show ¬ (S k = true ∧ j < o) from fun h => e2 h.2), if_neg]
          intro h3
          have h4 := h3.2
          have h5 : j = o := by omega
          exact h ⟨e, by rw [← h5]; cases hsj : S j; rfl; exact absurd hsj hs⟩
      · rw [if_neg (show ¬ (S k = true ∧ j < o + 1) from fun h => e h.1), if_neg (show ¬ (S k = true ∧ j < o) from fun h => e h.1)]
  unfold pF
  rw [h1, h2]
theorem pF_give {P : Nat} {E : Nat → Nat → Nat} {D : Nat → Int} {S : Nat → Bool} {t : Int} {k o j : Nat} (hk : S k = true) (ho : S o = false) : pF P E D S t k (o + 1) j = if j = o then pF P E D S t k o o + t * (E k o : Int) else if j = k then pF P E D S t k o k - t * (E k o : Int) else pF P E D S t k o j := by
  have hne : o ≠ k := fun e => by rw [e, hk] at ho; cases ho
  by_cases e1 : j = o
  · rw [if_pos e1, e1]
    have h1 : ∀ n, pA P E S k n o = 0 := fun n => by unfold pA; rw [if_neg (by rw [ho]; decide)]
    have h2 : pB P E S k (o + 1) o = pB P E S k o o + E k o := by
      unfold pB
      have hso : ¬ S o = true := by rw [ho]; decide
      rw [if_neg hso, if_neg hso, if_pos (show S k = true ∧ o < o + 1 from ⟨hk, by omega⟩), if_neg (show ¬ (S k = true ∧ o < o) from fun h => absurd h.2 (Nat.lt_irrefl _))]
      omega
    unfold pF
    rw [h1, h1, h2, Int.natCast_add, Int.mul_add]
    omega
  · rw [if_neg e1]
    by_cases e2 : j = k
    · rw [if_pos e2, e2]
      have h1 : ∀ n, pB P E S k n k = 0 := fun n => by unfold pB; rw [if_pos hk]
      have h2 : pA P E S k (o + 1) k = pA P E S k o k + E k o := by
        unfold pA
        rw [if_pos hk, if_pos hk, if_neg (Nat.lt_irrefl _), if_neg (Nat.lt_irrefl _), if_pos rfl, if_pos rfl]
        show _ + (if S o = true then 0 else E k o) = _
        rw [if_neg (by rw [ho]; decide)]
      unfold pF
      rw [h1, h1, h2, Int.natCast_add, Int.mul_add]
      omega
    · rw [if_neg e2]
      have h1 : pA P E S k (o + 1) j = pA P E S k o j := by
        unfold pA
        by_cases hs : S j = true
        · rw [if_pos hs, if_pos hs, if_neg e2, if_neg e2]
        · rw [if_neg hs, if_neg hs]
      have h2 : pB P E S k (o + 1) j = pB P E S k o j := by
        unfold pB
        by_cases hs : S j = true
        · rw [if_pos hs, if_pos hs]
        · rw [if_neg hs, if_neg hs]
          congr 1
          by_cases e3 : j < o
          · rw [if_pos (show S k = true ∧ j < o + 1 from ⟨hk, by omega⟩), if_pos (show S k = true ∧ j < o from ⟨hk, e3⟩)]
          · rw [if_neg (show ¬ (S k = true ∧ j < o + 1) from fun h => by have := h.2; omega), if_neg (show ¬ (S k = true ∧ j < o) from fun h => e3 h.2)]
      unfold pF
      rw [h1, h2]

theorem net_read {w0 w : World} {bn P : Nat} {E : Nat → Nat → Nat} {Dg : Nat → Nat} (hN : Net w0 bn P E Dg) (hB : Below w0.heap.size w0 w) :
    ∃ (be ce : Nat) (bk : Nat → Nat), w.cell? ⟨bn, 0, none⟩ = some (.slice (some ⟨be, 0, none⟩) P ce) ∧ (∀ k, k < P → w.cell? ⟨be, k, none⟩ = some (.slice (some ⟨bk k, 0, none⟩) P P)) ∧ (∀ k, k < P → ∀ o, o < P → w.cell? ⟨bk k, o, none⟩ = some (.int .i64 (E k o : Int))) ∧ (∀ k, k < P → bk k < w0.heap.size) := by
  obtain ⟨be, ce, bd, cd, bk, h1, h2, h3⟩ := hN.ex
  exact ⟨be, ce, bk, cell_keep h1 hB, fun k hk => cell_keep (h3 k hk).1 hB, fun k hk o ho => cell_keep ((h3 k hk).2.2 o ho) hB, fun k hk => lt_of_cell ((h3 k hk).2.2 k hk)⟩

set_option maxHeartbeats 8000000 in
set_option maxRecDepth 1000000 in
theorem fire_any (P : Nat) (E : Nat → Nat → Nat) (Dg : Nat → Nat) (bn bd cd bs cs : Nat) (S : Nat → Bool) (D : Nat → Int) (t : Int) (w0 w : World) (hN : Net w0 bn P E Dg) (hB : Below w0.heap.size w0 w) (hbd : w0.heap.size ≤ bd) (hD : Vec w bd P fun k => wrap64 (D k)) (hS : VecB w bs P S) (hP : P ≤ 10) (hsym : ∀ a b, E a b = E b a) :
    Calls Try.prog 27 #[.pointer (some ⟨bn, 0, none⟩), .slice (some ⟨bd, 0, none⟩) P cd, .slice (some ⟨bs, 0, none⟩) P cs, .int .i64 t] w fun e w' => (∃ v, e = .returned v) ∧ Vec w' bd P (fun k => wrap64 (fireZ P E D S t k)) ∧ Only bd w w' := by
  have hsd : bs ≠ bd := by
    obtain ⟨c1, h1, _⟩ := hS.row
    obtain ⟨c2, h2, _⟩ := hD.row
    exact row_ne h1 h2 (by decide)
  have HN := Lib.hid hN
  have HB0 := Lib.hid hB
  have HSY := Lib.hid hsym
  have HST : Hid (Vec w bd P fun j => wrap64 (pF P E D S t 0 0 j)) := hD.congr fun j hj => by rw [pF_start]
  have HS := Lib.hid hS
  clear hN hB hsym hD hS
  go_enter Try.func27, Try.ntmps27
  go_wp2_with fail
  go_loopw [14] (fun z wr => ∃ k : Nat, k ≤ P ∧ z = .int .i64 (k : Int) ∧ Vec wr bd P (fun j => wrap64 (pF P E D S t k 0 j)) ∧ Only bd w wr) (fun z _ => P - (intOf z).toNat)
  case atStart => exact ⟨0, Nat.zero_le _, rfl, HST.out, Only.refl _ _⟩
  case round =>
    clear HST
    obtain ⟨k, hkP, rfl, hv, ho⟩ := hrel
    have HV := Lib.hid hv
    have HO := Lib.hid ho
    clear hv ho
    by_cases hk : k < P
    · have hk2 : (k : Int) < (P : Int) := by omega
      have HBW := Lib.hid (HB0.out.trans (HO.out.below hbd))
      have HSW := Lib.hid (HS.out.other HO.out hsd)
      have s1 := HSW.out.cell hk
      obtain ⟨be, ce, bk, n1, n2, n3, n4⟩ := net_read HN.out HBW.out
      have r1 := n2 k hk
      have r3 := n3 k hk
      have hbk := n4 k hk
      have HR3 := Lib.hid r3
      clear n2 n3 n4 r3
      obtain ⟨bkk, hbkk⟩ : ∃ b, b = bk k := ⟨_, rfl⟩
      rw [← hbkk] at r1 HR3 hbk
      clear hbkk
      obtain ⟨sk, hsk⟩ : ∃ b, b = S k := ⟨_, rfl⟩
      rw [← hsk] at s1
      have HSK := Lib.hid hsk
      clear hsk
      go_wp2_with fail
      clear s1 n1 r1
      obtain ⟨wo, rfl⟩ : ∃ wo : World, wo = wr := ⟨_, rfl⟩
      go_loopw [27] (fun z wx => ∃ o : Nat, o ≤ P ∧ z = .int .i64 (o : Int) ∧ Vec wx bd P (fun j => wrap64 (pF P E D S t k o j)) ∧ Only bd wo wx) (fun z _ => P - (intOf z).toNat)
      case atStart => exact ⟨0, Nat.zero_le _, rfl, HV.out, Only.refl _ _⟩
      case round =>
        clear HV
        obtain ⟨o, hoP, rfl, hv, ho2⟩ := hrel
        have HV := Lib.hid hv
        have HO2 := Lib.hid ho2
        clear hv ho2
        by_cases ho : o < P
        · have ho3 : (o : Int) < (P : Int) := by omega
          have HBX := Lib.hid (HBW.out.trans (HO2.out.below hbd))
          have e1 : wr.cell? ⟨bkk, o, none⟩ = some (.int .i64 (E k o : Int)) := by
            rw [World.cell?_of_block (HO2.out.block bkk (by omega))]
            exact HR3.out o ho
          have s1 := (HSW.out.other HO2.out hsd).cell ho
          obtain ⟨so, hso⟩ : ∃ b, b = S o := ⟨_, rfl⟩
          rw [← hso] at s1
          have HSO := Lib.hid hso
          clear hso
          by_cases hg : sk = true ∧ so = false
          · obtain ⟨rfl, rfl⟩ := hg
            have hok : o ≠ k := fun e => by
              have h1 := HSK.out
              have h2 := HSO.out
              rw [e, ← h1] at h2
              cases h2
            have HG : Hid (∀ j, pF P E D S t k (o + 1) j = if j = o then pF P E D S t k o o + t * (E k o : Int) else if j = k then pF P E D S t k o k - t * (E k o : Int) else pF P E D S t k o j) := fun j => pF_give HSK.out.symm HSO.out.symm
            obtain ⟨x, hx⟩ : ∃ x, x = E k o := ⟨_, rfl⟩
            rw [← hx] at e1 HG
            clear hx
            have c1 := HV.out.cell hk
            have z1 := HV.out.frozen k
            have c2 := HV.out.cell ho
            obtain ⟨dk, hdk⟩ : ∃ z, z = wrap64 (pF P E D S t k o k) := ⟨_, rfl⟩
            have HDK := Lib.hid hdk
            rw [← hdk] at c1
            obtain ⟨dd, hdd⟩ : ∃ z, z = wrap64 (pF P E D S t k o o) := ⟨_, rfl⟩
            have HDD := Lib.hid hdd
            rw [← hdd] at c2
            clear hdk hdd
            have o1 := only_setCell wr bd k (.int .i64 (wrap64 (dk - wrap64 (t * (x : Int)))))
            have HV1 := Lib.hid (HV.out.set hk (wrap64 (dk - wrap64 (t * (x : Int)))))
            have HO1 := Lib.hid (HO2.out.trans o1)
            clear o1
            go_upto_region 8 with fail
            clear c1 z1 c2 s1 e1
            generalize wr.setCell ⟨bd, k, none⟩ (.int .i64 (wrap64 (dk - wrap64 (t * (x : Int))))) = w2 at *
            have c2 := HV1.out.cell ho
            rw [upd_no hok, ← HDD.out] at c2
            have z2 := HV1.out.frozen o
            have o2 := only_setCell w2 bd o (.int .i64 (wrap64 (dd + wrap64 (t * (x : Int)))))
            have HO2 := Lib.hid (HO1.out.trans o2)
            have HV2 := Lib.hid ((HV1.out.set ho (wrap64 (dd + wrap64 (t * (x : Int))))).congr (G := fun j => wrap64 (pF P E D S t k (o + 1) j)) fun j hj => by
              rw [HG.out]
              by_cases q1 : j = o
              · rw [q1, upd_at, if_pos rfl, HDD.out, wrap_add_mul]
              · rw [upd_no q1, if_neg q1]
                by_cases q2 : j = k
                · rw [q2, upd_at, if_pos rfl, HDK.out, wrap_sub_mul]
                · rw [upd_no q2, if_neg q2])
            clear o2
            go_wp2_with fail
            go_roundw
            case rel => exact ⟨o + 1, by omega, by go_num, HV2.out, HO2.out⟩
            case measure => simp [intOf]; omega
          · have HV1 : Hid (Vec wr bd P (fun j => wrap64 (pF P E D S t k (o + 1) j))) := HV.out.congr fun j hj => by rw [pF_skip (fun h => hg ⟨HSK.out.trans h.1, HSO.out.trans h.2⟩)]
            cases sk
            case false =>
              clear hg
              go_wp2_with fail
              go_roundw
              case rel => exact ⟨o + 1, by omega, by go_num, HV1.out, HO2.out⟩
              case measure => simp [intOf]; omega
            case true =>
              cases so
              case false => exact absurd ⟨rfl, rfl⟩ hg
              case true =>
                clear hg
                go_wp2_with fail
                go_roundw
                case rel => exact ⟨o + 1, by omega, by go_num, HV1.out, HO2.out⟩
                case measure => simp [intOf]; omega
        · obtain rfl : o = P := by omega
          have HV1 : Hid (Vec wr bd o (fun j => wrap64 (pF o E D S t (k + 1) 0 j))) := HV.out.congr fun j hj => by rw [pF_row hj]
          have HO1 := Lib.hid (HO.out.trans HO2.out)
          go_wp2_with fail
          go_roundw
          case rel => exact ⟨k + 1, by omega, by go_num, HV1.out, HO1.out⟩
          case measure => simp [intOf]; omega
    · obtain rfl : k = P := by omega
      have HV1 : Hid (Vec wr bd k (fun j => wrap64 (fireZ k E D S t j))) := HV.out.congr fun j hj => by rw [pF_end HSY.out hj]
      go_wp2_with fail
      go_end0
      exact ⟨⟨_, rfl⟩, HV1.out, HO.out⟩
end Ch
end Go.Proofs.Ytjikildiblchpaa
