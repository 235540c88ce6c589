/- WALK: edenref5.Print: a machine's text. -/
import Derived.Test.YtfhhnajnanlmgaaDoorCrD
namespace Go.Proofs.YtfhhnajnanlmgaaDoor
set_option linter.unusedSimpArgs false
set_option linter.unusedVariables false
open Go.RowKit
namespace Cr
open Tld Mem

/-- A line's text. -/
def lineT (f : Nat → Nat → Int) (i : Nat) : List UInt8 :=
  if f i 0 = 1 then [105, 110, 99, 32] ++ dig1 (f i 1).toNat ++ [32] ++ dig1 (f i 2).toNat ++ [10]
  else if f i 0 = 2 then [100, 101, 99, 32] ++ dig1 (f i 1).toNat ++ [32] ++ dig1 (f i 2).toNat ++ [32] ++ dig1 (f i 3).toNat ++ [10]
  else [104, 97, 108, 116, 10]
def textT (f : Nat → Nat → Int) (i : Nat) : List UInt8 := (List.range i).flatMap (lineT f)
theorem textT_next (f : Nat → Nat → Int) (i : Nat) : textT f (i + 1) = textT f i ++ lineT f i := by
  unfold textT; rw [List.range_succ, List.flatMap_append]; simp
theorem okI_all {m i : Nat} {op a t e : Int} (h : okI m op a t e) (hi : i < m) : 0 ≤ a ∧ a ≤ 3 ∧ 0 ≤ t ∧ t < m ∧ 0 ≤ e ∧ e < m ∧ (op = 1 ∨ op = 2 ∨ op = 3) := by unfold okI at h; omega
theorem dig1_len (n : Nat) : (dig1 n).length ≤ 2 := by unfold dig1; split <;> simp
theorem lineT_len (f : Nat → Nat → Int) (i : Nat) : (lineT f i).length ≤ 20 := by
  have h1 := dig1_len (f i 1).toNat
  have h2 := dig1_len (f i 2).toNat
  have h3 := dig1_len (f i 3).toNat
  unfold lineT
  split
  · simp only [List.length_append, List.length_cons, List.length_nil]; omega
  · split
    · simp only [List.length_append, List.length_cons, List.length_nil]; omega
    · simp
theorem textT_len (f : Nat → Nat → Int) : ∀ i, (textT f i).length ≤ 20 * i
  | 0 => Nat.le_refl _
  | i + 1 => by
    have := textT_len f i
    have := lineT_len f i
    rw [textT_next, List.length_append]
    omega
theorem bapp (a b : List UInt8) : (ByteArray.mk a.toArray) ++ (ByteArray.mk b.toArray) = ByteArray.mk (a ++ b).toArray := by
  apply ByteArray.ext
  simp

set_option maxHeartbeats 8000000 in
set_option maxRecDepth 1000000 in
theorem refPrint (sa : Option Addr) (m c : Nat) (f : Nat → Nat → Int) (w : World) (hF : Mem.Rows w sa m 4 (fun i j => .int .i64 (f i j))) (hok : CodeOk f m) :
    Calls Tryd.prog 13 #[.slice sa m c] w fun e w' => e = .returned (.string ⟨(textT f m).toArray⟩) ∧ Below w.heap.size w w' := by
  have hm12 := hok.2.1
  have HF := Lib.hid hF
  have HOK := Lib.hid hok.2.2
  clear hF
  go_enter Tryd.func13, Tryd.ntmps13
  go_wp2_with fail
  go_loopw [3, 4] (fun u v wr => ∃ i : Nat, i ≤ m ∧ v = .int .i64 i ∧ u = .string ⟨(textT f i).toArray⟩ ∧ Below w.heap.size w wr) (fun _ v _ => m - (RowKit.intOf v).toNat)
  case atStart => exact ⟨0, Nat.zero_le _, rfl, rfl, Below.refl _ _⟩
  case round =>
    obtain ⟨i, hi, rfl, rfl, hb⟩ := hrel
    have HB := Lib.hid hb
    clear hb
    by_cases hlt : i < m
    · obtain ⟨b, off, rfl, hbl, hrest⟩ := HF.out i hlt
      have k0 := hrest 0 (by omega)
      have k1 := hrest 1 (by omega)
      have k2 := hrest 2 (by omega)
      have k3 := hrest 3 (by omega)
      dsimp only at k0 k1 k2 k3
      rw [Nat.add_zero] at k0
      clear hrest
      have hi2 : (i : Int) < (m : Int) := by omega
      have HI := Lib.hid hlt
      have hio : okI m (f i 0) (f i 1) (f i 2) (f i 3) := HOK.out i hlt
      have HNX := Lib.hid (textT_next f i)
      have HLT : Hid (lineT f i = if f i 0 = 1 then [105, 110, 99, 32] ++ dig1 (f i 1).toNat ++ [32] ++ dig1 (f i 2).toNat ++ [10] else if f i 0 = 2 then [100, 101, 99, 32] ++ dig1 (f i 1).toNat ++ [32] ++ dig1 (f i 2).toNat ++ [32] ++ dig1 (f i 3).toNat ++ [10] else [104, 97, 108, 116, 10]) := Lib.hid rfl
      have HLN := Lib.hid (textT_len f i)
      obtain ⟨x0, hx0⟩ : ∃ x, x = f i 0 := ⟨_, rfl⟩
      obtain ⟨x1, hx1⟩ : ∃ x, x = f i 1 := ⟨_, rfl⟩
      obtain ⟨x2, hx2⟩ : ∃ x, x = f i 2 := ⟨_, rfl⟩
      obtain ⟨x3, hx3⟩ : ∃ x, x = f i 3 := ⟨_, rfl⟩
      rw [← hx0, ← hx1, ← hx2, ← hx3] at hio HLT
      rw [← hx0] at k0
      rw [← hx1] at k1
      rw [← hx2] at k2
      rw [← hx3] at k3
      clear hx0 hx1 hx2 hx3
      obtain ⟨a0, a3, t0, tm, e0, em, hops⟩ := okI_all hio hlt
      obtain ⟨a, rfl⟩ : ∃ a : Nat, x1 = a := ⟨x1.toNat, by omega⟩
      obtain ⟨t, rfl⟩ : ∃ t : Nat, x2 = t := ⟨x2.toNat, by omega⟩
      obtain ⟨e, rfl⟩ : ∃ e : Nat, x3 = e := ⟨x3.toNat, by omega⟩
      simp only [Int.toNat_natCast] at HLT
      have K0 := Lib.hid k0
      have K1 := Lib.hid k1
      have K2 := Lib.hid k2
      have K3 := Lib.hid k3
      have hbl2 := hbl
      have l1 := dig1_len a
      have l2 := dig1_len t
      have l3 := dig1_len e
      have HD1 := Lib.hid (digits_any a (by omega))
      have HD2 := Lib.hid (digits_any t (by omega))
      have HD3 := Lib.hid (digits_any e (by omega))
      generalize dig1 a = da at *
      generalize dig1 t = dt at *
      generalize dig1 e = de at *
      generalize textT f i = tx at *
      have up : ∀ {w' : World} {p : Addr} {v : Value}, p.block < w.heap.size → Below w.heap.size w w' → w.cell? p = some v → w'.cell? p = some v := fun hp hb' hc => by rw [hb'.cell hp]; exact hc
      have hops2 := Lib.hid hops
      clear k0 k1 k2 k3 a0 a3 t0 tm e0 em hio hops hi
      have k1 : wr.cell? ⟨b, off + i * 4 + 1, none⟩ = some (.int .i64 (a : Int)) := up hbl HB.out K1.out
      go_wp2_with fail
      refine (HD1.out wr).mono ?_
      rintro e1 w1 ⟨rfl, hb1⟩
      have HB := Lib.hid (HB.out.trans (hb1.mono HB.out.size))
      clear hb1 k1
      have k2 : w1.cell? ⟨b, off + i * 4 + 2, none⟩ = some (.int .i64 (t : Int)) := up hbl HB.out K2.out
      go_wp2_with fail
      refine (HD2.out w1).mono ?_
      rintro e1 w2 ⟨rfl, hb1⟩
      have HB := Lib.hid (HB.out.trans (hb1.mono HB.out.size))
      clear hb1 k2
      have k3 : w2.cell? ⟨b, off + i * 4 + 3, none⟩ = some (.int .i64 (e : Int)) := up hbl HB.out K3.out
      go_wp2_with fail
      refine (HD3.out w2).mono ?_
      rintro e1 w3 ⟨rfl, hb1⟩
      have HB := Lib.hid (HB.out.trans (hb1.mono HB.out.size))
      clear hb1 k3
      have k0 : w3.cell? ⟨b, off + i * 4, none⟩ = some (.int .i64 x0) := up hbl HB.out K0.out
      have hops := hops2.out
      by_cases h1 : x0 = 1
      · subst h1
        rw [if_pos rfl] at HLT
        clear hops
        have q0 : ¬ 9223372036854775807 < tx.length + 4 := by have := HLN.out; omega
        have q1 : ¬ 9223372036854775807 < tx.length + 4 + da.length := by have := HLN.out; omega
        have q2 : ¬ 9223372036854775807 < tx.length + 4 + da.length + 1 := by have := HLN.out; omega
        have q3 : ¬ 9223372036854775807 < tx.length + 4 + da.length + 1 + dt.length := by have := HLN.out; omega
        have q4 : ¬ 9223372036854775807 < tx.length + 4 + da.length + 1 + dt.length + 1 := by have := HLN.out; omega
        have HS : Hid ((ByteArray.mk tx.toArray ++ ByteArray.mk #[105, 110, 99, 32] ++ ByteArray.mk da.toArray ++ ByteArray.mk #[32] ++ ByteArray.mk dt.toArray ++ ByteArray.mk #[10]) = ⟨(textT f (i + 1)).toArray⟩) := Lib.hid (by rw [HNX.out, HLT.out]; apply ByteArray.ext; simp)
        clear l1 l2 l3
        go_wp2_with fail
        go_roundw
        case rel => exact ⟨i + 1, HI.out, by go_num, by rw [← HS.out], HB.out⟩
        case measure => have := HI.out; simp [RowKit.intOf]; omega
      · by_cases h2 : x0 = 2
        · subst h2
          rw [if_neg (by decide), if_pos rfl] at HLT
          clear hops h1
          have q0 : ¬ 9223372036854775807 < tx.length + 4 := by have := HLN.out; omega
          have q1 : ¬ 9223372036854775807 < tx.length + 4 + da.length := by have := HLN.out; omega
          have q2 : ¬ 9223372036854775807 < tx.length + 4 + da.length + 1 := by have := HLN.out; omega
          have q3 : ¬ 9223372036854775807 < tx.length + 4 + da.length + 1 + dt.length := by have := HLN.out; omega
          have q4 : ¬ 9223372036854775807 < tx.length + 4 + da.length + 1 + dt.length + 1 := by have := HLN.out; omega
          have q5 : ¬ 9223372036854775807 < tx.length + 4 + da.length + 1 + dt.length + 1 + de.length := by have := HLN.out; omega
          have q6 : ¬ 9223372036854775807 < tx.length + 4 + da.length + 1 + dt.length + 1 + de.length + 1 := by have := HLN.out; omega
          have HS : Hid ((ByteArray.mk tx.toArray ++ ByteArray.mk #[100, 101, 99, 32] ++ ByteArray.mk da.toArray ++ ByteArray.mk #[32] ++ ByteArray.mk dt.toArray ++ ByteArray.mk #[32] ++ ByteArray.mk de.toArray ++ ByteArray.mk #[10]) = ⟨(textT f (i + 1)).toArray⟩) := Lib.hid (by rw [HNX.out, HLT.out]; apply ByteArray.ext; simp)
          clear l1 l2 l3
          go_wp2_with fail
          go_roundw
          case rel => exact ⟨i + 1, HI.out, by go_num, by rw [← HS.out], HB.out⟩
          case measure => have := HI.out; simp [RowKit.intOf]; omega
        · have h3 : x0 = 3 := by omega
          subst h3
          rw [if_neg (by decide), if_neg (by decide)] at HLT
          clear hops h1 h2
          have q0 : ¬ 9223372036854775807 < tx.length + 5 := by have := HLN.out; omega
          have HS : Hid ((ByteArray.mk tx.toArray ++ ByteArray.mk #[104, 97, 108, 116, 10]) = ⟨(textT f (i + 1)).toArray⟩) := Lib.hid (by rw [HNX.out, HLT.out]; apply ByteArray.ext; simp)
          clear l1 l2 l3
          go_wp2_with fail
          go_roundw
          case rel => exact ⟨i + 1, HI.out, by go_num, by rw [← HS.out], HB.out⟩
          case measure => have := HI.out; simp [RowKit.intOf]; omega
    · have e : i = m := by omega
      subst e
      have hnl : ¬ (i : Int) < (i : Int) := by omega
      clear hlt
      go_wp2_with fail
      go_ret
      exact ⟨rfl, HB.out⟩
    end Cr
    end Go.Proofs.YtfhhnajnanlmgaaDoor
