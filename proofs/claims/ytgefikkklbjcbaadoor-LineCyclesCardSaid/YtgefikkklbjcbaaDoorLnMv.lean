/- WALK: edenlaw2.moved. -/
import Derived.Test.YtgefikkklbjcbaaDoorLnCW
import Derived.Test.YtgefikkklbjcbaaDoorInts
namespace Go.Proofs.YtgefikkklbjcbaaDoor
set_option linter.unusedSimpArgs false
set_option linter.unusedVariables false
open Go.RowKit
namespace Ln
open Tld Mem

/-- How far a word is moved round. -/
def bof (y : Int) (n : Nat) : Nat := ((y.tmod n + n) % (n : Int)).toNat
theorem bof_at {y : Int} {n i : Nat} (h : 0 < n) (hi : i < n) : ∃ q : Int, y.tmod (n : Int) = q ∧ -(n : Int) < q ∧ q < n ∧ ((i : Int) + q + (n : Int)).tmod (n : Int) = (((i + bof y n) % n : Nat) : Int) := by
  have hn : (0 : Int) < n := by omega
  refine ⟨_, rfl, ?_, Int.tmod_lt_of_pos _ hn, ?_⟩
  · have := Int.lt_tmod_of_pos y hn; omega
  · unfold bof
    have hq := Int.tmod_lt_of_pos y hn
    have hq2 : -(n : Int) < y.tmod n := by have := Int.lt_tmod_of_pos y hn; omega
    generalize y.tmod (n : Int) = q at *
    have h1 : 0 ≤ (q + n) % (n : Int) := Int.emod_nonneg _ (by omega)
    rw [Int.tmod_eq_emod_of_nonneg (by omega), Int.natCast_emod, Int.natCast_add, Int.toNat_of_nonneg h1, Int.add_emod_emod, Int.add_assoc]
def movL (b : Nat) (wz : List Int) : List Int := lst wz.length fun j => wf wz ((j + b) % wz.length)
set_option maxHeartbeats 8000000 in
set_option maxRecDepth 1000000 in
theorem moved_any (wa : Option Addr) (wn wc : Nat) (wz : List Int) (y : Int) (w : World) (hW : Ints.Is w wa wn wz) (hwz : ∀ z ∈ wz, 0 ≤ z) (h0 : 0 < wn) (hwn : wn ≤ 5000) :
    Calls Tryd.prog 8 #[.slice wa wn wc, .int .i64 y] w fun e w' => (∃ ao co, e = .returned (.slice ao wn co) ∧ wn ≤ co ∧ Ints.Is w' ao wn (movL (bof y wn) wz)) ∧ Below w.heap.size w w' := by
  obtain ⟨i0, hI0, hz0, hz1, hz2⟩ := info_parts infoIntN
  have HI0 := Lib.hid hI0
  have HZ0 := Lib.hid hz0
  have HZ1 := Lib.hid hz1
  have HZ2 := Lib.hid hz2
  have HW := Lib.hid hW
  have HWV := Lib.hid (wf_at (zs := wz) fun z hz => hwz z hz)
  have hl := hW.len
  have HML : Hid (movL (bof y wn) wz = lst wn (fun j => wf wz ((j + bof y wn) % wn))) := by
    show movL (bof y wn) wz = _
    unfold movL; rw [hl]
  rw [HML.out]
  have hb0 : ((wn : Int) == 0) = false := by rw [beq_eq_false_iff_ne]; omega
  have HBOF := Lib.hid (fun i hi => bof_at (y := y) (n := wn) (i := i) h0 hi)
  generalize bof y wn = b at *
  clear hI0 hz0 hz1 hz2 hW hwz hl HML
  go_enter Tryd.func8, Tryd.ntmps8
  go_wp2_with fail
  go_loopw [5, 7] (fun u v wr => ∃ j : Nat, j ≤ wn ∧ v = .int .i64 j ∧ wr.ownsRow w.heap.size 3 1 u j ((lst j (fun j => wf wz ((j + b) % wn))).map (Value.int .i64)) ∧ Below w.heap.size w wr) (fun _ v _ => wn - (intOf v).toNat)
  case atStart => exact ⟨0, Nat.zero_le _, rfl, own_nil _ _, Below.refl _ _⟩
  case round =>
    obtain ⟨j, hj, rfl, hown, hbel⟩ := hrel
    obtain ⟨ao, co, rfl⟩ := own_slice hown
    have HO := Lib.hid hown
    have HB := Lib.hid hbel
    clear hown hbel
    by_cases hlt : j < wn
    · obtain ⟨q, hq1, hq2, hq3, hq4⟩ := HBOF.out j hlt
      have hx : (j + b) % wn < wn := Nat.mod_lt _ h0
      obtain ⟨bw, off, rfl, hbw, hc⟩ := (HW.out.keep HB.out).cells ((j + b) % wn) hx
      dsimp only at hc
      rw [HWV.out] at hc
      have HSN : Hid ((lst (j + 1) (fun j => wf wz ((j + b) % wn))).map (Value.int .i64) = (lst j (fun j => wf wz ((j + b) % wn))).map (Value.int .i64) ++ [.int .i64 ((wf wz ((j + b) % wn) : Nat) : Int)]) := by
        show (lst (j + 1) _).map (Value.int .i64) = _
        rw [lst_succ, map_snoc]
      generalize wf wz ((j + b) % wn) = cv at *
      generalize (j + b) % wn = x at *
      have hnew := row_alloc wr 3 [.int .i64 (cv : Int)]
      have hbn : Below wr.heap.size wr (wr.alloc (.cells [.int .i64 (cv : Int)].toArray 3)) := (Below.refl _ _).alloc (Nat.le_refl _) _
      have HOa := Lib.hid (own_keep HO.out hbn)
      have HBa := Lib.hid (HB.out.trans (hbn.mono HB.out.size))
      have HCEL := Lib.hid (hnew.cell 0)
      have HSZ : Hid (w.heap.size ≤ (wr.alloc (.cells [.int .i64 (cv : Int)].toArray 3)).heap.size) := HBa.out.size
      clear HO HB hnew hbn
      go_wp2_with (at_builtin; refine Ops.wpList_append1 rfl _ _ 22 rfl w.heap.size 3 i0 (.int .i64 0) 8 Tryd.underlying22 HI0.out HZ0.out rfl HZ1.out HZ2.out _ j _ rfl HOa.out ⟨wr.heap.size, 0, none⟩ 1 (.int .i64 cv) rfl HCEL.out rfl ?c1 ?c2 HSZ.out ?_)
      case c1 => unfold maxLen; omega
      case c2 => omega
      intro ao' co' w3 hO3 hg3
      have HB3 := Lib.hid (HBa.out.grown hg3 HSZ.out (own_low HOa.out))
      rw [← HSN.out] at hO3
      have HO3 := Lib.hid hO3
      clear hO3 hg3 HOa HBa HCEL HSZ HSN hc
      go_wp2_with fail
      go_roundw
      case rel => exact ⟨j + 1, by omega, by go_num, HO3.out, HB3.out⟩
      case measure => simp [intOf]; omega
    · have em : j = wn := by omega
      subst em
      go_wp2_with fail
      go_ret
      obtain ⟨ao2, co2, e2, hco⟩ := own_slice2 HO.out
      cases e2
      exact ⟨⟨_, _, rfl, hco, (own_is HO.out lst_len (by unfold maxLen; omega)).1⟩, HB.out⟩
end Ln
end Go.Proofs.YtgefikkklbjcbaaDoor
