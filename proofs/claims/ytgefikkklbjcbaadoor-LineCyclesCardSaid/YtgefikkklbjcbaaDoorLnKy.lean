/- WALK: line.Cycle$1: a word as letters. -/
import Derived.Test.YtgefikkklbjcbaaDoorLnCy
import Derived.Test.YtgefikkklbjcbaaDoorLnN
import Derived.Test.YtgefikkklbjcbaaDoorLnMv
namespace Go.Proofs.YtgefikkklbjcbaaDoor
set_option linter.unusedSimpArgs false
set_option linter.unusedVariables false
open Go.RowKit
namespace Ln
open Tld Mem

theorem infoByte : (Tryd.prog.info? 5).map (fun i => (i.zero, i.size, i.bytes)) = some (some (.int .u8 0), 1, 1) := by kernel_rfl
theorem set_mapB (zs : List Int) (k : Nat) (z : Int) : (zs.map (Value.int .u8)).set k (.int .u8 z) = (zs.set k z).map (Value.int .u8) := by rw [List.map_set]
set_option maxHeartbeats 4000000 in
set_option maxRecDepth 1000000 in
theorem key_any (wa : Option Addr) (wn wc : Nat) (wz : List Int) (w : World) (hW : Ints.Is w wa wn wz) (hz : ∀ z ∈ wz, 0 ≤ z ∧ z < ((256 : Nat) : Int)) (hn : wn ≤ 100000) :
    Calls Tryd.prog 34 #[.slice wa wn wc] w fun e w' => e = .returned (.string ⟨(kyB wz).toArray⟩) ∧ Below w.heap.size w w' := by
  obtain ⟨i0, hI0, hz0, hz1, hz2⟩ := info_parts infoByte
  have HI0 := Lib.hid hI0
  have HZ0 := Lib.hid hz0
  have HZ1 := Lib.hid hz1
  have HZ2 := Lib.hid hz2
  obtain ⟨s, hs⟩ : ∃ s : ByteArray, s = ⟨(kyB wz).toArray⟩ := ⟨_, rfl⟩
  have hsz : wn = s.size := by rw [hs]; simp [ByteArray.size, kyB, hW.len]
  rw [← hs]
  have HSV : Hid (∀ i, i < wn → (s.data.toList.getD i 0).toNat = wf wz i) := fun i hi => by
    have hl := hW.len
    have h1 := hz _ (int_mem (zs := wz) (k := i) (by omega))
    rw [hs]
    unfold wf
    simp only [kyB, List.getD_eq_getElem?_getD, List.getElem?_map, List.getElem?_eq_getElem (show i < wz.length by omega), Option.map_some, Option.getD_some] at h1 ⊢
    rw [UInt8.toNat_ofNat', Nat.mod_eq_of_lt (by omega)]
  have HWL := Lib.hid (wf_lt (st := 256) (by omega) hz)
  have HWV := Lib.hid (wf_at (zs := wz) fun z h => (hz z h).1)
  have HW := Lib.hid hW
  clear hI0 hz0 hz1 hz2 hW hz hs
  subst hsz
  obtain ⟨n, hN⟩ : ∃ n, n = s.size := ⟨_, rfl⟩
  go_enter Tryd.func34, Tryd.ntmps34
  go_wp2_with (refine Ops.wpList_make rfl 58 _ _ rfl 5 i0 (.int .u8 0) Tryd.underlying58 HI0.out HZ0.out rfl HZ1.out (by rw [HZ2.out]; decide) s.size rfl rfl (by omega) ?_; intro gw w1 hgw hb1 hRw)
  have HR : Hid (Row w1 gw 5 ((midI (wf wz) s.size 0).map (Value.int .u8))) := by
    show Row w1 gw 5 _
    rw [midI_zero, List.map_replicate]; exact hRw
  have HB := Lib.hid hb1
  have HG : Hid (w.heap.size ≤ gw) := hgw
  clear hRw hb1 hgw
  go_loopw [11] (fun u wr => ∃ k : Nat, k ≤ s.size ∧ u = .int .i64 k ∧ Row wr gw 5 ((midI (wf wz) s.size k).map (Value.int .u8)) ∧ Below w.heap.size w wr) (fun u _ => s.size - (intOf u).toNat)
  case atStart => exact ⟨0, Nat.zero_le _, rfl, HR.out, HB.out⟩
  case round =>
    clear HR HB
    obtain ⟨k, hk, rfl, hR, hbel⟩ := hrel
    have HR := Lib.hid hR
    have HB := Lib.hid hbel
    clear hR hbel
    by_cases hlt : k < s.size
    · obtain ⟨bw, off, rfl, hbw, hc⟩ := (HW.out.keep HB.out).cells k hlt
      dsimp only at hc
      rw [HWV.out] at hc
      have hv := HWL.out k
      have hwr : IntKind.u8.wrap ((wf wz k : Nat) : Int) = ((wf wz k : Nat) : Int) := by simp [IntKind.wrap, IntKind.min, IntKind.max, IntKind.signed, IntKind.bits]; omega
      have hcell := (HR.out.cell k).trans (show ((midI (wf wz) s.size k).map (Value.int .u8))[k]? = some (.int .u8 0) by rw [List.getElem?_map, midI_get _ hlt, if_neg (by omega)]; rfl)
      have hfrz := HR.out.frozen k
      have hset := HR.out.set k (.int .u8 ((wf wz k : Nat) : Int))
      rw [set_mapB, midI_next _ hlt] at hset
      have HSET := Lib.hid hset
      have HB2 := Lib.hid (HB.out.trans ((only_setCell wr gw k (.int .u8 ((wf wz k : Nat) : Int))).below HG.out))
      clear hset HR HB
      generalize wf wz k = cv at *
      go_wp2_with fail
      go_roundw
      case rel => exact ⟨k + 1, by omega, by go_num, HSET.out, HB2.out⟩
      case measure => simp [intOf]; omega
    · obtain rfl : k = s.size := by omega
      have HCL : Hid (Cells wr (some ⟨gw, 0, none⟩) s.size (fun i => .int .u8 ((s.data.toList.getD i 0).toNat : Int))) := fun i hi => by
        refine ⟨gw, 0, rfl, HR.out.lt, ?_⟩
        dsimp only
        rw [Nat.zero_add, HR.out.cell, List.getElem?_map, midI_get _ hi, if_pos hi, HSV.out i hi]
        rfl
      go_wp2_with (refine Ops.wpList_string rfl 58 9 5 _ rfl Tryd.underlying58 Tryd.underlying5 Tryd.underlying9 (some ⟨gw, 0, none⟩) s.size s rfl HCL.out (fun h => by cases h) ?_)
      go_ret
      exact ⟨rfl, HB.out⟩
end Ln
end Go.Proofs.YtgefikkklbjcbaaDoor
