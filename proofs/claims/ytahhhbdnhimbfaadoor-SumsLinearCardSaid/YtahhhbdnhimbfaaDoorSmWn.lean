/- WALK: edenref1.Window (as in LnB, for a seat without edenref2.Compose). -/
import Derived.Test.YtahhhbdnhimbfaaDoorSmK
namespace Go.Proofs.YtahhhbdnhimbfaaDoor
set_option linter.unusedSimpArgs false
set_option linter.unusedVariables false
open Go.RowKit
namespace Ln
open Tld Mem

set_option maxHeartbeats 8000000 in
set_option maxRecDepth 1000000 in
theorem window_any {st n i : Nat} (h2 : 2 ≤ st) (h4 : st ≤ 4) (hn : n ≤ 100) (hi4 : i ≤ 100000) (w : World) : Calls Tryd.prog 26 #[.int .i64 st, .int .i64 n, .int .i64 i] w fun e w' => (∃ g, e = .returned (.slice (some ⟨g, 0, none⟩) n n) ∧ Ints.Is w' (some ⟨g, 0, none⟩) n (lst n (dig st n i))) ∧ Below w.heap.size w w' := by
  obtain ⟨i0, hI0, hz0, hz1, hz2⟩ := info_parts infoIntN
  have HI0 := Lib.hid hI0
  have HZ0 := Lib.hid hz0
  have HZ1 := Lib.hid hz1
  have HZ2 := Lib.hid hz2
  clear hI0 hz0 hz1 hz2
  have hst0 : ((st : Int) == 0) = false := by rw [beq_eq_false_iff_ne]; omega
  go_enter Tryd.func26, Tryd.ntmps26
  go_wp2_with (refine Ops.wpList_make rfl 22 _ _ rfl 3 i0 (.int .i64 0) Tryd.underlying22 HI0.out HZ0.out rfl HZ1.out (by rw [HZ2.out]; decide) n rfl rfl (by omega) ?_; intro gw w1 hgw hb1 hRw)
  obtain ⟨ws, hws⟩ : ∃ ws : List Int, ws = List.replicate n 0 := ⟨_, rfl⟩
  have hwl : ws.length = n := by rw [hws]; simp
  have HW : Hid (Row w1 gw 3 ((endI (dig st n i) ws n n).map (Value.int .i64))) := by
    show Row w1 gw 3 _
    rw [show endI (dig st n i) ws n n = ws from by rw [← hwl]; exact endI_all _ _, hws, List.map_replicate]; exact hRw
  have HB := Lib.hid hb1
  have HG : Hid (w.heap.size ≤ gw) := hgw
  clear hRw hb1 hgw hws hwl
  obtain ⟨wo, rfl⟩ : ∃ wo : World, wo = w1 := ⟨_, rfl⟩
  go_loopw [2, 8] (fun u v wr => ∃ k : Nat, k ≤ n ∧ v = .int .i64 ((k : Int) - 1) ∧ u = .int .i64 ((i / st ^ (n - k) : Nat) : Int) ∧ Row wr gw 3 ((endI (dig st n i) ws n k).map (Value.int .i64)) ∧ Only gw wo wr) (fun _ v _ => (intOf v + 1).toNat)
  case atStart => exact ⟨n, Nat.le_refl _, rfl, by rw [Nat.sub_self, Nat.pow_zero, Nat.div_one], HW.out, Only.refl _ _⟩
  case round =>
    clear HW
    obtain ⟨k, hk, rfl, rfl, hW, ho⟩ := hrel
    have HW := Lib.hid hW
    have HO := Lib.hid ho
    clear hW ho
    by_cases hk0 : 0 < k
    · obtain ⟨j, rfl⟩ : ∃ j, k = j + 1 := ⟨k - 1, by omega⟩
      have hji : ((j + 1 : Nat) : Int) - 1 = (j : Int) := by omega
      rw [hji]
      have hjw : j < n := by omega
      have hqm : ((i / st ^ (n - (j + 1)) : Nat) : Int).tmod (st : Int) = ((dig st n i j : Nat) : Int) := by
        rw [show dig st n i j = i / st ^ (n - (j + 1)) % st from by unfold dig; rw [show n - 1 - j = n - (j + 1) from by omega]]
        exact Int.ofNat_tmod _ _
      have hqd : ((i / st ^ (n - (j + 1)) : Nat) : Int).tdiv (st : Int) = ((i / st ^ (n - j) : Nat) : Int) := by
        rw [show i / st ^ (n - j) = i / st ^ (n - (j + 1)) / st from by rw [Nat.div_div_eq_div_mul, ← Nat.pow_succ]; congr 2; omega]
        exact Int.ofNat_tdiv _ _
      have hq4 : i / st ^ (n - (j + 1)) ≤ i := Nat.div_le_self _ _
      have hq5 : i / st ^ (n - j) ≤ i := Nat.div_le_self _ _
      have hcell := (HW.out.cell j).trans (show ((endI (dig st n i) ws n (j + 1)).map (Value.int .i64))[j]? = some (.int .i64 (ws.getD j 0)) by rw [List.getElem?_map, endI_get _ _ hjw, if_pos (by omega)]; rfl)
      have hfrz := HW.out.frozen j
      have hset := HW.out.set j (.int .i64 ((dig st n i j : Nat) : Int))
      rw [set_mapI, endI_next _ _ hjw] at hset
      have HSET := Lib.hid hset
      have HO2 := Lib.hid (HO.out.trans (only_setCell wr gw j (.int .i64 ((dig st n i j : Nat) : Int))))
      clear hset HW HO
      generalize ws.getD j 0 = old at *
      generalize hdg : dig st n i j = dg at *
      clear hdg
      generalize i / st ^ (n - (j + 1)) = qn at *
      generalize hq2 : i / st ^ (n - j) = qn2 at *
      have HQ2 := Lib.hid hq2
      clear hq2
      go_wp2_with fail
      exact ⟨⟨j, by omega, by first | rfl | simp, by rw [HQ2.out], HSET.out, HO2.out⟩, by simp [intOf]⟩
    · obtain rfl : k = 0 := by omega
      rw [endI_zero] at HW
      have HI := Lib.hid (row_isN HW.out lst_len (by unfold maxLen; omega))
      have HB2 := Lib.hid (HB.out.trans (HO.out.below HG.out))
      go_wp2_with fail
      go_ret
      exact ⟨⟨gw, rfl, HI.out⟩, HB2.out⟩
end Ln
end Go.Proofs.YtahhhbdnhimbfaaDoor
