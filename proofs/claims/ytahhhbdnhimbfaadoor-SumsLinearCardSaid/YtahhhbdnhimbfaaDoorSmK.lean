/- WALK: sums.Keeps, edenlaw2.weight. -/
import Derived.Test.YtahhhbdnhimbfaaDoorLnRs
import Derived.Test.YtahhhbdnhimbfaaDoorSmPl
import Derived.Deep.RegionWith
namespace Go.Proofs.YtahhhbdnhimbfaaDoor
set_option linter.unusedSimpArgs false
set_option linter.unusedVariables false
open Go.RowKit
namespace Ln
open Tld Mem Sm

def offW (z : Int) : Bool := decide (z < -1000 ∨ 1000 < z)
theorem wtest_any (z : Int) (w : World) : Calls Tryd.prog 20 #[.int .i64 z] w fun e w' => e = .returned (.bool (offW z)) ∧ w = w' := by
  go_enter Tryd.func20, Tryd.ntmps20
  by_cases h0 : z < -1000
  · have : offW z = true := decide_eq_true (.inl h0)
    rw [this]
    go_wp2
    go_ret
    exact ⟨rfl, rfl⟩
  · have h2 : decide (1000 < z) = offW z := by
      unfold offW
      exact decide_eq_decide.2 (by omega)
    go_wp2
    go_ret
    exact ⟨rfl, rfl⟩
set_option maxHeartbeats 2000000 in
theorem windex_any (sa : Option Addr) (sn sc : Nat) (zs : List Int) (w : World) (hz : zs.length = sn) (hs : sn ≤ 9223372036854775807) (hZ : Cells w sa sn (fun i => .int .i64 (zs.getD i 0))) :
    Calls Tryd.prog 30 #[.slice sa sn sc, .func (.func 20) #[] #[]] w fun e w' => (∃ k : Int, e = .returned (.int .i64 k) ∧ decide (0 ≤ k) = zs.any (offW)) ∧ w = w' := by
  have HZ := Lib.hid hZ
  have HG := Lib.hid (fun z => wtest_any z w)
  have HZL := Lib.hid hz
  clear hZ hz
  go_enter Tryd.func30, Tryd.ntmps30
  go_wp2
  go_loop [8] (fun v => ∃ i : Nat, i ≤ sn ∧ v = .int .i64 i ∧ (∀ k, k < i → offW (zs.getD k 0) = false)) (fun v => sn - (intOf v).toNat)
  case atStart => exact ⟨0, Nat.zero_le _, rfl, fun k hk => absurd hk (Nat.not_lt_zero _)⟩
  case round =>
    obtain ⟨i, hi, rfl, hok⟩ := hrel
    have HOK := Lib.hid hok
    clear hok
    by_cases hlt : i < sn
    · obtain ⟨b, off', rfl, hbl, hc⟩ := HZ.out i hlt
      dsimp only at hc
      have HY := Lib.hid (fun h => any_yes (zs := zs) (p := offW) (k := i) (by rw [HZL.out]; exact hlt) h)
      have HOK2 : Hid (offW (zs.getD i 0) = false → ∀ k, k < i + 1 → offW (zs.getD k 0) = false) := fun h k hk => by
        by_cases hki : k = i
        · subst hki; exact h
        · exact HOK.out k (by omega)
      have HG2 := Lib.hid (HG.out (zs.getD i 0))
      generalize hz : zs.getD i 0 = z at *
      clear hz
      generalize hp : offW z = q at *
      clear hp
      go_wp2_with fail
      refine HG2.out.mono ?_
      rintro e1 w1 ⟨rfl, rfl⟩
      cases q
      · go_wp2_with fail
        go_round
        case rel => exact ⟨i + 1, by omega, by go_num, HOK2.out (by first | rfl | trivial)⟩
        case measure => simp [intOf]; omega
      · go_wp2_with fail
        go_ret
        exact ⟨⟨i, rfl, by rw [HY.out (by first | rfl | trivial)]; simp⟩, rfl⟩
    · have HN := Lib.hid (any_no (zs := zs) (p := offW) fun k hk => HOK.out k (by rw [HZL.out] at hk; omega))
      go_wp2
      go_ret
      exact ⟨⟨-1, rfl, by rw [HN.out]; rfl⟩, rfl⟩
theorem wcontains_any (sa : Option Addr) (sn sc : Nat) (zs : List Int) (w : World) (hz : zs.length = sn) (hs : sn ≤ 9223372036854775807) (hZ : Cells w sa sn (fun i => .int .i64 (zs.getD i 0))) :
    Calls Tryd.prog 19 #[.slice sa sn sc, .func (.func 20) #[] #[]] w fun e w' => e = .returned (.bool (zs.any (offW))) ∧ w = w' := by
  have HI := Lib.hid (windex_any sa sn sc zs w hz hs hZ)
  clear hZ
  go_enter Tryd.func19, Tryd.ntmps19
  go_wp2_with fail
  refine HI.out.mono ?_
  rintro e1 w1 ⟨⟨k, rfl, hk⟩, rfl⟩
  have HK := Lib.hid hk
  clear hk
  go_wp2
  go_ret
  exact ⟨congrArg (fun b => Ending.returned (.bool b)) HK.out, rfl⟩

/-! ### a word of windows, filled from behind (as in LnM) -/
def endI (f : Nat → Nat) (ws : List Int) (n k : Nat) : List Int := (List.range n).map fun j => if j < k then ws.getD j 0 else ((f j : Nat) : Int)
theorem endI_get (f : Nat → Nat) (ws : List Int) {n k j : Nat} (h : j < n) : (endI f ws n k)[j]? = some (if j < k then ws.getD j 0 else ((f j : Nat) : Int)) := by
  simp [endI, List.getElem?_range h]
theorem endI_all (f : Nat → Nat) (ws : List Int) : endI f ws ws.length ws.length = ws := by
  apply List.ext_getElem (by simp [endI])
  intro i h1 h2
  simp [endI, h2, List.getD_eq_getElem?_getD]
theorem endI_zero (f : Nat → Nat) (ws : List Int) (n : Nat) : endI f ws n 0 = lst n f := by simp [endI, lst]
theorem endI_next (f : Nat → Nat) (ws : List Int) {n k : Nat} (h : k < n) : (endI f ws n (k + 1)).set k ((f k : Nat) : Int) = endI f ws n k := by
  apply List.ext_getElem (by simp [endI])
  intro i h1 h2
  simp only [List.getElem_set, endI, List.getElem_map, List.getElem_range]
  by_cases e : k = i
  · subst e; simp
  · simp only [e, if_false]
    by_cases h3 : i < k
    · rw [if_pos (by omega), if_pos h3]
    · rw [if_neg (by omega), if_neg h3]
theorem set_mapI (zs : List Int) (k : Nat) (z : Int) : (zs.map (Value.int .i64)).set k (.int .i64 z) = (zs.set k z).map (Value.int .i64) := by rw [List.map_set]
theorem row_isN {w : World} {b n : Nat} {zs : List Int} (h : Row w b 3 (zs.map (Value.int .i64))) (hz : zs.length = n) (hn : n ≤ maxLen) : Ints.Is w (some ⟨b, 0, none⟩) n zs := by
  refine ⟨hz, fun i hi => ⟨b, 0, rfl, h.lt, ?_⟩, hn⟩
  dsimp only
  rw [Nat.zero_add, h.cell, List.getElem?_map, List.getElem?_eq_getElem (by omega), List.getD_eq_getElem?_getD, List.getElem?_eq_getElem (by omega)]
  rfl
theorem zw_lt {x : Nat → Nat} {z fr st : Nat} (hs : 0 < st) (h : ∀ k, x k < st) (i : Nat) : zw x z fr i < st := by
  unfold zw
  split
  · exact h _
  · exact hs
set_option maxHeartbeats 8000000 in
set_option maxRecDepth 1000000 in
theorem made_any (K B S : Int) (st ra : Nat) (ta : Option Addr) (tn tc : Nat) (tz : List Int) (tu : ByteArray) (sa : Option Addr) (sn sc : Nat) (sz : List Int) (p7 p8 p2 p3 gx ww z fr : Nat) (x : Nat → Nat) (w : World) (hT : Ints.Is w ta tn tz) (h2 : 2 ≤ st) (h4 : st ≤ 4) (hww : ww ≤ 11) (htn : tn = st ^ ww) (htl : tn ≤ 4096) (htz : ∀ z ∈ tz, 0 ≤ z ∧ z < (st : Int))
    (hS : Ints.Is w sa sn sz) (hsn : sn = st) (hX : Ints.Is w (some ⟨gx, 0, none⟩) ww (lst ww x)) (hx : ∀ k, x k < st) (h7 : Row w p7 3 [.int .i64 (ww : Int)]) (h8 : Row w p8 22 [.slice (some ⟨gx, 0, none⟩) ww ww]) (hp2 : Row w p2 24 (rulL K B S st ra ta tn tc tu)) (hp3 : Row w p3 22 [.slice sa sn sc]) (hf : fr ≤ z) (hz : z ≤ ww) :
    Calls Tryd.prog 21 #[.int .i64 z, .int .i64 fr, .pointer (some ⟨p7, 0, none⟩), .pointer (some ⟨p8, 0, none⟩), .pointer (some ⟨p2, 0, none⟩), .pointer (some ⟨p3, 0, none⟩)] w fun e w' => e = .returned (.int .i64 (made (fun s => sz.getD s 0) (wf tz) st ww x z fr)) ∧ Below w.heap.size w w' := by
  have HT := Lib.hid hT
  have HX := Lib.hid hX
  have HS := Lib.hid hS
  have HTN := Lib.hid htn
  have HSN := Lib.hid hsn
  have HTV := Lib.hid (wf_at (zs := tz) fun z hz => (htz z hz).1)
  have HTL := Lib.hid (wf_lt (st := st) (by omega) htz)
  have HZW := Lib.hid (zw_lt (z := z) (fr := fr) (show 0 < st by omega) hx)
  have HXL := Lib.hid hx
  have f7 := h7.cell 0
  have f8 := h8.cell 0
  have f23 := hp2.cell 3
  have f25 := hp2.cell 5
  have f3 := hp3.cell 0
  unfold rulL at f23 f25
  dsimp only [List.getElem?_cons_succ, List.getElem?_cons_zero] at f7 f8 f23 f25 f3
  clear hT hX hS htn hsn htz hx h7 h8 hp2 hp3
  go_enter Tryd.func21, Tryd.ntmps21
  go_wp2_with fail
  go_loop [9, 13] (fun u v => ∃ i : Nat, i ≤ ww ∧ v = .int .i64 i ∧ u = .int .i64 (win st i (zw x z fr) : Nat)) (fun _ v => ww - (intOf v).toNat)
  case atStart => exact ⟨0, Nat.zero_le _, rfl, rfl⟩
  case round =>
    obtain ⟨i, hi, rfl, rfl⟩ := hrel
    have hwlt : win st i (zw x z fr) < st ^ i := win_lt fun k _ => HZW.out k
    by_cases hlt : i < ww
    · have hcl := HZW.out i
      have hpk : st ^ i * st ≤ tn := by
        rw [HTN.out, ← Nat.pow_succ]
        exact Nat.pow_le_pow_right (by omega) (by omega)
      have hmul : (win st i (zw x z fr) + 1) * st ≤ st ^ i * st := Nat.mul_le_mul_right st hwlt
      rw [Nat.succ_mul] at hmul
      have HN : Hid (win st (i + 1) (zw x z fr) = win st i (zw x z fr) * st + zw x z fr i) := rfl
      have HZI : Hid (zw x z fr i = if z ≤ i then x (fr + i - z) else 0) := rfl
      generalize hnn : win st (i + 1) (zw x z fr) = nn at *
      have HNN := Lib.hid hnn
      clear hnn
      generalize win st i (zw x z fr) = n at *
      generalize zw x z fr i = cv at *
      obtain ⟨pr, hpr⟩ : ∃ pr, pr = n * st := ⟨_, rfl⟩
      have hwp : IntKind.i64.wrap ((n : Int) * (st : Int)) = (pr : Int) := by
        rw [show ((n : Int) * (st : Int)) = ((n * st : Nat) : Int) from by push_cast; rfl, ← hpr, IntKind.wrap_i64]; omega
      have hpr1 : pr ≤ 4096 := by omega
      rw [← hpr] at HN
      clear hmul hpr hwlt hpk
      by_cases hzi : z ≤ i
      · have dzi : decide ((z : Int) ≤ (i : Int)) = true := decide_eq_true (by omega)
        have hidx : fr + i - z < ww := by omega
        obtain ⟨bx, ox, ex, _, hc⟩ := HX.out.cells (fr + i - z) hidx
        cases ex
        dsimp only at hc
        rw [Nat.zero_add, lst_get hidx, show x (fr + i - z) = cv from by rw [HZI.out, if_pos hzi]] at hc
        have hix : (fr : Int) + (i : Int) - (z : Int) = ((fr + i - z : Nat) : Int) := by omega
        generalize fr + i - z = q at *
        go_wp2_with fail
        go_round
        case rel => exact ⟨i + 1, by omega, by go_num, by rw [HNN.out, HN.out]; push_cast; rfl⟩
        case measure => simp [intOf]; omega
      · have dzi : decide ((z : Int) ≤ (i : Int)) = false := decide_eq_false (by omega)
        obtain rfl : cv = 0 := by rw [HZI.out, if_neg hzi]
        go_wp2_with fail
        go_round
        case rel => exact ⟨i + 1, by omega, by go_num, by rw [HNN.out, HN.out]; simp⟩
        case measure => simp [intOf]; omega
    · have ek : i = ww := by omega
      subst ek
      have hnt : win st i (zw x z fr) < tn := by rw [HTN.out]; exact hwlt
      obtain ⟨bt, ot, rfl, _, hct⟩ := HT.out.cells _ hnt
      dsimp only at hct
      rw [HTV.out] at hct
      have htv := HTL.out (win st i (zw x z fr))
      have HV : Hid (made (fun s => sz.getD s 0) (wf tz) st i x z fr = sz.getD (wf tz (win st i (zw x z fr))) 0) := rfl
      generalize wf tz (win st i (zw x z fr)) = tv at *
      generalize win st i (zw x z fr) = nn at *
      obtain ⟨bs, os, rfl, _, hcs⟩ := HS.out.cells tv (by rw [HSN.out]; exact htv)
      dsimp only at hcs
      have htv2 : (tv : Int) < (sn : Int) := by have := HSN.out; omega
      generalize sz.getD tv 0 = sv at *
      clear hwlt hlt hi
      go_wp2_with fail
      go_big_quiet (fail)
      have HB := Lib.hid (below_drewN (Below.refl w.heap.size w) nq)
      go_wp2_with fail
      go_ret
      exact ⟨congrArg (fun z : Int => Ending.returned (.int .i64 z)) HV.out.symm, HB.out⟩
theorem weight_any (xa sa : Option Addr) (xn xc sn sc : Nat) (xz sz : List Int) (w : World) (hX : Ints.Is w xa xn xz) (hS : Ints.Is w sa sn sz) (hx : ∀ z ∈ xz, 0 ≤ z ∧ z < (sn : Int)) (hs : ∀ s, -1000 ≤ sz.getD s 0 ∧ sz.getD s 0 ≤ 1000) (hn : xn ≤ 10000) :
    Calls Tryd.prog 8 #[.slice xa xn xc, .slice sa sn sc] w fun e w' => e = .returned (.int .i64 (sumI (fun i => sz.getD (wf xz i) 0) xn)) ∧ w' = w := by
  have HX := Lib.hid hX
  have HS := Lib.hid hS
  have HXV := Lib.hid (wf_at (zs := xz) fun z hz => (hx z hz).1)
  have HXL : Hid (∀ i, i < xn → wf xz i < sn) := fun i hi => by
    have hl := hX.len
    have h1 := hx _ (int_mem (zs := xz) (k := i) (by omega))
    unfold wf
    omega
  have HSB := Lib.hid hs
  clear hX hS hx hs
  go_enter Tryd.func8, Tryd.ntmps8
  go_wp2_with fail
  go_loop [5, 6] (fun u v => ∃ i : Nat, i ≤ xn ∧ v = .int .i64 i ∧ u = .int .i64 (sumI (fun i => sz.getD (wf xz i) 0) i)) (fun _ v => xn - (intOf v).toNat)
  case atStart => exact ⟨0, Nat.zero_le _, rfl, rfl⟩
  case round =>
    obtain ⟨i, hi, rfl, rfl⟩ := hrel
    by_cases hlt : i < xn
    · obtain ⟨bx, ox, rfl, _, hc⟩ := HX.out.cells i hlt
      dsimp only at hc
      rw [HXV.out] at hc
      have hxl := HXL.out i hlt
      obtain ⟨bs, os, rfl, _, hcs⟩ := HS.out.cells (wf xz i) hxl
      dsimp only at hcs
      have hb := sumI_bound (F := fun i => sz.getD (wf xz i) 0) (B := 1000) (n := i) fun j _ => HSB.out _
      have hb2 := HSB.out (wf xz i)
      have HN : Hid (sumI (fun i => sz.getD (wf xz i) 0) (i + 1) = sumI (fun i => sz.getD (wf xz i) 0) i + sz.getD (wf xz i) 0) := rfl
      generalize hnn : sumI (fun i => sz.getD (wf xz i) 0) (i + 1) = nn at *
      have HNN := Lib.hid hnn
      clear hnn
      generalize sumI (fun i => sz.getD (wf xz i) 0) i = su at *
      generalize sz.getD (wf xz i) 0 = sv at *
      generalize wf xz i = cv at *
      go_wp2_with fail
      go_round
      case rel => exact ⟨i + 1, by omega, by go_num, by rw [HNN.out, HN.out]⟩
      case measure => simp [intOf]; omega
    · have e : i = xn := by omega
      subst e
      generalize hsu : sumI (fun i => sz.getD (wf xz i) 0) i = su at *
      have HSU := Lib.hid hsu
      clear hsu
      go_wp2_with fail
      go_ret
      exact ⟨congrArg (fun z : Int => Ending.returned (.int .i64 z)) HSU.out.symm, rfl⟩
theorem wfault_nil {K B S st ra : Int} {tz : List Int} {tu : ByteArray} : wfault K B S st ra tz tu [] = lfault K B S st ra tz tu := by
  classical
  by_cases h : Ok K B S st ra tz tu
  · rw [wfault_yes h, lfault_ok h]; rfl
  · rw [wfault_no h, lfault_no h]
theorem lfault_01 {K B S st ra : Int} {tz : List Int} {tu : ByteArray} (h : lfault K B S st ra tz tu = 0) : Ok K B S st ra tz tu := by
  classical
  by_cases ho : Ok K B S st ra tz tu
  · exact ho
  · rw [lfault_no ho] at h; cases h
set_option maxHeartbeats 8000000 in
set_option maxRecDepth 1000000 in
theorem keeps_bad1 (K B S st ra : Int) (ta : Option Addr) (tn tc : Nat) (tz : List Int) (tu : ByteArray) (sa : Option Addr) (sn sc : Nat) (sz : List Int) (w : World) (hT : Ints.Is w ta tn tz) (hu : tu.size ≤ 9223372036854775807) (hS : Ints.Is w sa sn sz) (ha : lfault K B S st ra tz tu = 1) :
    Calls Tryd.prog 6 #[.agg #[.int .i64 K, .int .i64 B, .int .i64 S, .int .i64 st, .int .i64 ra, .slice ta tn tc, .string tu], .slice sa sn sc] w fun e w' => e = .returned (.tuple #[.bool false, .iface 45 (.int .i64 1)]) ∧ Below w.heap.size w w' := by
  have HT := Lib.hid hT
  have HS := Lib.hid hS
  have HCK := Lib.hid (fun w2 (h2 : Below w.heap.size w w2) => wcheck_any K B S st ra ta tn tc tz tu none 0 0 [] w2 (hT.keep h2) hu (Ints.Is.nil w2))
  rw [wfault_nil, ha] at HCK
  unfold rulL at HCK
  clear hT hS
  go_enter Tryd.func6, Tryd.ntmps6
  go_upto_region 1 with fail
  obtain ⟨hR2, hR3, hB⟩ := two_new w 24 22 (rulL K B S st ra ta tn tc tu) [.slice sa sn sc]
  have HR2 : Hid (Row ((w.alloc (.cells #[.int .i64 K, .int .i64 B, .int .i64 S, .int .i64 st, .int .i64 ra, .slice ta tn tc, .string tu] 24)).alloc (.cells #[.slice sa sn sc] 22)) w.heap.size 24 (rulL K B S st ra ta tn tc tu)) := hR2
  have HR3 : Hid (Row ((w.alloc (.cells #[.int .i64 K, .int .i64 B, .int .i64 S, .int .i64 st, .int .i64 ra, .slice ta tn tc, .string tu] 24)).alloc (.cells #[.slice sa sn sc] 22)) (w.heap.size + 1) 22 [.slice sa sn sc]) := hR3
  have HB : Hid (Below w.heap.size w ((w.alloc (.cells #[.int .i64 K, .int .i64 B, .int .i64 S, .int .i64 st, .int .i64 ra, .slice ta tn tc, .string tu] 24)).alloc (.cells #[.slice sa sn sc] 22))) := hB
  clear hR2 hR3 hB
  generalize (w.alloc (.cells #[.int .i64 K, .int .i64 B, .int .i64 S, .int .i64 st, .int .i64 ra, .slice ta tn tc, .string tu] 24)).alloc (.cells #[.slice sa sn sc] 22) = w1 at *
  obtain ⟨b2, hb2⟩ : ∃ b2, b2 = w.heap.size := ⟨_, rfl⟩
  obtain ⟨b3, hb3⟩ : ∃ b3, b3 = w.heap.size + 1 := ⟨_, rfl⟩
  rw [← hb3] at HR3 ⊢
  rw [← hb2] at HR2 ⊢
  have hle2 : w.heap.size ≤ b2 := by omega
  have h23 : b2 < b3 := by omega
  clear hb2 hb3
  have l2 := row_range HR2.out
  go_wp2_with (refine wpList_load_mid rfl 24 _ rfl b2 0 rfl _ _ l2 Tryd.underlying24 rfl infoRule ?_)
  clear l2
  refine (HCK.out _ HB.out).mono ?_
  rintro e0 w2 ⟨rfl, hb9⟩
  have HR2 := Lib.hid (HR2.out.keep hb9 HR2.out.lt)
  have HR3 := Lib.hid (HR3.out.keep hb9 HR3.out.lt)
  have HB := Lib.hid (HB.out.trans (hb9.mono HB.out.size))
  clear hb9 HCK
  rw [errV_some (by decide)]
  go_wp2_with fail
  go_ret2
  exact ⟨rfl, HB.out⟩
set_option maxHeartbeats 8000000 in
set_option maxRecDepth 1000000 in
theorem keeps_bad2 (K B S : Int) (st : Nat) (ra : Int) (ta : Option Addr) (tn tc : Nat) (tz : List Int) (tu : ByteArray) (sa : Option Addr) (sn sc : Nat) (sz : List Int) (w : World) (hT : Ints.Is w ta tn tz) (hu : tu.size ≤ 9223372036854775807) (hS : Ints.Is w sa sn sz) (ha : lfault K B S st ra tz tu = 0) (hs : sn ≠ st) :
    Calls Tryd.prog 6 #[.agg #[.int .i64 K, .int .i64 B, .int .i64 S, .int .i64 (st : Nat), .int .i64 ra, .slice ta tn tc, .string tu], .slice sa sn sc] w fun e w' => e = .returned (.tuple #[.bool false, .iface 45 (.int .i64 3)]) ∧ Below w.heap.size w w' := by
  have HT := Lib.hid hT
  have HS := Lib.hid hS
  have HCK := Lib.hid (fun w2 (h2 : Below w.heap.size w w2) => wcheck_any K B S (st : Nat) ra ta tn tc tz tu none 0 0 [] w2 (hT.keep h2) hu (Ints.Is.nil w2))
  rw [wfault_nil, ha] at HCK
  unfold rulL at HCK
  clear hT hS
  go_enter Tryd.func6, Tryd.ntmps6
  go_upto_region 1 with fail
  obtain ⟨hR2, hR3, hB⟩ := two_new w 24 22 (rulL K B S (st : Nat) ra ta tn tc tu) [.slice sa sn sc]
  have HR2 : Hid (Row ((w.alloc (.cells #[.int .i64 K, .int .i64 B, .int .i64 S, .int .i64 (st : Nat), .int .i64 ra, .slice ta tn tc, .string tu] 24)).alloc (.cells #[.slice sa sn sc] 22)) w.heap.size 24 (rulL K B S (st : Nat) ra ta tn tc tu)) := hR2
  have HR3 : Hid (Row ((w.alloc (.cells #[.int .i64 K, .int .i64 B, .int .i64 S, .int .i64 (st : Nat), .int .i64 ra, .slice ta tn tc, .string tu] 24)).alloc (.cells #[.slice sa sn sc] 22)) (w.heap.size + 1) 22 [.slice sa sn sc]) := hR3
  have HB : Hid (Below w.heap.size w ((w.alloc (.cells #[.int .i64 K, .int .i64 B, .int .i64 S, .int .i64 (st : Nat), .int .i64 ra, .slice ta tn tc, .string tu] 24)).alloc (.cells #[.slice sa sn sc] 22))) := hB
  clear hR2 hR3 hB
  generalize (w.alloc (.cells #[.int .i64 K, .int .i64 B, .int .i64 S, .int .i64 (st : Nat), .int .i64 ra, .slice ta tn tc, .string tu] 24)).alloc (.cells #[.slice sa sn sc] 22) = w1 at *
  obtain ⟨b2, hb2⟩ : ∃ b2, b2 = w.heap.size := ⟨_, rfl⟩
  obtain ⟨b3, hb3⟩ : ∃ b3, b3 = w.heap.size + 1 := ⟨_, rfl⟩
  rw [← hb3] at HR3 ⊢
  rw [← hb2] at HR2 ⊢
  have hle2 : w.heap.size ≤ b2 := by omega
  have h23 : b2 < b3 := by omega
  clear hb2 hb3
  have l2 := row_range HR2.out
  go_wp2_with (refine wpList_load_mid rfl 24 _ rfl b2 0 rfl _ _ l2 Tryd.underlying24 rfl infoRule ?_)
  clear l2
  refine (HCK.out _ HB.out).mono ?_
  rintro e0 w2 ⟨rfl, hb9⟩
  have HR2 := Lib.hid (HR2.out.keep hb9 HR2.out.lt)
  have HR3 := Lib.hid (HR3.out.keep hb9 HR3.out.lt)
  have HB := Lib.hid (HB.out.trans (hb9.mono HB.out.size))
  clear hb9 HCK
  rw [errV_zero rfl]
  have f3 := HR2.out.cell 3
  have g0 := HR3.out.cell 0
  unfold rulL at f3
  dsimp only [List.getElem?_cons_succ, List.getElem?_cons_zero] at f3 g0
  have bne : ((sn : Int) != (st : Int)) = true := by rw [bne_iff_ne]; omega
  go_wp2_with fail
  go_ret2
  exact ⟨rfl, HB.out⟩
set_option maxHeartbeats 8000000 in
set_option maxRecDepth 1000000 in
theorem keeps_bad3 (K B S : Int) (st : Nat) (ra : Int) (ta : Option Addr) (tn tc : Nat) (tz : List Int) (tu : ByteArray) (sa : Option Addr) (sn sc : Nat) (sz : List Int) (w : World) (hT : Ints.Is w ta tn tz) (hu : tu.size ≤ 9223372036854775807) (hS : Ints.Is w sa sn sz) (ha : lfault K B S st ra tz tu = 0) (hs : sn = st) (ho : sz.any offW = true) :
    Calls Tryd.prog 6 #[.agg #[.int .i64 K, .int .i64 B, .int .i64 S, .int .i64 (st : Nat), .int .i64 ra, .slice ta tn tc, .string tu], .slice sa sn sc] w fun e w' => e = .returned (.tuple #[.bool false, .iface 45 (.int .i64 1)]) ∧ Below w.heap.size w w' := by
  have HSE := Lib.hid hs
  have HOO := Lib.hid ho
  clear hs ho
  have HT := Lib.hid hT
  have HS := Lib.hid hS
  have HCK := Lib.hid (fun w2 (h2 : Below w.heap.size w w2) => wcheck_any K B S (st : Nat) ra ta tn tc tz tu none 0 0 [] w2 (hT.keep h2) hu (Ints.Is.nil w2))
  rw [wfault_nil, ha] at HCK
  unfold rulL at HCK
  clear hT hS
  go_enter Tryd.func6, Tryd.ntmps6
  go_upto_region 1 with fail
  obtain ⟨hR2, hR3, hB⟩ := two_new w 24 22 (rulL K B S (st : Nat) ra ta tn tc tu) [.slice sa sn sc]
  have HR2 : Hid (Row ((w.alloc (.cells #[.int .i64 K, .int .i64 B, .int .i64 S, .int .i64 (st : Nat), .int .i64 ra, .slice ta tn tc, .string tu] 24)).alloc (.cells #[.slice sa sn sc] 22)) w.heap.size 24 (rulL K B S (st : Nat) ra ta tn tc tu)) := hR2
  have HR3 : Hid (Row ((w.alloc (.cells #[.int .i64 K, .int .i64 B, .int .i64 S, .int .i64 (st : Nat), .int .i64 ra, .slice ta tn tc, .string tu] 24)).alloc (.cells #[.slice sa sn sc] 22)) (w.heap.size + 1) 22 [.slice sa sn sc]) := hR3
  have HB : Hid (Below w.heap.size w ((w.alloc (.cells #[.int .i64 K, .int .i64 B, .int .i64 S, .int .i64 (st : Nat), .int .i64 ra, .slice ta tn tc, .string tu] 24)).alloc (.cells #[.slice sa sn sc] 22))) := hB
  clear hR2 hR3 hB
  generalize (w.alloc (.cells #[.int .i64 K, .int .i64 B, .int .i64 S, .int .i64 (st : Nat), .int .i64 ra, .slice ta tn tc, .string tu] 24)).alloc (.cells #[.slice sa sn sc] 22) = w1 at *
  obtain ⟨b2, hb2⟩ : ∃ b2, b2 = w.heap.size := ⟨_, rfl⟩
  obtain ⟨b3, hb3⟩ : ∃ b3, b3 = w.heap.size + 1 := ⟨_, rfl⟩
  rw [← hb3] at HR3 ⊢
  rw [← hb2] at HR2 ⊢
  have hle2 : w.heap.size ≤ b2 := by omega
  have h23 : b2 < b3 := by omega
  clear hb2 hb3
  have l2 := row_range HR2.out
  go_wp2_with (refine wpList_load_mid rfl 24 _ rfl b2 0 rfl _ _ l2 Tryd.underlying24 rfl infoRule ?_)
  clear l2
  refine (HCK.out _ HB.out).mono ?_
  rintro e0 w2 ⟨rfl, hb9⟩
  have HR2 := Lib.hid (HR2.out.keep hb9 HR2.out.lt)
  have HR3 := Lib.hid (HR3.out.keep hb9 HR3.out.lt)
  have HB := Lib.hid (HB.out.trans (hb9.mono HB.out.size))
  clear hb9 HCK
  rw [errV_zero rfl]
  have f3 := HR2.out.cell 3
  have g0 := HR3.out.cell 0
  unfold rulL at f3
  dsimp only [List.getElem?_cons_succ, List.getElem?_cons_zero] at f3 g0
  have bne : ((sn : Int) != (st : Int)) = false := by rw [HSE.out, bne_self_eq_false]
  have hle := HS.out.le
  unfold maxLen at hle
  go_wp2_with fail
  refine (wcontains_any sa sn sc sz _ HS.out.len (by omega) (HS.out.keep HB.out).cells).mono ?_
  rintro e0 w3 ⟨rfl, rfl⟩
  rw [HOO.out]
  go_wp2_with fail
  go_ret2
  exact ⟨rfl, HB.out⟩
set_option maxHeartbeats 8000000 in
set_option maxRecDepth 1000000 in
theorem keeps_ok (K B S : Int) (st ra : Nat) (ta : Option Addr) (tn tc : Nat) (tz : List Int) (tu : ByteArray) (sa : Option Addr) (sn sc : Nat) (sz : List Int) (w : World) (hT : Ints.Is w ta tn tz) (hu : tu.size ≤ 9223372036854775807) (hS : Ints.Is w sa sn sz) (ha : lfault K B S st ra tz tu = 0) (hs : sn = st) (ho : sz.any offW = false) (kk : Bool) (hk : kk = true ↔ KeptW (fun s => sz.getD s 0) (wf tz) st (2 * ra + 1)) :
    Calls Tryd.prog 6 #[.agg #[.int .i64 K, .int .i64 B, .int .i64 S, .int .i64 st, .int .i64 ra, .slice ta tn tc, .string tu], .slice sa sn sc] w fun e w' => e = .returned (.tuple #[.bool kk, .nilIface]) ∧ Below w.heap.size w w' := by
  obtain ⟨s', r', es, er, h2, h4, hr5, htn, htl, htz⟩ := (lfault_01 ha).nat hT.len
  obtain rfl : st = s' := by omega
  obtain rfl : ra = r' := by omega
  clear es er
  obtain ⟨i0, hI0, hz0, hz1, hz2⟩ := info_parts infoIntN
  have HI0 := Lib.hid hI0
  have HZ0 := Lib.hid hz0
  have HZ1 := Lib.hid hz1
  have HZ2 := Lib.hid hz2
  obtain ⟨ww, hww⟩ : ∃ ww, ww = 2 * ra + 1 := ⟨_, rfl⟩
  rw [← hww] at htn hk
  have hwi : 2 * (ra : Int) + 1 = (ww : Int) := by omega
  have hw11 : ww ≤ 11 := by omega
  have hw1 : 1 ≤ ww := by omega
  have HTN := Lib.hid htn
  have HTZ := Lib.hid htz
  have HKK := Lib.hid hk
  have HWB : Hid (∀ s, -1000 ≤ sz.getD s 0 ∧ sz.getD s 0 ≤ 1000) := fun s => by
    rcases Nat.lt_or_ge s sz.length with h | h
    · have h1 := (List.any_eq_false.1 ho) _ (int_mem h)
      unfold offW at h1
      simp only [decide_eq_true_eq] at h1
      omega
    · rw [List.getD_eq_getElem?_getD, List.getElem?_eq_none h]
      simp
  have HSE := Lib.hid hs
  have HOO := Lib.hid ho
  clear hs ho hI0 hz0 hz1 hz2 htn htz hk hww
  have HT := Lib.hid hT
  have HS := Lib.hid hS
  have HCK := Lib.hid (fun w2 (h2 : Below w.heap.size w w2) => wcheck_any K B S (st : Nat) (ra : Nat) ta tn tc tz tu none 0 0 [] w2 (hT.keep h2) hu (Ints.Is.nil w2))
  rw [wfault_nil, ha] at HCK
  unfold rulL at HCK
  clear hT hS
  go_enter Tryd.func6, Tryd.ntmps6
  go_upto_region 1 with fail
  obtain ⟨hR2, hR3, hB⟩ := two_new w 24 22 (rulL K B S (st : Nat) (ra : Nat) ta tn tc tu) [.slice sa sn sc]
  have HR2 : Hid (Row ((w.alloc (.cells #[.int .i64 K, .int .i64 B, .int .i64 S, .int .i64 (st : Nat), .int .i64 (ra : Nat), .slice ta tn tc, .string tu] 24)).alloc (.cells #[.slice sa sn sc] 22)) w.heap.size 24 (rulL K B S (st : Nat) (ra : Nat) ta tn tc tu)) := hR2
  have HR3 : Hid (Row ((w.alloc (.cells #[.int .i64 K, .int .i64 B, .int .i64 S, .int .i64 (st : Nat), .int .i64 (ra : Nat), .slice ta tn tc, .string tu] 24)).alloc (.cells #[.slice sa sn sc] 22)) (w.heap.size + 1) 22 [.slice sa sn sc]) := hR3
  have HB : Hid (Below w.heap.size w ((w.alloc (.cells #[.int .i64 K, .int .i64 B, .int .i64 S, .int .i64 (st : Nat), .int .i64 (ra : Nat), .slice ta tn tc, .string tu] 24)).alloc (.cells #[.slice sa sn sc] 22))) := hB
  clear hR2 hR3 hB
  generalize (w.alloc (.cells #[.int .i64 K, .int .i64 B, .int .i64 S, .int .i64 (st : Nat), .int .i64 (ra : Nat), .slice ta tn tc, .string tu] 24)).alloc (.cells #[.slice sa sn sc] 22) = w1 at *
  obtain ⟨b2, hb2⟩ : ∃ b2, b2 = w.heap.size := ⟨_, rfl⟩
  obtain ⟨b3, hb3⟩ : ∃ b3, b3 = w.heap.size + 1 := ⟨_, rfl⟩
  rw [← hb3] at HR3 ⊢
  rw [← hb2] at HR2 ⊢
  have hle2 : w.heap.size ≤ b2 := by omega
  have h23 : b2 < b3 := by omega
  clear hb2 hb3
  have l2 := row_range HR2.out
  go_wp2_with (refine wpList_load_mid rfl 24 _ rfl b2 0 rfl _ _ l2 Tryd.underlying24 rfl infoRule ?_)
  clear l2
  refine (HCK.out _ HB.out).mono ?_
  rintro e0 w2 ⟨rfl, hb9⟩
  have HR2 := Lib.hid (HR2.out.keep hb9 HR2.out.lt)
  have HR3 := Lib.hid (HR3.out.keep hb9 HR3.out.lt)
  have HB := Lib.hid (HB.out.trans (hb9.mono HB.out.size))
  clear hb9 HCK
  clear ha
  rw [errV_zero rfl]
  have f3 := HR2.out.cell 3
  have g0 := HR3.out.cell 0
  unfold rulL at f3
  dsimp only [List.getElem?_cons_succ, List.getElem?_cons_zero] at f3 g0
  have f4 := HR2.out.cell 4
  unfold rulL at f4
  dsimp only [List.getElem?_cons_succ, List.getElem?_cons_zero] at f4
  have bne : ((sn : Int) != (st : Int)) = false := by rw [HSE.out, bne_self_eq_false]
  have hle := HS.out.le
  unfold maxLen at hle
  go_wp2_with fail
  refine (wcontains_any sa sn sc sz _ HS.out.len (by omega) (HS.out.keep HB.out).cells).mono ?_
  rintro e0 w3 ⟨rfl, rfl⟩
  rw [HOO.out]
  go_upto_region 9 with fail
  have h7 := row_alloc w2 3 [.int .i64 (ww : Int)]
  have H7 : Hid (Row (w2.alloc (.cells #[.int .i64 (ww : Int)] 3)) w2.heap.size 3 [.int .i64 (ww : Int)]) := h7
  have hb9 : Below w2.heap.size w2 (w2.alloc (.cells #[.int .i64 (ww : Int)] 3)) := (Below.refl _ _).alloc (Nat.le_refl _) _
  have h37 : b3 < w2.heap.size := HR3.out.lt
  have HR2 := Lib.hid (HR2.out.keep hb9 HR2.out.lt)
  have HR3 := Lib.hid (HR3.out.keep hb9 HR3.out.lt)
  have HB := Lib.hid (HB.out.trans (hb9.mono HB.out.size))
  clear h7 hb9 f3 f4 g0 bne
  obtain ⟨b7, hb7⟩ : ∃ b7, b7 = w2.heap.size := ⟨_, rfl⟩
  rw [← hb7] at H7 h37 ⊢
  clear hb7
  generalize w2.alloc (.cells #[.int .i64 (ww : Int)] 3) = w3 at *
  have f7 := H7.out.cell 0
  dsimp only [List.getElem?_cons_zero] at f7
  go_upto_region 10 with (refine Ops.wpList_make rfl 22 _ _ rfl 3 i0 (.int .i64 0) Tryd.underlying22 HI0.out HZ0.out rfl HZ1.out (by rw [HZ2.out]; decide) ww rfl rfl (by omega) ?_; intro gx w4 hgx hb4 hRx)
  have h7x : b7 < gx := by have := H7.out.lt; omega
  have HR2 := Lib.hid (HR2.out.keep hb4 HR2.out.lt)
  have HR3 := Lib.hid (HR3.out.keep hb4 HR3.out.lt)
  have H7 := Lib.hid (H7.out.keep hb4 H7.out.lt)
  have HB := Lib.hid (HB.out.trans (hb4.mono HB.out.size))
  clear f7 hb4 hgx
  have h8 := row_alloc w4 22 [.slice (some ⟨gx, 0, none⟩) ww ww]
  have H8 : Hid (Row (w4.alloc (.cells #[.slice (some ⟨gx, 0, none⟩) ww ww] 22)) w4.heap.size 22 [.slice (some ⟨gx, 0, none⟩) ww ww]) := h8
  have hb9 : Below w4.heap.size w4 (w4.alloc (.cells #[.slice (some ⟨gx, 0, none⟩) ww ww] 22)) := (Below.refl _ _).alloc (Nat.le_refl _) _
  have hx8 : gx < w4.heap.size := hRx.lt
  have HR2 := Lib.hid (HR2.out.keep hb9 HR2.out.lt)
  have HR3 := Lib.hid (HR3.out.keep hb9 HR3.out.lt)
  have H7 := Lib.hid (H7.out.keep hb9 H7.out.lt)
  have HX : Hid (∃ xs : List Int, xs.length = ww ∧ Row (w4.alloc (.cells #[.slice (some ⟨gx, 0, none⟩) ww ww] 22)) gx 3 (xs.map (Value.int .i64))) := ⟨List.replicate ww 0, by simp, by rw [List.map_replicate]; exact hRx.keep hb9 hRx.lt⟩
  have HB := Lib.hid (HB.out.trans (hb9.mono HB.out.size))
  clear h8 hb9 hRx
  obtain ⟨b8, hb8⟩ : ∃ b8, b8 = w4.heap.size := ⟨_, rfl⟩
  rw [← hb8] at H8 hx8 ⊢
  clear hb8
  generalize w4.alloc (.cells #[.slice (some ⟨gx, 0, none⟩) ww ww] 22) = w5 at *
  have f5 := HR2.out.cell 5
  unfold rulL at f5
  dsimp only [List.getElem?_cons_succ, List.getElem?_cons_zero] at f5
  go_wp2_with fail
  clear f5
  go_loopw [40] (fun v wr => ∃ n : Nat, n ≤ tn ∧ v = .int .i64 n ∧ (∀ m, m < n → CondW (fun s => sz.getD s 0) (wf tz) st ww (dig st ww m)) ∧ Row wr b2 24 (rulL K B S st ra ta tn tc tu) ∧ Row wr b3 22 [.slice sa sn sc] ∧ Row wr b7 3 [.int .i64 (ww : Int)] ∧ Row wr b8 22 [.slice (some ⟨gx, 0, none⟩) ww ww] ∧ (∃ xs : List Int, xs.length = ww ∧ Row wr gx 3 (xs.map (Value.int .i64))) ∧ Below w.heap.size w wr) (fun v _ => tn - (intOf v).toNat)
  case atStart => exact ⟨0, Nat.zero_le _, rfl, fun m hm => absurd hm (Nat.not_lt_zero _), HR2.out, HR3.out, H7.out, H8.out, HX.out, HB.out⟩
  case round =>
    clear HR2 HR3 H7 H8 HX HB
    obtain ⟨n, hn, rfl, hall, hR2, hR3, h7, h8, ⟨xs, hxs, hX⟩, hbel⟩ := hrel
    have HALL := Lib.hid hall
    have HR2 := Lib.hid hR2
    have HR3 := Lib.hid hR3
    have H7 := Lib.hid h7
    have H8 := Lib.hid h8
    have HB := Lib.hid hbel
    have HW : Hid (Row wr gx 3 ((endI (dig st ww n) xs ww ww).map (Value.int .i64))) := by
      show Row wr gx 3 _
      rw [← hxs, endI_all]; exact hX
    clear hall hR2 hR3 h7 h8 hX hbel hxs
    by_cases hlt : n < tn
    · have f7 := H7.out.cell 0
      dsimp only [List.getElem?_cons_zero] at f7
      go_wp2_with fail
      clear f7
      obtain ⟨wo, rfl⟩ : ∃ wo : World, wo = wr := ⟨_, rfl⟩
      go_loopw [10, 11] (fun u v wr => ∃ k : Nat, k ≤ ww ∧ v = .int .i64 ((k : Int) - 1) ∧ u = .int .i64 ((n / st ^ (ww - k) : Nat) : Int) ∧ Row wr gx 3 ((endI (dig st ww n) xs ww k).map (Value.int .i64)) ∧ Only gx wo wr) (fun _ v _ => (intOf v + 1).toNat)
      case atStart => exact ⟨ww, Nat.le_refl _, rfl, by rw [Nat.sub_self, Nat.pow_zero, Nat.div_one], HW.out, Only.refl _ _⟩
      case round =>
        clear HW
        obtain ⟨k, hk, rfl, rfl, hW, hon⟩ := hrel
        have HW := Lib.hid hW
        have HO := Lib.hid hon
        clear hW hon
        by_cases hk0 : 0 < k
        · obtain ⟨j, rfl⟩ : ∃ j, k = j + 1 := ⟨k - 1, by omega⟩
          have hji : ((j + 1 : Nat) : Int) - 1 = (j : Int) := by omega
          rw [hji]
          have hjw : j < ww := by omega
          have hqm : ((n / st ^ (ww - (j + 1)) : Nat) : Int).tmod (st : Int) = ((dig st ww n j : Nat) : Int) := by
            rw [show dig st ww n j = n / st ^ (ww - (j + 1)) % st from by unfold dig; rw [show ww - 1 - j = ww - (j + 1) from by omega]]
            exact Int.ofNat_tmod _ _
          have hqd : ((n / st ^ (ww - (j + 1)) : Nat) : Int).tdiv (st : Int) = ((n / st ^ (ww - j) : Nat) : Int) := by
            rw [show n / st ^ (ww - j) = n / st ^ (ww - (j + 1)) / st from by rw [Nat.div_div_eq_div_mul, ← Nat.pow_succ]; congr 2; omega]
            exact Int.ofNat_tdiv _ _
          have hq4 : n / st ^ (ww - (j + 1)) ≤ n := Nat.div_le_self _ _
          have hq5 : n / st ^ (ww - j) ≤ n := Nat.div_le_self _ _
          have hst0 : ((st : Int) == 0) = false := by rw [beq_eq_false_iff_ne]; omega
          have hst1 : ¬ st = 0 := by omega
          have hcell := (HW.out.cell j).trans (show ((endI (dig st ww n) xs ww (j + 1)).map (Value.int .i64))[j]? = some (.int .i64 (xs.getD j 0)) by rw [List.getElem?_map, endI_get _ _ hjw, if_pos (by omega)]; rfl)
          have hfrz := HW.out.frozen j
          have hset := (HW.out.set j (.int .i64 ((dig st ww n j : Nat) : Int))).drew
          rw [set_mapI, endI_next _ _ hjw] at hset
          have HSET := Lib.hid hset
          have hdr : Only gx (wr.setCell ⟨gx, j, none⟩ (.int .i64 ((dig st ww n j : Nat) : Int))) (wr.setCell ⟨gx, j, none⟩ (.int .i64 ((dig st ww n j : Nat) : Int))).drew := ⟨rfl, rfl, rfl, rfl, fun _ _ => rfl⟩
          have HO2 := Lib.hid ((HO.out.trans (only_setCell wr gx j (.int .i64 ((dig st ww n j : Nat) : Int)))).trans hdr)
          have HR2w := Lib.hid (HR2.out.other HO.out (by omega))
          have H8w := Lib.hid (H8.out.other HO.out (by omega))
          have f3 := HR2w.out.cell 3
          have g8 := H8w.out.cell 0
          unfold rulL at f3
          dsimp only [List.getElem?_cons_succ, List.getElem?_cons_zero] at f3 g8
          clear hset hdr HW HO
          generalize xs.getD j 0 = old at *
          generalize hdg : dig st ww n j = dg at *
          clear hdg
          generalize n / st ^ (ww - (j + 1)) = qn at *
          generalize hq2 : n / st ^ (ww - j) = qn2 at *
          have HQ2 := Lib.hid hq2
          clear hq2
          go_wp2_with fail
          go_region_with (fail)
          all_goals
            have HR2x := Lib.hid (HR2.out.other HO2.out (by omega))
            clear f3 g8 hcell hfrz HR2w H8w
            generalize (wr.setCell ⟨gx, j, none⟩ (.int .i64 ((dg : Nat) : Int))).drew = w9 at *
            have f3 := HR2x.out.cell 3
            unfold rulL at f3
            dsimp only [List.getElem?_cons_succ, List.getElem?_cons_zero] at f3
            go_wp2_with fail
            exact ⟨⟨j, by omega, by first | rfl | simp, by rw [HQ2.out], HSET.out, HO2.out⟩, by simp [intOf]⟩
        · obtain rfl : k = 0 := by omega
          rw [endI_zero] at HW
          have HR2 := Lib.hid (HR2.out.other HO.out (by omega))
          have HR3 := Lib.hid (HR3.out.other HO.out (by omega))
          have H7 := Lib.hid (H7.out.other HO.out (by omega))
          have H8 := Lib.hid (H8.out.other HO.out (by omega))
          have HB := Lib.hid (HB.out.trans (HO.out.below (by have := HB.out.size; omega)))
          clear HO
          have HDL : Hid (∀ k, dig st ww n k < st) := fun k => dig_lt (by omega)
          have HMADE : Hid (∀ (w2 : World) (z fr : Nat), Below w.heap.size w w2 → Row w2 b2 24 (rulL K B S st ra ta tn tc tu) → Row w2 b3 22 [.slice sa sn sc] → Row w2 b7 3 [.int .i64 (ww : Int)] → Row w2 b8 22 [.slice (some ⟨gx, 0, none⟩) ww ww] → Row w2 gx 3 ((lst ww (dig st ww n)).map (Value.int .i64)) → fr ≤ z → z ≤ ww →
              Calls Tryd.prog 21 #[.int .i64 z, .int .i64 fr, .pointer (some ⟨b7, 0, none⟩), .pointer (some ⟨b8, 0, none⟩), .pointer (some ⟨b2, 0, none⟩), .pointer (some ⟨b3, 0, none⟩)] w2 fun e w' => e = .returned (.int .i64 (made (fun s => sz.getD s 0) (wf tz) st ww (dig st ww n) z fr)) ∧ Below w2.heap.size w2 w') := fun w2 z fr hb r2 r3 r7 r8 rx hf hz =>
            made_any K B S st ra ta tn tc tz tu sa sn sc sz b7 b8 b2 b3 gx ww z fr (dig st ww n) w2 (HT.out.keep hb) h2 h4 hw11 HTN.out htl HTZ.out (HS.out.keep hb) HSE.out (row_isN rx lst_len (by unfold maxLen; omega)) HDL.out r7 r8 r2 r3 hf hz
          obtain ⟨x, hx⟩ : ∃ x, x = dig st ww n := ⟨_, rfl⟩
          rw [← hx] at HMADE HW HDL
          have HXE := Lib.hid hx
          clear hx
          have hx0 := HDL.out 0
          obtain ⟨bs, os, rfl, _, hcs⟩ := (HS.out.keep HB.out).cells (x 0) (by rw [HSE.out]; exact hx0)
          dsimp only at hcs
          have hx0s : (x 0 : Int) < (sn : Int) := by have := HSE.out; omega
          have g0 := HR3.out.cell 0
          have g8 := H8.out.cell 0
          have cx := (HW.out.cell 0).trans (show ((lst ww x).map (Value.int .i64))[0]? = some (.int .i64 ((x 0 : Nat) : Int)) by rw [List.getElem?_map, show (lst ww x)[0]? = some ((x 0 : Nat) : Int) from by simp [lst, List.getElem?_range (show 0 < ww by omega)]]; rfl)
          dsimp only [List.getElem?_cons_zero] at g0 g8
          obtain ⟨x0, hx0e⟩ : ∃ x0, x0 = x 0 := ⟨_, rfl⟩
          have HX0 := Lib.hid hx0e
          rw [← hx0e] at hx0 hcs hx0s cx
          clear hx0e
          obtain ⟨w0, hw0⟩ : ∃ w0, w0 = sz.getD x0 0 := ⟨_, rfl⟩
          have HW0 := Lib.hid hw0
          have hwb0 := HWB.out x0
          rw [← hw0] at hcs hwb0
          clear hw0
          go_wp2_with fail
          go_big_quiet (fail)
          have HR2 := Lib.hid (HR2.out.drewN nq)
          have HR3 := Lib.hid (HR3.out.drewN nq)
          have H7 := Lib.hid (H7.out.drewN nq)
          have H8 := Lib.hid (H8.out.drewN nq)
          have HX := Lib.hid (HW.out.drewN nq)
          have HB := Lib.hid (below_drewN HB.out nq)
          clear g0 g8 cx hcs HW
          generalize wr.drewN nq = w9 at *
          have HDB : Hid (∀ k, -2000 ≤ diff (fun s => sz.getD s 0) (wf tz) st ww x k ∧ diff (fun s => sz.getD s 0) (wf tz) st ww x k ≤ 2000) := fun k => by
            have h1 := HWB.out (wf tz (win st ww (zw x (k + 1) 1)))
            have h2 := HWB.out (wf tz (win st ww (zw x (k + 1) 0)))
            unfold diff made
            dsimp only
            omega
          go_wp2_with fail
          go_loopw [12, 13] (fun u v wr => ∃ k : Nat, k ≤ 2 * ra ∧ v = .int .i64 ((k + 1 : Nat) : Int) ∧ u = .int .i64 (w0 + sumI (diff (fun s => sz.getD s 0) (wf tz) st ww x) k) ∧ Row wr b2 24 (rulL K B S st ra ta tn tc tu) ∧ Row wr b3 22 [.slice (some ⟨bs, os, none⟩) sn sc] ∧ Row wr b7 3 [.int .i64 (ww : Int)] ∧ Row wr b8 22 [.slice (some ⟨gx, 0, none⟩) ww ww] ∧ Row wr gx 3 ((lst ww x).map (Value.int .i64)) ∧ Below w.heap.size w wr) (fun _ v _ => ww - (intOf v).toNat)
          case atStart => exact ⟨0, Nat.zero_le _, rfl, by simp [sumI], HR2.out, HR3.out, H7.out, H8.out, HX.out, HB.out⟩
          case round =>
            clear HR2 HR3 H7 H8 HX HB
            obtain ⟨k, hk, rfl, rfl, hR2, hR3, h7, h8, hX, hbel⟩ := hrel
            have HR2 := Lib.hid hR2
            have HR3 := Lib.hid hR3
            have H7 := Lib.hid h7
            have H8 := Lib.hid h8
            have HX := Lib.hid hX
            have HB := Lib.hid hbel
            clear hR2 hR3 h7 h8 hX hbel
            have hbd := sumI_bound (F := diff (fun s => sz.getD s 0) (wf tz) st ww x) (B := 2000) (n := k) fun j _ => HDB.out j
            by_cases hlk : k < 2 * ra
            · have f7 := H7.out.cell 0
              dsimp only [List.getElem?_cons_zero] at f7
              have hkc : ((k + 1 : Nat) : Int) < (ww : Int) := by omega
              have HN : Hid (sumI (diff (fun s => sz.getD s 0) (wf tz) st ww x) (k + 1) = sumI (diff (fun s => sz.getD s 0) (wf tz) st ww x) k + (made (fun s => sz.getD s 0) (wf tz) st ww x (k + 1) 1 - made (fun s => sz.getD s 0) (wf tz) st ww x (k + 1) 0)) := rfl
              have hm1 : -1000 ≤ made (fun s => sz.getD s 0) (wf tz) st ww x (k + 1) 1 ∧ made (fun s => sz.getD s 0) (wf tz) st ww x (k + 1) 1 ≤ 1000 := HWB.out _
              have hm0 : -1000 ≤ made (fun s => sz.getD s 0) (wf tz) st ww x (k + 1) 0 ∧ made (fun s => sz.getD s 0) (wf tz) st ww x (k + 1) 0 ≤ 1000 := HWB.out _
              have HM1 := Lib.hid (fun w2 hb r2 r3 r7 r8 rx => HMADE.out w2 (k + 1) 1 hb r2 r3 r7 r8 rx (by omega) (by omega))
              have HM0 := Lib.hid (fun w2 hb r2 r3 r7 r8 rx => HMADE.out w2 (k + 1) 0 hb r2 r3 r7 r8 rx (by omega) (by omega))
              generalize hnn : sumI (diff (fun s => sz.getD s 0) (wf tz) st ww x) (k + 1) = nn at *
              have HNN := Lib.hid hnn
              clear hnn
              generalize sumI (diff (fun s => sz.getD s 0) (wf tz) st ww x) k = su at *
              generalize made (fun s => sz.getD s 0) (wf tz) st ww x (k + 1) 1 = m1 at *
              generalize made (fun s => sz.getD s 0) (wf tz) st ww x (k + 1) 0 = m0 at *
              go_wp2_with fail
              refine (HM1.out _ HB.out HR2.out HR3.out H7.out H8.out HX.out).mono ?_
              rintro e1 w10 ⟨rfl, hb9⟩
              clear f7
              have HR2 := Lib.hid (HR2.out.keep hb9 HR2.out.lt)
              have HR3 := Lib.hid (HR3.out.keep hb9 HR3.out.lt)
              have H7 := Lib.hid (H7.out.keep hb9 H7.out.lt)
              have H8 := Lib.hid (H8.out.keep hb9 H8.out.lt)
              have HX := Lib.hid (HX.out.keep hb9 HX.out.lt)
              have HB := Lib.hid (HB.out.trans (hb9.mono HB.out.size))
              clear hb9
              go_wp2_with fail
              refine (HM0.out _ HB.out HR2.out HR3.out H7.out H8.out HX.out).mono ?_
              rintro e1 w11 ⟨rfl, hb9⟩
              have HR2 := Lib.hid (HR2.out.keep hb9 HR2.out.lt)
              have HR3 := Lib.hid (HR3.out.keep hb9 HR3.out.lt)
              have H7 := Lib.hid (H7.out.keep hb9 H7.out.lt)
              have H8 := Lib.hid (H8.out.keep hb9 H8.out.lt)
              have HX := Lib.hid (HX.out.keep hb9 HX.out.lt)
              have HB := Lib.hid (HB.out.trans (hb9.mono HB.out.size))
              clear hb9
              go_wp2_with fail
              have HSU : Hid (w0 + su + (m1 - m0) = w0 + nn) := by
                show _ = _
                rw [HN.out, Int.add_assoc]
              refine ⟨⟨_, _, _, _, _, _, _, _, _, _, _, _, _, _, _, _, ⟨k + 1, by omega, ?_, ?_, HR2.out, HR3.out, H7.out, H8.out, HX.out, HB.out⟩, rfl⟩, ?_⟩
              · exact congrArg (Value.int IntKind.i64) (by push_cast; rfl)
              · exact congrArg (Value.int IntKind.i64) (by rw [HNN.out]; exact HSU.out)
              · simp [intOf]; omega
            · obtain rfl : k = 2 * ra := by omega
              have f7 := H7.out.cell 0
              dsimp only [List.getElem?_cons_zero] at f7
              have hkc : ¬ ((2 * ra + 1 : Nat) : Int) < (ww : Int) := by omega
              have hm00 : -1000 ≤ made (fun s => sz.getD s 0) (wf tz) st ww x 0 0 ∧ made (fun s => sz.getD s 0) (wf tz) st ww x 0 0 ≤ 1000 := HWB.out _
              have HC : Hid (CondW (fun s => sz.getD s 0) (wf tz) st ww x ↔ made (fun s => sz.getD s 0) (wf tz) st ww x 0 0 = w0 + sumI (diff (fun s => sz.getD s 0) (wf tz) st ww x) (2 * ra)) := by
                show CondW _ _ _ _ _ ↔ _
                unfold CondW
                rw [show ww - 1 = 2 * ra from by omega, HW0.out, HX0.out]
              have HM0 := Lib.hid (fun w2 hb r2 r3 r7 r8 rx => HMADE.out w2 0 0 hb r2 r3 r7 r8 rx (by omega) (by omega))
              generalize sumI (diff (fun s => sz.getD s 0) (wf tz) st ww x) (2 * ra) = su at *
              generalize made (fun s => sz.getD s 0) (wf tz) st ww x 0 0 = m0 at *
              go_wp2_with fail
              refine (HM0.out _ HB.out HR2.out HR3.out H7.out H8.out HX.out).mono ?_
              rintro e1 w10 ⟨rfl, hb9⟩
              clear f7
              have HR2 := Lib.hid (HR2.out.keep hb9 HR2.out.lt)
              have HR3 := Lib.hid (HR3.out.keep hb9 HR3.out.lt)
              have H7 := Lib.hid (H7.out.keep hb9 H7.out.lt)
              have H8 := Lib.hid (H8.out.keep hb9 H8.out.lt)
              have HX := Lib.hid (HX.out.keep hb9 HX.out.lt)
              have HB := Lib.hid (HB.out.trans (hb9.mono HB.out.size))
              clear hb9
              by_cases hcd : m0 = w0 + su
              · have bne : (m0 != w0 + su) = false := by rw [hcd, bne_self_eq_false]
                have HCD := Lib.hid hcd
                have HA2 : Hid (∀ m, m < n + 1 → CondW (fun s => sz.getD s 0) (wf tz) st ww (dig st ww m)) := fun m hm => by
                  rcases Nat.lt_or_eq_of_le (Nat.le_of_lt_succ hm) with h | rfl
                  · exact HALL.out m h
                  · rw [← HXE.out]; exact HC.out.2 HCD.out
                clear hcd
                go_wp2_with fail
                go_roundw
                case rel => exact ⟨n + 1, by omega, by go_num, HA2.out, HR2.out, HR3.out, H7.out, H8.out, ⟨lst ww x, lst_len, HX.out⟩, HB.out⟩
                case measure => simp [intOf]; omega
              · have bne : (m0 != w0 + su) = true := by rw [bne_iff_ne]; exact hcd
                have hkf : kk = false := by
                  cases hkk : kk with
                  | false => rfl
                  | true =>
                    have h1 := HKK.out.1 hkk n (by have := HTN.out; omega)
                    rw [← HXE.out] at h1
                    exact absurd (HC.out.1 h1) hcd
                subst hkf
                clear hcd
                go_wp2_with fail
                go_ret2
                exact ⟨rfl, HB.out⟩
    · have e : n = tn := by omega
      subst e
      have hkt : kk = true := HKK.out.2 fun m hm => HALL.out m (by have := HTN.out; omega)
      subst hkt
      go_wp2_with fail
      go_ret2
      exact ⟨rfl, HB.out⟩
end Ln
end Go.Proofs.YtahhhbdnhimbfaaDoor
