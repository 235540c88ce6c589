/- WALK: the document's edenref1.sides. -/
import Derived.Test.YtgagophijmiceaaDoorPrH
namespace Go.Proofs.YtgagophijmiceaaDoor
set_option linter.unusedSimpArgs false
set_option linter.unusedVariables false
open Go.RowKit
namespace Pr
open Tld Mem Bl Pn Pw Rd

def wsT : Nat → List UInt8
  | 0 => w1
  | 1 => w2
  | _ => w3
/-- What is left of the head, from the t-th word on. -/
def hfr (l : List UInt8) : Nat → Nat → Nat → Nat → Hd
  | 0, i, _, _ => word l w1 i fun i => side l i (dgs l i) fun W i => word l w2 i fun i => side l i (dgs l i) fun H i => word l w3 i fun i => .ok W H i
  | 1, i, W, _ => word l w2 i fun i => side l i (dgs l i) fun H i => word l w3 i fun i => .ok W H i
  | _, i, W, H => word l w3 i fun i => .ok W H i
def hnx (l : List UInt8) (t n0 n1 i : Nat) : Hd := if t < 2 then side l i (dgs l i) fun m i => hfr l (t + 1) i (if t = 0 then m else n0) (if t = 1 then m else n1) else .ok n0 n1 i
theorem hfr_next {l : List UInt8} {t i n0 n1 : Nat} (ht : t ≤ 2) : hfr l t i n0 n1 = word l (wsT t) i fun i => hnx l t n0 n1 i := by
  rcases (by omega : t = 0 ∨ t = 1 ∨ t = 2) with rfl | rfl | rfl <;> rfl
theorem wsT_some {t : Nat} (ht : t ≤ 2) : ∃ wb : ByteArray, ([.string ⟨#[120, 32, 61, 32]⟩, .string ⟨#[44, 32, 121, 32, 61, 32]⟩, .string ⟨#[10]⟩] : List Value)[t]? = some (.string wb) ∧ wb.data.toList = wsT t ∧ wb.size ≤ 10 := by
  rcases (by omega : t = 0 ∨ t = 1 ∨ t = 2) with rfl | rfl | rfl
  · exact ⟨_, rfl, rfl, by decide⟩
  · exact ⟨_, rfl, rfl, by decide⟩
  · exact ⟨_, rfl, rfl, by decide⟩
/-- What sides hands back. -/
def HdQ (l : List UInt8) (e : Ending) : Prop := match head l with
  | .bad p ev => e = .returned (.tuple #[.int .i64 0, .int .i64 0, .int .i64 (p : Nat), .int .i64 ev])
  | .ok W H i => e = .returned (.tuple #[.int .i64 (W : Nat), .int .i64 (H : Nat), .int .i64 (i : Nat), .int .i64 0])
theorem hdQ_bad {l : List UInt8} {p : Nat} {ev : Int} (h : head l = .bad p ev) : HdQ l (.returned (.tuple #[.int .i64 0, .int .i64 0, .int .i64 (p : Nat), .int .i64 ev])) := by
  unfold HdQ
  rw [h]
theorem hdQ_ok {l : List UInt8} {W H i : Nat} (h : head l = .ok W H i) : HdQ l (.returned (.tuple #[.int .i64 (W : Nat), .int .i64 (H : Nat), .int .i64 (i : Nat), .int .i64 0])) := by
  unfold HdQ
  rw [h]
def arr3 (n0 n1 : Nat) : List Value := [.int .i64 (n0 : Nat), .int .i64 (n1 : Nat), .int .i64 0]
theorem word_far {l ws : List UInt8} {i k : Nat} {K : Nat → Hd} (hm : Mt l ws i k) (hk : k < ws.length) (hn : ¬ (i + k < l.length ∧ l.getD (i + k) 0 = ws.getD k 0)) : word l ws i K = .bad (i + k) 2 := by
  unfold word
  rw [far_miss hm hn _ hk, if_pos hk]
theorem word_all {l ws : List UInt8} {i : Nat} {K : Nat → Hd} (hm : Mt l ws i ws.length) : word l ws i K = K (i + ws.length) := by
  unfold word
  rw [far_hit _ hm, if_neg (Nat.lt_irrefl _)]
theorem results_four {fn : Func} {t u v x : Tmp} (h : fn.results = #[.tmp t, .tmp u, .tmp v, .tmp x]) (tmps : Array Value) (P : Program) (w : World) :
    (results fn tmps).run P w = .ok (.tuple #[tmps.getD t undef, tmps.getD u undef, tmps.getD v undef, tmps.getD x undef]) w := by
  simp [results, h]
theorem meas3 {z : Int} {m k n : Nat} (e : z = ((m : Nat) : Int)) (h : n - m < n - k) : n - (RowKit.intOf (.int .i64 z)).toNat < n - (RowKit.intOf (.int .i64 ((k : Nat) : Int))).toNat := by
  rw [e]
  exact h
set_option maxHeartbeats 16000000 in
set_option maxRecDepth 1000000 in
theorem rsides_any (s : ByteArray) (w : World) (hs : s.size ≤ 40000) : Calls Tryd.prog 37 #[.string s] w fun e w' => HdQ s.data.toList e ∧ Below w.heap.size w w' := by
  have HSZ := Lib.hid hs
  clear hs
  go_enter Tryd.func37, Tryd.ntmps37
  go_upto_region 2 with fail
  have hr1 := row_alloc w 9 [.string ⟨#[120, 32, 61, 32]⟩, .string ⟨#[44, 32, 121, 32, 61, 32]⟩, .string ⟨#[10]⟩]
  have hb1 : Below w.heap.size w (w.alloc (.cells ([.string ⟨#[120, 32, 61, 32]⟩, .string ⟨#[44, 32, 121, 32, 61, 32]⟩, .string ⟨#[10]⟩] : List Value).toArray 9)) := (Below.refl _ _).alloc (Nat.le_refl _) _
  have HS : Hid (Row (w.alloc (.cells #[.string ⟨#[120, 32, 61, 32]⟩, .string ⟨#[44, 32, 121, 32, 61, 32]⟩, .string ⟨#[10]⟩] 9)) w.heap.size 9 [.string ⟨#[120, 32, 61, 32]⟩, .string ⟨#[44, 32, 121, 32, 61, 32]⟩, .string ⟨#[10]⟩]) := Lib.hid hr1
  have HB : Hid (Below w.heap.size w (w.alloc (.cells #[.string ⟨#[120, 32, 61, 32]⟩, .string ⟨#[44, 32, 121, 32, 61, 32]⟩, .string ⟨#[10]⟩] 9))) := Lib.hid hb1
  clear hr1 hb1
  generalize w.alloc (.cells #[.string ⟨#[120, 32, 61, 32]⟩, .string ⟨#[44, 32, 121, 32, 61, 32]⟩, .string ⟨#[10]⟩] 9) = wa at *
  obtain ⟨sb, hsb⟩ : ∃ sb, sb = w.heap.size := ⟨_, rfl⟩
  rw [← hsb] at HS ⊢
  have HSB : Hid (w.heap.size ≤ sb) := Lib.hid (by rw [hsb]; exact Nat.le_refl _)
  clear hsb
  go_upto_region 3 with fail
  have hr1 := row_alloc wa 107 (arr3 0 0)
  have hb1 : Below wa.heap.size wa (wa.alloc (.cells (arr3 0 0).toArray 107)) := (Below.refl _ _).alloc (Nat.le_refl _) _
  have HNE : Hid (sb ≠ wa.heap.size ∧ w.heap.size ≤ wa.heap.size) := Lib.hid ⟨Nat.ne_of_lt HS.out.lt, HB.out.size⟩
  have HA : Hid (Row (wa.alloc (.cells #[.int .i64 0, .int .i64 0, .int .i64 0] 107)) wa.heap.size 107 (arr3 0 0)) := Lib.hid hr1
  have HS : Hid (Row (wa.alloc (.cells #[.int .i64 0, .int .i64 0, .int .i64 0] 107)) sb 9 [.string ⟨#[120, 32, 61, 32]⟩, .string ⟨#[44, 32, 121, 32, 61, 32]⟩, .string ⟨#[10]⟩]) := Lib.hid (HS.out.keep hb1 HS.out.lt)
  have HB : Hid (Below w.heap.size w (wa.alloc (.cells #[.int .i64 0, .int .i64 0, .int .i64 0] 107))) := Lib.hid (HB.out.trans (hb1.mono HB.out.size))
  clear hr1 hb1
  generalize wa.alloc (.cells #[.int .i64 0, .int .i64 0, .int .i64 0] 107) = wc at *
  obtain ⟨ab, hab⟩ : ∃ ab, ab = wa.heap.size := ⟨_, rfl⟩
  rw [← hab] at HA HNE ⊢
  clear hab
  go_wp2_with fail
  go_loopw [8, 9] (fun v8 v9 wx => ∃ t i n0 n1 : Nat, v8 = .int .i64 ((i : Nat) : Int) ∧ v9 = .int .i64 ((t : Nat) : Int) ∧ t ≤ 2 ∧ i ≤ s.size ∧ Row wx sb 9 [.string ⟨#[120, 32, 61, 32]⟩, .string ⟨#[44, 32, 121, 32, 61, 32]⟩, .string ⟨#[10]⟩] ∧ Row wx ab 107 (arr3 n0 n1) ∧ Below w.heap.size w wx ∧ head s.data.toList = hfr s.data.toList t i n0 n1) (fun _ v _ => 3 - (RowKit.intOf v).toNat)
  case atStart => exact ⟨0, 0, 0, 0, rfl, rfl, by decide, Nat.zero_le _, HS.out, HA.out, HB.out, rfl⟩
  case round =>
    clear HS HA HB
    obtain ⟨t, i, n0, n1, rfl, rfl, ht, hi, hs, ha, hb, hh⟩ := hrel
    have HS := Lib.hid hs
    have HA := Lib.hid ha
    have HB := Lib.hid hb
    have HHD := Lib.hid hh
    have HT2 := Lib.hid ht
    have HI := Lib.hid hi
    obtain ⟨wb, hwc, hwb, hwz⟩ := wsT_some ht
    have ht3 : (t : Int) < 3 := by omega
    have HWC := Lib.hid hwc
    have HWL : Hid (wb.data.toList = wsT t) := Lib.hid hwb
    obtain ⟨n, hn⟩ : ∃ n, n = wb.size := ⟨_, rfl⟩
    have HN := Lib.hid hn
    have HN2 : Hid (n ≤ 10) := Lib.hid (by rw [hn]; exact hwz)
    have HNW : Hid ((wsT t).length = n) := Lib.hid (by rw [hn, ← hwb, Lib.size_eq])
    clear hs ha hb hh ht hi hwc hwb hwz hn
    go_upto_region 8 with fail
    go_loopw [8, 10] (fun v8 v10 wx => ∃ k q : Nat, k ≤ n ∧ v10 = .int .i64 ((k : Nat) : Int) ∧ v8 = .int .i64 ((i + k : Nat) : Int) ∧ Mt s.data.toList (wsT t) i k ∧ wx = World.drewN wr q) (fun _ v _ => 100 - (RowKit.intOf v).toNat)
    case atStart => exact ⟨0, 0, Nat.zero_le _, rfl, rfl, fun j hj => absurd hj (Nat.not_lt_zero _), rfl⟩
    case round =>
      obtain ⟨k, q, hk, rfl, rfl, hmt, rfl⟩ := hrel
      have HMT := Lib.hid hmt
      have hdn : Below wr.heap.size wr (World.drewN wr q) := below_dn (Below.refl _ _) q
      have HS := Lib.hid (HS.out.keep hdn HS.out.lt)
      have HA := Lib.hid (HA.out.keep hdn HA.out.lt)
      have HB := Lib.hid (HB.out.trans (hdn.mono HB.out.size))
      clear hmt hdn
      generalize hwk : World.drewN wr q = wk at *
      obtain ⟨z, hz⟩ : ∃ z, z = i + k := ⟨_, rfl⟩
      rw [← hz]
      have HZE := Lib.hid hz
      have sc := HS.out.cell t
      rw [HWC.out] at sc
      by_cases hkn0 : k < n
      · have hkw : k < wb.size := by rw [← HN.out]; exact hkn0
        have hkn : (k : Int) < (wb.size : Int) := by omega
        have HK := Lib.hid hkn0
        have hgw := get_drop wb hkw
        rw [HWL.out] at hgw
        obtain ⟨y, hy⟩ : ∃ y, y = (wsT t).getD k 0 := ⟨_, rfl⟩
        rw [← hy] at hgw
        have HY := Lib.hid hy
        have E2 : Hid (wrap64 ((k : Int) + 1) = ((k + 1 : Nat) : Int)) := Lib.hid (wr_nat (by push_cast; rfl) (by have := HN2.out; omega))
        have E3 : Hid (((z + 1 : Nat) : Int) = ((i + (k + 1) : Nat) : Int)) := Lib.hid (by rw [HZE.out]; rfl)
        clear hy hk hkn0
        by_cases hzs : z < s.size
        · have hg := get_drop s hzs
          obtain ⟨x, hx⟩ : ∃ x, x = s.data.toList.getD z 0 := ⟨_, rfl⟩
          rw [← hx] at hg
          have HX := Lib.hid hx
          have hzi : ¬ (s.size : Int) ≤ (z : Int) := by omega
          have HZS := Lib.hid hzs
          have E1 : Hid (wrap64 ((z : Int) + 1) = ((z + 1 : Nat) : Int)) := Lib.hid (wr_nat (by push_cast; rfl) (by have := HSZ.out; omega))
          clear hx hz
          by_cases hxy : x = y
          · have HM2 : Hid (Mt s.data.toList (wsT t) i (k + 1)) := Lib.hid (fun j hj => by
              by_cases hjk : j < k
              · exact HMT.out j hjk
              · obtain rfl : j = k := by omega
                rw [← HZE.out, ← HX.out, ← HY.out]
                exact ⟨by rw [← Lib.size_eq]; exact HZS.out, hxy⟩)
            subst hxy
            go_upto_region 10 with fail
            go_big_quiet (fail)
            go_wp2_with fail
            go_roundw
            case rel => exact ⟨k + 1, _, HK.out, congrArg (Value.int .i64) E2.out, congrArg (Value.int .i64) (E1.out.trans E3.out), HM2.out, by rw [← hwk]; exact drewN_add _ _ _⟩
            case measure => exact meas E2.out (by have := HK.out; have := HN2.out; omega)
          · have hxb : ((x.toNat : Int) == (y.toNat : Int)) = false := by rw [beq_eq_false_iff_ne]; intro h; exact hxy (UInt8.toNat_inj.1 (by exact_mod_cast h))
            have hxi : ¬ (x.toNat : Int) = (y.toNat : Int) := by intro h; exact hxy (UInt8.toNat_inj.1 (by exact_mod_cast h))
            have HBAD : Hid (¬ (i + k < s.data.toList.length ∧ s.data.toList.getD (i + k) 0 = (wsT t).getD k 0)) := Lib.hid (fun h => hxy (by rw [HX.out, HY.out, HZE.out]; exact h.2))
            clear hxy
            go_upto_region 10 with fail
            go_big_quiet (fail)
            generalize hw2 : World.drewN wk _ = wk2 at *
            have hdn : Below wk.heap.size wk wk2 := by rw [← hw2]; exact below_dn (Below.refl _ _) _
            have HB := Lib.hid (HB.out.trans (hdn.mono HB.out.size))
            clear hdn hw2 sc
            go_wp2_with fail
            refine bodyPost_ret (results_four rfl _ _ _) rfl ?_
            exact ⟨by rw [HZE.out]; exact hdQ_bad (by rw [HHD.out, hfr_next HT2.out, word_far HMT.out (by rw [HNW.out]; exact HK.out) HBAD.out]), HB.out⟩
        · have hzi : (s.size : Int) ≤ (z : Int) := by omega
          have HBAD : Hid (¬ (i + k < s.data.toList.length ∧ s.data.toList.getD (i + k) 0 = (wsT t).getD k 0)) := Lib.hid (fun h => by have h1 := h.1; rw [← Lib.size_eq, ← HZE.out] at h1; omega)
          clear hz hzs hgw hkw
          go_upto_region 10 with fail
          go_big_quiet (fail)
          generalize hw2 : World.drewN wk _ = wk2 at *
          have hdn : Below wk.heap.size wk wk2 := by rw [← hw2]; exact below_dn (Below.refl _ _) _
          have HB := Lib.hid (HB.out.trans (hdn.mono HB.out.size))
          clear hdn hw2 sc
          go_wp2_with fail
          refine bodyPost_ret (results_four rfl _ _ _) rfl ?_
          exact ⟨by rw [HZE.out]; exact hdQ_bad (by rw [HHD.out, hfr_next HT2.out, word_far HMT.out (by rw [HNW.out]; exact HK.out) HBAD.out]), HB.out⟩
      · obtain rfl : k = n := by omega
        have hkn : ¬ (k : Int) < (wb.size : Int) := by have := HN.out; omega
        have HHN : Hid (head s.data.toList = hnx s.data.toList t n0 n1 z) := Lib.hid (by
          have hm := HMT.out
          rw [← HNW.out] at hm
          rw [HHD.out, hfr_next HT2.out, word_all hm, HNW.out, ← HZE.out])
        have HZL : Hid (z ≤ s.size) := Lib.hid (by
          have h9 := HMT.out
          rcases Nat.eq_zero_or_pos k with h | h
          · have := HI.out; omega
          · have h2 := (h9 (k - 1) (by omega)).1
            rw [← Lib.size_eq] at h2
            omega)
        clear hz hkn0 hk HHD HMT
        by_cases ht2 : t = 2
        · have htb : ((t : Int) == 2) = true := by rw [beq_iff_eq]; omega
          have HHE : Hid (head s.data.toList = .ok n0 n1 z) := Lib.hid (by
            rw [HHN.out]
            unfold hnx
            rw [if_neg (by omega)])
          clear ht2
          have a0 := HA.out.cell 0
          have a1 := HA.out.cell 1
          unfold arr3 at a0 a1
          dsimp only [List.getElem?_cons_succ, List.getElem?_cons_zero] at a0 a1
          go_upto_region 23 with fail
          clear sc
          go_big_quiet (fail)
          generalize hw2 : World.drewN wk _ = wk2 at *
          have hdn : Below wk.heap.size wk wk2 := by rw [← hw2]; exact below_dn (Below.refl _ _) _
          have HB := Lib.hid (HB.out.trans (hdn.mono HB.out.size))
          clear hdn hw2 a0 a1
          go_wp2_with fail
          refine bodyPost_ret (results_four rfl _ _ _) rfl ?_
          exact ⟨hdQ_ok HHE.out, HB.out⟩
        · have htb : ((t : Int) == 2) = false := by rw [beq_eq_false_iff_ne]; omega
          have ht1 : t < 2 := by omega
          have HT1 := Lib.hid ht1
          have HNUM := Lib.hid (Number_any s z wk (by have := HSZ.out; omega) HZL.out)
          have hle := digs_le s z HZL.out
          have HHE : Hid (head s.data.toList = side s.data.toList z (digs s z) fun m i => hfr s.data.toList (t + 1) i (if t = 0 then m else n0) (if t = 1 then m else n1)) := Lib.hid (by
            rw [HHN.out]
            unfold hnx
            rw [if_pos ht1, dgs_digs])
          generalize digs s z = ds at *
          obtain ⟨m, hm⟩ : ∃ m, m = num ds := ⟨_, rfl⟩
          have HM := Lib.hid hm
          rw [← hm] at HNUM
          obtain ⟨dl, hdl⟩ : ∃ dl, dl = ds.length := ⟨_, rfl⟩
          rw [← hdl] at HNUM
          have HDL := Lib.hid hdl
          have HLE : Hid (z + dl ≤ s.size) := Lib.hid (by rw [hdl]; exact hle)
          clear hm hdl hle ht1 ht2
          go_wp2_with fail
          refine HNUM.out.mono ?_
          rintro e2 w2 ⟨rfl, rfl⟩
          clear HNUM sc
          by_cases hm0 : m < 0
          · have HM0 := Lib.hid hm0
            have HHF : Hid (head s.data.toList = .bad z 2) := Lib.hid (by
              rw [HHE.out]
              unfold side
              rw [numv_num, if_pos (.inl (by rw [← HM.out]; exact HM0.out))])
            clear HHN
            go_wp2_with fail
            refine bodyPost_ret (results_four rfl _ _ _) rfl ?_
            exact ⟨hdQ_bad HHF.out, HB.out⟩
          · by_cases hl6 : 6 < dl
            · have w6 : Hid (wrap64 ((z : Int) + 6) = ((z + 6 : Nat) : Int)) := Lib.hid (wr_nat (by push_cast; rfl) (by have := HSZ.out; have := HZL.out; omega))
              have hg6 : ((z + 6 : Nat) : Int) < ((z + dl : Nat) : Int) := by omega
              have HL6 := Lib.hid hl6
              clear hl6
              have w6 := w6.out
              have HHF : Hid (head s.data.toList = .bad z 2) := Lib.hid (by
                rw [HHE.out]
                unfold side
                rw [numv_num, if_pos (.inr (by rw [← HDL.out]; exact HL6.out))])
              clear HHN
              go_wp2_with fail
              refine bodyPost_ret (results_four rfl _ _ _) rfl ?_
              exact ⟨hdQ_bad HHF.out, HB.out⟩
            · have w6 : Hid (wrap64 ((z : Int) + 6) = ((z + 6 : Nat) : Int)) := Lib.hid (wr_nat (by push_cast; rfl) (by have := HSZ.out; have := HZL.out; omega))
              have hg6 : ¬ ((z + 6 : Nat) : Int) < ((z + dl : Nat) : Int) := by omega
              have HC1 : Hid (¬ (numv ds < 0 ∨ 6 < ds.length)) := Lib.hid (by rw [numv_num, ← HM.out, ← HDL.out]; omega)
              clear hl6
              by_cases hm1 : 100 < m
              · have HM1 : Hid (100 < numv ds) := Lib.hid (by rw [numv_num, ← HM.out]; exact hm1)
                have w6 := w6.out
                have HHF : Hid (head s.data.toList = .bad z 1) := Lib.hid (by
                  rw [HHE.out]
                  unfold side
                  rw [if_neg HC1.out, if_pos HM1.out])
                clear HHN
                go_wp2_with fail
                refine bodyPost_ret (results_four rfl _ _ _) rfl ?_
                exact ⟨hdQ_bad HHF.out, HB.out⟩
              · have HM1 : Hid (¬ 100 < numv ds) := Lib.hid (by rw [numv_num, ← HM.out]; exact hm1)
                obtain ⟨mm, hmm⟩ : ∃ mm : Nat, m = (mm : Int) := ⟨m.toNat, by omega⟩
                have HMM : Hid ((numv ds).toNat = mm) := Lib.hid (by rw [numv_num, ← HM.out, hmm]; exact Int.toNat_natCast _)
                have HHF : Hid (head s.data.toList = hfr s.data.toList (t + 1) (z + dl) (if t = 0 then mm else n0) (if t = 1 then mm else n1)) := Lib.hid (by
                  rw [HHE.out]
                  unfold side
                  rw [if_neg HC1.out, if_neg HM1.out, HMM.out, ← HDL.out])
                clear HM HMM
                subst hmm
                have w6 := w6.out
                have at0 := HA.out.frozen t
                obtain ⟨v0, hv0⟩ : ∃ v, (arr3 n0 n1)[t]? = some v := by
                  have := HT1.out
                  rcases (by omega : t = 0 ∨ t = 1) with rfl | rfl <;> exact ⟨_, rfl⟩
                have ac := HA.out.cell t
                rw [hv0] at ac
                go_upto_region 22 with fail
                clear at0 ac hv0 w6
                have hon := only_setCell w2 ab t (.int .i64 ((mm : Nat) : Int))
                have hse := HA.out.set t (.int .i64 ((mm : Nat) : Int))
                have hq3 : (arr3 n0 n1).set t (.int .i64 ((mm : Nat) : Int)) = arr3 (if t = 0 then mm else n0) (if t = 1 then mm else n1) := by
                  have := HT1.out
                  rcases (by omega : t = 0 ∨ t = 1) with rfl | rfl <;> rfl
                rw [hq3] at hse
                have HA := Lib.hid hse
                have HS := Lib.hid (HS.out.other hon HNE.out.1)
                have HB := Lib.hid (HB.out.trans (hon.below HNE.out.2))
                clear hon hse hq3
                generalize w2.setCell ⟨ab, t, none⟩ (.int .i64 ((mm : Nat) : Int)) = w5 at *
                go_wp2_with fail
                go_roundw
                case rel => exact ⟨t + 1, z + dl, _, _, rfl, rfl, by have := HT1.out; omega, HLE.out, HS.out, HA.out, HB.out, HHF.out⟩
                case measure => exact meas3 (z := (t : Int) + 1) (m := t + 1) rfl (by have := HT1.out; omega)
end Pr
end Go.Proofs.YtgagophijmiceaaDoor
