/- THE LAW RotorOrder: its walk, out of its callees' contracts. -/
import Derived.Test.YtjikildiblchpaaRtD
import Derived.Test.YtjikildiblchpaaLawRotorTrees
namespace Go.Proofs.Ytjikildiblchpaa
set_option linter.unusedSimpArgs false
set_option linter.unusedVariables false
open Go.RowKit Go.Lib
namespace Rt
open Tld Mem

theorem f2_chips : cfault 2 0 [0, 3] = 0 := by decide
theorem f2_bf : bfault 2 1 f2 0 [0, 0] [0, 3] = 0 := by
  rw [bfault_c (f2_signs (a := 0) (b := 0) rfl (by omega) (by omega))]
  exact f2_chips
theorem f2_route {u : Nat → Nat} (hL : Leg (bdG 2 1 0 f2) (sgN [0, 0]) (sgN [0, 3]) u) (hD : Done (bdG 2 1 0 f2) (sgN [0, 0]) (sgN [0, 3]) u) (hok : GOk 2 1 f2) : sgU (bdG 2 1 0 f2) (sgN [0, 0]) u 1 = 1 := by
  have hbo := bdG_ok hok (show 0 < 2 by omega)
  have hd : 0 < (bdG 2 1 0 f2).d 1 := by show 0 < deg f2 1 1; rw [f2_deg1]; omega
  have hu : u = bump (fun _ => 0) 1 (u 1) := funext fun j => by
    by_cases e : j = 1
    · rw [e, bump_at, Nat.zero_add]
    · rw [bump_no e]
      exact hL.out j (by
        rcases Nat.lt_or_ge j 2 with h | h
        · exact .inl (show j = 0 by omega)
        · exact .inr h)
  have h1 := hL.nonneg 1
  have h2 := hD 1 (show 1 < 2 by omega) (show (1 : Nat) ≠ 0 by omega)
  have h3 : inb (bdG 2 1 0 f2) (sgN [0, 0]) (sgN [0, 3]) u 1 = 3 := by
    rw [hu, inb_own hbo (show 1 < 2 by omega) hd]
    decide
  rw [h3] at h1 h2
  have h4 : u 1 = 3 := by omega
  show (sgN [0, 0] 1 + u 1) % deg f2 1 1 = 1
  rw [h4, f2_deg1]
  decide
theorem wrap_sum {a b c : Nat} (h : b + a = c) : wrap64 (wrap64 (a : Int) + (b : Int)) = wrap64 (c : Int) := by
  rw [wrap_add, ← Int.natCast_add, Nat.add_comm, h]

set_option maxHeartbeats 16000000 in
set_option maxRecDepth 1000000 in
theorem rotorOrder_any (P sink : Int) (ea : Option Addr) (m ec : Nat) (f : Nat → Nat → Int) (sa : Option Addr) (sn sc : Nat) (sz : List Int) (ca : Option Addr) (cn cc : Nat) (cz : List Int) (oa : Option Addr) (on oc : Nat) (oz : List Int) (w : World) (hE : Mem.Rows w ea m 3 (fun i j => .int .i64 (f i j))) (hm : m ≤ 9223372036854775807) (hS : Ints.Is w sa sn sz) (hsnil : sa = none → sn = 0) (hC : Ints.Is w ca cn cz) (hcn : cn * 8 ≤ 140737488355328) (hcnil : ca = none → cn = 0) (hO : Ints.Is w oa on oz) (hoc : on ≤ oc) (honil : oa = none → on = 0) :
    Calls Try.prog 4 #[.agg #[.int .i64 P, .slice ea m ec], .int .i64 sink, .slice sa sn sc, .slice ca cn cc, .slice oa on oc] w fun e w' => e = .returned (.bool true) ∧ Below w.heap.size w w' := by
  have HE := Lib.hid hE
  have HS := Lib.hid hS
  have HC := Lib.hid hC
  have HO := Lib.hid hO
  have HSN := Lib.hid hsnil
  have HCN := Lib.hid hcnil
  have HON := Lib.hid honil
  have HOL := Lib.hid hO.len
  have hol := hO.le
  unfold maxLen at hol
  clear hE hS hC hO hsnil hcnil honil
  go_enter Try.func4, Try.ntmps4
  go_upto_region 1 with fail
  have hR : Row (w.alloc (.cells #[.int .i64 P, .slice ea m ec] 24)) w.heap.size 24 [.int .i64 P, .slice ea m ec] := row_alloc w _ _
  have hB : Below w.heap.size w (w.alloc (.cells #[.int .i64 P, .slice ea m ec] 24)) := (Below.refl _ _).alloc (Nat.le_refl _) _
  have HG := Lib.hid hR
  have HB := Lib.hid hB
  clear hR hB
  generalize w.alloc (.cells #[.int .i64 P, .slice ea m ec] 24) = w1 at *
  obtain ⟨bg, hbg⟩ : ∃ bg, bg = w.heap.size := ⟨_, rfl⟩
  rw [← hbg] at HG ⊢
  clear hbg
  go_upto_region 2 with fail
  have hrE : Row (w1.alloc (.cells #[.int .i64 0, .int .i64 1, .int .i64 2] 27)) w1.heap.size 27 [.int .i64 0, .int .i64 1, .int .i64 2] := row_alloc w1 _ _
  have hbE : Below w1.heap.size w1 (w1.alloc (.cells #[.int .i64 0, .int .i64 1, .int .i64 2] 27)) := (Below.refl _ _).alloc (Nat.le_refl _) _
  have hsE : (w1.alloc (.cells #[.int .i64 0, .int .i64 1, .int .i64 2] 27)).heap.size = w1.heap.size + 1 := by simp
  have hrO := row_alloc (w1.alloc (.cells #[.int .i64 0, .int .i64 1, .int .i64 2] 27)) 24 [.int .i64 2, .slice (some ⟨w1.heap.size, 0, none⟩) 1 1]
  have hbO : Below (w1.heap.size + 1) (w1.alloc (.cells #[.int .i64 0, .int .i64 1, .int .i64 2] 27)) ((w1.alloc (.cells #[.int .i64 0, .int .i64 1, .int .i64 2] 27)).alloc (.cells [.int .i64 2, .slice (some ⟨w1.heap.size, 0, none⟩) 1 1].toArray 24)) := (Below.refl _ _).alloc (by rw [hsE]; exact Nat.le_refl _) _
  rw [hsE] at hrO
  have HRE := Lib.hid (rows_one (hrE.keep hbO (by omega)))
  have HRO := Lib.hid hrO
  have hbB := hbE.trans (hbO.mono (by omega))
  have HG := Lib.hid (HG.out.keep hbB HG.out.lt)
  have HB := Lib.hid (HB.out.trans (hbB.mono HB.out.size))
  clear hrE hbE hsE hrO hbO hbB
  generalize (w1.alloc (.cells #[.int .i64 0, .int .i64 1, .int .i64 2] 27)).alloc (.cells #[.int .i64 2, .slice (some ⟨w1.heap.size, 0, none⟩) 1 1] 24) = w2 at *
  obtain ⟨bo, hbo⟩ : ∃ b, b = w1.heap.size + 1 := ⟨_, rfl⟩
  obtain ⟨be, hbe⟩ : ∃ b, b = w1.heap.size := ⟨_, rfl⟩
  rw [← hbo, ← hbe] at HRO
  rw [← hbe] at HRE
  rw [← hbo, ← hbe]
  clear hbo hbe
  have l1 := row_range HRO.out
  have hr3 := row_alloc w2 3 [.int .i64 0, .int .i64 0]
  have hb3 : Below w2.heap.size w2 (w2.alloc (.cells [.int .i64 0, .int .i64 0].toArray 3)) := (Below.refl _ _).alloc (Nat.le_refl _) _
  have hs3 : (w2.alloc (.cells [.int .i64 0, .int .i64 0].toArray 3)).heap.size = w2.heap.size + 1 := by simp
  have hr4 := row_alloc (w2.alloc (.cells [.int .i64 0, .int .i64 0].toArray 3)) 3 [.int .i64 0, .int .i64 3]
  have hb4 : Below (w2.heap.size + 1) (w2.alloc (.cells [.int .i64 0, .int .i64 0].toArray 3)) ((w2.alloc (.cells [.int .i64 0, .int .i64 0].toArray 3)).alloc (.cells [.int .i64 0, .int .i64 3].toArray 3)) := (Below.refl _ _).alloc (by rw [hs3]; exact Nat.le_refl _) _
  rw [hs3] at hr4
  have HI3 := Lib.hid (own_is (B := 0) (zs := [0, 0]) (own_made (hr3.keep hb4 (by omega)) (Nat.zero_le _) (by unfold maxLen; decide)) rfl (by unfold maxLen; decide)).1
  have HI4 := Lib.hid (own_is (B := 0) (zs := [0, 3]) (own_made hr4 (Nat.zero_le _) (by unfold maxLen; decide)) rfl (by unfold maxLen; decide)).1
  have hbB := hb3.trans (hb4.mono (by omega))
  have HRE := Lib.hid (HRE.out.keep hbB)
  have HG := Lib.hid (HG.out.keep hbB HG.out.lt)
  have HB := Lib.hid (HB.out.trans (hbB.mono HB.out.size))
  clear hr3 hb3 hs3 hr4 hb4 hbB
  go_wp2_with (refine wpList_load_mid rfl 24 _ rfl bo 0 rfl _ _ l1 Try.underlying24 rfl infoGraph ?_)
  clear l1
  generalize (w2.alloc (.cells #[.int .i64 0, .int .i64 0] 3)).alloc (.cells #[.int .i64 0, .int .i64 3] 3) = w3 at *
  refine (route_any 2 0 _ 1 1 f2 _ 2 2 [0, 0] _ 2 2 [0, 3] w3 HRE.out (by omega) HI3.out HI4.out (by omega) (fun h => by cases h) (fun h => by cases h)).mono ?_
  rintro e3 w4 ⟨hpost, hb4⟩
  have HG := Lib.hid (HG.out.keep hb4 HG.out.lt)
  have HB := Lib.hid (HB.out.trans (hb4.mono HB.out.size))
  rcases hpost with ⟨hf, _⟩ | ⟨_, hsum, _⟩ | ⟨_, _, p0, s0, b1, c1, b2, c2, u0, hp0, hs0, _, hok0, _, _, _, _, hl0, hd0, rfl, hi0, _⟩
  · exact absurd f2_bf hf
  · exact absurd hsum (by decide)
  obtain rfl : p0 = 2 := by omega
  obtain rfl : s0 = 0 := by omega
  obtain ⟨bz, oz', hbz, _, hcz⟩ := hi0.cells 1 (by omega)
  cases hbz
  dsimp only at hcz
  rw [lstF_get (by omega), f2_route hl0 hd0 hok0] at hcz
  clear hb4 HRE HI3 HI4 HRO hok0 hl0 hd0 hi0 hp0 hs0
  go_upto_region 5 with fail
  clear hcz
  have l1 := row_range HG.out
  go_wp2_with (refine wpList_load_mid rfl 24 _ rfl bg 0 rfl _ _ l1 Try.underlying24 rfl infoGraph ?_)
  clear l1
  refine (route_any P sink ea m ec f sa sn sc sz ca cn cc cz w4 (HE.out.keep HB.out) hm (HS.out.keep HB.out) (HC.out.keep HB.out) hcn HSN.out HCN.out).mono ?_
  rintro e3 w5 ⟨hpost, hb5⟩
  have HG := Lib.hid (HG.out.keep hb5 HG.out.lt)
  have HB := Lib.hid (HB.out.trans (hb5.mono HB.out.size))
  clear hb5
  rcases hpost with ⟨hf, rfl⟩ | ⟨_, _, rfl⟩ | ⟨_, hsum, p, s, b1', c1', b2', c2', uA, rfl, rfl, hsp, hok, hszl, hczl, hsg, hcf, hlA, hdA, rfl, hiA, hiW⟩
  · rw [errV_some hf]
    go_wp2_with fail
    go_ret
    exact ⟨rfl, HB.out⟩
  · rw [errV_some (by decide)]
    go_wp2_with fail
    go_ret
    exact ⟨rfl, HB.out⟩
  rw [Int.toNat_natCast] at hsum
  have hsk := signs_ok hsg
  have HST := Lib.hid (stands_start hok hsp hszl hsg hcf)
  have HOK := Lib.hid hok
  have HSG := Lib.hid hsg
  have HSZL := Lib.hid hszl
  have HS0 : Hid (∀ k, k < p → (k = s → sgN sz k = 0)) := fun k hk e => (hsk k hk).2.1 e
  have HSV : Hid (∀ k, k < p → k ≠ s → sgN sz k < deg f k m) := fun k hk e => (hsk k hk).2.2 e
  have HSUM := Lib.hid hsum
  have HLA := Lib.hid hlA
  have HDA := Lib.hid hdA
  have HIA := Lib.hid hiA
  have HIW := Lib.hid hiW
  have hp1 := hok.p1
  have hp10 := hok.p10
  have hsn : sn = p := by rw [← HS.out.len]; exact hszl
  have hcn' : cn = p := by rw [← HC.out.len]; exact hczl
  subst hsn
  subst hcn'
  have g0 := HG.out.cell 0
  dsimp only [List.getElem?_cons_zero] at g0
  clear hsk hok hsg hszl hczl hcf hsum hlA hdA hiA hiW
  go_upto_region 10 with fail
  have hmk := mk_ints cn hp10 w5
  have HV0 := Lib.hid (row_made (rep_row w5 cn))
  have hb0 : Below w5.heap.size w5 (w5.alloc (.cells (Array.replicate cn (Value.int .i64 0)) 3)) := (Below.refl _ _).alloc (Nat.le_refl _) _
  have HB0 := Lib.hid hb0
  clear hb0
  go_upto_region 11 with fail
  clear hmk g0
  generalize w5.alloc (.cells (Array.replicate cn (Value.int .i64 0)) 3) = w6 at *
  obtain ⟨bt, hbt⟩ : ∃ b, b = w5.heap.size := ⟨_, rfl⟩
  have hlt5 : w5.heap.size ≤ bt := by omega
  have hlow5 : w.heap.size ≤ w5.heap.size := HB.out.size
  rw [← hbt] at HV0 ⊢
  clear hbt
  have HS5 := Lib.hid (HS.out.keep HB.out)
  have HC5 := Lib.hid (HC.out.keep HB.out)
  go_wp2_with fail
  go_loopw [18, 19, 21] (fun v1 v2 v3 wr => ∃ (i : Nat) (t : Nat → Nat) (a1 a2 : Option Addr) (k1 k2 : Nat) (l1 l2 : List Int), i ≤ on ∧ v1 = .slice a1 cn k1 ∧ v2 = .slice a2 cn k2 ∧ v3 = .int .i64 (i : Int) ∧ Stands cn s m f (sgN sz) (sgN cz) t l1 l2 ∧ Leg (bdG cn m s f) (sgN sz) (sgN cz) t ∧ Ints.Is wr a1 cn l1 ∧ Ints.Is wr a2 cn l2 ∧ (∀ b o, a1 = some ⟨b, o, none⟩ → b ≠ bt) ∧ (∀ b o, a2 = some ⟨b, o, none⟩ → b ≠ bt) ∧ Vec wr bt cn (fun k => (t k : Int)) ∧ (∀ k, t k ≤ i) ∧ Below w5.heap.size w5 wr) (fun _ _ v _ => on - (intOf v).toNat)
  case atStart =>
    refine ⟨0, fun _ => 0, sa, ca, sc, cc, sz, cz, Nat.zero_le _, rfl, rfl, rfl, HST.out, .zero, HS5.out.keep HB0.out, HC5.out.keep HB0.out, fun b o e => ?_, fun b o e => ?_, HV0.out, fun _ => Nat.le_refl _, HB0.out⟩
    · obtain ⟨b', o', e', hlt, _⟩ := HS5.out.cells 0 (by omega)
      rw [e] at e'
      cases e'
      omega
    · obtain ⟨b', o', e', hlt, _⟩ := HC5.out.cells 0 (by omega)
      rw [e] at e'
      cases e'
      omega
  case round =>
    clear HST HV0 HB0 HS5 HC5
    obtain ⟨i, t, a1, a2, k1, k2, l1, l2, hi, rfl, rfl, rfl, hst, hl, hi1, hi2, hn1, hn2, hv, hti, hbw⟩ := hrel
    have HST := Lib.hid hst
    have HL := Lib.hid hl
    have HI1 := Lib.hid hi1
    have HI2 := Lib.hid hi2
    have HN1 := Lib.hid hn1
    have HN2 := Lib.hid hn2
    have HV := Lib.hid hv
    have HTI := Lib.hid hti
    have HBW := Lib.hid hbw
    have HBF := Lib.hid (HB.out.trans (hbw.mono HB.out.size))
    have HGW := Lib.hid (HG.out.keep hbw HG.out.lt)
    clear hst hl hi1 hi2 hn1 hn2 hv hti hbw
    by_cases hlt : i < on
    · --{ROUND
      obtain ⟨bO, oO, rfl, _, hcO⟩ := (HO.out.keep HBF.out).cells i hlt
      dsimp only at hcO
      obtain ⟨k, hk⟩ : ∃ k, k = oz.getD i 0 := ⟨_, rfl⟩
      rw [← hk] at hcO
      clear hk
      have hbO : bO < wr.heap.size := lt_of_cell hcO
      have HIO : Hid (∀ w', Below wr.heap.size wr w' → Ints.Is w' (some ⟨bO, oO + i, none⟩) 1 [k]) := fun w' hb => ⟨rfl, fun j hj => by
        obtain rfl : j = 0 := by omega
        exact ⟨bO, oO + i, rfl, Nat.lt_of_lt_of_le hbO hb.size, cell_keep hcO hb⟩, by unfold maxLen; omega⟩
      have HFI := Lib.hid (HST.out.fine HOK.out hsp HL.out HS0.out HSUM.out)
      have ho1 : (i : Int) + 1 ≤ (oc : Int) := by omega
      have ho2 : (0 : Int) ≤ (i : Int) := by omega
      have ho3 : (i : Int) < (on : Int) := by omega
      have ho4 : ¬ oc = i := by omega
      have ho5 : (0 : Int) ≤ (i : Int) + 1 := by omega
      have hw1 : IntKind.i64.wrap ((i : Int) + 1) = (i : Int) + 1 := by rw [IntKind.wrap_i64]; omega
      have htn : ((i : Int) + 1).toNat = i + 1 := by omega
      have hii : i ≤ i + 1 := by omega
      have hi1 : i + 1 - i = 1 := by omega
      have HG3 := Lib.hid HGW.out.drew
      have HBD := Lib.hid ((Below.refl wr.heap.size wr).drew)
      go_upto_region 14 with fail
      refine wp_region_noPanic ?_
      refine region_Cn (S1 bg (cn : Int) (.slice ea m ec)) 17 #[false, false, false, false, false, false, false, false, false, false, false, false, false, false, false, false, false] (by kernel_rfl) (by kernel_rfl) (by kernel_rfl) ?_
      generalize wr.drew = w7 at *
      have hS1 := S1.of HG3.out
      refine C_take (none) (i := 0) (oi := _) (v := _) rfl (by kernel_rfl) (by kernel_rfl) (by kernel_rfl) (by kernel_rfl) (fun _ _ _ h => h) S1.some (yieldsIf_load_mid (by rfl) _ _ rfl _ _ rfl [.int .i64 (cn : Int), .slice ea m ec] _ ?hS Try.underlying24 rfl infoGraph) (fun o' _ => hS1 o') ?_
      case hS => exact fun w hSw => hSw
      simp only [Act.put, List.getElem_toArray, List.getElem_cons_succ, List.getElem_cons_zero, List.setIfInBounds_toArray, List.set_cons_zero, List.set_cons_succ]
      refine C_take (none) (i := 1) (oi := _) (v := ?_) rfl (by kernel_rfl) (by kernel_rfl) (by kernel_rfl) (by kernel_rfl) (fun _ _ _ h => h) S1.some (Or.inl ⟨by rfl, ?_⟩) (fun o' _ => hS1 o') ?_
      rotate_left
      · intro w hSw
        go_simp
        try with_reducible rfl
      simp only [Act.put, List.getElem_toArray, List.getElem_cons_succ, List.getElem_cons_zero, List.setIfInBounds_toArray, List.set_cons_zero, List.set_cons_succ]
      refine C_take (none) (i := 2) (oi := _) (v := ?_) rfl (by kernel_rfl) (by kernel_rfl) (by kernel_rfl) (by kernel_rfl) (fun _ _ _ h => h) S1.some (Or.inl ⟨by rfl, ?_⟩) (fun o' _ => hS1 o') ?_
      rotate_left
      · intro w hSw
        go_simp
        try with_reducible rfl
      simp only [Act.put, List.getElem_toArray, List.getElem_cons_succ, List.getElem_cons_zero, List.setIfInBounds_toArray, List.set_cons_zero, List.set_cons_succ]
      refine C_take (none) (i := 3) (oi := _) (v := ?_) rfl (by kernel_rfl) (by kernel_rfl) (by kernel_rfl) (by kernel_rfl) (fun _ _ _ h => h) S1.some (Or.inl ⟨by rfl, ?_⟩) (fun o' _ => hS1 o') ?_
      rotate_left
      · intro w hSw
        go_simp
        try with_reducible rfl
      simp only [Act.put, List.getElem_toArray, List.getElem_cons_succ, List.getElem_cons_zero, List.setIfInBounds_toArray, List.set_cons_zero, List.set_cons_succ]
      refine C_take (none) (i := 4) (oi := _) (v := ?_) rfl (by kernel_rfl) (by kernel_rfl) (by kernel_rfl) (by kernel_rfl) (fun _ _ _ h => h) S1.some (Or.inl ⟨by rfl, ?_⟩) (fun o' _ => hS1 o') ?_
      rotate_left
      · intro w hSw
        go_simp
        try with_reducible rfl
      simp only [Act.put, List.getElem_toArray, List.getElem_cons_succ, List.getElem_cons_zero, List.setIfInBounds_toArray, List.set_cons_zero, List.set_cons_succ]
      refine C_take (none) (i := 5) (oi := _) (v := ?_) rfl (by kernel_rfl) (by kernel_rfl) (by kernel_rfl) (by kernel_rfl) (fun _ _ _ h => h) S1.some (Or.inl ⟨by rfl, ?_⟩) (fun o' _ => hS1 o') ?_
      rotate_left
      · intro w hSw
        go_simp
        try with_reducible rfl
      simp only [Act.put, List.getElem_toArray, List.getElem_cons_succ, List.getElem_cons_zero, List.setIfInBounds_toArray, List.set_cons_zero, List.set_cons_succ]
      refine C_take (none) (i := 6) (oi := _) (v := ?_) rfl (by kernel_rfl) (by kernel_rfl) (by kernel_rfl) (by kernel_rfl) (fun _ _ _ h => h) S1.some (Or.inl ⟨by rfl, ?_⟩) (fun o' _ => hS1 o') ?_
      rotate_left
      · intro w hSw
        go_simp
        try with_reducible rfl
      simp only [Act.put, List.getElem_toArray, List.getElem_cons_succ, List.getElem_cons_zero, List.setIfInBounds_toArray, List.set_cons_zero, List.set_cons_succ]
      refine C_take (none) (i := 7) (oi := _) (v := .int .i64 ((i : Int) + 1)) rfl (by kernel_rfl) (by kernel_rfl) (by kernel_rfl) (by kernel_rfl) (fun _ _ _ h => h) S1.some (Or.inl ⟨by rfl, ?_⟩) (fun o' _ => hS1 o') ?_
      · intro w hSw
        go_simp
        try with_reducible rfl
      simp only [Act.put, List.getElem_toArray, List.getElem_cons_succ, List.getElem_cons_zero, List.setIfInBounds_toArray, List.set_cons_zero, List.set_cons_succ]
      refine C_take (none) (i := 8) (oi := _) (v := .slice (some ⟨bO, oO + i, none⟩) 1 (oc - i)) rfl (by kernel_rfl) (by kernel_rfl) (by kernel_rfl) (by kernel_rfl) (fun _ _ _ h => h) S1.some (Or.inl ⟨by rfl, ?_⟩) (fun o' _ => hS1 o') ?_
      · intro w hSw
        go_simp
        try with_reducible rfl
      simp only [Act.put, List.getElem_toArray, List.getElem_cons_succ, List.getElem_cons_zero, List.setIfInBounds_toArray, List.set_cons_zero, List.set_cons_succ]
      clear hS1
      refine C_ready (rs := [9]) (by kernel_rfl) (by simp) ?_
      refine AllC.cons (i := 9) (o := _) rfl (by rfl) (fun K' hK => ?_) ?_
      · go_simp
        have HN1c : Hid (a1 = none → cn = 0) := fun e => by
          obtain ⟨_, _, e', _⟩ := HI1.out.cells 0 (by omega)
          rw [e] at e'; cases e'
        have HN2c : Hid (a2 = none → cn = 0) := fun e => by
          obtain ⟨_, _, e', _⟩ := HI2.out.cells 0 (by omega)
          rw [e] at e'; cases e'
        have HB7 := Lib.hid (HBF.out.trans (HBD.out.mono HBF.out.size))
        refine (walk_any (cn : Int) (s : Int) ea m ec f a1 cn k1 l1 a2 cn k2 l2 _ 1 (oc - i) [k] w7 (HE.out.keep HB7.out) hm (HI1.out.keep HBD.out) (HI2.out.keep HBD.out) hcn HN1c.out HN2c.out (HIO.out _ HBD.out)).mono ?_
        rintro en w8 ⟨hpost, hb8⟩
        have HG8 := Lib.hid (HG3.out.keep hb8 HG3.out.lt)
        have hb78 := HBD.out.trans (hb8.mono HBD.out.size)
        have HV8 := Lib.hid (HV.out.keep hb78 HV.out.lt)
        have HBW8 := Lib.hid (HBW.out.trans (hb78.mono HBW.out.size))
        have hbt7 : bt < w7.heap.size := Nat.lt_of_lt_of_le HV.out.lt HBD.out.size
        have hcO8 := cell_keep hcO hb78
        have HCO := Lib.hid hcO8
        have HI1k := Lib.hid (HI1.out.keep hb78)
        have HI2k := Lib.hid (HI2.out.keep hb78)
        clear hb78 hb8 hcO hcO8 HB7 HIO ho1 ho2 ho4 ho5 hw1 htn hii hi1
        rcases hpost with ⟨hf, _⟩ | ⟨_, p', s', hpp, hss, _, _, _, _, _, _, ⟨z, hz, _, rfl⟩ | ⟨b1n, c1n, b2n, c2n, u, hwk, hlu, hb1n, hb2n, rfl, hi1n, hi2n⟩⟩
        · exact absurd HFI.out.2.1 hf
        · have HZ := Lib.hid hz
          have hev := errV_some hz
          clear hz hpp hss
          rw [hev]
          clear hev
          go_simp
          refine hK _ _ (fun o _ => S1.of HG8.out o) ?_
          clear hK K'
          simp only [Act.put, List.getElem_toArray, List.getElem_cons_succ, List.getElem_cons_zero, List.setIfInBounds_toArray, List.set_cons_zero, List.set_cons_succ]
          refine C_take (none) (i := 10) (oi := _) (v := ?_) rfl (by kernel_rfl) (by kernel_rfl) (by kernel_rfl) (by kernel_rfl) (fun _ _ _ h => h) S1.some (Or.inl ⟨by rfl, ?_⟩) (fun o _ => S1.of HG8.out o) ?_
          rotate_left
          · intro w hSw
            go_simp
            try with_reducible rfl
          simp only [Act.put, List.getElem_toArray, List.getElem_cons_succ, List.getElem_cons_zero, List.setIfInBounds_toArray, List.set_cons_zero, List.set_cons_succ]
          refine C_take (none) (i := 11) (oi := _) (v := ?_) rfl (by kernel_rfl) (by kernel_rfl) (by kernel_rfl) (by kernel_rfl) (fun _ _ _ h => h) S1.some (Or.inl ⟨by rfl, ?_⟩) (fun o _ => S1.of HG8.out o) ?_
          rotate_left
          · intro w hSw
            go_simp
            try with_reducible rfl
          simp only [Act.put, List.getElem_toArray, List.getElem_cons_succ, List.getElem_cons_zero, List.setIfInBounds_toArray, List.set_cons_zero, List.set_cons_succ]
          refine C_take (none) (i := 12) (oi := _) (v := ?_) rfl (by kernel_rfl) (by kernel_rfl) (by kernel_rfl) (by kernel_rfl) (fun _ _ _ h => h) S1.some (Or.inl ⟨by rfl, ?_⟩) (fun o _ => S1.of HG8.out o) ?_
          rotate_left
          · intro w hSw
            go_simp
            try with_reducible rfl
          simp only [Act.put, List.getElem_toArray, List.getElem_cons_succ, List.getElem_cons_zero, List.setIfInBounds_toArray, List.set_cons_zero, List.set_cons_succ]
          refine C_take (none) (i := 13) (oi := _) (v := ?_) rfl (by kernel_rfl) (by kernel_rfl) (by kernel_rfl) (by kernel_rfl) (fun _ _ _ h => h) S1.some (Or.inl ⟨by rfl, ?_⟩) (fun o _ => S1.of HG8.out o) ?_
          rotate_left
          · intro w hSw
            go_simp
            try with_reducible rfl
          simp only [Act.put, List.getElem_toArray, List.getElem_cons_succ, List.getElem_cons_zero, List.setIfInBounds_toArray, List.set_cons_zero, List.set_cons_succ]
          refine C_take (none) (i := 14) (oi := _) (v := ?_) rfl (by kernel_rfl) (by kernel_rfl) (by kernel_rfl) (by kernel_rfl) (fun _ _ _ h => h) S1.some (Or.inl ⟨by rfl, ?_⟩) (fun o _ => S1.of HG8.out o) ?_
          rotate_left
          · intro w hSw
            go_simp
            try with_reducible rfl
          simp only [Act.put, List.getElem_toArray, List.getElem_cons_succ, List.getElem_cons_zero, List.setIfInBounds_toArray, List.set_cons_zero, List.set_cons_succ]
          refine C_take (none) (i := 15) (oi := _) (v := ?_) rfl (by kernel_rfl) (by kernel_rfl) (by kernel_rfl) (by kernel_rfl) (fun _ _ _ h => h) S1.some (Or.inl ⟨by rfl, ?_⟩) (fun o _ => S1.of HG8.out o) ?_
          rotate_left
          · intro w hSw
            go_simp
            try with_reducible rfl
          simp only [Act.put, List.getElem_toArray, List.getElem_cons_succ, List.getElem_cons_zero, List.setIfInBounds_toArray, List.set_cons_zero, List.set_cons_succ]
          refine C_take (none) (i := 16) (oi := _) (v := ?_) rfl (by kernel_rfl) (by kernel_rfl) (by kernel_rfl) (by kernel_rfl) (fun _ _ _ h => h) S1.some (Or.inl ⟨by rfl, ?_⟩) (fun o _ => S1.of HG8.out o) ?_
          rotate_left
          · intro w hSw
            go_simp
            try with_reducible rfl
          simp only [Act.put, List.getElem_toArray, List.getElem_cons_succ, List.getElem_cons_zero, List.setIfInBounds_toArray, List.set_cons_zero, List.set_cons_succ]
          refine C_done (by kernel_rfl) ?_ _
          refine NoPanic.normal ?_
          have HTI2 : Hid (∀ k, t k ≤ i + 1) := fun k => Nat.le_trans (HTI.out k) (by omega)
          go_wp2_with fail
          go_roundw
          case rel => exact ⟨i + 1, t, a1, a2, k1, k2, l1, l2, by omega, rfl, rfl, by go_num, HST.out, HL.out, HI1k.out, HI2k.out, HN1.out, HN2.out, HV8.out, HTI2.out, HBW8.out⟩
          case measure => simp [intOf]; omega
        · obtain rfl : p' = cn := by omega
          obtain rfl : s' = s := by omega
          obtain ⟨q, rfl, hqp, hqs, rfl⟩ := walk_one hwk
          obtain ⟨hon1, _, hon3, hon4⟩ := HST.out.on HOK.out hsp HL.out hlu
          rw [add_bump] at hon1 hon3 hon4
          have HL2 := Lib.hid hon1
          have HST2 : Hid (Stands p' s' m f (sgN sz) (sgN cz) (bump t q 1) (lstF p' fun k => (sgU (bdG p' m s' f) (sgN l1) (bump (fun _ => 0) q 1) k : Int)) (lstF p' fun k => (chU (bdG p' m s' f) (sgN l1) (sgN l2) (bump (fun _ => 0) q 1) k : Int))) := ⟨lstF_len, lstF_len, fun k hk => by rw [lstF_get hk, hon3 k hk], fun k hk => by rw [lstF_get hk, hon4 k hk]⟩
          have HI1n := Lib.hid hi1n
          have HI2n := Lib.hid hi2n
          have HB1N : Hid (b1n ≠ bt) := by show b1n ≠ bt; omega
          have HB2N : Hid (b2n ≠ bt) := by show b2n ≠ bt; omega
          have HTI2 : Hid (∀ k, bump t q 1 k ≤ i + 1) := fun k => by
            have h1 := HTI.out k
            unfold bump
            split <;> omega
          generalize (lstF p' fun k => (sgU (bdG p' m s' f) (sgN l1) (bump (fun _ => 0) q 1) k : Int)) = x1 at *
          generalize (lstF p' fun k => (chU (bdG p' m s' f) (sgN l1) (sgN l2) (bump (fun _ => 0) q 1) k : Int)) = x2 at *
          clear hpp hss hwk hlu hi1n hi2n hon1 hon3 hon4 hqs hb1n hb2n
          go_simp
          refine hK _ _ (fun o _ => S1.of HG8.out o) ?_
          clear hK K'
          simp only [Act.put, List.getElem_toArray, List.getElem_cons_succ, List.getElem_cons_zero, List.setIfInBounds_toArray, List.set_cons_zero, List.set_cons_succ]
          refine C_take (none) (i := 10) (oi := _) (v := ?_) rfl (by kernel_rfl) (by kernel_rfl) (by kernel_rfl) (by kernel_rfl) (fun _ _ _ h => h) S1.some (Or.inl ⟨by rfl, ?_⟩) (fun o _ => S1.of HG8.out o) ?_
          rotate_left
          · intro w hSw
            go_simp
            try with_reducible rfl
          simp only [Act.put, List.getElem_toArray, List.getElem_cons_succ, List.getElem_cons_zero, List.setIfInBounds_toArray, List.set_cons_zero, List.set_cons_succ]
          refine C_take (none) (i := 11) (oi := _) (v := ?_) rfl (by kernel_rfl) (by kernel_rfl) (by kernel_rfl) (by kernel_rfl) (fun _ _ _ h => h) S1.some (Or.inl ⟨by rfl, ?_⟩) (fun o _ => S1.of HG8.out o) ?_
          rotate_left
          · intro w hSw
            go_simp
            try with_reducible rfl
          simp only [Act.put, List.getElem_toArray, List.getElem_cons_succ, List.getElem_cons_zero, List.setIfInBounds_toArray, List.set_cons_zero, List.set_cons_succ]
          refine C_take (none) (i := 12) (oi := _) (v := ?_) rfl (by kernel_rfl) (by kernel_rfl) (by kernel_rfl) (by kernel_rfl) (fun _ _ _ h => h) S1.some (Or.inl ⟨by rfl, ?_⟩) (fun o _ => S1.of HG8.out o) ?_
          rotate_left
          · intro w hSw
            go_simp
            try with_reducible rfl
          simp only [Act.put, List.getElem_toArray, List.getElem_cons_succ, List.getElem_cons_zero, List.setIfInBounds_toArray, List.set_cons_zero, List.set_cons_succ]
          refine C_take (none) (i := 13) (oi := _) (v := ?_) rfl (by kernel_rfl) (by kernel_rfl) (by kernel_rfl) (by kernel_rfl) (fun _ _ _ h => h) S1.some (Or.inl ⟨by rfl, ?_⟩) (fun o _ => S1.of HG8.out o) ?_
          rotate_left
          · intro w hSw
            go_simp
            try with_reducible rfl
          simp only [Act.put, List.getElem_toArray, List.getElem_cons_succ, List.getElem_cons_zero, List.setIfInBounds_toArray, List.set_cons_zero, List.set_cons_succ]
          refine C_take (none) (i := 14) (oi := _) (v := ?_) rfl (by kernel_rfl) (by kernel_rfl) (by kernel_rfl) (by kernel_rfl) (fun _ _ _ h => h) S1.some (Or.inl ⟨by rfl, ?_⟩) (fun o _ => S1.of HG8.out o) ?_
          rotate_left
          · intro w hSw
            go_simp
            try with_reducible rfl
          simp only [Act.put, List.getElem_toArray, List.getElem_cons_succ, List.getElem_cons_zero, List.setIfInBounds_toArray, List.set_cons_zero, List.set_cons_succ]
          refine C_take (none) (i := 15) (oi := _) (v := ?_) rfl (by kernel_rfl) (by kernel_rfl) (by kernel_rfl) (by kernel_rfl) (fun _ _ _ h => h) S1.some (Or.inl ⟨by rfl, ?_⟩) (fun o _ => S1.of HG8.out o) ?_
          rotate_left
          · intro w hSw
            go_simp
            try with_reducible rfl
          simp only [Act.put, List.getElem_toArray, List.getElem_cons_succ, List.getElem_cons_zero, List.setIfInBounds_toArray, List.set_cons_zero, List.set_cons_succ]
          refine C_take (none) (i := 16) (oi := _) (v := ?_) rfl (by kernel_rfl) (by kernel_rfl) (by kernel_rfl) (by kernel_rfl) (fun _ _ _ h => h) S1.some (Or.inl ⟨by rfl, ?_⟩) (fun o _ => S1.of HG8.out o) ?_
          rotate_left
          · intro w hSw
            go_simp
            try with_reducible rfl
          simp only [Act.put, List.getElem_toArray, List.getElem_cons_succ, List.getElem_cons_zero, List.setIfInBounds_toArray, List.set_cons_zero, List.set_cons_succ]
          refine C_done (by kernel_rfl) ?_ _
          refine NoPanic.normal ?_
          have cO := HCO.out
          have ct := HV8.out.cell hqp
          have zt := HV8.out.frozen q
          have htq := HTI.out q
          have hq2 : (q : Int) < (p' : Int) := by omega
          have HV9 : Hid (Vec (w8.setCell ⟨bt, q, none⟩ (.int .i64 ((t q : Int) + 1))) bt p' (fun k => (bump t q 1 k : Int))) := (HV8.out.set hqp ((t q : Int) + 1)).congr fun k hk => by
            unfold upd bump
            by_cases e : k = q
            · rw [if_pos e, if_pos e, e, Int.natCast_add]; rfl
            · rw [if_neg e, if_neg e]
          have hon9 := only_setCell w8 bt q (.int .i64 ((t q : Int) + 1))
          have HBW9 := Lib.hid (HBW8.out.trans (hon9.below hlt5))
          have HI1m := Lib.hid (is_chg HI1n.out (Chg.only hon9) (fun b o e hx => by cases e; exact HB1N.out hx))
          have HI2m := Lib.hid (is_chg HI2n.out (Chg.only hon9) (fun b o e hx => by cases e; exact HB2N.out hx))
          clear hon9
          generalize t q = tq at *
          go_wp2_with fail
          go_roundw
          case rel => exact ⟨i + 1, bump t q 1, _, _, c1n, c2n, x1, x2, by omega, rfl, rfl, by go_num, HST2.out, HL2.out, HI1m.out, HI2m.out, fun b o e => (by cases e; exact HB1N.out), fun b o e => (by cases e; exact HB2N.out), HV9.out, HTI2.out, HBW9.out⟩
          case measure => simp [intOf]; omega
      exact AllC.nil
      --}
    · --{END
      obtain rfl : i = on := by omega
      have HFI := Lib.hid (HST.out.fine HOK.out hsp HL.out HS0.out HSUM.out)
      have HN1c : Hid (a1 = none → cn = 0) := fun e => by
        obtain ⟨_, _, e', _⟩ := HI1.out.cells 0 (by omega)
        rw [e] at e'; cases e'
      have HN2c : Hid (a2 = none → cn = 0) := fun e => by
        obtain ⟨_, _, e', _⟩ := HI2.out.cells 0 (by omega)
        rw [e] at e'; cases e'
      have l1' := row_range HGW.out
      go_wp2_with (refine wpList_load_mid rfl 24 _ rfl bg 0 rfl _ _ l1' Try.underlying24 rfl infoGraph ?_)
      clear l1'
      refine (route_any (cn : Int) (s : Int) ea m ec f a1 cn k1 l1 a2 cn k2 l2 wr (HE.out.keep HBF.out) hm HI1.out HI2.out hcn HN1c.out HN2c.out).mono ?_
      rintro en w8 ⟨hpost, hb8⟩
      have HG8 := Lib.hid (HGW.out.keep hb8 HGW.out.lt)
      have HV8 := Lib.hid (HV.out.keep hb8 HV.out.lt)
      have hb58 := HBW.out.trans (hb8.mono HBW.out.size)
      have HIA8 := Lib.hid (HIA.out.keep hb58)
      have HIW8 := Lib.hid (HIW.out.keep hb58)
      have HB8 := Lib.hid (HB.out.trans (hb58.mono HB.out.size))
      clear hb58 hb8
      rcases hpost with ⟨hf, _⟩ | ⟨_, hsum, _⟩ | ⟨_, _, p', s', b3, c3, b4, c4, u, hpp, hss, _, _, _, _, _, _, hlu, hdu, rfl, hib, him⟩
      · exact absurd HFI.out.2.1 hf
      · rw [Int.toNat_natCast] at hsum
        exact absurd HFI.out.2.2 (by omega)
      obtain rfl : p' = cn := by omega
      obtain rfl : s' = s := by omega
      obtain ⟨hon1, hon2, hon3, _⟩ := HST.out.on HOK.out hsp HL.out hlu
      have huA : (fun j => t j + u j) = uA := Leg.unique HLA.out HDA.out hon1 (hon2 hdu)
      have HUA : Hid (∀ k, t k + u k = uA k) := fun k => congrFun huA k
      have hlist : (lstF p' fun k => (sgU (bdG p' m s' f) (sgN l1) u k : Int)) = lstF p' fun k => (sgU (bdG p' m s' f) (sgN sz) uA k : Int) := lstF_congr fun k hk => by rw [hon3 k hk, huA]
      rw [hlist] at hib
      have HIB := Lib.hid hib
      have HIM := Lib.hid him
      have HSA : Hid (Stands p' s' m f (sgN sz) (sgN cz) uA (lstF p' fun k => (sgU (bdG p' m s' f) (sgN sz) uA k : Int)) (lstF p' fun k => (chU (bdG p' m s' f) (sgN sz) (sgN cz) uA k : Int))) := ⟨lstF_len, lstF_len, fun k hk => lstF_get hk, fun k hk => lstF_get hk⟩
      have HFA := Lib.hid (HSA.out.fine HOK.out hsp HLA.out HS0.out HSUM.out)
      have HBO := Lib.hid (bdG_ok HOK.out hsp)
      have HTREE : Hid (IsTree (bdG p' m s' f) (sgN sz) → IsTree (bdG p' m s' f) (sgN (lstF p' fun k => (sgU (bdG p' m s' f) (sgN sz) uA k : Int)))) := fun h => by
        have h1 := HLA.out.tree HBO.out (fun k hk hne => HSV.out k hk hne) h HDA.out
        exact tree_congr HBO.out (fun j hj => (HSA.out.n1 j hj).symm) (fun j hj hne => Nat.mod_lt _ (HBO.out.pos j hj hne)) h1
      clear hlu hdu hon1 hon2 hon3 huA hlist hib him hpp hss HSA
      generalize (lstF p' fun k => (sgU (bdG p' m s' f) (sgN sz) uA k : Int)) = xA at *
      go_wp2_with fail
      refine (Ints.ints_any _ _ p' p' c1' c3 xA xA w8 HIA8.out HIB.out).mono ?_
      rintro e9 w9 ⟨rfl, hb9⟩
      rw [show decide (xA = xA) = true from decide_eq_true rfl]
      have HG9 := Lib.hid (HG8.out.keep hb9 HG8.out.lt)
      have HV9 := Lib.hid (HV8.out.keep hb9 HV8.out.lt)
      have HIA9 := Lib.hid (HIA8.out.keep hb9)
      have HIW9 := Lib.hid (HIW8.out.keep hb9)
      have HIM9 := Lib.hid (HIM.out.keep hb9)
      have HB9 := Lib.hid (HB8.out.trans (hb9.mono HB8.out.size))
      have g0 := HG9.out.cell 0
      dsimp only [List.getElem?_cons_zero] at g0
      have bpp : ((p' : Int) != (p' : Int)) = false := bne_self_eq_false _
      clear hb9 HIB HIA8 HIW8 HIM HG8 HV8
      go_upto_region 23 with fail
      clear g0 bpp
      go_wp2_with fail
      go_loopw [29] (fun v wy => ∃ k : Nat, k ≤ p' ∧ v = .int .i64 (k : Int) ∧ Below w9.heap.size w9 wy) (fun v _ => p' - (intOf v).toNat)
      case atStart => exact ⟨0, Nat.zero_le _, rfl, Below.refl _ _⟩
      case round =>
        obtain ⟨k, hk, rfl, hby⟩ := hrel
        have HBY := Lib.hid hby
        have HGY := Lib.hid (HG9.out.keep hby HG9.out.lt)
        have HBF := Lib.hid (HB9.out.trans (hby.mono HB9.out.size))
        clear hby
        have g0 := HGY.out.cell 0
        dsimp only [List.getElem?_cons_zero] at g0
        by_cases hkl : k < p'
        · --{CMP
          have ct := (HV9.out.keep HBY.out HV9.out.lt).cell hkl
          obtain ⟨q1, r1, e1, _, cm⟩ := (HIM9.out.keep HBY.out).cells k hkl
          cases e1
          obtain ⟨q2, r2, e2, _, cw⟩ := (HIW9.out.keep HBY.out).cells k hkl
          cases e2
          dsimp only at cm cw
          rw [Nat.zero_add, lstF_get hkl] at cm cw
          have HSUM2 : Hid (wrap64 (wrap64 (u k : Int) + (t k : Int)) = wrap64 (uA k : Int)) := wrap_sum (HUA.out k)
          have hk2 : (k : Int) < (p' : Int) := by omega
          have htk := HTI.out k
          obtain ⟨x, hx⟩ : ∃ x, x = wrap64 (u k : Int) := ⟨_, rfl⟩
          obtain ⟨z, hz⟩ : ∃ z, z = wrap64 (uA k : Int) := ⟨_, rfl⟩
          rw [← hx, ← hz] at HSUM2
          rw [← hx] at cm
          rw [← hz] at cw
          have hb1 : (wrap64 (x + (t k : Int)) != z) = false := by rw [HSUM2.out]; exact bne_self_eq_false _
          have hb2 : (IntKind.i64.wrap (x + (t k : Int)) != z) = false := by
            rw [show IntKind.i64.wrap (x + (t k : Int)) = wrap64 (x + (t k : Int)) from by unfold wrap64; exact IntKind.wrap_i64 _]
            exact hb1
          generalize t k = tk at *
          clear hx hz HSUM2
          go_upto_region 26 with fail
          go_big_quiet (fail)
          have HBY := Lib.hid (below_drewN HBY.out nq)
          clear ct cm cw hb1 hb2 g0
          generalize wr.drewN nq = wz at *
          go_wp2_with fail
          go_roundw
          case rel => exact ⟨k + 1, by omega, by go_num, HBY.out⟩
          case measure => simp [intOf]; omega
          --}
        · --{FIN
          obtain rfl : k = p' := by omega
          have hsf : sfault (k : Int) m f (s' : Int) sz = 0 := sfault_ok (gok_fault HOK.out) (by omega) (by rw [HSZL.out]; omega) (by rw [Int.toNat_natCast, Int.toNat_natCast]; exact HSG.out)
          have HSF := Lib.hid hsf
          clear hsf
          go_upto_region 28 with fail
          clear g0
          have l2' := row_range HGY.out
          go_wp2_with (refine wpList_load_mid rfl 24 _ rfl bg 0 rfl _ _ l2' Try.underlying24 rfl infoGraph ?_)
          clear l2'
          refine (tree_any (k : Int) (s' : Int) ea m ec f sa k sc sz wr (HE.out.keep HBF.out) hm (HS.out.keep HBF.out) HSN.out).mono ?_
          intro e3 w10 hpost
          obtain ⟨⟨b1, rfl, hi1⟩, hb10⟩ := tree_out hpost
          obtain ⟨p4, s4, hp4, hs4, _, _, _, _, hb1⟩ := hi1 HSF.out
          obtain rfl : p4 = k := by omega
          obtain rfl : s4 = s' := by omega
          rw [errV_zero HSF.out]
          have HB1 := Lib.hid hb1
          have HGZ := Lib.hid (HGY.out.keep hb10 HGY.out.lt)
          have HBZ := Lib.hid (HBF.out.trans (hb10.mono HBF.out.size))
          have HIAZ := Lib.hid ((HIA9.out.keep HBY.out).keep hb10)
          clear hpost hi1 hb1 hp4 hs4 hb10
          go_upto_region 29 with fail
          have l3' := row_range HGZ.out
          go_wp2_with (refine wpList_load_mid rfl 24 _ rfl bg 0 rfl _ _ l3' Try.underlying24 rfl infoGraph ?_)
          clear l3'
          refine (tree_any (p4 : Int) (s4 : Int) ea m ec f _ p4 c1' xA w10 (HE.out.keep HBZ.out) hm HIAZ.out (fun h => by cases h)).mono ?_
          intro e3 w11 hpost
          obtain ⟨⟨b2, rfl, hi2⟩, hb11⟩ := tree_out hpost
          obtain ⟨p5, s5, hp5, hs5, _, _, _, _, hb2⟩ := hi2 HFA.out.1
          obtain rfl : p5 = p4 := by omega
          obtain rfl : s5 = s4 := by omega
          rw [errV_zero HFA.out.1]
          have HB2 : Hid (b1 = true → b2 = true) := fun h => hb2.2 (HTREE.out (HB1.out.1 h))
          have HBE := Lib.hid (HBZ.out.trans (hb11.mono HBZ.out.size))
          clear hpost hi2 hb2 hp5 hs5 hb11 HB1
          cases b1
          · go_wp2_with fail
            go_ret
            exact ⟨rfl, HBE.out⟩
          · have h2 : b2 = true := HB2.out rfl
            subst h2
            go_wp2_with fail
            go_ret
            exact ⟨rfl, HBE.out⟩
          --}
      --}
end Rt
end Go.Proofs.Ytjikildiblchpaa
