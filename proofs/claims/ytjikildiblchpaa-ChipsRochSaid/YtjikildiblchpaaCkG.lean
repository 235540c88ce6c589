/- WALK: chips.Rank. -/
import Derived.Test.YtjikildiblchpaaCkF
namespace Go.Proofs.Ytjikildiblchpaa
set_option linter.unusedSimpArgs false
set_option linter.unusedVariables false
open Go.RowKit Go.Lib
namespace Ch
open Tld Mem Rt

set_option maxHeartbeats 16000000 in
set_option maxRecDepth 1000000 in
theorem rankP_any (P : Int) (ea : Option Addr) (m ec : Nat) (f : Nat → Nat → Int) (da : Option Addr) (dn dc : Nat) (zs : List Int) (w : World) (hE : Mem.Rows w ea m 3 (fun i j => .int .i64 (f i j))) (hm : m ≤ 9223372036854775807) (hD : Ints.Is w da dn zs) :
    Calls Try.prog 17 #[.agg #[.int .i64 P, .slice ea m ec], .slice da dn dc] w (RankPost P m f zs w) := by
  have HE := Lib.hid hE
  have HD := Lib.hid hD
  have HDL := Lib.hid hD.len
  clear hE hD
  go_enter Try.func17, Try.ntmps17
  go_upto_region 1 with fail
  have hs1 : (w.alloc (.cells #[.int .i64 P, .slice ea m ec] 24)).heap.size = w.heap.size + 1 := by simp
  have hR : Row (w.alloc (.cells #[.int .i64 P, .slice ea m ec] 24)) w.heap.size 24 [.int .i64 P, .slice ea m ec] := row_alloc w _ _
  have hB : Below w.heap.size w (w.alloc (.cells #[.int .i64 P, .slice ea m ec] 24)) := (Below.refl _ _).alloc (Nat.le_refl _) _
  have hR2 := row_alloc (w.alloc (.cells #[.int .i64 P, .slice ea m ec] 24)) 25 [.slice da dn dc]
  have hB2 : Below (w.heap.size + 1) (w.alloc (.cells #[.int .i64 P, .slice ea m ec] 24)) ((w.alloc (.cells #[.int .i64 P, .slice ea m ec] 24)).alloc (.cells [.slice da dn dc].toArray 25)) := (Below.refl _ _).alloc (by rw [hs1]; exact Nat.le_refl _) _
  rw [hs1] at hR2
  have HG := Lib.hid (hR.keep hB2 (Nat.lt_succ_self _))
  have HXD := Lib.hid hR2
  have HB := Lib.hid (hB.trans (hB2.mono (Nat.le_succ _)))
  clear hR hB hR2 hB2 hs1
  obtain ⟨xd, hxd⟩ : ∃ q, q = w.heap.size + 1 := ⟨_, rfl⟩
  rw [← hxd] at HXD
  rw [← hxd]
  clear hxd
  generalize (w.alloc (.cells #[.int .i64 P, .slice ea m ec] 24)).alloc (.cells #[.slice da dn dc] 25) = w1 at *
  have hr := row_alloc w1 25 [.slice da dn dc]
  have hbn : Below w1.heap.size w1 (w1.alloc (.cells [.slice da dn dc].toArray 25)) := (Below.refl _ _).alloc (Nat.le_refl _) _
  have HB2 := Lib.hid (HB.out.trans (hbn.mono HB.out.size))
  have HG2 := Lib.hid (HG.out.keep hbn HG.out.lt)
  have HXD2 := Lib.hid (HXD.out.keep hbn HXD.out.lt)
  have HL := Lib.hid (lst_one hr (HD.out.keep HB2.out))
  have l1 := row_range HG.out
  have x1 := HXD.out.cell 0
  dsimp only [List.getElem?_cons_zero] at x1
  clear hr hbn
  go_wp2_with (refine wpList_load_mid rfl 24 _ rfl w.heap.size 0 rfl _ _ l1 Try.underlying24 rfl infoGraph ?_)
  clear l1 HG HB HXD x1
  refine (chk_any P ea m ec f _ 1 1 [zs] _ _ _ (rows_keep HE.out HB2.out) hm HL.out rfl (by omega)).mono ?_
  clear HL
  generalize w1.alloc (.cells [.slice da dn dc].toArray 25) = w2 at *
  rintro e1 w3 ⟨⟨hf, rfl⟩ | ⟨hf, bn, rfl, hnet⟩, hb3⟩
  · have HX : Hid (∀ v, RankPost P m f zs w (.returned (.tuple #[.int .i64 0, .slice none 0 0, errV (chfault P m f [zs])])) (w3.alloc (.cells #[v] 61))) := fun v => ⟨.inl ⟨hf, rfl⟩, (HB2.out.trans (hb3.mono HB2.out.size)).trans ((Below.refl _ _).alloc (by have := HB2.out.size; have := hb3.size; omega) _)⟩
    rw [errV_some hf] at HX ⊢
    clear hf hb3
    go_wp2_with fail
    go_ret3
    exact HX.out _
  · obtain ⟨p, rfl, hok, hzl, hz⟩ := chfault_one hf
    have HF := Lib.hid hf
    have HOK := Lib.hid hok
    have HZ := Lib.hid hz
    have hdp : dn = p := by rw [← HDL.out]; exact hzl
    subst hdp
    have HGR := Lib.hid (gr_of hok)
    have h0 := hok.p1
    have hp10 := hok.p10
    rw [Int.toNat_natCast] at hnet
    go_upto_region 2 with fail
    have rn := row_alloc w3 61 [.pointer (some ⟨bn, 0, none⟩)]
    have b4 : Below w3.heap.size w3 (w3.alloc (.cells [.pointer (some ⟨bn, 0, none⟩)].toArray 61)) := (Below.refl _ _).alloc (Nat.le_refl _) _
    have b34 := hb3.trans (b4.mono hb3.size)
    have HG4 := Lib.hid (HG2.out.keep b34 HG2.out.lt)
    have HXD4 := Lib.hid (HXD2.out.keep b34 HXD2.out.lt)
    have HB4 := Lib.hid (HB2.out.trans (b34.mono HB2.out.size))
    have HD4 := Lib.hid (HD.out.keep HB4.out)
    have HN := Lib.hid (hnet.keep b4)
    have HXN := Lib.hid rn
    clear hf hok hz hnet hb3 hzl HG2 HB2 HXD2 rn b4 b34
    obtain ⟨xn, hxn⟩ : ∃ q, q = w3.heap.size := ⟨_, rfl⟩
    rw [← hxn] at HXN
    rw [← hxn]
    clear hxn
    generalize w3.alloc (.cells #[.pointer (some ⟨bn, 0, none⟩)] 61) = w4 at *
    have g0 := HG4.out.cell 0
    dsimp only [List.getElem?_cons_zero] at g0
    have x0 := HXD4.out.cell 0
    dsimp only [List.getElem?_cons_zero] at x0
    by_cases h6 : (6 : Int) < (dn : Int)
    · have HX : Hid (RankPost (dn : Int) m f zs w (.returned (.tuple #[.int .i64 0, .slice none 0 0, .iface 59 (.int .i64 4)])) w4) := ⟨.inr (.inl ⟨HF.out, .inl h6, by rw [errV_some (n := 4) (by decide)]⟩), HB4.out⟩
      go_wp2_with fail
      go_ret3
      exact HX.out
    have HSE : Hid (sumZ (fun k => zs.getD k 0) (dn : Int).toNat = sumZ (fun k => zs.getD k 0) dn) := by show _ = _; rw [Int.toNat_natCast]
    obtain ⟨s, hs⟩ : ∃ s, s = sumZ (fun k => zs.getD k 0) dn := ⟨_, rfl⟩
    have HS := Lib.hid hs
    have HCS := Lib.hid (csum_any da dn dc zs w4 HD4.out (by omega))
    rw [wrap_sum (by omega) (wide HZ.out), ← hs] at HCS
    clear hs
    by_cases h12 : 12 < s
    · have HX : Hid (RankPost (dn : Int) m f zs w (.returned (.tuple #[.int .i64 0, .slice none 0 0, .iface 59 (.int .i64 4)])) w4) := ⟨.inr (.inl ⟨HF.out, .inr (by rw [HSE.out, ← HS.out]; exact h12), by rw [errV_some (n := 4) (by decide)]⟩), HB4.out⟩
      go_wp2_with fail
      refine HCS.out.mono ?_
      rintro e1 w5 ⟨rfl, rfl⟩
      go_wp2_with fail
      go_ret3
      exact HX.out
    go_wp2_with fail
    refine HCS.out.mono ?_
    rintro e1 w5 ⟨rfl, rfl⟩
    clear HCS
    go_wp2_with fail
    clear g0 x0
    go_loopw [9] (fun z wr => ∃ k : Nat, k ≤ 13 ∧ z = .int .i64 (k : Int) ∧ (∀ j : Nat, j < k → AllW dn (Tak dn (fun a b => btw f a b m) zs) (j : Int)) ∧ Below w5.heap.size w5 wr) (fun z _ => 14 - (intOf z).toNat)
    case atStart => exact ⟨0, by omega, rfl, fun j hj => absurd hj (Nat.not_lt_zero _), Below.refl _ _⟩
    case round =>
      obtain ⟨k, hk, rfl, hless, hb⟩ := hrel
      have HLS := Lib.hid hless
      have HBR := Lib.hid (HB4.out.trans (hb.mono HB4.out.size))
      have HB5 := Lib.hid hb
      have hxl := row_alloc wr 25 [.slice none 0 0]
      have hbl : Below wr.heap.size wr (wr.alloc (.cells [Value.slice none 0 0].toArray 25)) := (Below.refl _ _).alloc (Nat.le_refl _) _
      have hxd := (HXD4.out.keep hb HXD4.out.lt).cell 0
      have hxn := (HXN.out.keep hb HXN.out.lt).cell 0
      dsimp only [List.getElem?_cons_zero] at hxd hxn
      have g0 := ((HG4.out.keep hb HG4.out.lt).keep hbl (HG4.out.keep hb HG4.out.lt).lt).cell 0
      dsimp only [List.getElem?_cons_zero] at g0
      have HEF := Lib.hid (effective_any dn (fun a b => btw f a b m) (fun a => deg f a m) bn da dc zs wr _ (k : Int) xd xn wr.heap.size _ HGR.out h0 (HN.out.keep hb) hxd hxn (HD.out.keep HBR.out) HZ.out (by omega) (by omega) (Nat.le_refl _) hxl hbl)
      clear hless hb hxl hbl hxd hxn
      go_upto_region 9 with fail
      generalize wr.alloc (.cells #[Value.slice none 0 0] 25) = w6 at *
      go_wp2_with fail
      refine HEF.out.mono ?_
      rintro e1 w7 ⟨⟨rfl, hall⟩ | ⟨rfl, g, a, c, hfst, hl, hi⟩, hb7⟩
      · have hk12 : (k : Int) ≤ s := by rw [HS.out]; exact won_small HGR.out.sym (by omega) h0 hall
        have HLS2 : Hid (∀ j : Nat, j < k + 1 → AllW dn (Tak dn (fun a b => btw f a b m) zs) (j : Int)) := fun j hj => by
          by_cases c : j = k
          · rw [c]; exact hall
          · exact HLS.out j (by omega)
        have HB7 := Lib.hid (HB5.out.trans (hb7.mono HB5.out.size))
        clear hall hb7 HEF
        go_wp2_with fail
        go_roundw
        case rel => exact ⟨k + 1, by omega, by go_num, HLS2.out, HB7.out⟩
        case measure => simp [intOf]; omega
      · have hk1 : (-9223372036854775808 : Int) ≤ (k : Int) - 1 := by omega
        have hk2 : (k : Int) - 1 ≤ 9223372036854775807 := by omega
        have HX : Hid (∀ nq : Nat, RankPost (dn : Int) m f zs w (.returned (.tuple #[.int .i64 ((k : Int) - 1), .slice a dn c, .nilIface])) (w7.drewN nq)) := fun nq => ⟨.inr (.inr ⟨HF.out, by omega, by rw [HSE.out, ← HS.out]; omega, dn, k, c, a, g, rfl, hk, ⟨HLS.out, hfst⟩, rfl, ⟨hi.len, hi.cells, hi.le⟩⟩), below_drewN (HBR.out.trans (hb7.mono HBR.out.size)) nq⟩
        clear hfst hi hb7 HEF
        go_upto_region 11 with fail
        go_big_quiet (fail)
        go_wp2_with fail
        go_ret3
        exact HX.out _
end Ch
end Go.Proofs.Ytjikildiblchpaa
