/- THE LAW ChipsRoch (Riemann and Roch's theorem on graphs): its walk, out of its callees' contracts. Printed by gens/chroch.py. -/
import Derived.Test.YtjikildiblchpaaCkX
namespace Go.Proofs.Ytjikildiblchpaa
set_option linter.unusedSimpArgs false
set_option linter.unusedVariables false
open Go.RowKit Go.Lib
namespace Ch
open Tld Mem Rt

theorem cell_grown {w w' : World} {B b o n : Nat} {e : TypeId} {v : Value} {xs : List Value} (hg : w.grownBy w' v.ownBlock) (ho : w.ownsRow B e 1 v n xs) (hb : b < B) (hl : b < w.heap.size) : w'.cell? ⟨b, o, none⟩ = w.cell? ⟨b, o, none⟩ :=
  World.cell?_of_block (hg.block b hl (fun e => by have := own_low ho b e.symm; omega))
theorem lstF_snoc {n : Nat} {F : Nat → Int} : (lstF (n + 1) F).map (Value.int .i64) = (lstF n F).map (Value.int .i64) ++ [.int .i64 (F n)] := by
  unfold lstF
  rw [List.range_succ, List.map_append, List.map_append]; rfl

set_option maxHeartbeats 64000000 in
set_option maxRecDepth 1000000 in
theorem chipsRoch_any (P : Int) (ea : Option Addr) (m ec : Nat) (f : Nat → Nat → Int) (da : Option Addr) (dn dc : Nat) (zs : List Int) (oa : Option Addr) (on oc : Nat) (ys : List Int) (w : World) (hE : Mem.Rows w ea m 3 (fun i j => .int .i64 (f i j))) (hm : m ≤ 9223372036854775807) (hD : Ints.Is w da dn zs) (hO : Ints.Is w oa on ys) :
    Calls Try.prog 6 #[.agg #[.int .i64 P, .slice ea m ec], .slice da dn dc, .slice oa on oc] w fun e w' => e = .returned (.bool true) ∧ Below w.heap.size w w' := by
  obtain ⟨i0, hI0, hz0, hz1, hz2⟩ := info_parts infoIntN
  have HI0 := Lib.hid hI0
  have HZ0 := Lib.hid hz0
  have HZ1 := Lib.hid hz1
  have HZ2 := Lib.hid hz2
  clear hI0 hz0 hz1 hz2
  have HE := Lib.hid hE
  have HD := Lib.hid hD
  have HO := Lib.hid hO
  have HDL := Lib.hid hD.len
  have HOL := Lib.hid hO.len
  clear hE hD hO
  go_enter Try.func6, Try.ntmps6
  go_upto_region 1 with fail
  have hR : Row (w.alloc (.cells #[.int .i64 P, .slice ea m ec] 24)) w.heap.size 24 [.int .i64 P, .slice ea m ec] := row_alloc w _ _
  have hB : Below w.heap.size w (w.alloc (.cells #[.int .i64 P, .slice ea m ec] 24)) := (Below.refl _ _).alloc (Nat.le_refl _) _
  have HG := Lib.hid hR
  have HB := Lib.hid hB
  clear hR hB
  generalize w.alloc (.cells #[.int .i64 P, .slice ea m ec] 24) = w1 at *
  go_upto_region 2 with fail
  have hrE : Row (w1.alloc (.cells #[.int .i64 0, .int .i64 1, .int .i64 2] 27)) w1.heap.size 27 [.int .i64 0, .int .i64 1, .int .i64 2] := row_alloc w1 _ _
  have hbE : Below w1.heap.size w1 (w1.alloc (.cells #[.int .i64 0, .int .i64 1, .int .i64 2] 27)) := (Below.refl _ _).alloc (Nat.le_refl _) _
  have hsE : (w1.alloc (.cells #[.int .i64 0, .int .i64 1, .int .i64 2] 27)).heap.size = w1.heap.size + 1 := by simp
  have hrO := row_alloc (w1.alloc (.cells #[.int .i64 0, .int .i64 1, .int .i64 2] 27)) 24 [.int .i64 2, .slice (some ⟨w1.heap.size, 0, none⟩) 1 1]
  have hbO : Below (w1.heap.size + 1) (w1.alloc (.cells #[.int .i64 0, .int .i64 1, .int .i64 2] 27)) ((w1.alloc (.cells #[.int .i64 0, .int .i64 1, .int .i64 2] 27)).alloc (.cells [.int .i64 2, .slice (some ⟨w1.heap.size, 0, none⟩) 1 1].toArray 24)) := (Below.refl _ _).alloc (by rw [hsE]; exact Nat.le_refl _) _
  rw [hsE] at hrO
  have HRE := Lib.hid (t2_rows (hrE.keep hbO (by omega)))
  have HRO := Lib.hid hrO
  have hbB := hbE.trans (hbO.mono (by omega))
  have HG := Lib.hid (HG.out.keep hbB HG.out.lt)
  have HB := Lib.hid (HB.out.trans (hbB.mono HB.out.size))
  clear hrE hbE hsE hrO hbO hbB
  generalize (w1.alloc (.cells #[.int .i64 0, .int .i64 1, .int .i64 2] 27)).alloc (.cells #[.int .i64 2, .slice (some ⟨w1.heap.size, 0, none⟩) 1 1] 24) = w2 at *
  obtain ⟨bo, hbo⟩ : ∃ b, b = w1.heap.size + 1 := ⟨_, rfl⟩
  obtain ⟨be, hbe⟩ : ∃ b, b = w1.heap.size := ⟨_, rfl⟩
  rw [← hbo, ← hbe] at HRO
  rw [← hbe] at HRE
  rw [← hbo, ← hbe]
  clear hbo hbe
  have l1 := row_range HRO.out
  have hr4 := row_alloc w2 3 [.int .i64 2, .int .i64 0]
  have hb4 : Below w2.heap.size w2 (w2.alloc (.cells [.int .i64 2, .int .i64 0].toArray 3)) := (Below.refl _ _).alloc (Nat.le_refl _) _
  have HI4 := Lib.hid (own_is (B := 0) (zs := [2, 0]) (own_made hr4 (Nat.zero_le _) (by unfold maxLen; decide)) rfl (by unfold maxLen; decide)).1
  have HRE := Lib.hid (rows_keep HRE.out hb4)
  have HG := Lib.hid (HG.out.keep hb4 HG.out.lt)
  have HB := Lib.hid (HB.out.trans (hb4.mono HB.out.size))
  clear hr4 hb4
  go_wp2_with (refine wpList_load_mid rfl 24 _ rfl bo 0 rfl _ _ l1 Try.underlying24 rfl infoGraph ?_)
  clear l1 HRO
  generalize w2.alloc (.cells #[.int .i64 2, .int .i64 0] 3) = w3 at *
  refine (rk_any 2 _ 1 1 t2 _ 2 2 [2, 0] w3 HRE.out t2_ok (by omega) HI4.out).mono ?_
  rintro e1 w4 ⟨⟨z, rfl, hbad⟩ | ⟨_, _, k0, c0, a0, hk0, _, rfl⟩, hb⟩
  · exact absurd hbad (by decide)
  obtain rfl := t2_rk hk0
  rw [show (((2 : Nat) : Int) - 1) = 1 from rfl]
  have HG := Lib.hid (HG.out.keep hb HG.out.lt)
  have HB := Lib.hid (HB.out.trans (hb.mono HB.out.size))
  clear hb hk0 HRE HI4
  by_cases hg : gfault P m f = 0
  rotate_left
  · --{BAD
    have HC1 : Hid (chfault P m f [zs] ≠ 0) := by show _ ≠ _; rw [chfault_g hg]; exact hg
    have HGN := Lib.hid hg
    clear hg
    have l1 := row_range HG.out
    go_wp2_with (refine wpList_load_mid rfl 24 _ rfl w.heap.size 0 rfl _ _ l1 Try.underlying24 rfl infoGraph ?_)
    clear l1
    refine (rankP_any P ea m ec f da dn dc zs w4 (rows_keep HE.out HB.out) hm (HD.out.keep HB.out)).mono ?_
    rintro e1 w11 ⟨⟨hf, rfl⟩ | ⟨hf, _⟩ | ⟨hf, _⟩, hb⟩
    rotate_left
    · exact absurd hf HC1.out
    · exact absurd hf HC1.out
    have HG := Lib.hid (HG.out.keep hb HG.out.lt)
    have HB := Lib.hid (HB.out.trans (hb.mono HB.out.size))
    clear hb
    rw [errV_some hf]
    clear hf
    have l1 := row_range HG.out
    go_wp2_with (refine wpList_load_mid rfl 24 _ rfl w.heap.size 0 rfl _ _ l1 Try.underlying24 rfl infoGraph ?_)
    clear l1
    refine (genusP_any P ea m ec f w11 (rows_keep HE.out HB.out) hm).mono ?_
    rintro e1 w12 ⟨⟨hf, rfl⟩ | ⟨hf, _⟩, hb⟩
    rotate_left
    · exact absurd hf HGN.out
    have HG := Lib.hid (HG.out.keep hb HG.out.lt)
    have HB := Lib.hid (HB.out.trans (hb.mono HB.out.size))
    clear hb
    rw [errV_some hf]
    clear hf
    have l1 := row_range HG.out
    go_wp2_with (refine wpList_load_mid rfl 24 _ rfl w.heap.size 0 rfl _ _ l1 Try.underlying24 rfl infoGraph ?_)
    clear l1
    refine (canP_any P ea m ec f w12 (rows_keep HE.out HB.out) hm).mono ?_
    rintro e1 w13 ⟨⟨hf, rfl⟩ | ⟨hf, _⟩, hb⟩
    rotate_left
    · exact absurd hf HGN.out
    have HG := Lib.hid (HG.out.keep hb HG.out.lt)
    have HB := Lib.hid (HB.out.trans (hb.mono HB.out.size))
    clear hb
    rw [errV_some hf]
    clear hf
    go_wp2_with fail
    go_ret
    exact ⟨rfl, HB.out⟩
  obtain ⟨p, rfl, hok⟩ := gfault_zero hg
  have HGF := Lib.hid hg
  have HOK := Lib.hid hok
  have hp10 := hok.p10
  have HP1 : Hid (p ≤ maxLen) := by unfold maxLen; show _ ≤ _; omega
  clear hg hok
  have l1 := row_range HG.out
  go_wp2_with (refine wpList_load_mid rfl 24 _ rfl w.heap.size 0 rfl _ _ l1 Try.underlying24 rfl infoGraph ?_)
  clear l1
  refine (rk_any p ea m ec f da dn dc zs w4 (rows_keep HE.out HB.out) HGF.out hm (HD.out.keep HB.out)).mono ?_
  rintro e1 w14 ⟨⟨z, rfl, hbad⟩ | ⟨hd0, hp6, k1, c1, a1, hk1, hk13, rfl⟩, hb⟩
  · --{LOST
    have HG := Lib.hid (HG.out.keep hb HG.out.lt)
    have HB := Lib.hid (HB.out.trans (hb.mono HB.out.size))
    clear hb hbad
    have l1 := row_range HG.out
    go_wp2_with (refine wpList_load_mid rfl 24 _ rfl w.heap.size 0 rfl _ _ l1 Try.underlying24 rfl infoGraph ?_)
    clear l1
    refine (genusP_any p ea m ec f w14 (rows_keep HE.out HB.out) hm).mono ?_
    rintro e1 w15 ⟨⟨hf, rfl⟩ | ⟨hf, rfl⟩, hb⟩
    · exact absurd HGF.out hf
    have HG := Lib.hid (HG.out.keep hb HG.out.lt)
    have HB := Lib.hid (HB.out.trans (hb.mono HB.out.size))
    clear hb hf
    rw [Int.toNat_natCast]
    have l1 := row_range HG.out
    go_wp2_with (refine wpList_load_mid rfl 24 _ rfl w.heap.size 0 rfl _ _ l1 Try.underlying24 rfl infoGraph ?_)
    clear l1
    refine (canP_any p ea m ec f w15 (rows_keep HE.out HB.out) hm).mono ?_
    rintro e1 w16 ⟨⟨hf, rfl⟩ | ⟨hf, p', ca, cc, hp', rfl, hC⟩, hb⟩
    · exact absurd HGF.out hf
    obtain rfl : p = p' := by omega
    have HC := Lib.hid hC
    have HG := Lib.hid (HG.out.keep hb HG.out.lt)
    have HB := Lib.hid (HB.out.trans (hb.mono HB.out.size))
    clear hb hf hp' hC
    go_wp2_with fail
    go_ret
    exact ⟨rfl, HB.out⟩
  have hdp := dfault_len hd0 HDL.out
  subst hdp
  have HZ := Lib.hid (dfault_zero hd0).2
  have HK1 := Lib.hid hk1
  obtain ⟨r, hr⟩ : ∃ r, r = (k1 : Int) - 1 := ⟨_, rfl⟩
  rw [← hr]
  have hr1 : -1 ≤ r := by omega
  have hr2 : r ≤ 12 := by omega
  have HR := Lib.hid hr
  have HG := Lib.hid (HG.out.keep hb HG.out.lt)
  have HB := Lib.hid (HB.out.trans (hb.mono HB.out.size))
  clear hb hd0 hk1 hr hk13
  have l1 := row_range HG.out
  go_wp2_with (refine wpList_load_mid rfl 24 _ rfl w.heap.size 0 rfl _ _ l1 Try.underlying24 rfl infoGraph ?_)
  clear l1
  refine (genusP_any dn ea m ec f w14 (rows_keep HE.out HB.out) hm).mono ?_
  rintro e1 w17 ⟨⟨hf, rfl⟩ | ⟨hf, rfl⟩, hb⟩
  · exact absurd HGF.out hf
  have HG := Lib.hid (HG.out.keep hb HG.out.lt)
  have HB := Lib.hid (HB.out.trans (hb.mono HB.out.size))
  clear hb hf
  rw [Int.toNat_natCast]
  have l1 := row_range HG.out
  go_wp2_with (refine wpList_load_mid rfl 24 _ rfl w.heap.size 0 rfl _ _ l1 Try.underlying24 rfl infoGraph ?_)
  clear l1
  refine (canP_any dn ea m ec f w17 (rows_keep HE.out HB.out) hm).mono ?_
  rintro e1 w18 ⟨⟨hf, rfl⟩ | ⟨hf, p', ca, cc, hp', rfl, hC⟩, hb⟩
  · exact absurd HGF.out hf
  obtain rfl : dn = p' := by omega
  have HC := Lib.hid hC
  have HG := Lib.hid (HG.out.keep hb HG.out.lt)
  have HB := Lib.hid (HB.out.trans (hb.mono HB.out.size))
  clear hb hf hp' hC
  obtain ⟨gz, hgz⟩ : ∃ z, z = genZ dn m f := ⟨_, rfl⟩
  have HGZ := Lib.hid hgz
  have hg1 := genZ_small HOK.out
  rw [← hgz] at hg1
  obtain ⟨hg1, hg2⟩ := hg1
  rw [← hgz]
  clear hgz
  obtain ⟨ks, hks⟩ : ∃ ks, ks = canL dn m f dn := ⟨_, rfl⟩
  have HKS := Lib.hid hks
  rw [← hks] at HC
  clear hks
  have HKB : Hid (∀ k, k < dn → -5000 ≤ ks.getD k 0 ∧ ks.getD k 0 ≤ 5000) := fun k hk => by
    have := canL_small HOK.out hk
    rw [HKS.out]
    omega
  have HZB : Hid (∀ k, k < dn → -5000 ≤ zs.getD k 0 ∧ zs.getD k 0 ≤ 5000) := fun k hk => by
    have := HZ.out k hk
    omega
  go_wp2_with fail
  obtain ⟨B1, hB1⟩ : ∃ b, b = w18.heap.size := ⟨_, rfl⟩
  have HBE := Lib.hid hB1
  have HX := Lib.hid (HC.out)
  have HY := Lib.hid ((HD.out.keep HB.out))
  clear hB1
  go_loopw [18, 19] (fun y z wx => ∃ k : Nat, k ≤ dn ∧ z = .int .i64 (k : Int) ∧ wx.ownsRow B1 3 1 y k ((lstF k fun j => ks.getD j 0 - zs.getD j 0).map (Value.int .i64)) ∧ Below B1 w18 wx) (fun _ z _ => dn - (intOf z).toNat)
  case atStart => exact ⟨0, Nat.zero_le _, rfl, own_nil _ _, Below.refl _ _⟩
  case round =>
    obtain ⟨k, hkp, rfl, hown, hbx⟩ := hrel
    obtain ⟨ay, cy, rfl⟩ := own_slice hown
    have HU := Lib.hid hown
    have HL := Lib.hid hbx
    have hszr : B1 ≤ wr.heap.size := by have := HL.out.size; have := HBE.out; omega
    clear hown hbx
    by_cases hk : k < dn
    · have hk2 : (k : Int) < (dn : Int) := by omega
      obtain ⟨bx, ox, ex, hbx, hcx⟩ := HX.out.cells k hk
      obtain ⟨bz, oz, ez, hbz, hcz⟩ := HY.out.cells k hk
      dsimp only at hcx hcz
      have c1 : wr.cell? ⟨bx, ox + k, none⟩ = some (.int .i64 (ks.getD k 0)) := cell_keep hcx (by rw [← HBE.out]; exact HL.out)
      have c2 : wr.cell? ⟨bz, oz + k, none⟩ = some (.int .i64 (zs.getD k 0)) := cell_keep hcz (by rw [← HBE.out]; exact HL.out)
      have hbxB : bx < B1 := by rw [HBE.out]; exact hbx
      have hbzB : bz < B1 := by rw [HBE.out]; exact hbz
      have hbxr : bx < wr.heap.size := by omega
      have hbzr : bz < wr.heap.size := by omega
      have HNX : Hid ((lstF (k + 1) fun j => ks.getD j 0 - zs.getD j 0).map (Value.int .i64) = ((lstF k fun j => ks.getD j 0 - zs.getD j 0).map (Value.int .i64)) ++ [.int .i64 (ks.getD k 0 - zs.getD k 0)]) := lstF_snoc
      have hx1 := HKB.out k hk
      have hy1 := HZB.out k hk
      subst ex
      subst ez
      obtain ⟨x, hx⟩ : ∃ x, x = ks.getD k 0 := ⟨_, rfl⟩
      rw [← hx] at c1 hx1 HNX
      clear hx
      obtain ⟨y, hy⟩ : ∃ y, y = zs.getD k 0 := ⟨_, rfl⟩
      rw [← hy] at c2 hy1 HNX
      clear hy hcx hcz
      have u1 : IntKind.i64.wrap (x - y) = x - y := by rw [IntKind.wrap_i64]; omega
      have HAL : Hid (Below wr.heap.size wr (wr.alloc (.cells #[.int .i64 (x - y)] 3)).drew) := ((Below.refl _ _).alloc (Nat.le_refl _) (.cells #[.int .i64 (x - y)] 3)).drew
      go_upto_region 14 with fail
      go_region_held3 (fun w' => w'.cell? ⟨bx, ox + k, none⟩ = some (.int .i64 x) ∧ w'.cell? ⟨bz, oz + k, none⟩ = some (.int .i64 y))
        (first
          | go_keep
          | (refine ⟨?_, ?_⟩
             · exact (cell_grown hg2 HOA.out hbxB (by simp; omega)).trans ((HAL.out.cell (p := ⟨bx, ox + k, none⟩) hbxr).trans c1)
             · exact (cell_grown hg2 HOA.out hbzB (by simp; omega)).trans ((HAL.out.cell (p := ⟨bz, oz + k, none⟩) hbzr).trans c2)))
        ((have HOA := Lib.hid (own_keep HU.out HAL.out); refine step_append1 (by rfl) _ _ 25 (by rfl) B1 3 i0 (.int .i64 0) 8 Try.underlying25 HI0.out HZ0.out rfl HZ1.out HZ2.out _ _ _ (by rfl) HOA.out ⟨wr.heap.size, 0, none⟩ 1 (.int .i64 (x - y)) (by rfl) ((row_alloc wr 3 [.int .i64 (x - y)]).drew.cell 0) rfl (by unfold maxLen; omega) (by omega) (by simp; omega) ?_; intro ao2 co2 w2 hO2 hg2))
      rw [← HNX.out] at hO2
      have HU2 := Lib.hid hO2
      have HL2 := Lib.hid ((HL.out.trans (HAL.out.mono hszr)).grown hg2 (by have h2 := HAL.out.size; omega) (own_low HOA.out))
      clear hO2 hg2 HOA HAL c1 c2 u1 hbxB hbzB hbxr hbzr HNX HU HL
      go_wp2_with fail
      go_roundw
      case rel => exact ⟨k + 1, by omega, by go_num, HU2.out, HL2.out⟩
      case measure => simp [intOf]; omega
    · obtain rfl : k = dn := by omega
      obtain ⟨dn, rfl⟩ : ∃ q, q = k := ⟨_, rfl⟩
      have hb : Below w18.heap.size w18 wr := by rw [← HBE.out]; exact HL.out
      have HQ := Lib.hid (own_is HU.out lstF_len HP1.out).1
      clear HX HY HU HL HBE hszr
      have HG := Lib.hid (HG.out.keep hb HG.out.lt)
      have HC := Lib.hid (HC.out.keep hb)
      have HB := Lib.hid (HB.out.trans (hb.mono HB.out.size))
      clear hb
      have HLR : Hid (∀ q, Rk dn (fun a b => btw f a b m) (fun k => (lstF dn fun j => ks.getD j 0 - zs.getD j 0).getD k 0) q → ((k1 : Int) - 1) - ((q : Int) - 1) = sumZ (fun k => zs.getD k 0) dn - genZ dn m f + 1) := fun q hq => roch HOK.out (fun j hj => by rw [lstF_get hj, HKS.out]) HK1.out hq
      obtain ⟨rs, hrs⟩ : ∃ rs, rs = (lstF dn fun j => ks.getD j 0 - zs.getD j 0) := ⟨_, rfl⟩
      rw [← hrs] at HQ HLR
      have HRL : Hid (rs.length = dn) := by show _ = _; rw [hrs]; exact lstF_len
      clear hrs
      have l1 := row_range HG.out
      go_wp2_with (refine wpList_load_mid rfl 24 _ rfl w.heap.size 0 rfl _ _ l1 Try.underlying24 rfl infoGraph ?_)
      clear l1
      refine (rk_any dn ea m ec f _ dn _ rs wr (rows_keep HE.out HB.out) HGF.out hm HQ.out).mono ?_
      rintro e1 w19 ⟨⟨z, rfl, hbad⟩ | ⟨_, _, k2, c2, a2, hk2, hk23, rfl⟩, hb⟩
      · --{RLOST
        have HG := Lib.hid (HG.out.keep hb HG.out.lt)
        have HC := Lib.hid (HC.out.keep hb)
        have HQ := Lib.hid (HQ.out.keep hb)
        have HB := Lib.hid (HB.out.trans (hb.mono HB.out.size))
        have HBD := Lib.hid hbad
        clear hb hbad HLR
        go_wp2_with fail
        refine (rsumZ_any da dn dc zs w19 (HD.out.keep HB.out) hp10).mono ?_
        rintro e1 w20 ⟨rfl, rfl⟩
        generalize wrap64 (sumZ (fun k => zs.getD k 0) dn) = dg at *
        have l1 := row_range HG.out
        go_wp2_with (refine wpList_load_mid rfl 24 _ rfl w.heap.size 0 rfl _ _ l1 Try.underlying24 rfl infoGraph ?_)
        clear l1
        refine (rdiv_any dn ea m ec _ dn _ rs w20 HQ.out hp10).mono ?_
        rintro e1 w21 ⟨rfl, hb⟩
        have HG := Lib.hid (HG.out.keep hb HG.out.lt)
        have HC := Lib.hid (HC.out.keep hb)
        have HQ := Lib.hid (HQ.out.keep hb)
        have HB := Lib.hid (HB.out.trans (hb.mono HB.out.size))
        clear hb
        go_wp2_with fail
        refine (rsumZ_any _ dn _ rs w21 HQ.out hp10).mono ?_
        rintro e1 w22 ⟨rfl, rfl⟩
        by_cases hd : dfault dn rs = 0
        · --{BIG
          rw [hd]
          have hmm : wrap64 (sumZ (fun k => rs.getD k 0) dn) = sumZ (fun k => rs.getD k 0) dn := wrap_sum hp10 (wide (dfault_zero hd).2)
          rw [hmm]
          have h12 : 12 < sumZ (fun k => rs.getD k 0) dn := by
            rcases HBD.out with h | h | h
            · exact absurd hd h
            · omega
            · exact h
          generalize sumZ (fun k => rs.getD k 0) dn = mm at *
          clear hd hmm HQ
          go_upto_region 24 with fail
          clear h12
          have l1 := row_range HG.out
          go_wp2_with (refine wpList_load_mid rfl 24 _ rfl w.heap.size 0 rfl _ _ l1 Try.underlying24 rfl infoGraph ?_)
          clear l1
          refine (rk_any dn ea m ec f ca dn cc ks w22 (rows_keep HE.out HB.out) HGF.out hm HC.out).mono ?_
          rintro e1 w23 ⟨⟨z, rfl, hbad⟩ | ⟨_, _, kc, cc2, ac, hkc, hkc3, rfl⟩, hb⟩
          · --{KLOST
            have HG := Lib.hid (HG.out.keep hb HG.out.lt)
            have HB := Lib.hid (HB.out.trans (hb.mono HB.out.size))
            clear hb hbad
            have l1 := row_range HG.out
            go_wp2_with (refine wpList_load_mid rfl 24 _ rfl w.heap.size 0 rfl _ _ l1 Try.underlying24 rfl infoGraph ?_)
            clear l1
            refine (rk_any dn ea m ec f oa on oc ys w23 (rows_keep HE.out HB.out) HGF.out hm (HO.out.keep HB.out)).mono ?_
            rintro e1 w24 ⟨⟨z, rfl, hbad⟩ | ⟨hd0, _, k3, c3, a3, hk3, hk33, rfl⟩, hb⟩
            · --{OLOST
              have HG := Lib.hid (HG.out.keep hb HG.out.lt)
              have HB := Lib.hid (HB.out.trans (hb.mono HB.out.size))
              clear hb hbad
              go_wp2_with fail
              go_ret
              exact ⟨rfl, HB.out⟩
            have hop := (dfault_len hd0 HOL.out).symm
            subst hop
            have HYB : Hid (∀ k, k < dn → -5000 ≤ ys.getD k 0 ∧ ys.getD k 0 ≤ 5000) := fun k hk => by
              have := (dfault_zero hd0).2 k hk
              omega
            have HK3 := Lib.hid hk3
            obtain ⟨t, ht⟩ : ∃ t, t = (k3 : Int) - 1 := ⟨_, rfl⟩
            rw [← ht]
            have ht1 : -1 ≤ t := by omega
            have ht2 : t ≤ 12 := by omega
            have HT := Lib.hid ht
            have HG := Lib.hid (HG.out.keep hb HG.out.lt)
            have HB := Lib.hid (HB.out.trans (hb.mono HB.out.size))
            clear hb hd0 hk3 ht hk33
            by_cases hx1 : t < 0
            · --{T
              go_wp2_with fail
              go_ret
              exact ⟨rfl, HB.out⟩
            by_cases hx2 : r < 0
            · --{R
              go_wp2_with fail
              go_ret
              exact ⟨rfl, HB.out⟩
            have q9 : ((dn : Int) != (dn : Int)) = false := bne_self_eq_false _
            go_wp2_with fail
            obtain ⟨B1, hB1⟩ : ∃ b, b = w24.heap.size := ⟨_, rfl⟩
            have HBE := Lib.hid hB1
            have HX := Lib.hid ((HD.out.keep HB.out))
            have HY := Lib.hid ((HO.out.keep HB.out))
            clear hB1
            go_loopw [30, 31] (fun y z wx => ∃ k : Nat, k ≤ dn ∧ z = .int .i64 (k : Int) ∧ wx.ownsRow B1 3 1 y k ((lstF k fun j => zs.getD j 0 + ys.getD j 0).map (Value.int .i64)) ∧ Below B1 w24 wx) (fun _ z _ => dn - (intOf z).toNat)
            case atStart => exact ⟨0, Nat.zero_le _, rfl, own_nil _ _, Below.refl _ _⟩
            case round =>
              obtain ⟨k, hkp, rfl, hown, hbx⟩ := hrel
              obtain ⟨ay, cy, rfl⟩ := own_slice hown
              have HU := Lib.hid hown
              have HL := Lib.hid hbx
              have hszr : B1 ≤ wr.heap.size := by have := HL.out.size; have := HBE.out; omega
              clear hown hbx
              by_cases hk : k < dn
              · have hk2 : (k : Int) < (dn : Int) := by omega
                obtain ⟨bx, ox, ex, hbx, hcx⟩ := HX.out.cells k hk
                obtain ⟨bz, oz, ez, hbz, hcz⟩ := HY.out.cells k hk
                dsimp only at hcx hcz
                have c1 : wr.cell? ⟨bx, ox + k, none⟩ = some (.int .i64 (zs.getD k 0)) := cell_keep hcx (by rw [← HBE.out]; exact HL.out)
                have c2 : wr.cell? ⟨bz, oz + k, none⟩ = some (.int .i64 (ys.getD k 0)) := cell_keep hcz (by rw [← HBE.out]; exact HL.out)
                have hbxB : bx < B1 := by rw [HBE.out]; exact hbx
                have hbzB : bz < B1 := by rw [HBE.out]; exact hbz
                have hbxr : bx < wr.heap.size := by omega
                have hbzr : bz < wr.heap.size := by omega
                have HNX : Hid ((lstF (k + 1) fun j => zs.getD j 0 + ys.getD j 0).map (Value.int .i64) = ((lstF k fun j => zs.getD j 0 + ys.getD j 0).map (Value.int .i64)) ++ [.int .i64 (zs.getD k 0 + ys.getD k 0)]) := lstF_snoc
                have hx1 := HZB.out k hk
                have hy1 := HYB.out k hk
                subst ex
                subst ez
                obtain ⟨x, hx⟩ : ∃ x, x = zs.getD k 0 := ⟨_, rfl⟩
                rw [← hx] at c1 hx1 HNX
                clear hx
                obtain ⟨y, hy⟩ : ∃ y, y = ys.getD k 0 := ⟨_, rfl⟩
                rw [← hy] at c2 hy1 HNX
                clear hy hcx hcz
                have u1 : IntKind.i64.wrap (x + y) = x + y := by rw [IntKind.wrap_i64]; omega
                have HAL : Hid (Below wr.heap.size wr (wr.alloc (.cells #[.int .i64 (x + y)] 3)).drew) := ((Below.refl _ _).alloc (Nat.le_refl _) (.cells #[.int .i64 (x + y)] 3)).drew
                go_upto_region 34 with fail
                go_region_held3 (fun w' => w'.cell? ⟨bx, ox + k, none⟩ = some (.int .i64 x) ∧ w'.cell? ⟨bz, oz + k, none⟩ = some (.int .i64 y))
                  (first
                    | go_keep
                    | (refine ⟨?_, ?_⟩
                       · exact (cell_grown hg2 HOA.out hbxB (by simp; omega)).trans ((HAL.out.cell (p := ⟨bx, ox + k, none⟩) hbxr).trans c1)
                       · exact (cell_grown hg2 HOA.out hbzB (by simp; omega)).trans ((HAL.out.cell (p := ⟨bz, oz + k, none⟩) hbzr).trans c2)))
                  ((have HOA := Lib.hid (own_keep HU.out HAL.out); refine step_append1 (by rfl) _ _ 25 (by rfl) B1 3 i0 (.int .i64 0) 8 Try.underlying25 HI0.out HZ0.out rfl HZ1.out HZ2.out _ _ _ (by rfl) HOA.out ⟨wr.heap.size, 0, none⟩ 1 (.int .i64 (x + y)) (by rfl) ((row_alloc wr 3 [.int .i64 (x + y)]).drew.cell 0) rfl (by unfold maxLen; omega) (by omega) (by simp; omega) ?_; intro ao2 co2 w2 hO2 hg2))
                rw [← HNX.out] at hO2
                have HU2 := Lib.hid hO2
                have HL2 := Lib.hid ((HL.out.trans (HAL.out.mono hszr)).grown hg2 (by have h2 := HAL.out.size; omega) (own_low HOA.out))
                clear hO2 hg2 HOA HAL c1 c2 u1 hbxB hbzB hbxr hbzr HNX HU HL
                go_wp2_with fail
                go_roundw
                case rel => exact ⟨k + 1, by omega, by go_num, HU2.out, HL2.out⟩
                case measure => simp [intOf]; omega
              · obtain rfl : k = dn := by omega
                obtain ⟨dn, rfl⟩ : ∃ q, q = k := ⟨_, rfl⟩
                have hb : Below w24.heap.size w24 wr := by rw [← HBE.out]; exact HL.out
                have HQ := Lib.hid (own_is HU.out lstF_len HP1.out).1
                clear HX HY HU HL HBE hszr
                have HG := Lib.hid (HG.out.keep hb HG.out.lt)
                have HB := Lib.hid (HB.out.trans (hb.mono HB.out.size))
                clear hb
                have HLA : Hid (∀ q, Rk dn (fun a b => btw f a b m) (fun k => (lstF dn fun j => zs.getD j 0 + ys.getD j 0).getD k 0) q → r + t ≤ (q : Int) - 1) := fun q hq => by
                  have h1 := HR.out
                  have h2 := HT.out
                  have h3 := rk_add (fun j hj => lstF_get hj) HK1.out HK3.out hq (by omega) (by omega)
                  show r + t ≤ (q : Int) - 1
                  omega
                obtain ⟨ss, hss⟩ : ∃ ss, ss = (lstF dn fun j => zs.getD j 0 + ys.getD j 0) := ⟨_, rfl⟩
                rw [← hss] at HQ HLA
                clear hss
                have l1 := row_range HG.out
                go_wp2_with (refine wpList_load_mid rfl 24 _ rfl w.heap.size 0 rfl _ _ l1 Try.underlying24 rfl infoGraph ?_)
                clear l1
                refine (rk_any dn ea m ec f _ dn _ ss wr (rows_keep HE.out HB.out) HGF.out hm HQ.out).mono ?_
                rintro e1 w25 ⟨⟨z, rfl, hbad⟩ | ⟨_, _, k4, c4, a4, hk4, hk43, rfl⟩, hb⟩
                · --{SLOST
                  have HG := Lib.hid (HG.out.keep hb HG.out.lt)
                  have HB := Lib.hid (HB.out.trans (hb.mono HB.out.size))
                  clear hb hbad
                  go_wp2_with fail
                  go_ret
                  exact ⟨rfl, HB.out⟩
                have hle := HLA.out _ hk4
                obtain ⟨u, hu⟩ : ∃ u, u = (k4 : Int) - 1 := ⟨_, rfl⟩
                rw [← hu] at hle
                rw [← hu]
                have u1 : IntKind.i64.wrap (r + t) = r + t := by rw [IntKind.wrap_i64]; omega
                have HG := Lib.hid (HG.out.keep hb HG.out.lt)
                have HB := Lib.hid (HB.out.trans (hb.mono HB.out.size))
                clear hb hk4 hu hk43
                go_wp2_with fail
                go_ret
                exact ⟨rfl, HB.out⟩
          have hkc2 : (kc : Int) - 1 = gz - 1 := by
            rw [HKS.out] at hkc
            rw [HGZ.out]
            exact roch_can HOK.out hkc
          rw [hkc2]
          have q8 : (gz - 1 != gz - 1) = false := bne_self_eq_false _
          have u8 : IntKind.i64.wrap (gz - 1) = gz - 1 := by rw [IntKind.wrap_i64]; omega
          have HG := Lib.hid (HG.out.keep hb HG.out.lt)
          have HB := Lib.hid (HB.out.trans (hb.mono HB.out.size))
          clear hb hkc hkc3 hkc2
          go_upto_region 27 with fail
          clear q8 u8
          have l1 := row_range HG.out
          go_wp2_with (refine wpList_load_mid rfl 24 _ rfl w.heap.size 0 rfl _ _ l1 Try.underlying24 rfl infoGraph ?_)
          clear l1
          refine (rk_any dn ea m ec f oa on oc ys w23 (rows_keep HE.out HB.out) HGF.out hm (HO.out.keep HB.out)).mono ?_
          rintro e1 w26 ⟨⟨z, rfl, hbad⟩ | ⟨hd0, _, k3, c3, a3, hk3, hk33, rfl⟩, hb⟩
          · --{OLOST
            have HG := Lib.hid (HG.out.keep hb HG.out.lt)
            have HB := Lib.hid (HB.out.trans (hb.mono HB.out.size))
            clear hb hbad
            go_wp2_with fail
            go_ret
            exact ⟨rfl, HB.out⟩
          have hop := (dfault_len hd0 HOL.out).symm
          subst hop
          have HYB : Hid (∀ k, k < dn → -5000 ≤ ys.getD k 0 ∧ ys.getD k 0 ≤ 5000) := fun k hk => by
            have := (dfault_zero hd0).2 k hk
            omega
          have HK3 := Lib.hid hk3
          obtain ⟨t, ht⟩ : ∃ t, t = (k3 : Int) - 1 := ⟨_, rfl⟩
          rw [← ht]
          have ht1 : -1 ≤ t := by omega
          have ht2 : t ≤ 12 := by omega
          have HT := Lib.hid ht
          have HG := Lib.hid (HG.out.keep hb HG.out.lt)
          have HB := Lib.hid (HB.out.trans (hb.mono HB.out.size))
          clear hb hd0 hk3 ht hk33
          by_cases hx1 : t < 0
          · --{T
            go_wp2_with fail
            go_ret
            exact ⟨rfl, HB.out⟩
          by_cases hx2 : r < 0
          · --{R
            go_wp2_with fail
            go_ret
            exact ⟨rfl, HB.out⟩
          have q9 : ((dn : Int) != (dn : Int)) = false := bne_self_eq_false _
          go_wp2_with fail
          obtain ⟨B1, hB1⟩ : ∃ b, b = w26.heap.size := ⟨_, rfl⟩
          have HBE := Lib.hid hB1
          have HX := Lib.hid ((HD.out.keep HB.out))
          have HY := Lib.hid ((HO.out.keep HB.out))
          clear hB1
          go_loopw [30, 31] (fun y z wx => ∃ k : Nat, k ≤ dn ∧ z = .int .i64 (k : Int) ∧ wx.ownsRow B1 3 1 y k ((lstF k fun j => zs.getD j 0 + ys.getD j 0).map (Value.int .i64)) ∧ Below B1 w26 wx) (fun _ z _ => dn - (intOf z).toNat)
          case atStart => exact ⟨0, Nat.zero_le _, rfl, own_nil _ _, Below.refl _ _⟩
          case round =>
            obtain ⟨k, hkp, rfl, hown, hbx⟩ := hrel
            obtain ⟨ay, cy, rfl⟩ := own_slice hown
            have HU := Lib.hid hown
            have HL := Lib.hid hbx
            have hszr : B1 ≤ wr.heap.size := by have := HL.out.size; have := HBE.out; omega
            clear hown hbx
            by_cases hk : k < dn
            · have hk2 : (k : Int) < (dn : Int) := by omega
              obtain ⟨bx, ox, ex, hbx, hcx⟩ := HX.out.cells k hk
              obtain ⟨bz, oz, ez, hbz, hcz⟩ := HY.out.cells k hk
              dsimp only at hcx hcz
              have c1 : wr.cell? ⟨bx, ox + k, none⟩ = some (.int .i64 (zs.getD k 0)) := cell_keep hcx (by rw [← HBE.out]; exact HL.out)
              have c2 : wr.cell? ⟨bz, oz + k, none⟩ = some (.int .i64 (ys.getD k 0)) := cell_keep hcz (by rw [← HBE.out]; exact HL.out)
              have hbxB : bx < B1 := by rw [HBE.out]; exact hbx
              have hbzB : bz < B1 := by rw [HBE.out]; exact hbz
              have hbxr : bx < wr.heap.size := by omega
              have hbzr : bz < wr.heap.size := by omega
              have HNX : Hid ((lstF (k + 1) fun j => zs.getD j 0 + ys.getD j 0).map (Value.int .i64) = ((lstF k fun j => zs.getD j 0 + ys.getD j 0).map (Value.int .i64)) ++ [.int .i64 (zs.getD k 0 + ys.getD k 0)]) := lstF_snoc
              have hx1 := HZB.out k hk
              have hy1 := HYB.out k hk
              subst ex
              subst ez
              obtain ⟨x, hx⟩ : ∃ x, x = zs.getD k 0 := ⟨_, rfl⟩
              rw [← hx] at c1 hx1 HNX
              clear hx
              obtain ⟨y, hy⟩ : ∃ y, y = ys.getD k 0 := ⟨_, rfl⟩
              rw [← hy] at c2 hy1 HNX
              clear hy hcx hcz
              have u1 : IntKind.i64.wrap (x + y) = x + y := by rw [IntKind.wrap_i64]; omega
              have HAL : Hid (Below wr.heap.size wr (wr.alloc (.cells #[.int .i64 (x + y)] 3)).drew) := ((Below.refl _ _).alloc (Nat.le_refl _) (.cells #[.int .i64 (x + y)] 3)).drew
              go_upto_region 34 with fail
              go_region_held3 (fun w' => w'.cell? ⟨bx, ox + k, none⟩ = some (.int .i64 x) ∧ w'.cell? ⟨bz, oz + k, none⟩ = some (.int .i64 y))
                (first
                  | go_keep
                  | (refine ⟨?_, ?_⟩
                     · exact (cell_grown hg2 HOA.out hbxB (by simp; omega)).trans ((HAL.out.cell (p := ⟨bx, ox + k, none⟩) hbxr).trans c1)
                     · exact (cell_grown hg2 HOA.out hbzB (by simp; omega)).trans ((HAL.out.cell (p := ⟨bz, oz + k, none⟩) hbzr).trans c2)))
                ((have HOA := Lib.hid (own_keep HU.out HAL.out); refine step_append1 (by rfl) _ _ 25 (by rfl) B1 3 i0 (.int .i64 0) 8 Try.underlying25 HI0.out HZ0.out rfl HZ1.out HZ2.out _ _ _ (by rfl) HOA.out ⟨wr.heap.size, 0, none⟩ 1 (.int .i64 (x + y)) (by rfl) ((row_alloc wr 3 [.int .i64 (x + y)]).drew.cell 0) rfl (by unfold maxLen; omega) (by omega) (by simp; omega) ?_; intro ao2 co2 w2 hO2 hg2))
              rw [← HNX.out] at hO2
              have HU2 := Lib.hid hO2
              have HL2 := Lib.hid ((HL.out.trans (HAL.out.mono hszr)).grown hg2 (by have h2 := HAL.out.size; omega) (own_low HOA.out))
              clear hO2 hg2 HOA HAL c1 c2 u1 hbxB hbzB hbxr hbzr HNX HU HL
              go_wp2_with fail
              go_roundw
              case rel => exact ⟨k + 1, by omega, by go_num, HU2.out, HL2.out⟩
              case measure => simp [intOf]; omega
            · obtain rfl : k = dn := by omega
              obtain ⟨dn, rfl⟩ : ∃ q, q = k := ⟨_, rfl⟩
              have hb : Below w26.heap.size w26 wr := by rw [← HBE.out]; exact HL.out
              have HQ := Lib.hid (own_is HU.out lstF_len HP1.out).1
              clear HX HY HU HL HBE hszr
              have HG := Lib.hid (HG.out.keep hb HG.out.lt)
              have HB := Lib.hid (HB.out.trans (hb.mono HB.out.size))
              clear hb
              have HLA : Hid (∀ q, Rk dn (fun a b => btw f a b m) (fun k => (lstF dn fun j => zs.getD j 0 + ys.getD j 0).getD k 0) q → r + t ≤ (q : Int) - 1) := fun q hq => by
                have h1 := HR.out
                have h2 := HT.out
                have h3 := rk_add (fun j hj => lstF_get hj) HK1.out HK3.out hq (by omega) (by omega)
                show r + t ≤ (q : Int) - 1
                omega
              obtain ⟨ss, hss⟩ : ∃ ss, ss = (lstF dn fun j => zs.getD j 0 + ys.getD j 0) := ⟨_, rfl⟩
              rw [← hss] at HQ HLA
              clear hss
              have l1 := row_range HG.out
              go_wp2_with (refine wpList_load_mid rfl 24 _ rfl w.heap.size 0 rfl _ _ l1 Try.underlying24 rfl infoGraph ?_)
              clear l1
              refine (rk_any dn ea m ec f _ dn _ ss wr (rows_keep HE.out HB.out) HGF.out hm HQ.out).mono ?_
              rintro e1 w27 ⟨⟨z, rfl, hbad⟩ | ⟨_, _, k4, c4, a4, hk4, hk43, rfl⟩, hb⟩
              · --{SLOST
                have HG := Lib.hid (HG.out.keep hb HG.out.lt)
                have HB := Lib.hid (HB.out.trans (hb.mono HB.out.size))
                clear hb hbad
                go_wp2_with fail
                go_ret
                exact ⟨rfl, HB.out⟩
              have hle := HLA.out _ hk4
              obtain ⟨u, hu⟩ : ∃ u, u = (k4 : Int) - 1 := ⟨_, rfl⟩
              rw [← hu] at hle
              rw [← hu]
              have u1 : IntKind.i64.wrap (r + t) = r + t := by rw [IntKind.wrap_i64]; omega
              have HG := Lib.hid (HG.out.keep hb HG.out.lt)
              have HB := Lib.hid (HB.out.trans (hb.mono HB.out.size))
              clear hb hk4 hu hk43
              go_wp2_with fail
              go_ret
              exact ⟨rfl, HB.out⟩
        · --{WIDE
          have q7 : (dfault dn rs == 0) = false := by rw [beq_eq_false_iff_ne]; exact hd
          generalize wrap64 (sumZ (fun k => rs.getD k 0) dn) = mm at *
          generalize dfault dn rs = dd at *
          clear hd HQ HBD
          go_upto_region 24 with fail
          clear q7
          have l1 := row_range HG.out
          go_wp2_with (refine wpList_load_mid rfl 24 _ rfl w.heap.size 0 rfl _ _ l1 Try.underlying24 rfl infoGraph ?_)
          clear l1
          refine (rk_any dn ea m ec f ca dn cc ks w22 (rows_keep HE.out HB.out) HGF.out hm HC.out).mono ?_
          rintro e1 w28 ⟨⟨z, rfl, hbad⟩ | ⟨_, _, kc, cc2, ac, hkc, hkc3, rfl⟩, hb⟩
          · --{KLOST
            have HG := Lib.hid (HG.out.keep hb HG.out.lt)
            have HB := Lib.hid (HB.out.trans (hb.mono HB.out.size))
            clear hb hbad
            have l1 := row_range HG.out
            go_wp2_with (refine wpList_load_mid rfl 24 _ rfl w.heap.size 0 rfl _ _ l1 Try.underlying24 rfl infoGraph ?_)
            clear l1
            refine (rk_any dn ea m ec f oa on oc ys w28 (rows_keep HE.out HB.out) HGF.out hm (HO.out.keep HB.out)).mono ?_
            rintro e1 w29 ⟨⟨z, rfl, hbad⟩ | ⟨hd0, _, k3, c3, a3, hk3, hk33, rfl⟩, hb⟩
            · --{OLOST
              have HG := Lib.hid (HG.out.keep hb HG.out.lt)
              have HB := Lib.hid (HB.out.trans (hb.mono HB.out.size))
              clear hb hbad
              go_wp2_with fail
              go_ret
              exact ⟨rfl, HB.out⟩
            have hop := (dfault_len hd0 HOL.out).symm
            subst hop
            have HYB : Hid (∀ k, k < dn → -5000 ≤ ys.getD k 0 ∧ ys.getD k 0 ≤ 5000) := fun k hk => by
              have := (dfault_zero hd0).2 k hk
              omega
            have HK3 := Lib.hid hk3
            obtain ⟨t, ht⟩ : ∃ t, t = (k3 : Int) - 1 := ⟨_, rfl⟩
            rw [← ht]
            have ht1 : -1 ≤ t := by omega
            have ht2 : t ≤ 12 := by omega
            have HT := Lib.hid ht
            have HG := Lib.hid (HG.out.keep hb HG.out.lt)
            have HB := Lib.hid (HB.out.trans (hb.mono HB.out.size))
            clear hb hd0 hk3 ht hk33
            by_cases hx1 : t < 0
            · --{T
              go_wp2_with fail
              go_ret
              exact ⟨rfl, HB.out⟩
            by_cases hx2 : r < 0
            · --{R
              go_wp2_with fail
              go_ret
              exact ⟨rfl, HB.out⟩
            have q9 : ((dn : Int) != (dn : Int)) = false := bne_self_eq_false _
            go_wp2_with fail
            obtain ⟨B1, hB1⟩ : ∃ b, b = w29.heap.size := ⟨_, rfl⟩
            have HBE := Lib.hid hB1
            have HX := Lib.hid ((HD.out.keep HB.out))
            have HY := Lib.hid ((HO.out.keep HB.out))
            clear hB1
            go_loopw [30, 31] (fun y z wx => ∃ k : Nat, k ≤ dn ∧ z = .int .i64 (k : Int) ∧ wx.ownsRow B1 3 1 y k ((lstF k fun j => zs.getD j 0 + ys.getD j 0).map (Value.int .i64)) ∧ Below B1 w29 wx) (fun _ z _ => dn - (intOf z).toNat)
            case atStart => exact ⟨0, Nat.zero_le _, rfl, own_nil _ _, Below.refl _ _⟩
            case round =>
              obtain ⟨k, hkp, rfl, hown, hbx⟩ := hrel
              obtain ⟨ay, cy, rfl⟩ := own_slice hown
              have HU := Lib.hid hown
              have HL := Lib.hid hbx
              have hszr : B1 ≤ wr.heap.size := by have := HL.out.size; have := HBE.out; omega
              clear hown hbx
              by_cases hk : k < dn
              · have hk2 : (k : Int) < (dn : Int) := by omega
                obtain ⟨bx, ox, ex, hbx, hcx⟩ := HX.out.cells k hk
                obtain ⟨bz, oz, ez, hbz, hcz⟩ := HY.out.cells k hk
                dsimp only at hcx hcz
                have c1 : wr.cell? ⟨bx, ox + k, none⟩ = some (.int .i64 (zs.getD k 0)) := cell_keep hcx (by rw [← HBE.out]; exact HL.out)
                have c2 : wr.cell? ⟨bz, oz + k, none⟩ = some (.int .i64 (ys.getD k 0)) := cell_keep hcz (by rw [← HBE.out]; exact HL.out)
                have hbxB : bx < B1 := by rw [HBE.out]; exact hbx
                have hbzB : bz < B1 := by rw [HBE.out]; exact hbz
                have hbxr : bx < wr.heap.size := by omega
                have hbzr : bz < wr.heap.size := by omega
                have HNX : Hid ((lstF (k + 1) fun j => zs.getD j 0 + ys.getD j 0).map (Value.int .i64) = ((lstF k fun j => zs.getD j 0 + ys.getD j 0).map (Value.int .i64)) ++ [.int .i64 (zs.getD k 0 + ys.getD k 0)]) := lstF_snoc
                have hx1 := HZB.out k hk
                have hy1 := HYB.out k hk
                subst ex
                subst ez
                obtain ⟨x, hx⟩ : ∃ x, x = zs.getD k 0 := ⟨_, rfl⟩
                rw [← hx] at c1 hx1 HNX
                clear hx
                obtain ⟨y, hy⟩ : ∃ y, y = ys.getD k 0 := ⟨_, rfl⟩
                rw [← hy] at c2 hy1 HNX
                clear hy hcx hcz
                have u1 : IntKind.i64.wrap (x + y) = x + y := by rw [IntKind.wrap_i64]; omega
                have HAL : Hid (Below wr.heap.size wr (wr.alloc (.cells #[.int .i64 (x + y)] 3)).drew) := ((Below.refl _ _).alloc (Nat.le_refl _) (.cells #[.int .i64 (x + y)] 3)).drew
                go_upto_region 34 with fail
                go_region_held3 (fun w' => w'.cell? ⟨bx, ox + k, none⟩ = some (.int .i64 x) ∧ w'.cell? ⟨bz, oz + k, none⟩ = some (.int .i64 y))
                  (first
                    | go_keep
                    | (refine ⟨?_, ?_⟩
                       · exact (cell_grown hg2 HOA.out hbxB (by simp; omega)).trans ((HAL.out.cell (p := ⟨bx, ox + k, none⟩) hbxr).trans c1)
                       · exact (cell_grown hg2 HOA.out hbzB (by simp; omega)).trans ((HAL.out.cell (p := ⟨bz, oz + k, none⟩) hbzr).trans c2)))
                  ((have HOA := Lib.hid (own_keep HU.out HAL.out); refine step_append1 (by rfl) _ _ 25 (by rfl) B1 3 i0 (.int .i64 0) 8 Try.underlying25 HI0.out HZ0.out rfl HZ1.out HZ2.out _ _ _ (by rfl) HOA.out ⟨wr.heap.size, 0, none⟩ 1 (.int .i64 (x + y)) (by rfl) ((row_alloc wr 3 [.int .i64 (x + y)]).drew.cell 0) rfl (by unfold maxLen; omega) (by omega) (by simp; omega) ?_; intro ao2 co2 w2 hO2 hg2))
                rw [← HNX.out] at hO2
                have HU2 := Lib.hid hO2
                have HL2 := Lib.hid ((HL.out.trans (HAL.out.mono hszr)).grown hg2 (by have h2 := HAL.out.size; omega) (own_low HOA.out))
                clear hO2 hg2 HOA HAL c1 c2 u1 hbxB hbzB hbxr hbzr HNX HU HL
                go_wp2_with fail
                go_roundw
                case rel => exact ⟨k + 1, by omega, by go_num, HU2.out, HL2.out⟩
                case measure => simp [intOf]; omega
              · obtain rfl : k = dn := by omega
                obtain ⟨dn, rfl⟩ : ∃ q, q = k := ⟨_, rfl⟩
                have hb : Below w29.heap.size w29 wr := by rw [← HBE.out]; exact HL.out
                have HQ := Lib.hid (own_is HU.out lstF_len HP1.out).1
                clear HX HY HU HL HBE hszr
                have HG := Lib.hid (HG.out.keep hb HG.out.lt)
                have HB := Lib.hid (HB.out.trans (hb.mono HB.out.size))
                clear hb
                have HLA : Hid (∀ q, Rk dn (fun a b => btw f a b m) (fun k => (lstF dn fun j => zs.getD j 0 + ys.getD j 0).getD k 0) q → r + t ≤ (q : Int) - 1) := fun q hq => by
                  have h1 := HR.out
                  have h2 := HT.out
                  have h3 := rk_add (fun j hj => lstF_get hj) HK1.out HK3.out hq (by omega) (by omega)
                  show r + t ≤ (q : Int) - 1
                  omega
                obtain ⟨ss, hss⟩ : ∃ ss, ss = (lstF dn fun j => zs.getD j 0 + ys.getD j 0) := ⟨_, rfl⟩
                rw [← hss] at HQ HLA
                clear hss
                have l1 := row_range HG.out
                go_wp2_with (refine wpList_load_mid rfl 24 _ rfl w.heap.size 0 rfl _ _ l1 Try.underlying24 rfl infoGraph ?_)
                clear l1
                refine (rk_any dn ea m ec f _ dn _ ss wr (rows_keep HE.out HB.out) HGF.out hm HQ.out).mono ?_
                rintro e1 w30 ⟨⟨z, rfl, hbad⟩ | ⟨_, _, k4, c4, a4, hk4, hk43, rfl⟩, hb⟩
                · --{SLOST
                  have HG := Lib.hid (HG.out.keep hb HG.out.lt)
                  have HB := Lib.hid (HB.out.trans (hb.mono HB.out.size))
                  clear hb hbad
                  go_wp2_with fail
                  go_ret
                  exact ⟨rfl, HB.out⟩
                have hle := HLA.out _ hk4
                obtain ⟨u, hu⟩ : ∃ u, u = (k4 : Int) - 1 := ⟨_, rfl⟩
                rw [← hu] at hle
                rw [← hu]
                have u1 : IntKind.i64.wrap (r + t) = r + t := by rw [IntKind.wrap_i64]; omega
                have HG := Lib.hid (HG.out.keep hb HG.out.lt)
                have HB := Lib.hid (HB.out.trans (hb.mono HB.out.size))
                clear hb hk4 hu hk43
                go_wp2_with fail
                go_ret
                exact ⟨rfl, HB.out⟩
          have hkc2 : (kc : Int) - 1 = gz - 1 := by
            rw [HKS.out] at hkc
            rw [HGZ.out]
            exact roch_can HOK.out hkc
          rw [hkc2]
          have q8 : (gz - 1 != gz - 1) = false := bne_self_eq_false _
          have u8 : IntKind.i64.wrap (gz - 1) = gz - 1 := by rw [IntKind.wrap_i64]; omega
          have HG := Lib.hid (HG.out.keep hb HG.out.lt)
          have HB := Lib.hid (HB.out.trans (hb.mono HB.out.size))
          clear hb hkc hkc3 hkc2
          go_upto_region 27 with fail
          clear q8 u8
          have l1 := row_range HG.out
          go_wp2_with (refine wpList_load_mid rfl 24 _ rfl w.heap.size 0 rfl _ _ l1 Try.underlying24 rfl infoGraph ?_)
          clear l1
          refine (rk_any dn ea m ec f oa on oc ys w28 (rows_keep HE.out HB.out) HGF.out hm (HO.out.keep HB.out)).mono ?_
          rintro e1 w31 ⟨⟨z, rfl, hbad⟩ | ⟨hd0, _, k3, c3, a3, hk3, hk33, rfl⟩, hb⟩
          · --{OLOST
            have HG := Lib.hid (HG.out.keep hb HG.out.lt)
            have HB := Lib.hid (HB.out.trans (hb.mono HB.out.size))
            clear hb hbad
            go_wp2_with fail
            go_ret
            exact ⟨rfl, HB.out⟩
          have hop := (dfault_len hd0 HOL.out).symm
          subst hop
          have HYB : Hid (∀ k, k < dn → -5000 ≤ ys.getD k 0 ∧ ys.getD k 0 ≤ 5000) := fun k hk => by
            have := (dfault_zero hd0).2 k hk
            omega
          have HK3 := Lib.hid hk3
          obtain ⟨t, ht⟩ : ∃ t, t = (k3 : Int) - 1 := ⟨_, rfl⟩
          rw [← ht]
          have ht1 : -1 ≤ t := by omega
          have ht2 : t ≤ 12 := by omega
          have HT := Lib.hid ht
          have HG := Lib.hid (HG.out.keep hb HG.out.lt)
          have HB := Lib.hid (HB.out.trans (hb.mono HB.out.size))
          clear hb hd0 hk3 ht hk33
          by_cases hx1 : t < 0
          · --{T
            go_wp2_with fail
            go_ret
            exact ⟨rfl, HB.out⟩
          by_cases hx2 : r < 0
          · --{R
            go_wp2_with fail
            go_ret
            exact ⟨rfl, HB.out⟩
          have q9 : ((dn : Int) != (dn : Int)) = false := bne_self_eq_false _
          go_wp2_with fail
          obtain ⟨B1, hB1⟩ : ∃ b, b = w31.heap.size := ⟨_, rfl⟩
          have HBE := Lib.hid hB1
          have HX := Lib.hid ((HD.out.keep HB.out))
          have HY := Lib.hid ((HO.out.keep HB.out))
          clear hB1
          go_loopw [30, 31] (fun y z wx => ∃ k : Nat, k ≤ dn ∧ z = .int .i64 (k : Int) ∧ wx.ownsRow B1 3 1 y k ((lstF k fun j => zs.getD j 0 + ys.getD j 0).map (Value.int .i64)) ∧ Below B1 w31 wx) (fun _ z _ => dn - (intOf z).toNat)
          case atStart => exact ⟨0, Nat.zero_le _, rfl, own_nil _ _, Below.refl _ _⟩
          case round =>
            obtain ⟨k, hkp, rfl, hown, hbx⟩ := hrel
            obtain ⟨ay, cy, rfl⟩ := own_slice hown
            have HU := Lib.hid hown
            have HL := Lib.hid hbx
            have hszr : B1 ≤ wr.heap.size := by have := HL.out.size; have := HBE.out; omega
            clear hown hbx
            by_cases hk : k < dn
            · have hk2 : (k : Int) < (dn : Int) := by omega
              obtain ⟨bx, ox, ex, hbx, hcx⟩ := HX.out.cells k hk
              obtain ⟨bz, oz, ez, hbz, hcz⟩ := HY.out.cells k hk
              dsimp only at hcx hcz
              have c1 : wr.cell? ⟨bx, ox + k, none⟩ = some (.int .i64 (zs.getD k 0)) := cell_keep hcx (by rw [← HBE.out]; exact HL.out)
              have c2 : wr.cell? ⟨bz, oz + k, none⟩ = some (.int .i64 (ys.getD k 0)) := cell_keep hcz (by rw [← HBE.out]; exact HL.out)
              have hbxB : bx < B1 := by rw [HBE.out]; exact hbx
              have hbzB : bz < B1 := by rw [HBE.out]; exact hbz
              have hbxr : bx < wr.heap.size := by omega
              have hbzr : bz < wr.heap.size := by omega
              have HNX : Hid ((lstF (k + 1) fun j => zs.getD j 0 + ys.getD j 0).map (Value.int .i64) = ((lstF k fun j => zs.getD j 0 + ys.getD j 0).map (Value.int .i64)) ++ [.int .i64 (zs.getD k 0 + ys.getD k 0)]) := lstF_snoc
              have hx1 := HZB.out k hk
              have hy1 := HYB.out k hk
              subst ex
              subst ez
              obtain ⟨x, hx⟩ : ∃ x, x = zs.getD k 0 := ⟨_, rfl⟩
              rw [← hx] at c1 hx1 HNX
              clear hx
              obtain ⟨y, hy⟩ : ∃ y, y = ys.getD k 0 := ⟨_, rfl⟩
              rw [← hy] at c2 hy1 HNX
              clear hy hcx hcz
              have u1 : IntKind.i64.wrap (x + y) = x + y := by rw [IntKind.wrap_i64]; omega
              have HAL : Hid (Below wr.heap.size wr (wr.alloc (.cells #[.int .i64 (x + y)] 3)).drew) := ((Below.refl _ _).alloc (Nat.le_refl _) (.cells #[.int .i64 (x + y)] 3)).drew
              go_upto_region 34 with fail
              go_region_held3 (fun w' => w'.cell? ⟨bx, ox + k, none⟩ = some (.int .i64 x) ∧ w'.cell? ⟨bz, oz + k, none⟩ = some (.int .i64 y))
                (first
                  | go_keep
                  | (refine ⟨?_, ?_⟩
                     · exact (cell_grown hg2 HOA.out hbxB (by simp; omega)).trans ((HAL.out.cell (p := ⟨bx, ox + k, none⟩) hbxr).trans c1)
                     · exact (cell_grown hg2 HOA.out hbzB (by simp; omega)).trans ((HAL.out.cell (p := ⟨bz, oz + k, none⟩) hbzr).trans c2)))
                ((have HOA := Lib.hid (own_keep HU.out HAL.out); refine step_append1 (by rfl) _ _ 25 (by rfl) B1 3 i0 (.int .i64 0) 8 Try.underlying25 HI0.out HZ0.out rfl HZ1.out HZ2.out _ _ _ (by rfl) HOA.out ⟨wr.heap.size, 0, none⟩ 1 (.int .i64 (x + y)) (by rfl) ((row_alloc wr 3 [.int .i64 (x + y)]).drew.cell 0) rfl (by unfold maxLen; omega) (by omega) (by simp; omega) ?_; intro ao2 co2 w2 hO2 hg2))
              rw [← HNX.out] at hO2
              have HU2 := Lib.hid hO2
              have HL2 := Lib.hid ((HL.out.trans (HAL.out.mono hszr)).grown hg2 (by have h2 := HAL.out.size; omega) (own_low HOA.out))
              clear hO2 hg2 HOA HAL c1 c2 u1 hbxB hbzB hbxr hbzr HNX HU HL
              go_wp2_with fail
              go_roundw
              case rel => exact ⟨k + 1, by omega, by go_num, HU2.out, HL2.out⟩
              case measure => simp [intOf]; omega
            · obtain rfl : k = dn := by omega
              obtain ⟨dn, rfl⟩ : ∃ q, q = k := ⟨_, rfl⟩
              have hb : Below w31.heap.size w31 wr := by rw [← HBE.out]; exact HL.out
              have HQ := Lib.hid (own_is HU.out lstF_len HP1.out).1
              clear HX HY HU HL HBE hszr
              have HG := Lib.hid (HG.out.keep hb HG.out.lt)
              have HB := Lib.hid (HB.out.trans (hb.mono HB.out.size))
              clear hb
              have HLA : Hid (∀ q, Rk dn (fun a b => btw f a b m) (fun k => (lstF dn fun j => zs.getD j 0 + ys.getD j 0).getD k 0) q → r + t ≤ (q : Int) - 1) := fun q hq => by
                have h1 := HR.out
                have h2 := HT.out
                have h3 := rk_add (fun j hj => lstF_get hj) HK1.out HK3.out hq (by omega) (by omega)
                show r + t ≤ (q : Int) - 1
                omega
              obtain ⟨ss, hss⟩ : ∃ ss, ss = (lstF dn fun j => zs.getD j 0 + ys.getD j 0) := ⟨_, rfl⟩
              rw [← hss] at HQ HLA
              clear hss
              have l1 := row_range HG.out
              go_wp2_with (refine wpList_load_mid rfl 24 _ rfl w.heap.size 0 rfl _ _ l1 Try.underlying24 rfl infoGraph ?_)
              clear l1
              refine (rk_any dn ea m ec f _ dn _ ss wr (rows_keep HE.out HB.out) HGF.out hm HQ.out).mono ?_
              rintro e1 w32 ⟨⟨z, rfl, hbad⟩ | ⟨_, _, k4, c4, a4, hk4, hk43, rfl⟩, hb⟩
              · --{SLOST
                have HG := Lib.hid (HG.out.keep hb HG.out.lt)
                have HB := Lib.hid (HB.out.trans (hb.mono HB.out.size))
                clear hb hbad
                go_wp2_with fail
                go_ret
                exact ⟨rfl, HB.out⟩
              have hle := HLA.out _ hk4
              obtain ⟨u, hu⟩ : ∃ u, u = (k4 : Int) - 1 := ⟨_, rfl⟩
              rw [← hu] at hle
              rw [← hu]
              have u1 : IntKind.i64.wrap (r + t) = r + t := by rw [IntKind.wrap_i64]; omega
              have HG := Lib.hid (HG.out.keep hb HG.out.lt)
              have HB := Lib.hid (HB.out.trans (hb.mono HB.out.size))
              clear hb hk4 hu hk43
              go_wp2_with fail
              go_ret
              exact ⟨rfl, HB.out⟩
      have hrr := HLR.out _ hk2
      rw [← HR.out, ← HGZ.out] at hrr
      obtain ⟨s, hs⟩ : ∃ s, s = (k2 : Int) - 1 := ⟨_, rfl⟩
      rw [← hs] at hrr
      rw [← hs]
      have hs1 : -1 ≤ s := by omega
      have hs2 : s ≤ 12 := by omega
      have HG := Lib.hid (HG.out.keep hb HG.out.lt)
      have HC := Lib.hid (HC.out.keep hb)
      have HB := Lib.hid (HB.out.trans (hb.mono HB.out.size))
      clear hb hk2 hs HLR HQ hk23
      go_wp2_with fail
      refine (rsumZ_any da dn dc zs w19 (HD.out.keep HB.out) hp10).mono ?_
      rintro e1 w33 ⟨rfl, rfl⟩
      have hds := sum_small (D := fun k => zs.getD k 0) (wide HZ.out)
      rw [wrap_sum hp10 (wide HZ.out)]
      generalize sumZ (fun k => zs.getD k 0) dn = dg at *
      have u1 : IntKind.i64.wrap (r - s) = r - s := by rw [IntKind.wrap_i64]; omega
      have u2 : IntKind.i64.wrap (dg - gz) = dg - gz := by rw [IntKind.wrap_i64]; omega
      have u3 : IntKind.i64.wrap (dg - gz + 1) = dg - gz + 1 := by rw [IntKind.wrap_i64]; omega
      have q6 : (r - s != dg - gz + 1) = false := by rw [hrr]; exact bne_self_eq_false _
      clear hrr
      go_upto_region 24 with fail
      clear u1 u2 u3 q6 hds
      have l1 := row_range HG.out
      go_wp2_with (refine wpList_load_mid rfl 24 _ rfl w.heap.size 0 rfl _ _ l1 Try.underlying24 rfl infoGraph ?_)
      clear l1
      refine (rk_any dn ea m ec f ca dn cc ks w33 (rows_keep HE.out HB.out) HGF.out hm HC.out).mono ?_
      rintro e1 w34 ⟨⟨z, rfl, hbad⟩ | ⟨_, _, kc, cc2, ac, hkc, hkc3, rfl⟩, hb⟩
      · --{KLOST
        have HG := Lib.hid (HG.out.keep hb HG.out.lt)
        have HB := Lib.hid (HB.out.trans (hb.mono HB.out.size))
        clear hb hbad
        have l1 := row_range HG.out
        go_wp2_with (refine wpList_load_mid rfl 24 _ rfl w.heap.size 0 rfl _ _ l1 Try.underlying24 rfl infoGraph ?_)
        clear l1
        refine (rk_any dn ea m ec f oa on oc ys w34 (rows_keep HE.out HB.out) HGF.out hm (HO.out.keep HB.out)).mono ?_
        rintro e1 w35 ⟨⟨z, rfl, hbad⟩ | ⟨hd0, _, k3, c3, a3, hk3, hk33, rfl⟩, hb⟩
        · --{OLOST
          have HG := Lib.hid (HG.out.keep hb HG.out.lt)
          have HB := Lib.hid (HB.out.trans (hb.mono HB.out.size))
          clear hb hbad
          go_wp2_with fail
          go_ret
          exact ⟨rfl, HB.out⟩
        have hop := (dfault_len hd0 HOL.out).symm
        subst hop
        have HYB : Hid (∀ k, k < dn → -5000 ≤ ys.getD k 0 ∧ ys.getD k 0 ≤ 5000) := fun k hk => by
          have := (dfault_zero hd0).2 k hk
          omega
        have HK3 := Lib.hid hk3
        obtain ⟨t, ht⟩ : ∃ t, t = (k3 : Int) - 1 := ⟨_, rfl⟩
        rw [← ht]
        have ht1 : -1 ≤ t := by omega
        have ht2 : t ≤ 12 := by omega
        have HT := Lib.hid ht
        have HG := Lib.hid (HG.out.keep hb HG.out.lt)
        have HB := Lib.hid (HB.out.trans (hb.mono HB.out.size))
        clear hb hd0 hk3 ht hk33
        by_cases hx1 : t < 0
        · --{T
          go_wp2_with fail
          go_ret
          exact ⟨rfl, HB.out⟩
        by_cases hx2 : r < 0
        · --{R
          go_wp2_with fail
          go_ret
          exact ⟨rfl, HB.out⟩
        have q9 : ((dn : Int) != (dn : Int)) = false := bne_self_eq_false _
        go_wp2_with fail
        obtain ⟨B1, hB1⟩ : ∃ b, b = w35.heap.size := ⟨_, rfl⟩
        have HBE := Lib.hid hB1
        have HX := Lib.hid ((HD.out.keep HB.out))
        have HY := Lib.hid ((HO.out.keep HB.out))
        clear hB1
        go_loopw [30, 31] (fun y z wx => ∃ k : Nat, k ≤ dn ∧ z = .int .i64 (k : Int) ∧ wx.ownsRow B1 3 1 y k ((lstF k fun j => zs.getD j 0 + ys.getD j 0).map (Value.int .i64)) ∧ Below B1 w35 wx) (fun _ z _ => dn - (intOf z).toNat)
        case atStart => exact ⟨0, Nat.zero_le _, rfl, own_nil _ _, Below.refl _ _⟩
        case round =>
          obtain ⟨k, hkp, rfl, hown, hbx⟩ := hrel
          obtain ⟨ay, cy, rfl⟩ := own_slice hown
          have HU := Lib.hid hown
          have HL := Lib.hid hbx
          have hszr : B1 ≤ wr.heap.size := by have := HL.out.size; have := HBE.out; omega
          clear hown hbx
          by_cases hk : k < dn
          · have hk2 : (k : Int) < (dn : Int) := by omega
            obtain ⟨bx, ox, ex, hbx, hcx⟩ := HX.out.cells k hk
            obtain ⟨bz, oz, ez, hbz, hcz⟩ := HY.out.cells k hk
            dsimp only at hcx hcz
            have c1 : wr.cell? ⟨bx, ox + k, none⟩ = some (.int .i64 (zs.getD k 0)) := cell_keep hcx (by rw [← HBE.out]; exact HL.out)
            have c2 : wr.cell? ⟨bz, oz + k, none⟩ = some (.int .i64 (ys.getD k 0)) := cell_keep hcz (by rw [← HBE.out]; exact HL.out)
            have hbxB : bx < B1 := by rw [HBE.out]; exact hbx
            have hbzB : bz < B1 := by rw [HBE.out]; exact hbz
            have hbxr : bx < wr.heap.size := by omega
            have hbzr : bz < wr.heap.size := by omega
            have HNX : Hid ((lstF (k + 1) fun j => zs.getD j 0 + ys.getD j 0).map (Value.int .i64) = ((lstF k fun j => zs.getD j 0 + ys.getD j 0).map (Value.int .i64)) ++ [.int .i64 (zs.getD k 0 + ys.getD k 0)]) := lstF_snoc
            have hx1 := HZB.out k hk
            have hy1 := HYB.out k hk
            subst ex
            subst ez
            obtain ⟨x, hx⟩ : ∃ x, x = zs.getD k 0 := ⟨_, rfl⟩
            rw [← hx] at c1 hx1 HNX
            clear hx
            obtain ⟨y, hy⟩ : ∃ y, y = ys.getD k 0 := ⟨_, rfl⟩
            rw [← hy] at c2 hy1 HNX
            clear hy hcx hcz
            have u1 : IntKind.i64.wrap (x + y) = x + y := by rw [IntKind.wrap_i64]; omega
            have HAL : Hid (Below wr.heap.size wr (wr.alloc (.cells #[.int .i64 (x + y)] 3)).drew) := ((Below.refl _ _).alloc (Nat.le_refl _) (.cells #[.int .i64 (x + y)] 3)).drew
            go_upto_region 34 with fail
            go_region_held3 (fun w' => w'.cell? ⟨bx, ox + k, none⟩ = some (.int .i64 x) ∧ w'.cell? ⟨bz, oz + k, none⟩ = some (.int .i64 y))
              (first
                | go_keep
                | (refine ⟨?_, ?_⟩
                   · exact (cell_grown hg2 HOA.out hbxB (by simp; omega)).trans ((HAL.out.cell (p := ⟨bx, ox + k, none⟩) hbxr).trans c1)
                   · exact (cell_grown hg2 HOA.out hbzB (by simp; omega)).trans ((HAL.out.cell (p := ⟨bz, oz + k, none⟩) hbzr).trans c2)))
              ((have HOA := Lib.hid (own_keep HU.out HAL.out); refine step_append1 (by rfl) _ _ 25 (by rfl) B1 3 i0 (.int .i64 0) 8 Try.underlying25 HI0.out HZ0.out rfl HZ1.out HZ2.out _ _ _ (by rfl) HOA.out ⟨wr.heap.size, 0, none⟩ 1 (.int .i64 (x + y)) (by rfl) ((row_alloc wr 3 [.int .i64 (x + y)]).drew.cell 0) rfl (by unfold maxLen; omega) (by omega) (by simp; omega) ?_; intro ao2 co2 w2 hO2 hg2))
            rw [← HNX.out] at hO2
            have HU2 := Lib.hid hO2
            have HL2 := Lib.hid ((HL.out.trans (HAL.out.mono hszr)).grown hg2 (by have h2 := HAL.out.size; omega) (own_low HOA.out))
            clear hO2 hg2 HOA HAL c1 c2 u1 hbxB hbzB hbxr hbzr HNX HU HL
            go_wp2_with fail
            go_roundw
            case rel => exact ⟨k + 1, by omega, by go_num, HU2.out, HL2.out⟩
            case measure => simp [intOf]; omega
          · obtain rfl : k = dn := by omega
            obtain ⟨dn, rfl⟩ : ∃ q, q = k := ⟨_, rfl⟩
            have hb : Below w35.heap.size w35 wr := by rw [← HBE.out]; exact HL.out
            have HQ := Lib.hid (own_is HU.out lstF_len HP1.out).1
            clear HX HY HU HL HBE hszr
            have HG := Lib.hid (HG.out.keep hb HG.out.lt)
            have HB := Lib.hid (HB.out.trans (hb.mono HB.out.size))
            clear hb
            have HLA : Hid (∀ q, Rk dn (fun a b => btw f a b m) (fun k => (lstF dn fun j => zs.getD j 0 + ys.getD j 0).getD k 0) q → r + t ≤ (q : Int) - 1) := fun q hq => by
              have h1 := HR.out
              have h2 := HT.out
              have h3 := rk_add (fun j hj => lstF_get hj) HK1.out HK3.out hq (by omega) (by omega)
              show r + t ≤ (q : Int) - 1
              omega
            obtain ⟨ss, hss⟩ : ∃ ss, ss = (lstF dn fun j => zs.getD j 0 + ys.getD j 0) := ⟨_, rfl⟩
            rw [← hss] at HQ HLA
            clear hss
            have l1 := row_range HG.out
            go_wp2_with (refine wpList_load_mid rfl 24 _ rfl w.heap.size 0 rfl _ _ l1 Try.underlying24 rfl infoGraph ?_)
            clear l1
            refine (rk_any dn ea m ec f _ dn _ ss wr (rows_keep HE.out HB.out) HGF.out hm HQ.out).mono ?_
            rintro e1 w36 ⟨⟨z, rfl, hbad⟩ | ⟨_, _, k4, c4, a4, hk4, hk43, rfl⟩, hb⟩
            · --{SLOST
              have HG := Lib.hid (HG.out.keep hb HG.out.lt)
              have HB := Lib.hid (HB.out.trans (hb.mono HB.out.size))
              clear hb hbad
              go_wp2_with fail
              go_ret
              exact ⟨rfl, HB.out⟩
            have hle := HLA.out _ hk4
            obtain ⟨u, hu⟩ : ∃ u, u = (k4 : Int) - 1 := ⟨_, rfl⟩
            rw [← hu] at hle
            rw [← hu]
            have u1 : IntKind.i64.wrap (r + t) = r + t := by rw [IntKind.wrap_i64]; omega
            have HG := Lib.hid (HG.out.keep hb HG.out.lt)
            have HB := Lib.hid (HB.out.trans (hb.mono HB.out.size))
            clear hb hk4 hu hk43
            go_wp2_with fail
            go_ret
            exact ⟨rfl, HB.out⟩
      have hkc2 : (kc : Int) - 1 = gz - 1 := by
        rw [HKS.out] at hkc
        rw [HGZ.out]
        exact roch_can HOK.out hkc
      rw [hkc2]
      have q8 : (gz - 1 != gz - 1) = false := bne_self_eq_false _
      have u8 : IntKind.i64.wrap (gz - 1) = gz - 1 := by rw [IntKind.wrap_i64]; omega
      have HG := Lib.hid (HG.out.keep hb HG.out.lt)
      have HB := Lib.hid (HB.out.trans (hb.mono HB.out.size))
      clear hb hkc hkc3 hkc2
      go_upto_region 27 with fail
      clear q8 u8
      have l1 := row_range HG.out
      go_wp2_with (refine wpList_load_mid rfl 24 _ rfl w.heap.size 0 rfl _ _ l1 Try.underlying24 rfl infoGraph ?_)
      clear l1
      refine (rk_any dn ea m ec f oa on oc ys w34 (rows_keep HE.out HB.out) HGF.out hm (HO.out.keep HB.out)).mono ?_
      rintro e1 w37 ⟨⟨z, rfl, hbad⟩ | ⟨hd0, _, k3, c3, a3, hk3, hk33, rfl⟩, hb⟩
      · --{OLOST
        have HG := Lib.hid (HG.out.keep hb HG.out.lt)
        have HB := Lib.hid (HB.out.trans (hb.mono HB.out.size))
        clear hb hbad
        go_wp2_with fail
        go_ret
        exact ⟨rfl, HB.out⟩
      have hop := (dfault_len hd0 HOL.out).symm
      subst hop
      have HYB : Hid (∀ k, k < dn → -5000 ≤ ys.getD k 0 ∧ ys.getD k 0 ≤ 5000) := fun k hk => by
        have := (dfault_zero hd0).2 k hk
        omega
      have HK3 := Lib.hid hk3
      obtain ⟨t, ht⟩ : ∃ t, t = (k3 : Int) - 1 := ⟨_, rfl⟩
      rw [← ht]
      have ht1 : -1 ≤ t := by omega
      have ht2 : t ≤ 12 := by omega
      have HT := Lib.hid ht
      have HG := Lib.hid (HG.out.keep hb HG.out.lt)
      have HB := Lib.hid (HB.out.trans (hb.mono HB.out.size))
      clear hb hd0 hk3 ht hk33
      by_cases hx1 : t < 0
      · --{T
        go_wp2_with fail
        go_ret
        exact ⟨rfl, HB.out⟩
      by_cases hx2 : r < 0
      · --{R
        go_wp2_with fail
        go_ret
        exact ⟨rfl, HB.out⟩
      have q9 : ((dn : Int) != (dn : Int)) = false := bne_self_eq_false _
      go_wp2_with fail
      obtain ⟨B1, hB1⟩ : ∃ b, b = w37.heap.size := ⟨_, rfl⟩
      have HBE := Lib.hid hB1
      have HX := Lib.hid ((HD.out.keep HB.out))
      have HY := Lib.hid ((HO.out.keep HB.out))
      clear hB1
      go_loopw [30, 31] (fun y z wx => ∃ k : Nat, k ≤ dn ∧ z = .int .i64 (k : Int) ∧ wx.ownsRow B1 3 1 y k ((lstF k fun j => zs.getD j 0 + ys.getD j 0).map (Value.int .i64)) ∧ Below B1 w37 wx) (fun _ z _ => dn - (intOf z).toNat)
      case atStart => exact ⟨0, Nat.zero_le _, rfl, own_nil _ _, Below.refl _ _⟩
      case round =>
        obtain ⟨k, hkp, rfl, hown, hbx⟩ := hrel
        obtain ⟨ay, cy, rfl⟩ := own_slice hown
        have HU := Lib.hid hown
        have HL := Lib.hid hbx
        have hszr : B1 ≤ wr.heap.size := by have := HL.out.size; have := HBE.out; omega
        clear hown hbx
        by_cases hk : k < dn
        · have hk2 : (k : Int) < (dn : Int) := by omega
          obtain ⟨bx, ox, ex, hbx, hcx⟩ := HX.out.cells k hk
          obtain ⟨bz, oz, ez, hbz, hcz⟩ := HY.out.cells k hk
          dsimp only at hcx hcz
          have c1 : wr.cell? ⟨bx, ox + k, none⟩ = some (.int .i64 (zs.getD k 0)) := cell_keep hcx (by rw [← HBE.out]; exact HL.out)
          have c2 : wr.cell? ⟨bz, oz + k, none⟩ = some (.int .i64 (ys.getD k 0)) := cell_keep hcz (by rw [← HBE.out]; exact HL.out)
          have hbxB : bx < B1 := by rw [HBE.out]; exact hbx
          have hbzB : bz < B1 := by rw [HBE.out]; exact hbz
          have hbxr : bx < wr.heap.size := by omega
          have hbzr : bz < wr.heap.size := by omega
          have HNX : Hid ((lstF (k + 1) fun j => zs.getD j 0 + ys.getD j 0).map (Value.int .i64) = ((lstF k fun j => zs.getD j 0 + ys.getD j 0).map (Value.int .i64)) ++ [.int .i64 (zs.getD k 0 + ys.getD k 0)]) := lstF_snoc
          have hx1 := HZB.out k hk
          have hy1 := HYB.out k hk
          subst ex
          subst ez
          obtain ⟨x, hx⟩ : ∃ x, x = zs.getD k 0 := ⟨_, rfl⟩
          rw [← hx] at c1 hx1 HNX
          clear hx
          obtain ⟨y, hy⟩ : ∃ y, y = ys.getD k 0 := ⟨_, rfl⟩
          rw [← hy] at c2 hy1 HNX
          clear hy hcx hcz
          have u1 : IntKind.i64.wrap (x + y) = x + y := by rw [IntKind.wrap_i64]; omega
          have HAL : Hid (Below wr.heap.size wr (wr.alloc (.cells #[.int .i64 (x + y)] 3)).drew) := ((Below.refl _ _).alloc (Nat.le_refl _) (.cells #[.int .i64 (x + y)] 3)).drew
          go_upto_region 34 with fail
          go_region_held3 (fun w' => w'.cell? ⟨bx, ox + k, none⟩ = some (.int .i64 x) ∧ w'.cell? ⟨bz, oz + k, none⟩ = some (.int .i64 y))
            (first
              | go_keep
              | (refine ⟨?_, ?_⟩
                 · exact (cell_grown hg2 HOA.out hbxB (by simp; omega)).trans ((HAL.out.cell (p := ⟨bx, ox + k, none⟩) hbxr).trans c1)
                 · exact (cell_grown hg2 HOA.out hbzB (by simp; omega)).trans ((HAL.out.cell (p := ⟨bz, oz + k, none⟩) hbzr).trans c2)))
            ((have HOA := Lib.hid (own_keep HU.out HAL.out); refine step_append1 (by rfl) _ _ 25 (by rfl) B1 3 i0 (.int .i64 0) 8 Try.underlying25 HI0.out HZ0.out rfl HZ1.out HZ2.out _ _ _ (by rfl) HOA.out ⟨wr.heap.size, 0, none⟩ 1 (.int .i64 (x + y)) (by rfl) ((row_alloc wr 3 [.int .i64 (x + y)]).drew.cell 0) rfl (by unfold maxLen; omega) (by omega) (by simp; omega) ?_; intro ao2 co2 w2 hO2 hg2))
          rw [← HNX.out] at hO2
          have HU2 := Lib.hid hO2
          have HL2 := Lib.hid ((HL.out.trans (HAL.out.mono hszr)).grown hg2 (by have h2 := HAL.out.size; omega) (own_low HOA.out))
          clear hO2 hg2 HOA HAL c1 c2 u1 hbxB hbzB hbxr hbzr HNX HU HL
          go_wp2_with fail
          go_roundw
          case rel => exact ⟨k + 1, by omega, by go_num, HU2.out, HL2.out⟩
          case measure => simp [intOf]; omega
        · obtain rfl : k = dn := by omega
          obtain ⟨dn, rfl⟩ : ∃ q, q = k := ⟨_, rfl⟩
          have hb : Below w37.heap.size w37 wr := by rw [← HBE.out]; exact HL.out
          have HQ := Lib.hid (own_is HU.out lstF_len HP1.out).1
          clear HX HY HU HL HBE hszr
          have HG := Lib.hid (HG.out.keep hb HG.out.lt)
          have HB := Lib.hid (HB.out.trans (hb.mono HB.out.size))
          clear hb
          have HLA : Hid (∀ q, Rk dn (fun a b => btw f a b m) (fun k => (lstF dn fun j => zs.getD j 0 + ys.getD j 0).getD k 0) q → r + t ≤ (q : Int) - 1) := fun q hq => by
            have h1 := HR.out
            have h2 := HT.out
            have h3 := rk_add (fun j hj => lstF_get hj) HK1.out HK3.out hq (by omega) (by omega)
            show r + t ≤ (q : Int) - 1
            omega
          obtain ⟨ss, hss⟩ : ∃ ss, ss = (lstF dn fun j => zs.getD j 0 + ys.getD j 0) := ⟨_, rfl⟩
          rw [← hss] at HQ HLA
          clear hss
          have l1 := row_range HG.out
          go_wp2_with (refine wpList_load_mid rfl 24 _ rfl w.heap.size 0 rfl _ _ l1 Try.underlying24 rfl infoGraph ?_)
          clear l1
          refine (rk_any dn ea m ec f _ dn _ ss wr (rows_keep HE.out HB.out) HGF.out hm HQ.out).mono ?_
          rintro e1 w38 ⟨⟨z, rfl, hbad⟩ | ⟨_, _, k4, c4, a4, hk4, hk43, rfl⟩, hb⟩
          · --{SLOST
            have HG := Lib.hid (HG.out.keep hb HG.out.lt)
            have HB := Lib.hid (HB.out.trans (hb.mono HB.out.size))
            clear hb hbad
            go_wp2_with fail
            go_ret
            exact ⟨rfl, HB.out⟩
          have hle := HLA.out _ hk4
          obtain ⟨u, hu⟩ : ∃ u, u = (k4 : Int) - 1 := ⟨_, rfl⟩
          rw [← hu] at hle
          rw [← hu]
          have u1 : IntKind.i64.wrap (r + t) = r + t := by rw [IntKind.wrap_i64]; omega
          have HG := Lib.hid (HG.out.keep hb HG.out.lt)
          have HB := Lib.hid (HB.out.trans (hb.mono HB.out.size))
          clear hb hk4 hu hk43
          go_wp2_with fail
          go_ret
          exact ⟨rfl, HB.out⟩
end Ch
end Go.Proofs.Ytjikildiblchpaa
