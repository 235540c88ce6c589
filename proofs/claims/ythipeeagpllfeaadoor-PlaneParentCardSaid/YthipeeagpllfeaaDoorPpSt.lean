/- WALK: the document's finder: set. -/
import Derived.Test.YthipeeagpllfeaaDoorPpSp
namespace Go.Proofs.YthipeeagpllfeaaDoor
set_option linter.unusedSimpArgs false
set_option linter.unusedVariables false
open Go.RowKit
namespace Pn
open Tld Mem Bl

theorem st_nums {wd h2 W H n xx yy : Nat} {f : Nat → Nat → Nat} (hwd : wd = W + 2) (hh2 : h2 = H + 2) (hW : W ≤ 5) (hH : H ≤ 5) (hn : n = W * H) (hx : xx < wd) (hy : yy < h2) (hx2 : 2 ≤ xx) (hy2 : 2 ≤ yy) : ∃ x2 y2 p1 p2 i : Nat, x2 = xx - 2 ∧ y2 = yy - 2 ∧ i < n ∧ (flat W H f).getD i 0 = ((f x2 y2 : Nat) : Int) ∧
    wrap64 ((xx : Int) - 2) = (x2 : Int) ∧ wrap64 ((yy : Int) - 2) = (y2 : Int) ∧ wrap64 ((y2 : Int) * (W : Int)) = (p1 : Int) ∧ wrap64 ((p1 : Int) + (xx : Int)) = (p2 : Int) ∧ wrap64 ((p2 : Int) - 2) = (i : Int) := by
  have h1 : xx - 2 < W := by omega
  have h3 : yy - 2 < H := by omega
  have h4 := at_lt h1 h3
  have h5 : W * H ≤ 5 * 5 := Nat.mul_le_mul hW hH
  have h6 : (yy - 2) * W ≤ 5 * 5 := Nat.mul_le_mul (by omega) hW
  exact ⟨xx - 2, yy - 2, (yy - 2) * W, (yy - 2) * W + xx, (yy - 2) * W + (xx - 2), rfl, rfl, by rw [hn]; exact h4, flat_at h1 h3, wr_nat (by omega) (by omega), wr_nat (by omega) (by omega), wr_nat (by push_cast; rfl) (by omega), wr_nat (by push_cast; rfl) (by omega), wr_nat (by omega) (by omega)⟩

set_option maxHeartbeats 16000000 in
set_option maxRecDepth 1000000 in
theorem set_any (K st ra : Int) (B S : Nat) (ta : Option Addr) (tn tc : Nat) (tu : ByteArray) (W H : Nat) (a : Option Addr) (n c : Nat) (f : Nat → Nat → Nat) (fb qb bb m sz wd h2 : Nat) (w0 : World) (hBS : B < 512) (hSS : S < 512) (hwd : wd = W + 2) (hh2 : h2 = H + 2) (hm : m = wd * h2) (hsz : sz = 2 ^ (2 * wd + 2)) (hn : n = W * H) (hW : W ≤ 5) (hH : H ≤ 5) (hZ : ∀ w2, Below w0.heap.size w0 w2 → Ints.Is w2 a n (flat W H f)) (hqb : w0.heap.size ≤ qb) (hbb : w0.heap.size ≤ bb) :
    ∀ (k at' P : Nat) (g : Nat → Nat) (u : Nat → Bool) (bk : Nat → Nat) (bv : Nat → Nat → Bool) (w : World), at' + k = m → P < 2 ^ at' → SSt w0 w (ckP B S f wd) fb qb bb m sz (finD K B S st ra ta tn tc tu W H a n c wd h2 (.slice (some ⟨qb, 0, none⟩) m m) (.slice (some ⟨bb, 0, none⟩) m m) wd) g u bk bv → (∀ j, j < at' → g j = bt P (at' - 1 - j)) →
    Calls Tryd.prog 15 #[.pointer (some ⟨fb, 0, none⟩), .int .i64 (at' : Nat)] w fun e w' => SetP w0 (ckP B S f wd) fb qb bb m sz (finD K B S st ra ta tn tc tu W H a n c wd h2 (.slice (some ⟨qb, 0, none⟩) m m) (.slice (some ⟨bb, 0, none⟩) m m) wd) k at' P u e w' := by
  have HMI := Lib.hid (fun (g : Nat → Nat) (x y : Nat) w2 hZ hg hi hy => middle_any K st ra B S ta tn tc tu wd h2 (some ⟨qb, 0, none⟩) m m g x y w2 hBS hSS hZ hg hi (by have h1 : wd * h2 ≤ 7 * 7 := Nat.mul_le_mul (by omega) (by omega); omega) hy)
  have HM100 : Hid (m ≤ 1000) := Lib.hid (by have h1 : wd * h2 ≤ 7 * 7 := Nat.mul_le_mul (by omega) (by omega); omega)
  have HSZ8 : Hid (sz ≤ 1000000) := Lib.hid (by
    have h1 : 2 ^ (2 * wd + 2) ≤ 2 ^ 16 := Nat.pow_le_pow_right (by decide) (by omega)
    have h3 : (2 : Nat) ^ 16 = 65536 := by decide
    omega)
  obtain ⟨w2d, hw2d⟩ : ∃ w2d : Int, w2d = ((2 * wd : Nat) : Int) := ⟨_, rfl⟩
  have HW2 : Hid (w2d = ((2 * wd : Nat) : Int) ∧ wrap64 (2 * (wd : Int)) = w2d) := Lib.hid ⟨hw2d, by rw [hw2d]; exact wr_nat (by push_cast; rfl) (by omega)⟩
  have HWD := Lib.hid hwd
  have HH2 := Lib.hid hh2
  have HMV := Lib.hid hm
  have HSZ := Lib.hid hsz
  have HN := Lib.hid hn
  have HW5 := Lib.hid hW
  have HH5 := Lib.hid hH
  have HZ := Lib.hid hZ
  have HQB := Lib.hid hqb
  have HBB := Lib.hid hbb
  have HWD7 : Hid (wd ≤ 7) := Lib.hid (by omega)
  have HH27 : Hid (h2 ≤ 7) := Lib.hid (by omega)
  have HWP : Hid (0 < wd) := Lib.hid (by omega)
  have qB : ∀ (w : World) (a : Option Addr) (n c n' c' : Nat), (binOp .eql 61 (.slice a n c) (.slice none n' c')).run Tryd.prog w = .ok (.bool a.isNone) w := fun w a n c n' c' => Lib.run_eql_slice_nil w _ _ a n c n' c' Tryd.underlying61
  clear hBS hSS hwd hh2 hm hsz hn hW hH hZ hqb hbb hw2d
  intro k
  induction k with
  | zero =>
    intro at' P g u bk bv w hk hP hS hgP
    obtain rfl : at' = m := by omega
    have HS := Lib.hid hS
    have HG : Hid (∀ j, j < at' → g j = bt (P * 2 ^ 0 + 0) (at' - 1 - j)) := Lib.hid (fun j hj => by rw [hgP j hj, Nat.pow_zero, Nat.mul_one, Nat.add_zero])
    have f12 := HS.out.f.cell 12
    have f13 := HS.out.f.cell 13
    have f14 := HS.out.f.cell 14
    unfold finD at f12 f13 f14
    dsimp only [List.getElem?_cons_succ, List.getElem?_cons_zero] at f12 f13 f14
    clear hk hP hS hgP
    go_enter Tryd.func15, Tryd.ntmps15
    go_wp2_with fail
    go_ret
    exact SetP.yes rfl celF_end HS.out.f HS.out.q HG.out HS.out.bel
  | succ k ih =>
    intro at' P g u bk bv w hk hP hS hgP
    have HIH := Lib.hid ih
    have HAT : Hid (at' < m) := Lib.hid (by omega)
    have HK1 : Hid (m - at' = k + 1 ∧ at' + 1 + k = m) := Lib.hid ⟨by omega, by omega⟩
    have HGP := Lib.hid hgP
    have HP := Lib.hid hP
    have HS := Lib.hid hS
    have hne : ((at' : Int) == (m : Int)) = false := beq_eq_false_iff_ne.2 (by omega)
    have hlt : (at' : Int) < (m : Int) := by omega
    have HKY := Lib.hid (key_any K st ra B S ta tn tc tu W H a n c h2 qb m (.slice (some ⟨bb, 0, none⟩) m m) wd fb at' P g w hS.f hS.q HAT.out HWD7.out HM100.out hgP hP)
    obtain ⟨ky, hky⟩ : ∃ ky, ky = P % 2 ^ (2 * wd + 2) := ⟨_, rfl⟩
    have HKV : Hid (ky = P % sz ∧ ky < sz) := Lib.hid ⟨by rw [hky, HSZ.out], by rw [hky, HSZ.out]; exact Nat.mod_lt _ (Nat.pow_pos (by decide))⟩
    rw [← hky] at HKY
    have hklt : (ky : Int) < (sz : Int) := Int.ofNat_lt.2 HKV.out.2
    have HMM : Hid (∀ X Y, X % sz = Y % sz → ∀ o : Option Nat, CelF (ckP B S f wd) (k + 1) at' X o → CelF (ckP B S f wd) (k + 1) at' Y o) := Lib.hid (fun X Y e o h => celF_mod (M := sz) (fun t P P' e => ckP_mod t P P' (by rw [HSZ.out] at e; exact e)) e h)
    have f12 := HS.out.f.cell 12
    have f13 := HS.out.f.cell 13
    have f14 := HS.out.f.cell 14
    unfold finD at f12 f13 f14
    dsimp only [List.getElem?_cons_succ, List.getElem?_cons_zero] at f12 f13 f14
    have cb := HS.out.b.cell at'
    rw [List.getElem?_map, List.getElem?_range HAT.out] at cb
    dsimp only [Option.map_some] at cb
    clear ih hk hP hS hgP hky
    go_enter Tryd.func15, Tryd.ntmps15
    go_wp2_with fail
    refine HKY.out.mono ?_
    rintro e1 wx1 ⟨rfl, hwx1⟩
    obtain rfl : wx1 = w := hwx1
    clear HKY hne f12
    obtain ⟨ua, hua⟩ : ∃ ua, ua = u at' := ⟨_, rfl⟩
    have HUA := Lib.hid hua
    unfold bsl at cb
    rw [← hua] at cb
    clear hua
    have aw2 := HW2.out.2
    have aw2' := wr_same aw2
    go_upto_region 4 with fail
    obtain ⟨wo, hwo⟩ : ∃ wo : World, wo = wx1 := ⟨_, rfl⟩
    have HWO := Lib.hid hwo
    go_cut [32] from 25 to 31 (fun v wx => v = .bool (!ua) ∧ wx = wo)
    case first =>
      cases ua
      · rw [if_neg (by decide)] at cb
        go_wp2_with fail
        go_meet
        case rel => exact ⟨rfl, hwo.symm⟩
      · rw [if_pos rfl] at cb
        go_wp2_with fail
        go_meet
        case rel => exact ⟨rfl, hwo.symm⟩
    obtain ⟨rfl, hwc⟩ := hcut
    have hww := (hwc.trans hwo).symm
    subst hww
    clear hwo HWO hwc
    go_upto_if 32 with fail
    go_cut [6, 7] from 33 to 51 (fun s6 s7 wx => ∃ u' bk' bv', SSt w0 wx (ckP B S f wd) fb qb bb m sz (finD K B S st ra ta tn tc tu W H a n c wd h2 (.slice (some ⟨qb, 0, none⟩) m m) (.slice (some ⟨bb, 0, none⟩) m m) wd) g u' bk' bv' ∧ u' at' = true ∧ ∀ t, u t = true → u' t = true)
    case first =>
      cases ua
      · rw [if_neg (by decide)] at cb
        go_wp2_with fail
        go_loop [7, 6] (fun p v => ∃ i : Nat, i ≤ 2 * wd ∧ p = .int .i64 (i : Nat) ∧ v = .int .i64 ((4 * 2 ^ i : Nat) : Int)) (fun p _ => 2 * wd - (RowKit.intOf p).toNat)
        case atStart => exact ⟨0, Nat.zero_le _, rfl, rfl⟩
        case round =>
          obtain ⟨i, hi, rfl, rfl⟩ := hrel
          by_cases hiw : i < 2 * wd
          · have hiz : (i : Int) < w2d := by rw [HW2.out.1]; omega
            have HIW := Lib.hid hiw
            have hs := sz_nums HWD7.out hiw
            have hin : wrap64 ((i : Int) + 1) = ((i + 1 : Nat) : Int) := wr_nat (by push_cast; rfl) (by have := HWD7.out; clear hs; omega)
            have hs' := wr_same hs
            have hin' := wr_same hin
            have HME : Hid (2 * wd - (RowKit.intOf (.int .i64 ((i + 1 : Nat) : Int))).toNat < 2 * wd - (RowKit.intOf (.int .i64 ((i : Nat) : Int))).toNat) := Lib.hid (by
              simp only [RowKit.intOf]
              rw [Int.toNat_natCast, Int.toNat_natCast]
              clear hs hs' hin hin'
              omega)
            obtain ⟨z, hz⟩ : ∃ z, z = 4 * 2 ^ i := ⟨_, rfl⟩
            obtain ⟨z2, hz2⟩ : ∃ z2, z2 = 4 * 2 ^ (i + 1) := ⟨_, rfl⟩
            rw [← hz, ← hz2] at hs hs'
            rw [← hz]
            have HZ2 := Lib.hid hz2
            clear hz hz2 hi hiw
            go_wp2_with fail
            go_round
            case rel => exact ⟨i + 1, HIW.out, rfl, by rw [← HZ2.out]⟩
            case measure => exact HME.out
          · obtain rfl : i = 2 * wd := by omega
            have hiz : ¬ ((2 * wd : Nat) : Int) < w2d := by rw [HW2.out.1]; omega
            have hsz : 4 * 2 ^ (2 * wd) = sz := by rw [HSZ.out, Nat.pow_add, Nat.mul_comm]
            rw [hsz]
            obtain ⟨i3, hi3⟩ : ∃ i3, i3 = 2 * wd := ⟨_, rfl⟩
            rw [← hi3] at hiz ⊢
            clear hi hiw hsz hi3
            go_upto_region 10 with fail
            clear hiz f14 f13 cb
            have hdr : Below wx1.heap.size wx1 wx1.drew := (Below.refl _ _).drew
            have HSd := Lib.hid (HS.out.keep hdr)
            clear hdr
            refine wp_region_noPanic ?_
            refine Rt.region_Cn (Sc2 (fun w2 => w2.cell? ⟨fb, 13, none⟩ = some (.slice (some ⟨bb, 0, none⟩) m m) ∧ True) (fun w2 => True) 999) 9 #[false, false, false, false, false, false, false, false, false] (by kernel_rfl) (by kernel_rfl) (by kernel_rfl) ?_
            have hS1 : ∀ o, Sc2 (fun w2 => w2.cell? ⟨fb, 13, none⟩ = some (.slice (some ⟨bb, 0, none⟩) m m) ∧ True) (fun w2 => True) 999 o wx1.drew := Sc2.of ⟨HSd.out.f.cell 13, trivial⟩ trivial
            refine Rt.C_take (none) (i := 0) (oi := _) (v := ?_) rfl (by kernel_rfl) (by kernel_rfl) (by kernel_rfl) (by kernel_rfl) (fun _ _ _ h => h) (Sc2.other (by decide)) (Or.inl ⟨by rfl, ?_⟩) (fun o' _ => hS1 o') ?_
            rotate_left
            · intro w2 hSw
              obtain ⟨s0, s1⟩ := hSw
              go_simp
              try with_reducible rfl
            simp only [Act.put, List.getElem_toArray, List.getElem_cons_succ, List.getElem_cons_zero, List.setIfInBounds_toArray, List.set_cons_zero, List.set_cons_succ]
            refine Rt.C_take (none) (i := 1) (oi := _) (v := ?_) rfl (by kernel_rfl) (by kernel_rfl) (by kernel_rfl) (by kernel_rfl) (fun _ _ _ h => h) (Sc2.other (by decide)) (Or.inl ⟨by rfl, ?_⟩) (fun o' _ => hS1 o') ?_
            rotate_left
            · intro w2 hSw
              obtain ⟨s0, s1⟩ := hSw
              go_simp
              try with_reducible rfl
            simp only [Act.put, List.getElem_toArray, List.getElem_cons_succ, List.getElem_cons_zero, List.setIfInBounds_toArray, List.set_cons_zero, List.set_cons_succ]
            refine Rt.C_take (none) (i := 2) (oi := _) (v := ?_) rfl (by kernel_rfl) (by kernel_rfl) (by kernel_rfl) (by kernel_rfl) (fun _ _ _ h => h) (Sc2.other (by decide)) (Or.inl ⟨by rfl, ?_⟩) (fun o' _ => hS1 o') ?_
            rotate_left
            · intro w2 hSw
              obtain ⟨s0, s1⟩ := hSw
              go_simp
              try with_reducible rfl
            simp only [Act.put, List.getElem_toArray, List.getElem_cons_succ, List.getElem_cons_zero, List.setIfInBounds_toArray, List.set_cons_zero, List.set_cons_succ]
            refine Rt.C_take (none) (i := 3) (oi := _) (v := ?_) rfl (by kernel_rfl) (by kernel_rfl) (by kernel_rfl) (by kernel_rfl) (fun _ _ _ h => h) (Sc2.other (by decide)) (Or.inl ⟨by rfl, ?_⟩) (fun o' _ => hS1 o') ?_
            rotate_left
            · intro w2 hSw
              obtain ⟨s0, s1⟩ := hSw
              go_simp
              try with_reducible rfl
            simp only [Act.put, List.getElem_toArray, List.getElem_cons_succ, List.getElem_cons_zero, List.setIfInBounds_toArray, List.set_cons_zero, List.set_cons_succ]
            refine Rt.C_take (none) (i := 4) (oi := _) (v := ?_) rfl (by kernel_rfl) (by kernel_rfl) (by kernel_rfl) (by kernel_rfl) (fun _ _ _ h => h) (Sc2.other (by decide)) (Or.inl ⟨by rfl, ?_⟩) (fun o' _ => hS1 o') ?_
            rotate_left
            · intro w2 hSw
              obtain ⟨s0, s1⟩ := hSw
              go_simp
              try with_reducible rfl
            simp only [Act.put, List.getElem_toArray, List.getElem_cons_succ, List.getElem_cons_zero, List.setIfInBounds_toArray, List.set_cons_zero, List.set_cons_succ]
            refine Rt.C_take (none) (i := 5) (oi := _) (v := ?_) rfl (by kernel_rfl) (by kernel_rfl) (by kernel_rfl) (by kernel_rfl) (fun _ _ _ h => h) (Sc2.other (by decide)) (Or.inl ⟨by rfl, ?_⟩) (fun o' _ => hS1 o') ?_
            rotate_left
            · intro w2 hSw
              obtain ⟨s0, s1⟩ := hSw
              go_simp
              try with_reducible rfl
            simp only [Act.put, List.getElem_toArray, List.getElem_cons_succ, List.getElem_cons_zero, List.setIfInBounds_toArray, List.set_cons_zero, List.set_cons_succ]
            clear hS1
            generalize wx1.drew = v0 at *
            have hmk := mk_bools sz HSZ8.out v0
            have hbn : Below v0.heap.size v0 (v0.alloc (.cells (Array.replicate sz (Value.bool false)) 4)) := (Below.refl _ _).alloc (Nat.le_refl _) _
            have hrn : Row (v0.alloc (.cells (Array.replicate sz (Value.bool false)) 4)) v0.heap.size 4 (List.replicate sz (.bool false)) := by
              have := row_alloc v0 4 (List.replicate sz (Value.bool false))
              rwa [List.toArray_replicate] at this
            refine Rt.C_ready (rs := [6]) (by kernel_rfl) (by simp) ?_
            refine Rt.AllC.cons (i := 6) (o := _) rfl (by rfl) (fun K' hK => ?_) ?_
            · skip
              go_simp
              have HSn := Lib.hid (HSd.out.keep hbn)
              have HNB : Hid (v0.heap.size = v0.heap.size) := Lib.hid rfl
              refine hK _ _ (fun o' _ => Sc2.of ⟨HSn.out.f.cell 13, trivial⟩ trivial o') ?_
              clear hK K' hmk
              simp only [Act.put, List.getElem_toArray, List.getElem_cons_succ, List.getElem_cons_zero, List.setIfInBounds_toArray, List.set_cons_zero, List.set_cons_succ]
              generalize v0.alloc (.cells (Array.replicate sz (Value.bool false)) 4) = v1 at *
              have hS3 : ∀ o, Sc2 (fun w2 => w2.cell? ⟨fb, 13, none⟩ = some (.slice (some ⟨bb, 0, none⟩) m m) ∧ True) (fun w2 => True) 999 o v1 := Sc2.of ⟨HSn.out.f.cell 13, trivial⟩ trivial
              have hnl := hrn.lt
              have hnew : ∀ t, t < m → u t = true → bk t ≠ v0.heap.size := fun t ht hu => Nat.ne_of_lt (HSd.out.k t ht hu).1.lt
              have hbs := HSd.out.bel.size
              generalize v0.heap.size = nb at *
              clear hbn HNB HSd
              refine Rt.C_take (none) (i := 7) (oi := _) (v := ?_) rfl (by kernel_rfl) (by kernel_rfl) (by kernel_rfl) (by kernel_rfl) (fun _ _ _ h => h) (Sc2.other (by decide)) (Or.inl ⟨by rfl, ?_⟩) (fun o' _ => hS3 o') ?_
              rotate_left
              · intro w2 hSw
                obtain ⟨s0, s1⟩ := hSw
                go_simp
                try with_reducible rfl
              simp only [Act.put, List.getElem_toArray, List.getElem_cons_succ, List.getElem_cons_zero, List.setIfInBounds_toArray, List.set_cons_zero, List.set_cons_succ]
              clear hS3
              refine Rt.C_ready (rs := [8]) (by kernel_rfl) (by simp) ?_
              refine Rt.AllC.cons (i := 8) (o := _) rfl (by rfl) (fun K' hK => ?_) ?_
              · skip
                have cb := HSn.out.b.cell at'
                have zb := HSn.out.b.frozen at'
                rw [List.getElem?_map, List.getElem?_range HAT.out] at cb
                dsimp only [Option.map_some] at cb
                have hst := HSn.out.newrow HAT.out hrn hbs hnew HBB.out
                clear hrn hnl hnew hbs
                go_simp
                generalize v1.setCell ⟨bb, at', none⟩ (.slice (some ⟨nb, 0, none⟩) sz sz) = w4 at *
                refine hK _ _ (fun o' _ => Sc2.of ⟨hst.f.cell 13, trivial⟩ trivial o') ?_
                clear hK K' cb zb
                simp only [Act.put, List.getElem_toArray, List.getElem_cons_succ, List.getElem_cons_zero, List.setIfInBounds_toArray, List.set_cons_zero, List.set_cons_succ]
                refine Rt.C_done (by kernel_rfl) ?_ _
                refine NoPanic.normal ?_
                go_wp2_with fail
                go_meet
                case rel => exact ⟨_, _, _, hst, by simp, fun t ht => by simp [ht]⟩
              exact Rt.AllC.nil
            exact Rt.AllC.nil
      · rw [if_pos rfl] at cb
        go_wp2_with fail
        go_meet
        case rel => exact ⟨u, bk, bv, HS.out, HUA.out.symm, fun _ h => h⟩
    case rest =>
      obtain ⟨u1, bk1, bv1, hs1, hu1, hm1⟩ := hcut
      clear cb f13 f14 HS HUA
      have HS := Lib.hid hs1
      have HU1 := Lib.hid hu1
      have HM1 := Lib.hid hm1
      clear hs1 hu1 hm1
      have f12 := HS.out.f.cell 12
      have f13 := HS.out.f.cell 13
      have f14 := HS.out.f.cell 14
      unfold finD at f12 f13 f14
      dsimp only [List.getElem?_cons_succ, List.getElem?_cons_zero] at f12 f13 f14
      have cb := HS.out.b.cell at'
      rw [List.getElem?_map, List.getElem?_range HAT.out] at cb
      dsimp only [Option.map_some] at cb
      unfold bsl at cb
      rw [if_pos HU1.out] at cb
      have ck := (HS.out.k at' HAT.out HU1.out).1.cell ky
      rw [List.getElem?_map, List.getElem?_range HKV.out.2] at ck
      dsimp only [Option.map_some] at ck
      obtain ⟨q, hq⟩ : ∃ q, q = bv1 at' ky := ⟨_, rfl⟩
      have HQ := Lib.hid hq
      rw [← hq] at ck
      obtain ⟨xx, hxx⟩ : ∃ xx, xx = at' % wd := ⟨_, rfl⟩
      obtain ⟨yy, hyy⟩ : ∃ yy, yy = at' / wd := ⟨_, rfl⟩
      have HXY : Hid (xx = at' % wd ∧ yy = at' / wd ∧ xx < wd ∧ yy < h2) := Lib.hid ⟨hxx, hyy, by rw [hxx]; exact Nat.mod_lt _ HWP.out, by rw [hyy]; exact Nat.div_lt_of_lt_mul (by rw [← HMV.out]; exact HAT.out)⟩
      have t1 : (at' : Int).tmod (wd : Int) = (xx : Int) := by rw [hxx]; exact Int.ofNat_tmod _ _
      have t2 : (at' : Int).tdiv (wd : Int) = (yy : Int) := by rw [hyy]; exact Int.ofNat_tdiv _ _
      have t3 : wrap64 (yy : Int) = (yy : Int) := wr_nat rfl (by have := HXY.out; have := HH27.out; omega)
      have t3' := wr_same t3
      have wne : ((wd : Int) == 0) = false := beq_eq_false_iff_ne.2 (by have := HWP.out; omega)
      have wne2 : ¬ (wd : Int) = 0 := by have := HWP.out; omega
      clear hq hxx hyy aw2 aw2'
      cases q
      · go_wp2_with fail
        clear f12 f13 f14 cb ck t1 t2 t3 t3' wne wne2
        go_loopw [10] (fun p wr => ∃ cc : Nat, cc ≤ 2 ∧ p = .int .i64 (cc : Nat) ∧ ∃ g u2 bk bv, SSt w0 wr (ckP B S f wd) fb qb bb m sz (finD K B S st ra ta tn tc tu W H a n c wd h2 (.slice (some ⟨qb, 0, none⟩) m m) (.slice (some ⟨bb, 0, none⟩) m m) wd) g u2 bk bv ∧ (∀ j, j < at' → g j = bt P (at' - 1 - j)) ∧ u2 at' = true ∧ (∀ t, u t = true → u2 t = true) ∧ (∀ c', c' < cc → (ckP B S f wd) at' (P * 2 + c') → CelF (ckP B S f wd) k (at' + 1) (P * 2 + c') none)) (fun p _ => 2 - (RowKit.intOf p).toNat)
        case atStart => exact ⟨0, by omega, rfl, g, u1, bk1, bv1, HS.out, HGP.out, HU1.out, HM1.out, fun c' h => absurd h (Nat.not_lt_zero _)⟩
        case round =>
          clear HS HGP HU1 HM1 HQ
          obtain ⟨cc, hcc, rfl, g, u2, bk2, bv2, hs, hgp, hu2, hm2, hno⟩ := hrel
          have HS := Lib.hid hs
          have HGP := Lib.hid hgp
          have HU2 := Lib.hid hu2
          have HM2 := Lib.hid hm2
          have HNO := Lib.hid hno
          clear hs hgp hu2 hm2 hno
          by_cases hc2 : cc < 2
          · have hci : (cc : Int) < 2 := by omega
            have HCC := Lib.hid hc2
            have f12 := HS.out.f.cell 12
            unfold finD at f12
            dsimp only [List.getElem?_cons_succ, List.getElem?_cons_zero] at f12
            have cq := HS.out.q.cell at'
            have zq := HS.out.q.frozen at'
            rw [List.getElem?_map, show (lstN m g)[at']? = some ((g at' : Nat) : Int) by unfold lstN; rw [List.getElem?_map, List.getElem?_range HAT.out]; rfl] at cq
            dsimp only [Option.map_some] at cq
            have HS5 := Lib.hid (HS.out.cell at' cc HAT.out hc2 HQB.out)
            obtain ⟨g5, hg5⟩ : ∃ g5 : Nat → Nat, g5 = fun j => if j = at' then cc else g j := ⟨_, rfl⟩
            rw [← hg5] at HS5
            have HG5 : Hid (∀ j, j ≤ at' → g5 j = bt (P * 2 + cc) (at' - j)) := Lib.hid (fun j hj => by
              rw [hg5]
              show (if j = at' then cc else g j) = _
              by_cases e : j = at'
              · rw [if_pos e, e, Nat.sub_self, bt_low _ _ HCC.out]
              · rw [if_neg e, HGP.out j (by omega), show at' - j = (at' - 1 - j) + 1 by omega, bt_up _ _ _ HCC.out])
            clear hg5 hc2 hcc
            go_upto_region 20 with fail
            clear f12 cq zq hci
            generalize wr.setCell ⟨qb, at', none⟩ (.int .i64 (cc : Nat)) = w5 at *
            clear HS HGP
            obtain ⟨tq, htq⟩ : ∃ tq : Bool, tq = (decide (2 ≤ xx) && decide (2 ≤ yy)) := ⟨_, rfl⟩
            have HTQ := Lib.hid htq
            obtain ⟨wo, hwo⟩ : ∃ wo : World, wo = w5 := ⟨_, rfl⟩
            go_cut [91] from 86 to 90 (fun v wx => v = .bool tq ∧ wx = wo)
            case first =>
              by_cases hx2 : 2 ≤ xx
              · by_cases hy2 : 2 ≤ yy
                · have hxi : (2 : Int) ≤ (xx : Int) := by omega
                  have hyi : (2 : Int) ≤ (yy : Int) := by omega
                  have etq : tq = true := by rw [htq, decide_eq_true hx2, decide_eq_true hy2]; rfl
                  clear htq
                  subst etq
                  go_wp2_with fail
                  go_meet
                  case rel => exact ⟨rfl, hwo.symm⟩
                · have hxi : (2 : Int) ≤ (xx : Int) := by omega
                  have hyi : ¬ (2 : Int) ≤ (yy : Int) := by omega
                  have etq : tq = false := by rw [htq, decide_eq_true hx2, decide_eq_false hy2]; rfl
                  clear htq
                  subst etq
                  go_wp2_with fail
                  go_meet
                  case rel => exact ⟨rfl, hwo.symm⟩
              · have hxi : ¬ (2 : Int) ≤ (xx : Int) := by omega
                have etq : tq = false := by rw [htq, decide_eq_false hx2]; rfl
                clear htq
                subst etq
                go_wp2_with fail
                go_meet
                case rel => exact ⟨rfl, hwo.symm⟩
            obtain ⟨rfl, hwc⟩ := hcut
            have hww := (hwc.trans hwo).symm
            subst hww
            clear hwo hwc htq
            go_upto_if 91 with fail
            go_cut [11, 12] from 92 to 124 (fun v mm wx => ∃ q : Bool, v = .bool q ∧ (q = true ↔ (ckP B S f wd) at' (P * 2 + cc)) ∧ SSt w0 wx (ckP B S f wd) fb qb bb m sz (finD K B S st ra ta tn tc tu W H a n c wd h2 (.slice (some ⟨qb, 0, none⟩) m m) (.slice (some ⟨bb, 0, none⟩) m m) wd) g5 u2 bk2 bv2)
            case first =>
              cases tq
              · have HCT : Hid ((ckP B S f wd) at' (P * 2 + cc)) := Lib.hid (fun h1 h3 => by
                  have h := HTQ.out
                  rw [HXY.out.1, HXY.out.2.1, decide_eq_true h1, decide_eq_true h3] at h
                  cases h)
                clear HTQ
                go_wp2_with fail
                go_meet
                case rel => exact ⟨true, rfl, ⟨fun _ => HCT.out, fun _ => rfl⟩, HS5.out⟩
              · obtain ⟨hx2, hy2⟩ : 2 ≤ xx ∧ 2 ≤ yy := by
                  have h := HTQ.out.symm
                  rw [Bool.and_eq_true, decide_eq_true_iff, decide_eq_true_iff] at h
                  exact h
                obtain ⟨x2, y2, p1, p2, i, hx2', hy2', hin, hcf, a1, a2, a3, a4, a5⟩ := st_nums (f := f) HWD.out HH2.out HW5.out HH5.out HN.out HXY.out.2.2.1 HXY.out.2.2.2 hx2 hy2
                have hmid := mid_ck (B := B) (S := S) (w := wd) (t := at') (P := P * 2 + cc) (g := g5) HWP.out (by rw [← HXY.out.1]; exact hx2) (by rw [← HXY.out.2.1]; exact hy2) HG5.out
                rw [← HXY.out.1, ← HXY.out.2.1, ← hx2', ← hy2'] at hmid
                have HMX : Hid ((y2 + 2) * wd + x2 + 2 < m ∧ y2 ≤ 1000) := Lib.hid (by
                  have h1 := HXY.out
                  have h3 := HAT.out
                  have h4 := Nat.div_add_mod' at' wd
                  rw [← h1.1, ← h1.2.1] at h4
                  clear a1 a2 a3 a4 a5
                  rw [show y2 + 2 = yy by omega]
                  have := HH27.out
                  omega)
                obtain ⟨ab, ao, rfl, _, _⟩ := (HZ.out w5 HS5.out.bel).cells i hin
                have HPC : Hid (∀ w2, Below w0.heap.size w0 w2 → w2.cell? ⟨ab, ao + i, none⟩ = some (.int .i64 (f x2 y2 : Nat))) := Lib.hid (fun w2 hb2 => by
                  obtain ⟨b', o', e', _, cg⟩ := (HZ.out w2 hb2).cells i hin
                  cases e'
                  dsimp only at cg
                  rw [cg, hcf])
                obtain ⟨mv, hmv⟩ : ∃ mv, mv = midV B S g5 wd x2 y2 := ⟨_, rfl⟩
                rw [← hmv] at hmid
                obtain ⟨pv, hpv⟩ : ∃ pv, pv = f x2 y2 := ⟨_, rfl⟩
                rw [← hpv] at HPC
                obtain ⟨q, hq1⟩ : ∃ q, q = ((mv : Int) == (pv : Int)) := ⟨_, rfl⟩
                have HQ : Hid (q = true ↔ (ckP B S f wd) at' (P * 2 + cc)) := Lib.hid (by
                  have h1 := HXY.out
                  have e : (ckP B S f wd) at' (P * 2 + cc) ↔ mv = pv := by
                    unfold ckP
                    rw [← h1.1, ← h1.2.1, ← hx2', ← hy2', ← hmid, ← hpv]
                    exact ⟨fun k => k hx2 hy2, fun k _ _ => k⟩
                  rw [e, hq1, beq_iff_eq]
                  exact ⟨fun h => Int.ofNat.inj h, fun h => by rw [h]⟩)
                have HML : Hid (m ≤ maxLen) := Lib.hid (by have := HM100.out; unfold maxLen; clear a1 a2 a3 a4 a5; omega)
                have HQ1 := Lib.hid hq1.symm
                have a1' := wr_same a1
                have a2' := wr_same a2
                have a3' := wr_same a3
                have a4' := wr_same a4
                have a5' := wr_same a5
                have hin2 : (i : Int) < (n : Int) := Int.ofNat_lt.2 hin
                clear hin hcf hx2 hy2 hx2' hy2' hpv hmid hq1
                go_upto_region 21 with fail
                have hdr : Below w5.heap.size w5 w5.drew := (Below.refl _ _).drew
                have HSd := Lib.hid (HS5.out.keep hdr)
                refine wp_region_noPanic ?_
                refine Rt.region_Cn (Sc2 (fun w2 => w2.cell? ⟨fb, 0, none⟩ = some (.int .i64 K) ∧ w2.cell? ⟨fb, 1, none⟩ = some (.int .i64 B) ∧ w2.cell? ⟨fb, 2, none⟩ = some (.int .i64 S) ∧ w2.cell? ⟨fb, 3, none⟩ = some (.int .i64 st) ∧ w2.cell? ⟨fb, 4, none⟩ = some (.int .i64 ra) ∧ w2.cell? ⟨fb, 5, none⟩ = some (.slice ta tn tc) ∧ w2.cell? ⟨fb, 6, none⟩ = some (.string tu) ∧ w2.cell? ⟨fb, 10, none⟩ = some (.int .i64 (wd : Nat)) ∧ w2.cell? ⟨fb, 11, none⟩ = some (.int .i64 (h2 : Nat)) ∧ w2.cell? ⟨fb, 12, none⟩ = some (.slice (some ⟨qb, 0, none⟩) m m)) (fun w2 => True) 999) 14 #[false, false, false, false, false, false, false, false, false, false, false, false, false, false] (by kernel_rfl) (by kernel_rfl) (by kernel_rfl) ?_
                have hS1 : ∀ o, Sc2 (fun w2 => w2.cell? ⟨fb, 0, none⟩ = some (.int .i64 K) ∧ w2.cell? ⟨fb, 1, none⟩ = some (.int .i64 B) ∧ w2.cell? ⟨fb, 2, none⟩ = some (.int .i64 S) ∧ w2.cell? ⟨fb, 3, none⟩ = some (.int .i64 st) ∧ w2.cell? ⟨fb, 4, none⟩ = some (.int .i64 ra) ∧ w2.cell? ⟨fb, 5, none⟩ = some (.slice ta tn tc) ∧ w2.cell? ⟨fb, 6, none⟩ = some (.string tu) ∧ w2.cell? ⟨fb, 10, none⟩ = some (.int .i64 (wd : Nat)) ∧ w2.cell? ⟨fb, 11, none⟩ = some (.int .i64 (h2 : Nat)) ∧ w2.cell? ⟨fb, 12, none⟩ = some (.slice (some ⟨qb, 0, none⟩) m m)) (fun w2 => True) 999 o w5.drew := Sc2.of ⟨HSd.out.f.cell 0, HSd.out.f.cell 1, HSd.out.f.cell 2, HSd.out.f.cell 3, HSd.out.f.cell 4, HSd.out.f.cell 5, HSd.out.f.cell 6, HSd.out.f.cell 10, HSd.out.f.cell 11, HSd.out.f.cell 12⟩ trivial
                refine Rt.C_take (none) (i := 0) (oi := _) (v := ?_) rfl (by kernel_rfl) (by kernel_rfl) (by kernel_rfl) (by kernel_rfl) (fun _ _ _ h => h) (Sc2.other (by decide)) (Or.inl ⟨by rfl, ?_⟩) (fun o' _ => hS1 o') ?_
                rotate_left
                · intro w2 hSw
                  obtain ⟨s0, s1, s2, s3, s4, s5, s6, s7, s8, s9⟩ := hSw
                  go_simp
                  try with_reducible rfl
                simp only [Act.put, List.getElem_toArray, List.getElem_cons_succ, List.getElem_cons_zero, List.setIfInBounds_toArray, List.set_cons_zero, List.set_cons_succ]
                refine Rt.C_take (none) (i := 1) (oi := _) (v := ?_) rfl (by kernel_rfl) (by kernel_rfl) (by kernel_rfl) (by kernel_rfl) (fun _ _ _ h => h) (Sc2.other (by decide)) (Or.inl ⟨by rfl, ?_⟩) (fun o' _ => hS1 o') ?_
                rotate_left
                · intro w2 hSw
                  obtain ⟨s0, s1, s2, s3, s4, s5, s6, s7, s8, s9⟩ := hSw
                  go_simp
                  try with_reducible rfl
                simp only [Act.put, List.getElem_toArray, List.getElem_cons_succ, List.getElem_cons_zero, List.setIfInBounds_toArray, List.set_cons_zero, List.set_cons_succ]
                refine Rt.C_take (none) (i := 2) (oi := _) (v := ?_) rfl (by kernel_rfl) (by kernel_rfl) (by kernel_rfl) (by kernel_rfl) (fun _ _ _ h => h) (Sc2.other (by decide)) (Or.inl ⟨by rfl, ?_⟩) (fun o' _ => hS1 o') ?_
                rotate_left
                · intro w2 hSw
                  obtain ⟨s0, s1, s2, s3, s4, s5, s6, s7, s8, s9⟩ := hSw
                  go_simp
                  try with_reducible rfl
                simp only [Act.put, List.getElem_toArray, List.getElem_cons_succ, List.getElem_cons_zero, List.setIfInBounds_toArray, List.set_cons_zero, List.set_cons_succ]
                refine Rt.C_take (none) (i := 3) (oi := _) (v := ?_) rfl (by kernel_rfl) (by kernel_rfl) (by kernel_rfl) (by kernel_rfl) (fun _ _ _ h => h) (Sc2.other (by decide)) (Or.inl ⟨by rfl, ?_⟩) (fun o' _ => hS1 o') ?_
                rotate_left
                · intro w2 hSw
                  obtain ⟨s0, s1, s2, s3, s4, s5, s6, s7, s8, s9⟩ := hSw
                  go_simp
                  try with_reducible rfl
                simp only [Act.put, List.getElem_toArray, List.getElem_cons_succ, List.getElem_cons_zero, List.setIfInBounds_toArray, List.set_cons_zero, List.set_cons_succ]
                refine Rt.C_take (none) (i := 4) (oi := _) (v := ?_) rfl (by kernel_rfl) (by kernel_rfl) (by kernel_rfl) (by kernel_rfl) (fun _ _ _ h => h) (Sc2.other (by decide)) (Or.inl ⟨by rfl, ?_⟩) (fun o' _ => hS1 o') ?_
                rotate_left
                · intro w2 hSw
                  obtain ⟨s0, s1, s2, s3, s4, s5, s6, s7, s8, s9⟩ := hSw
                  go_simp
                  try with_reducible rfl
                simp only [Act.put, List.getElem_toArray, List.getElem_cons_succ, List.getElem_cons_zero, List.setIfInBounds_toArray, List.set_cons_zero, List.set_cons_succ]
                refine Rt.C_take (none) (i := 5) (oi := _) (v := ?_) rfl (by kernel_rfl) (by kernel_rfl) (by kernel_rfl) (by kernel_rfl) (fun _ _ _ h => h) (Sc2.other (by decide)) (Or.inl ⟨by rfl, ?_⟩) (fun o' _ => hS1 o') ?_
                rotate_left
                · intro w2 hSw
                  obtain ⟨s0, s1, s2, s3, s4, s5, s6, s7, s8, s9⟩ := hSw
                  go_simp
                  try with_reducible rfl
                simp only [Act.put, List.getElem_toArray, List.getElem_cons_succ, List.getElem_cons_zero, List.setIfInBounds_toArray, List.set_cons_zero, List.set_cons_succ]
                refine Rt.C_take (none) (i := 6) (oi := _) (v := ?_) rfl (by kernel_rfl) (by kernel_rfl) (by kernel_rfl) (by kernel_rfl) (fun _ _ _ h => h) (Sc2.other (by decide)) (Or.inl ⟨by rfl, ?_⟩) (fun o' _ => hS1 o') ?_
                rotate_left
                · intro w2 hSw
                  obtain ⟨s0, s1, s2, s3, s4, s5, s6, s7, s8, s9⟩ := hSw
                  go_simp
                  try with_reducible rfl
                simp only [Act.put, List.getElem_toArray, List.getElem_cons_succ, List.getElem_cons_zero, List.setIfInBounds_toArray, List.set_cons_zero, List.set_cons_succ]
                refine Rt.C_take (none) (i := 7) (oi := _) (v := ?_) rfl (by kernel_rfl) (by kernel_rfl) (by kernel_rfl) (by kernel_rfl) (fun _ _ _ h => h) (Sc2.other (by decide)) (Or.inl ⟨by rfl, ?_⟩) (fun o' _ => hS1 o') ?_
                rotate_left
                · intro w2 hSw
                  obtain ⟨s0, s1, s2, s3, s4, s5, s6, s7, s8, s9⟩ := hSw
                  go_simp
                  try with_reducible rfl
                simp only [Act.put, List.getElem_toArray, List.getElem_cons_succ, List.getElem_cons_zero, List.setIfInBounds_toArray, List.set_cons_zero, List.set_cons_succ]
                refine Rt.C_take (none) (i := 8) (oi := _) (v := ?_) rfl (by kernel_rfl) (by kernel_rfl) (by kernel_rfl) (by kernel_rfl) (fun _ _ _ h => h) (Sc2.other (by decide)) (Or.inl ⟨by rfl, ?_⟩) (fun o' _ => hS1 o') ?_
                rotate_left
                · intro w2 hSw
                  obtain ⟨s0, s1, s2, s3, s4, s5, s6, s7, s8, s9⟩ := hSw
                  go_simp
                  try with_reducible rfl
                simp only [Act.put, List.getElem_toArray, List.getElem_cons_succ, List.getElem_cons_zero, List.setIfInBounds_toArray, List.set_cons_zero, List.set_cons_succ]
                refine Rt.C_take (none) (i := 9) (oi := _) (v := ?_) rfl (by kernel_rfl) (by kernel_rfl) (by kernel_rfl) (by kernel_rfl) (fun _ _ _ h => h) (Sc2.other (by decide)) (Or.inl ⟨by rfl, ?_⟩) (fun o' _ => hS1 o') ?_
                rotate_left
                · intro w2 hSw
                  obtain ⟨s0, s1, s2, s3, s4, s5, s6, s7, s8, s9⟩ := hSw
                  go_simp
                  try with_reducible rfl
                simp only [Act.put, List.getElem_toArray, List.getElem_cons_succ, List.getElem_cons_zero, List.setIfInBounds_toArray, List.set_cons_zero, List.set_cons_succ]
                refine Rt.C_take (none) (i := 10) (oi := _) (v := ?_) rfl (by kernel_rfl) (by kernel_rfl) (by kernel_rfl) (by kernel_rfl) (fun _ _ _ h => h) (Sc2.other (by decide)) (Or.inl ⟨by rfl, ?_⟩) (fun o' _ => hS1 o') ?_
                rotate_left
                · intro w2 hSw
                  obtain ⟨s0, s1, s2, s3, s4, s5, s6, s7, s8, s9⟩ := hSw
                  go_simp
                  try with_reducible rfl
                simp only [Act.put, List.getElem_toArray, List.getElem_cons_succ, List.getElem_cons_zero, List.setIfInBounds_toArray, List.set_cons_zero, List.set_cons_succ]
                refine Rt.C_take (none) (i := 11) (oi := _) (v := ?_) rfl (by kernel_rfl) (by kernel_rfl) (by kernel_rfl) (by kernel_rfl) (fun _ _ _ h => h) (Sc2.other (by decide)) (Or.inl ⟨by rfl, ?_⟩) (fun o' _ => hS1 o') ?_
                rotate_left
                · intro w2 hSw
                  obtain ⟨s0, s1, s2, s3, s4, s5, s6, s7, s8, s9⟩ := hSw
                  go_simp
                  try with_reducible rfl
                simp only [Act.put, List.getElem_toArray, List.getElem_cons_succ, List.getElem_cons_zero, List.setIfInBounds_toArray, List.set_cons_zero, List.set_cons_succ]
                clear hS1
                refine Rt.C_ready (rs := [12]) (by kernel_rfl) (by simp) ?_
                refine Rt.AllC.cons (i := 12) (o := _) rfl (by rfl) (fun K' hK => ?_) ?_
                · skip
                  go_simp
                  refine (HMI.out g5 x2 y2 w5.drew (is_row2 HSd.out.q (lstN_len2 _ _) HML.out) HSd.out.g2 HMX.out.1 HMX.out.2).mono ?_
                  rintro e8 w8 ⟨rfl, hb8⟩
                  have HS8 := Lib.hid (HSd.out.keep hb8)
                  clear hb8 hdr HSd
                  rw [← hmv]
                  clear hmv
                  go_simp
                  have hS2 : ∀ o, Sc2 (fun w2 => w2.cell? ⟨fb, 0, none⟩ = some (.int .i64 K) ∧ w2.cell? ⟨fb, 1, none⟩ = some (.int .i64 B) ∧ w2.cell? ⟨fb, 2, none⟩ = some (.int .i64 S) ∧ w2.cell? ⟨fb, 3, none⟩ = some (.int .i64 st) ∧ w2.cell? ⟨fb, 4, none⟩ = some (.int .i64 ra) ∧ w2.cell? ⟨fb, 5, none⟩ = some (.slice ta tn tc) ∧ w2.cell? ⟨fb, 6, none⟩ = some (.string tu) ∧ w2.cell? ⟨fb, 10, none⟩ = some (.int .i64 (wd : Nat)) ∧ w2.cell? ⟨fb, 11, none⟩ = some (.int .i64 (h2 : Nat)) ∧ w2.cell? ⟨fb, 12, none⟩ = some (.slice (some ⟨qb, 0, none⟩) m m)) (fun w2 => True) 999 o w8 := Sc2.of ⟨HS8.out.f.cell 0, HS8.out.f.cell 1, HS8.out.f.cell 2, HS8.out.f.cell 3, HS8.out.f.cell 4, HS8.out.f.cell 5, HS8.out.f.cell 6, HS8.out.f.cell 10, HS8.out.f.cell 11, HS8.out.f.cell 12⟩ trivial
                  refine hK _ _ (fun o' _ => hS2 o') ?_
                  clear hK K'
                  simp only [Act.put, List.getElem_toArray, List.getElem_cons_succ, List.getElem_cons_zero, List.setIfInBounds_toArray, List.set_cons_zero, List.set_cons_succ]
                  refine Rt.C_take (none) (i := 13) (oi := _) (v := ?_) rfl (by kernel_rfl) (by kernel_rfl) (by kernel_rfl) (by kernel_rfl) (fun _ _ _ h => h) (Sc2.other (by decide)) (Or.inl ⟨by rfl, ?_⟩) (fun o' _ => hS2 o') ?_
                  rotate_left
                  · intro w2 hSw
                    obtain ⟨s0, s1, s2, s3, s4, s5, s6, s7, s8, s9⟩ := hSw
                    go_simp
                    try with_reducible rfl
                  simp only [Act.put, List.getElem_toArray, List.getElem_cons_succ, List.getElem_cons_zero, List.setIfInBounds_toArray, List.set_cons_zero, List.set_cons_succ]
                  refine Rt.C_done (by kernel_rfl) ?_ _
                  refine NoPanic.normal ?_
                  clear hS2
                  have f7 := HS8.out.f.cell 7
                  have f9 := HS8.out.f.cell 9
                  unfold finD at f7 f9
                  dsimp only [List.getElem?_cons_succ, List.getElem?_cons_zero] at f7 f9
                  have cg := HPC.out w8 HS8.out.bel
                  go_upto_region 22 with fail
                  have hdr : Below w8.heap.size w8 w8.drew := (Below.refl _ _).drew
                  have HS9 := Lib.hid (HS8.out.keep hdr)
                  clear hdr
                  go_big_quiet (fail)
                  clear f7 f9 cg
                  go_wp2_with fail
                  go_meet
                  case rel => exact ⟨q, by first | rw [HQ1.out] | (simp only [Value.bool.injEq]; exact HQ1.out), HQ.out, HS8.out.keep ⟨rfl, rfl, rfl, Nat.le_refl _, fun _ _ => rfl⟩⟩
                exact Rt.AllC.nil
            case rest =>
              obtain ⟨q, rfl, hq, hs5⟩ := hcut
              clear HS5
              have HS5 := Lib.hid hs5
              have HQ := Lib.hid hq
              clear hs5 hq
              cases q
              · have HNO1 : Hid (∀ c', c' < cc + 1 → (ckP B S f wd) at' (P * 2 + c') → CelF (ckP B S f wd) k (at' + 1) (P * 2 + c') none) := Lib.hid (fun c' hc' hk' => by
                  rcases Nat.lt_or_eq_of_le (Nat.le_of_lt_succ hc') with h | rfl
                  · exact HNO.out c' h hk'
                  · exact absurd (HQ.out.2 hk') (by decide))
                have HGP2 : Hid (∀ j, j < at' → g5 j = bt P (at' - 1 - j)) := Lib.hid (fun j hj => by
                  rw [HG5.out j (by omega), show at' - j = (at' - 1 - j) + 1 by omega, bt_up _ _ _ HCC.out])
                clear HNO HG5 HQ
                have hcc := HCC.out
                go_wp2_with fail
                go_roundw
                case rel => exact ⟨cc + 1, HCC.out, by go_num, g5, u2, bk2, bv2, HS5.out, HGP2.out, HU2.out, HM2.out, HNO1.out⟩
                case measure => simp [RowKit.intOf]; omega
              · have HCK : Hid ((ckP B S f wd) at' (P * 2 + cc)) := Lib.hid (HQ.out.1 rfl)
                have an : wrap64 ((at' : Int) + 1) = ((at' + 1 : Nat) : Int) := wr_nat (by push_cast; rfl) (by have := HAT.out; have := HM100.out; omega)
                have an' := wr_same an
                clear HQ
                go_wp2_with fail
                refine (HIH.out (at' + 1) (P * 2 + cc) g5 u2 bk2 bv2 _ HK1.out.2 (by have := HP.out; have := HCC.out; rw [Nat.pow_succ]; omega) HS5.out (fun j hj => by rw [HG5.out j (by omega)]; congr 1)).mono ?_
                rintro e6 w6 hP6
                unfold SetP at hP6
                clear an an'
                rcases hP6 with ⟨rfl, s, g6, hcel, hf6, hq6, hg6, hb6⟩ | ⟨rfl, hcel, g6, u6, bk6, bv6, hs6, hg6, hu6⟩
                · have HCL : Hid (CelF (ckP B S f wd) (k + 1) at' P (some (cc * 2 ^ k + s))) := Lib.hid (celF_some HCC.out HNO.out HCK.out hcel)
                  have HF6 := Lib.hid hf6
                  have HQ6 := Lib.hid hq6
                  have HB6 := Lib.hid hb6
                  have HG6 : Hid (∀ j, j < m → g6 j = bt (P * 2 ^ (k + 1) + (cc * 2 ^ k + s)) (m - 1 - j)) := Lib.hid (fun j hj => by
                    rw [hg6 j hj]
                    congr 1
                    rw [Nat.pow_succ, Nat.add_mul, Nat.mul_assoc, Nat.mul_comm 2, Nat.add_assoc])
                  clear hcel hf6 hq6 hb6 hg6 HNO
                  go_wp2_with fail
                  go_ret
                  exact SetP.yes rfl HCL.out HF6.out HQ6.out HG6.out HB6.out
                · have HNO1 : Hid (∀ c', c' < cc + 1 → (ckP B S f wd) at' (P * 2 + c') → CelF (ckP B S f wd) k (at' + 1) (P * 2 + c') none) := Lib.hid (fun c' hc' hk' => by
                    rcases Nat.lt_or_eq_of_le (Nat.le_of_lt_succ hc') with h | rfl
                    · exact HNO.out c' h hk'
                    · exact hcel)
                  have HGP2 : Hid (∀ j, j < at' → g6 j = bt P (at' - 1 - j)) := Lib.hid (fun j hj => by
                    rw [hg6 j (by omega), show at' + 1 - 1 - j = (at' - 1 - j) + 1 by omega, bt_up _ _ _ HCC.out])
                  have HS6 := Lib.hid hs6
                  have HU6 := Lib.hid (hu6 at' HU2.out)
                  have HM6 : Hid (∀ t, u t = true → u6 t = true) := Lib.hid (fun t ht => hu6 t (HM2.out t ht))
                  clear hcel hs6 hg6 hu6 HNO HG5 HCK HS5 HU2 HM2
                  have hcc := HCC.out
                  go_wp2_with fail
                  go_roundw
                  case rel => exact ⟨cc + 1, HCC.out, by go_num, g6, u6, bk6, bv6, HS6.out, HGP2.out, HU6.out, HM6.out, HNO1.out⟩
                  case measure => simp [RowKit.intOf]; omega
          · obtain rfl : cc = 2 := by omega
            have hci : ¬ (2 : Int) < 2 := by omega
            have HNN : Hid (CelF (ckP B S f wd) (k + 1) at' P none) := Lib.hid (celF_none HNO.out)
            have HT : Hid (CelF (ckP B S f wd) (m - at') at' ky none) := Lib.hid (by rw [HK1.out.1]; exact HMM.out P ky (by rw [HKV.out.1, Nat.mod_mod]) _ HNN.out)
            have f13 := HS.out.f.cell 13
            unfold finD at f13
            dsimp only [List.getElem?_cons_succ, List.getElem?_cons_zero] at f13
            have cb := HS.out.b.cell at'
            rw [List.getElem?_map, List.getElem?_range HAT.out] at cb
            dsimp only [Option.map_some] at cb
            unfold bsl at cb
            rw [if_pos HU2.out] at cb
            have ck := (HS.out.k at' HAT.out HU2.out).1.cell ky
            have zk := (HS.out.k at' HAT.out HU2.out).1.frozen ky
            rw [List.getElem?_map, List.getElem?_range HKV.out.2] at ck
            dsimp only [Option.map_some] at ck
            have HSM := Lib.hid (HS.out.mark HAT.out HKV.out.2 HU2.out HT.out)
            clear hcc hc2 HNO HS
            go_wp2_with fail
            go_ret
            exact SetP.no rfl HNN.out HSM.out HGP.out HM2.out
      · have HNN : Hid (CelF (ckP B S f wd) (k + 1) at' P none) := Lib.hid (by
          have h := HS.out.tr at' ky HAT.out HKV.out.2 HU1.out HQ.out.symm
          rw [HK1.out.1] at h
          exact HMM.out ky P (by rw [HKV.out.1, Nat.mod_mod]) _ h)
        clear t1 t2 t3 t3' wne wne2
        go_wp2_with fail
        go_ret
        exact SetP.no rfl HNN.out HS.out HGP.out HM1.out
end Pn
end Go.Proofs.YthipeeagpllfeaaDoor
