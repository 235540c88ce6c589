/- THE LAW WangPlane: its walk, out of its callees' contracts. -/
import Derived.Test.YthggpjpmjhaidaaWgPlane
import Derived.Test.YthggpjpmjhaidaaWgOpen
namespace Go.Proofs.Ythggpjpmjhaidaa
set_option linter.unusedSimpArgs false
set_option linter.unusedVariables false
open Go.RowKit Go.Lib
namespace Wg
open Tld Mem

theorem one_tiles (w : World) : Tiles (w.alloc (.cells #[.int .i64 1, .int .i64 2, .int .i64 1, .int .i64 2] 29)) (some ⟨w.heap.size, 0, none⟩) 1 [⟨1, 2, 1, 2⟩] := by
  refine ⟨rfl, fun i hi => ?_, by decide⟩
  obtain rfl : i = 0 := by omega
  have hr := row_alloc w 29 [.int .i64 1, .int .i64 2, .int .i64 1, .int .i64 2]
  refine ⟨w.heap.size, 0, rfl, hr.lt, fun j hj => ?_⟩
  have := hr.cell (0 + 0 * 4 + j)
  refine Eq.trans this ?_
  match j, hj with
  | 0, _ => rfl
  | 1, _ => rfl
  | 2, _ => rfl
  | 3, _ => rfl
theorem one_decided (w : World) : Calls Try.prog 10 #[.slice (some ⟨w.heap.size, 0, none⟩) 1 1, .int .i64 1] (w.alloc (.cells #[.int .i64 1, .int .i64 2, .int .i64 1, .int .i64 2] 29)) fun e w' => (∃ ad c, e = .returned (.tuple #[.agg #[.bool true, .int .i64 1, .int .i64 1, .slice ad 1 c], .nilIface])) ∧ Below w.heap.size w w' := by
  have h := Decide_ok (some ⟨w.heap.size, 0, none⟩) 1 1 [⟨1, 2, 1, 2⟩] 1 _ (one_tiles w) (by decide)
  refine h.mono fun e w' ⟨hd, hb⟩ => ⟨?_, ((Below.refl _ w).alloc (Nat.le_refl _) _).trans (hb.mono (by simp))⟩
  rw [one_dec _ rfl] at hd
  obtain ⟨ad, c, he, _⟩ := hd
  exact ⟨ad, c, he⟩
theorem zf_two {ts : List Tl} {W H : Nat} (h0 : tfault ts = 0) (hW1 : 1 ≤ W) (hW5 : W ≤ 5) (hH1 : 1 ≤ H) (hH5 : H ≤ 5) : zfault ts [(W : Int), (H : Int)] = 0 := zfault_ok h0 (fun k hk => by
  match k, hk with
  | 0, _ => show side (W : Int); exact ⟨by omega, by omega⟩
  | 1, _ => show side (H : Int); exact ⟨by omega, by omega⟩)
theorem zfault_most1 {ts : List Tl} {W : Int} (h : zfault ts [W] = 0) : tfault ts = 0 ∧ side W := by
  unfold zfault at h
  split at h
  · rename_i h1
    exact absurd h h1
  split at h
  · rename_i h1 h2
    exact ⟨Decidable.of_not_not h1, h2 W (List.mem_cons_self ..)⟩
  · cases h

set_option maxHeartbeats 8000000 in
set_option maxRecDepth 1000000 in
theorem wangPlane_any (a : Option Addr) (n c : Nat) (ts : List Tl) (most wide high right down : Int) (sa : Option Addr) (sn sc : Nat) (zs : List Int) (w : World) (hT : Tiles w a n ts) (hsn : zs.length = sn) (hs : sn ≤ maxLen) (hZ : Cells w sa sn (fun i => .int .i64 (zs.getD i 0))) :
    Calls Try.prog 4 #[.slice a n c, .int .i64 most, .int .i64 wide, .int .i64 high, .int .i64 right, .int .i64 down, .slice sa sn sc] w fun e w' => e = .returned (.bool true) ∧ Below w.heap.size w w' := by
  have HT := Lib.hid hT
  have HZ := Lib.hid hZ
  have HSN := Lib.hid hsn
  have hs' := hs
  unfold maxLen at hs'
  clear hT hZ hsn
  go_enter Try.func4, Try.ntmps4
  go_wp2_with fail
  refine (one_decided w).mono ?_
  rintro e1 w1 ⟨⟨ad1, c1, rfl⟩, hb1⟩
  go_upto_region 3 with fail
  have hr2 := row_alloc w1 31 [.bool true, .int .i64 1, .int .i64 1, .slice ad1 1 c1]
  have hbx : Below w1.heap.size w1 (w1.alloc (.cells [Value.bool true, .int .i64 1, .int .i64 1, .slice ad1 1 c1].toArray 31)) := (Below.refl _ _).alloc (Nat.le_refl _) _
  have HB2 := Lib.hid (hb1.trans (hbx.mono hb1.size))
  have g0 := hr2.cell 0
  have g3 := hr2.cell 3
  dsimp only [List.getElem?_cons_succ, List.getElem?_cons_zero] at g0 g3
  clear hb1 hr2 hbx
  obtain ⟨b16, hb16⟩ : ∃ b, b = w1.heap.size := ⟨_, rfl⟩
  rw [← hb16] at g0 g3 ⊢
  clear hb16
  generalize w1.alloc (.cells [Value.bool true, .int .i64 1, .int .i64 1, .slice ad1 1 c1].toArray 31) = w2 at *
  go_wp2_with fail
  clear g0 g3
  have hs2 := HB2.out.size
  by_cases hz : zfault ts [most] = 0
  case neg =>
    refine (Decide_bad a n c ts most w2 (HT.out.keep HB2.out) _ rfl hz).mono ?_
    rintro e3 w3 ⟨rfl, hb3⟩
    have HB3 := Lib.hid (HB2.out.trans (hb3.mono hs2))
    clear hb3 hz
    generalize zfault ts [most] = f at *
    go_wp2_with fail
    go_ret
    exact ⟨rfl, HB3.out.alloc (by have := HB3.out.size; exact this) _⟩
  case pos =>
    obtain ⟨ht0, hm1, hm5⟩ := zfault_most1 hz
    obtain ⟨m, rfl⟩ := Int.eq_ofNat_of_zero_le (show 0 ≤ most by omega)
    have HT0 := Lib.hid ht0
    have HDO := Lib.hid (Decide_ok a n c ts m w2 (HT.out.keep HB2.out) hz)
    clear hz ht0
    refine HDO.out.mono ?_
    clear HDO
    rintro e3 w3 ⟨hd, hb3⟩
    have HB3 := Lib.hid (HB2.out.trans (hb3.mono hs2))
    clear hb3 HB2 hs2
    cases hdec : decS (fun i => ts.getD i noTile) n m with
    | none =>
      rw [hdec] at hd
      unfold DecR at hd
      subst hd
      clear hdec
      go_wp2_with fail
      go_ret
      exact ⟨rfl, HB3.out.alloc (by have := HB3.out.size; exact this) _⟩
    | some d =>
      rw [hdec] at hd
      have hok := decS_ok hdec
      obtain ⟨tor, W, H, l⟩ := d
      obtain ⟨ad, cc, rfl, hown⟩ := hd
      obtain ⟨hW1, hW5, hH1, hH5, hyes, hno⟩ := hok
      dsimp only at hW1 hW5 hH1 hH5 hyes hno hown
      have hW5 : W ≤ 5 := by omega
      have hH5 : H ≤ 5 := by omega
      have HOW := Lib.hid (cells_own hown)
      have HYES := Lib.hid hyes
      have HNO := Lib.hid hno
      clear hown hyes hno hdec
      go_upto_region 6 with fail
      have hr4 := row_alloc w3 31 [.bool tor, .int .i64 W, .int .i64 H, .slice ad l.length cc]
      have hbx : Below w3.heap.size w3 (w3.alloc (.cells [Value.bool tor, .int .i64 W, .int .i64 H, .slice ad l.length cc].toArray 31)) := (Below.refl _ _).alloc (Nat.le_refl _) _
      have HB4 := Lib.hid (HB3.out.trans (hbx.mono HB3.out.size))
      have HR4 := Lib.hid hr4
      have HC4 := Lib.hid (HOW.out.keep hbx)
      have hs18 := HB3.out.size
      clear hr4 hbx HB3 HOW
      obtain ⟨b18, hb18⟩ : ∃ b, b = w3.heap.size := ⟨_, rfl⟩
      rw [← hb18] at HR4 hs18 ⊢
      clear hb18
      generalize w3.alloc (.cells [Value.bool tor, .int .i64 W, .int .i64 H, .slice ad l.length cc].toArray 31) = w4 at *
      have g0 := HR4.out.cell 0
      have g1 := HR4.out.cell 1
      have g2 := HR4.out.cell 2
      have g3 := HR4.out.cell 3
      dsimp only [List.getElem?_cons_succ, List.getElem?_cons_zero] at g0 g1 g2 g3
      cases tor
      case false =>
        have hnof := (HNO.out rfl).2
        have HZF := Lib.hid (zf_two (ts := ts) HT0.out hW1 hW5 hH1 hH5)
        by_cases hcf : cfault n ((W : Int) * (H : Int)) zs = 0
        case neg =>
          have HFB := Lib.hid (fits_bad2 a n c ts W H sa sn sc zs false w4 (HT.out.keep HB4.out) HSN.out (HZ.out.keep HB4.out) (cfault n ((W : Int) * (H : Int)) zs) (by rw [if_neg (fun h => h HZF.out)]) hcf)
          clear hnof hcf
          generalize cfault n ((W : Int) * (H : Int)) zs = f at *
          go_wp2_with fail
          refine HFB.out.mono ?_
          rintro e5 w5 ⟨rfl, hb5⟩
          have HB5 := Lib.hid (HB4.out.trans (hb5.mono HB4.out.size))
          clear hb5
          go_wp2_with fail
          go_ret
          exact ⟨rfl, HB5.out⟩
        case pos =>
          have hc2 : sn = W * H ∧ ∀ z ∈ zs, 0 ≤ z ∧ z < (n : Int) := by
            unfold cfault at hcf
            split at hcf
            · cases hcf
            · rename_i h1
              split at hcf
              · rename_i h2
                refine ⟨?_, h2⟩
                have e : ((W * H : Nat) : Int) = (W : Int) * (H : Int) := by push_cast; rfl
                rw [HSN.out] at h1
                omega
              · cases hcf
          obtain ⟨hc3, hc4⟩ := hc2
          have HFO := Lib.hid (fits_ok a n c ts W H sa sn sc zs false w4 (HT.out.keep HB4.out) HZF.out HSN.out hc3 hc4 (HZ.out.keep HB4.out))
          have HNG : Hid (¬ Good W H false (zt ts zs)) := by
            have e := casts_of (zs := zs) (fun z hz => (hc4 z hz).1)
            rw [e, zt_casts]
            refine fillS_none hnof _ (by rw [List.length_map, HSN.out]; exact hc3) (fun x hx => ?_)
            obtain ⟨z, hz, rfl⟩ := List.mem_map.1 hx
            have := hc4 z hz
            omega
          clear hnof hcf hc3 hc4
          go_wp2_with fail
          refine HFO.out.mono ?_
          rintro e5 w5 ⟨⟨b, rfl, hb⟩, hb5⟩
          obtain rfl : b = false := Bool.eq_false_iff.2 fun h => HNG.out (hb.1 h)
          have HB5 := Lib.hid (HB4.out.trans (hb5.mono HB4.out.size))
          clear hb hb5
          go_wp2_with fail
          go_ret
          exact ⟨rfl, HB5.out⟩
      case true =>
        obtain ⟨hgood, hll, hlb⟩ := fillS_some (HYES.out rfl)
        have HG := Lib.hid hgood
        have HLL := Lib.hid hll
        have HLB := Lib.hid hlb
        have e3 : (W : Int) * (H : Int) = (l.length : Int) := by rw [hll]; push_cast; rfl
        have hl25 : l.length ≤ 25 := by rw [hll]; exact Nat.le_trans (Nat.mul_le_mul hW5 hH5) (by omega)
        have hWi : ¬ (W : Int) < 1 := by omega
        have hHi : ¬ (H : Int) < 1 := by omega
        have hWi1 : 1 ≤ W := hW1
        clear hgood hll hlb
        have hcase : (wide < 1) ∨ (1 ≤ wide ∧ 5 < wide) ∨ (1 ≤ wide ∧ wide ≤ 5 ∧ high < 1) ∨ (1 ≤ wide ∧ wide ≤ 5 ∧ 1 ≤ high ∧ 5 < high) ∨ (1 ≤ wide ∧ wide ≤ 5 ∧ 1 ≤ high ∧ high ≤ 5 ∧ right < 0) ∨ (1 ≤ wide ∧ wide ≤ 5 ∧ 1 ≤ high ∧ high ≤ 5 ∧ 0 ≤ right ∧ 1000000 < right) ∨ (1 ≤ wide ∧ wide ≤ 5 ∧ 1 ≤ high ∧ high ≤ 5 ∧ 0 ≤ right ∧ right ≤ 1000000 ∧ down < 0) ∨ (1 ≤ wide ∧ wide ≤ 5 ∧ 1 ≤ high ∧ high ≤ 5 ∧ 0 ≤ right ∧ right ≤ 1000000 ∧ 0 ≤ down ∧ 1000000 < down) ∨ (1 ≤ wide ∧ wide ≤ 5 ∧ 1 ≤ high ∧ high ≤ 5 ∧ 0 ≤ right ∧ right ≤ 1000000 ∧ 0 ≤ down ∧ down ≤ 1000000) := by omega
        rcases hcase with h1 | ⟨h1, h2⟩ | ⟨h1, h2, h3⟩ | ⟨h1, h2, h3, h4⟩ | ⟨h1, h2, h3, h4, h5⟩ | ⟨h1, h2, h3, h4, h5, h6⟩ | ⟨h1, h2, h3, h4, h5, h6, h7⟩ | ⟨h1, h2, h3, h4, h5, h6, h7, h8⟩ | ⟨h1, h2, h3, h4, h5, h6, h7, h8⟩
        case inr.inr.inr.inr.inr.inr.inr.inr =>
          obtain ⟨wi, rfl⟩ := Int.eq_ofNat_of_zero_le (show 0 ≤ wide by omega)
          obtain ⟨hi, rfl⟩ := Int.eq_ofNat_of_zero_le (show 0 ≤ high by omega)
          obtain ⟨ri, rfl⟩ := Int.eq_ofNat_of_zero_le (show 0 ≤ right by omega)
          obtain ⟨dn, rfl⟩ := Int.eq_ofNat_of_zero_le (show 0 ≤ down by omega)
          go_upto_if 127 with fail
          go_step
          go_step
          go_step
          rename_i hKK _hcj
          refine hKK _ _ ?_
          clear hKK _hcj
          refine plane_last n c a ts W H wi hi ri dn b18 cc ad l w w4 hWi1 hW5 hH1 hH5 (by omega) (by omega) (by omega) (by omega) (by omega) (by omega) hs18 HT HT0 HLL HLB HG HR4 HC4 HB4 _ _ _ _ _ _ _ _ _ _ _ _ _ _ _ _ _ _ _ _ _ _ _ _ _ _ _ _ _ _ _ _ _ _ _ _ _ _ _ _ _ _ _ _ _ _ _ _ _ _ _ _ _ _ _ _ _ _ _ _ _ _ _ _ _ _ _ _ _ _ _ _ _ _ _ _ _ _ _ _ _ _ _ _ _ _ _ _ _ _ _ _ _ _ _ _ _ _ _ _ _ _ _ _ _ _ _ _ _ _ _ _ _ _ _ _ _ _ _ _ _ _ _ _ _ _ _ _ _ _ _ _ _ _ _ _ _ _ _ _ _ _ _ _ _ _ _ _ _ _ _ _ _ _ _ _ _ _ _ _ _ _ _ _ _ _ _ _ _ _ _ _ _ _ _ _ _ _ _ _ _ _ _ _ _ _ _ _ _ _ _ _ _ _ _ _ _ _ _ _ _ _ _ _ _ _ _ ?_
          intro u22 u23 u24 u25 u26 u27 u28 u29 u147 u148 u149 u150 u151 u152 u153 u154 u155 u156 u157 u158 u159 u160 u161 u162 u163 u164 u165 u166 u167 u168 u169 u170 u171 u172 u173 u174 u175 u176 u177 u178 u179 u180 u181 u182 u183 u184 u185 u186 u187 u188 u189 u190 u191 u192 u193 u194 u195 u196 u197 u198 u199 u200 u201 u202 u203 u204 u205 u206 u207 u208 u209 u210 u211 w' hb
          go_wp2_with fail
          go_ret
          exact ⟨rfl, hb⟩
        all_goals
          go_wp2_with fail
          go_ret
          exact ⟨rfl, HB4.out⟩
end Wg
end Go.Proofs.Ythggpjpmjhaidaa
