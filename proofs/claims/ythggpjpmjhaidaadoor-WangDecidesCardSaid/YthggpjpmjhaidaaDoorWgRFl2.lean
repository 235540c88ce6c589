/- WALK: edenref7's Fill: back and forth. -/
import Derived.Test.YthggpjpmjhaidaaDoorWgRFl
namespace Go.Proofs.YthggpjpmjhaidaaDoor
set_option linter.unusedSimpArgs false
set_option linter.unusedVariables false
open Go.RowKit Go.Lib
namespace Wg
open Tld Mem

/-- What a round of the search is told. -/
def Rel (T : Nat → Tl) (n W H : Nat) (ring : Bool) (all B b : Nat) (w : World) (g : Nat) (u : Value) (wr : World) : Prop :=
  (∃ cs i, g = mu n all cs i + 1 ∧ u = .int .i64 (cs.length : Nat) ∧ Stand T n W H ring cs i ∧ At B b n all cs (.int .i64 ((i : Int) - 1)) wr ∧ Below B w wr) ∨ (u = .int .i64 (-1) ∧ fillS T n W H ring = none ∧ Below B w wr)

set_option maxHeartbeats 4000000 in
set_option maxRecDepth 1000000 in
theorem rfill_any (a : Option Addr) (n c : Nat) (ts : List Tl) (W H : Nat) (ring : Bool) (w : World) (hT : Tiles w a n ts) (hn : n ≤ 16) (hn1 : 1 ≤ n)
    (hW1 : 1 ≤ W) (hW5 : W ≤ 5) (hH1 : 1 ≤ H) (hH5 : H ≤ 5) :
    Calls Tryd.prog 27 #[.slice a n c, .int .i64 W, .int .i64 H, .bool ring] w fun e w' => RFillR w.heap.size (fillS (fun i => ts.getD i noTile) n W H ring) e w' ∧ Below w.heap.size w w' := by
  obtain ⟨all, hall⟩ : ∃ all, all = W * H := ⟨_, rfl⟩
  have h25 : all ≤ 25 := by rw [hall]; exact Nat.le_trans (Nat.mul_le_mul hW5 hH5) (by omega)
  have h1 : 1 ≤ all := by rw [hall]; exact Nat.mul_pos hW1 hH1
  have hA : (W : Int) * (H : Int) = (all : Int) := by rw [hall]; push_cast; rfl
  obtain ⟨B, hBe⟩ : ∃ B, B = w.heap.size := ⟨_, rfl⟩
  have HRF : Hid (∀ (b : Nat) (cs : List Nat) (x : Nat) (w2 : World), cs.length < all → x < n → (∀ y ∈ cs, y < n) → Below B w w2 → At B b n all cs (.int .i64 x) w2 → Calls Tryd.prog 48 #[.slice a n c, .int .i64 W, .int .i64 H, .slice (some ⟨b, 0, none⟩) (cs.length + 1) all, .int .i64 (cs.length : Nat), .bool ring] w2 fun e w' => e = .returned (.bool (fitB W H ring (tl (fun i => ts.getD i noTile) (cs ++ [x])) cs.length)) ∧ Below w2.heap.size w2 w') := by
    intro b cs x w2 hl hx hy hb hat
    have := rfit_any a n c ts W H (some ⟨b, 0, none⟩) (cs.length + 1) all (casts (cs ++ [x])) cs.length ring w2 (hT.below hb (by rw [hBe]; exact Nat.le_refl _)) hn hW1 hW5 hH1 hH5 (by omega) (by omega) (fun j hj => by
      rw [casts_get]
      have hm : (cs ++ [x]).getD j 0 ∈ cs ++ [x] := by
        rw [List.getD_eq_getElem?_getD, List.getElem?_eq_getElem (by simp; omega)]
        exact List.getElem_mem _
      have : (cs ++ [x]).getD j 0 < n := by
        rcases List.mem_append.1 hm with h | h
        · exact hy _ h
        · rw [List.mem_singleton.1 h]; exact hx
      omega) hat.cells
    rw [zt_casts] at this
    exact this
  obtain ⟨T, hTT⟩ : ∃ T : Nat → Tl, T = fun i => ts.getD i noTile := ⟨_, rfl⟩
  rw [← hTT] at HRF ⊢
  have hstart : Stand T n W H ring [] 0 := stand_start (by omega)
  have HST := Lib.hid hstart
  have HAL := Lib.hid hall
  have HBE := Lib.hid hBe
  obtain ⟨i0, hi0, hz0, hz1, hz2⟩ := info_parts infoInt
  have HI0 := Lib.hid hi0
  have HZ0 := Lib.hid hz0
  have HZ1 := Lib.hid hz1
  have HBY : Hid (i0.bytes ≤ 16) := by show i0.bytes ≤ 16; omega
  have h10 : all ≤ 10000000000 := by omega
  rw [← hBe]
  clear hT hTT hstart hall hBe hi0 hz0 hz1 hz2
  go_enter Tryd.func27, Tryd.ntmps27
  go_upto_region 3 with (refine Ops.wpList_make rfl 24 _ _ rfl 3 i0 (.int .i64 0) Tryd.underlying24 HI0.out HZ0.out rfl HZ1.out HBY.out all rfl rfl h10 ?_; intro b w1 hb hbel1 hrow1)
  rw [← HBE.out] at hb hbel1
  have c0 := hrow1.cell 0
  rw [List.getElem?_replicate, if_pos (show 0 < all from h1)] at c0
  have z0 := hrow1.frozen 0
  have hlt0 := hrow1.lt
  have h1i : (0 : Int) < (all : Int) := by omega
  have HR1 := Lib.hid hrow1
  have HB1 := Lib.hid hbel1
  clear hrow1 hbel1
  go_upto_region 5 with fail
  have hat0 : At B b n all [] (.int .i64 ((0 : Nat) - 1 : Int)) (w1.setCell ⟨b, 0, none⟩ (.int .i64 (-1))) := by
    obtain ⟨d, hd⟩ : ∃ d, all = d + 1 := ⟨all - 1, by omega⟩
    have hr := HR1.out
    rw [hd, List.replicate_succ] at hr
    have hat : At B b n all [] (.int .i64 0) w1 := ⟨List.replicate d (.int .i64 0), hr, by simp [nats, hd]⟩
    exact hat.set (.int .i64 (-1))
  have HAT0 := Lib.hid hat0
  have HB0 := Lib.hid (HB1.out.trans ((only_setCell w1 b 0 (.int .i64 (-1))).below hb))
  clear hat0 HR1 HB1 c0 z0 HI0 HZ0 HZ1 HBY h10
  generalize w1.setCell ⟨b, 0, none⟩ (.int .i64 (-1)) = w2 at *
  go_loopg [12] (mu n all [] 0 + 1) (fun g u wr => Rel T n W H ring all B b w g u wr)
  case atStart => exact .inl ⟨[], 0, rfl, rfl, HST.out, HAT0.out, HB0.out⟩
  case round =>
    clear HST HAT0 HB0 hlt0
    unfold Rel at hrel
    rcases hrel with ⟨cs, i, rfl, rfl, hst, hat, hbel⟩ | ⟨rfl, hno, hbel⟩
    case inr =>
      have HN := Lib.hid hno
      have HB := Lib.hid hbel
      clear hno hbel
      go_wp2_with fail
      go_ret2
      exact ⟨rfillR_none HN.out, HB.out⟩
    case inl =>
      have hlen := hst.len
      rw [← HAL.out] at hlen
      have hile := hst.le
      obtain ⟨ck, zk, hlk⟩ := hat.cell
      have HS := Lib.hid hst
      have HA := Lib.hid hat
      have HB := Lib.hid hbel
      have hleni : (cs.length : Int) < (all : Int) := by omega
      have hat1 := hat.set (.int .i64 (i : Nat))
      have HA1 := Lib.hid hat1
      have HB1 := Lib.hid (hbel.trans ((only_setCell wr b cs.length (.int .i64 (i : Nat))).below hb))
      clear hst hat hbel hat1
      go_upto_region 7 with fail
      generalize wr.setCell ⟨b, cs.length, none⟩ (.int .i64 (i : Nat)) = w3 at *
      clear HA HB ck zk hlk
      obtain ⟨c3, z3, hl3⟩ := HA1.out.cell
      have hs3 : B ≤ w3.heap.size := by omega
      by_cases hin : i < n
      case neg =>
        have hn' : (n : Int) ≤ (i : Int) := by omega
        go_wp2_with fail
        rcases HS.out.last with hc | ⟨up, x, hc, hx⟩
        · go_roundg 0
          case measure => omega
          case rel =>
            have hst := HS.out
            subst hc
            exact .inr ⟨rfl, hst.over (by omega), HB1.out⟩
        · go_roundg (mu n all up (x + 1) + 1)
          case measure =>
            have := mu_pop (all := all) (up := up) hile hx
            subst hc
            omega
          case rel =>
            have hst := HS.out
            have ha := HA1.out
            subst hc
            refine .inl ⟨up, x + 1, rfl, ?_, hst.pop (by omega), ?_, HB1.out⟩
            · simp
            · have := ha.up
              rwa [show (((x + 1 : Nat) : Int) - 1) = (x : Int) from by omega]
      case pos =>
        have hn' : ¬ (n : Int) ≤ (i : Int) := by omega
        have hk1 : (cs.length : Int) + 1 ≤ (all : Int) := by omega
        have hF := HRF.out b cs i w3 hlen hin HS.out.bd HB1.out HA1.out
        obtain ⟨fb, hfb⟩ : ∃ fb, fb = fitB W H ring (tl T (cs ++ [i])) cs.length := ⟨_, rfl⟩
        rw [← hfb] at hF
        have HFB := Lib.hid hfb
        have HF := Lib.hid hF
        clear hF hfb
        go_wp2_with fail
        refine HF.out.mono ?_
        rintro e w4 ⟨rfl, hb4⟩
        have HA4 := Lib.hid (HA1.out.keep hb4)
        have HB4 := Lib.hid (HB1.out.trans (hb4.mono hs3))
        clear hb4 c3 z3 HF
        cases fb
        case false =>
          have hno : ¬ (FitW W ring (tl T (cs ++ [i])) cs.length ∧ FitF W H ring (tl T (cs ++ [i])) cs.length) := fun h => by
            have := fitB_iff.2 h
            rw [← HFB.out] at this; cases this
          have HNO := Lib.hid hno
          clear hno
          go_wp2_with fail
          go_roundg (mu n all cs (i + 1) + 1)
          case measure => have := mu_next (all := all) (cs := cs) hile; omega
          case rel =>
            refine .inl ⟨cs, i + 1, rfl, rfl, HS.out.no hin HNO.out, ?_, HB4.out⟩
            rw [show (((i + 1 : Nat) : Int) - 1) = (i : Int) from by omega]
            exact HA4.out
        case true =>
          have HYES := Lib.hid (fitB_iff.1 HFB.out.symm)
          by_cases hl : cs.length + 1 = all
          case pos =>
            have hq : ((cs.length : Int) == (all : Int) - 1) = true := by rw [beq_iff_eq]; omega
            have HL := Lib.hid hl
            clear hl
            go_wp2_with fail
            go_ret2
            have hl1 : (cs ++ [i]).length = all := by rw [List.length_append, ← HL.out]; rfl
            have := rfillR_some (B := B) (HS.out.yes hW1 hH1 hin HYES.out (by rw [HL.out, HAL.out])) hb (HA4.out.all HL.out)
            rw [hl1] at this
            exact ⟨this, HB4.out⟩
          case neg =>
            have hq : ((cs.length : Int) == (all : Int) - 1) = false := by rw [beq_eq_false_iff_ne]; omega
            obtain ⟨v, hat5⟩ := HA4.out.down (x := i) (by omega)
            obtain ⟨c5, z5, hl5⟩ := hat5.cell
            rw [show (cs ++ [i]).length = cs.length + 1 from by simp] at c5 z5
            have hat6 := hat5.set (.int .i64 (-1))
            have hb6 := HB4.out.trans ((only_setCell w4 b (cs ++ [i]).length (.int .i64 (-1))).below hb)
            rw [show (cs ++ [i]).length = cs.length + 1 from by simp] at hat6 hb6
            have HA6 := Lib.hid hat6
            have HB6 := Lib.hid hb6
            have hk2 : (cs.length : Int) + 1 < (all : Int) := by omega
            have HL := Lib.hid hl
            clear hat5 hat6 hb6 hl
            go_wp2_with fail
            go_roundg (mu n all (cs ++ [i]) 0 + 1)
            case measure => have := mu_push (all := all) hin hlen; omega
            case rel =>
              exact .inl ⟨cs ++ [i], 0, rfl, by simp, HS.out.push hin HYES.out (by rw [← HAL.out]; omega), HA6.out, HB6.out⟩
end Wg
end Go.Proofs.YthggpjpmjhaidaaDoor
