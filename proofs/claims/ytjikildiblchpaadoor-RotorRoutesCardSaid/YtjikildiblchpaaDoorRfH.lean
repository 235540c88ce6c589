/- WALK of the document's answer: edenref6.Tree. -/
import Derived.Test.YtjikildiblchpaaDoorRfQ
namespace Go.Proofs.YtjikildiblchpaaDoor
set_option linter.unusedSimpArgs false
set_option linter.unusedVariables false
open Go.RowKit Go.Lib
namespace Rt
open Tld Mem

theorem tree_reach {B : Bd} (hB : B.Ok) {sg : Nat → Nat} (hsg : ∀ k, k < B.P → k ≠ B.sink → sg k < B.d k) (h : ∀ k, k < B.P → ∃ n, itr (nx B sg) n k = B.sink) : IsTree B sg := by
  refine tree_of hB hsg fun M hM k hk => ?_
  have h1 : ∀ n, M (itr (nx B sg) n k) := fun n => by
    induction n with
    | zero => exact hk
    | succ n ih =>
      obtain ⟨a, b, c⟩ := hM _ ih
      show M (nx B sg _)
      rw [nx_no b]
      exact c
  obtain ⟨n, hn⟩ := h k (hM _ hk).1
  exact (hM _ (h1 n)).2.1 hn

set_option maxHeartbeats 8000000 in
set_option maxRecDepth 1000000 in
theorem rtree_any (p s m : Nat) (ea : Option Addr) (ec : Nat) (f : Nat → Nat → Int) (sa : Option Addr) (sc : Nat) (sz : List Int) (w : World) (hE : Mem.Rows w ea m 3 (fun i j => .int .i64 (f i j))) (hS : Ints.Is w sa p sz) (hok : GOk p m f) (hsp : s < p) (hsg : ∀ k, k < p → SignOk s (fun k => deg f k m) k (sz.getD k 0)) :
    Calls Tryd.prog 9 #[.agg #[.int .i64 (p : Int), .slice ea m ec], .int .i64 (s : Int), .slice sa p sc] w fun e w' => (∃ b : Bool, (b = true ↔ IsTree (bdG p m s f) (sgN sz)) ∧ e = .returned (.bool b)) ∧ Below w.heap.size w w' := by
  have hbo : (bdG p m s f).Ok := bdG_ok hok hsp
  have hsk := signs_ok hsg
  have hp10 := hok.p10
  have hp0 : 0 < p := hok.p1
  have HLT : Hid (∀ k, k < p → k ≠ s → sgN sz k < deg f k m) := fun k hk e => (hsk k hk).2.2 e
  have HVL : Hid (∀ k, k < p → sz.getD k 0 = (sgN sz k : Int)) := fun k hk => (hsk k hk).1
  have HBO := Lib.hid hbo
  have HOK := Lib.hid hok
  have HE := Lib.hid hE
  have HS := Lib.hid hS
  clear hbo hok hE hS hsg hsk
  go_enter Tryd.func9, Tryd.ntmps9
  go_upto_region 1 with fail
  have hR : Row (w.alloc (.cells #[.int .i64 (p : Int), .slice ea m ec] 24)) w.heap.size 24 [.int .i64 (p : Int), .slice ea m ec] := row_alloc w _ _
  have hB : Below w.heap.size w (w.alloc (.cells #[.int .i64 (p : Int), .slice ea m ec] 24)) := (Below.refl _ _).alloc (Nat.le_refl _) _
  have HG := Lib.hid hR
  have HB := Lib.hid hB
  clear hR hB
  generalize w.alloc (.cells #[.int .i64 (p : Int), .slice ea m ec] 24) = w1 at *
  have l1 := row_range HG.out
  go_wp2_with (refine wpList_load_mid rfl 24 _ rfl w.heap.size 0 rfl _ _ l1 Tryd.underlying24 rfl infoGraph ?_)
  clear l1
  refine (rall_any p ea m ec f w1 (rows_keep HE.out HB.out) HOK.out.m40 HOK.out.edge hp10).mono ?_
  rintro e1 w2 ⟨v, LV, rfl, hw2, hb2⟩
  obtain ⟨g, cap, rfl⟩ : ∃ g cap, v = .slice (some ⟨g, 0, none⟩) p cap := by
    rcases hw2.row.2 with ⟨_, h1⟩ | ⟨g, cap, cur, h1, _⟩
    · omega
    · exact ⟨g, cap, h1⟩
  obtain ⟨B, hBB⟩ : ∃ B, B = w1.heap.size := ⟨_, rfl⟩
  rw [← hBB] at hw2
  have HW := Lib.hid hw2
  have HG := Lib.hid (HG.out.keep hb2 HG.out.lt)
  have HB := Lib.hid (HB.out.trans (hb2.mono HB.out.size))
  clear hw2 hb2 hBB
  obtain ⟨D, hD⟩ : ∃ D, D = bdG p m s f := ⟨_, rfl⟩
  have HD := Lib.hid hD
  clear hD
  go_wp2_with fail
  go_loopw [8] (fun z wr => ∃ (k : Nat), k ≤ p ∧ z = .int .i64 (k : Int) ∧ (∀ j, j < k → ∃ n, itr (nx D (sgN sz)) n j = s) ∧ WaysAt wr B p m f (.slice (some ⟨g, 0, none⟩) p cap) LV ∧ Row wr w.heap.size 24 [.int .i64 (p : Int), .slice ea m ec] ∧ Below w.heap.size w wr) (fun z _ => p - (intOf z).toNat)
  case atStart => exact ⟨0, Nat.zero_le _, rfl, fun j hj => absurd hj (Nat.not_lt_zero _), HW.out, HG.out, HB.out⟩
  case round =>
    clear HW HG HB
    obtain ⟨k, hkp, rfl, hall, hw, hg, hb⟩ := hrel
    have HALL := Lib.hid hall
    have HW := Lib.hid hw
    have HG := Lib.hid hg
    have HB := Lib.hid hb
    have g0 := hg.cell 0
    dsimp only [List.getElem?_cons_zero] at g0
    clear hall hw hg hb
    by_cases hk : k < p
    · have hk2 : (k : Int) < (p : Int) := by omega
      go_wp2_with fail
      clear g0
      generalize decide ((k : Int) < (p : Int)) = qk
      go_loopw [9, 10] (fun y z wx => ∃ (n a : Nat), n ≤ p + 1 ∧ y = .int .i64 (a : Int) ∧ z = .int .i64 (n : Int) ∧ a < p ∧ itr (nx D (sgN sz)) n k = a ∧ WaysAt wx B p m f (.slice (some ⟨g, 0, none⟩) p cap) LV ∧ Row wx w.heap.size 24 [.int .i64 (p : Int), .slice ea m ec] ∧ Below w.heap.size w wx) (fun _ z _ => p + 1 - (intOf z).toNat)
      case atStart => exact ⟨0, k, Nat.zero_le _, rfl, rfl, hk, rfl, HW.out, HG.out, HB.out⟩
      case round =>
        clear HW HG HB
        obtain ⟨n, a, hn, rfl, rfl, hap, hit, hw, hg, hb⟩ := hrel
        have HIT := Lib.hid hit
        have HW := Lib.hid hw
        have HG := Lib.hid hg
        have HB := Lib.hid hb
        have g0 := hg.cell 0
        dsimp only [List.getElem?_cons_zero] at g0
        clear hit hw hg hb
        by_cases has : a = s
        · have b1 : ((a : Int) != (s : Int)) = false := by rw [has]; exact bne_self_eq_false _
          have HALL2 : Hid (∀ j, j < k + 1 → ∃ n, itr (nx D (sgN sz)) n j = s) := fun j hj => by
            by_cases e : j = k
            · rw [e]; exact ⟨n, HIT.out.trans has⟩
            · exact HALL.out j (by omega)
          clear has
          go_wp2_with fail
          go_roundw
          case rel => exact ⟨k + 1, by omega, by go_num, HALL2.out, HW.out, HG.out, HB.out⟩
          case measure => simp [intOf]; omega
        · have b1 : ((a : Int) != (s : Int)) = true := by rw [bne_iff_ne]; omega
          by_cases hnp : p < n
          · have hn2 : (p : Int) < (n : Int) := by omega
            have HNO : Hid (¬ IsTree (bdG p m s f) (sgN sz)) := fun h => by
              rw [← HD.out] at h
              have h1 := h k (by rw [HD.out]; exact hk)
              have h2 : D.P = p := by rw [HD.out]; rfl
              rw [h2] at h1
              have h3 : n = p + (n - p) := by omega
              have h4 := HIT.out
              rw [h3, itr_sink (n - p) h1] at h4
              have h5 : D.sink = s := by rw [HD.out]; rfl
              exact has (h4.symm.trans h5)
            clear has
            go_wp2_with fail
            go_ret
            exact ⟨⟨false, ⟨fun h => (by cases h), fun h => absurd h HNO.out⟩, rfl⟩, HB.out⟩
          · have hn2 : ¬ (p : Int) < (n : Int) := by omega
            have hsl := HLT.out a hap has
            obtain ⟨bw, ow, uc, g1, g2⟩ := ways_to (s := s) HW.out HOK.out hap hsl
            obtain ⟨bz, oz, rfl, _, s1⟩ := (HS.out.keep HB.out).cells a hap
            dsimp only at s1
            rw [HVL.out a hap] at s1
            have HNX : Hid (itr (nx D (sgN sz)) (n + 1) k = (bdG p m s f).way a (sgN sz a)) := by
              show nx D (sgN sz) (itr (nx D (sgN sz)) n k) = _
              rw [HIT.out, HD.out]
              exact if_neg has
            have HQP := Lib.hid (HBO.out.way a hap _ hsl).1
            obtain ⟨q, hq⟩ : ∃ q, q = (bdG p m s f).way a (sgN sz a) := ⟨_, rfl⟩
            rw [← hq] at HNX HQP g2
            have hqp : q < p := HQP.out
            clear hq has HQP
            generalize sgN sz a = sm at *
            generalize deg f a m = d at *
            have hs2 : (sm : Int) < (d : Int) := by omega
            have ha2 : (a : Int) < (p : Int) := by omega
            go_upto_region 10 with fail
            go_big_quiet (fail)
            have HW8 := Lib.hid (HW.out.keep (below_drewN (Below.refl _ _) nq))
            have HG8 := Lib.hid (HG.out.drewN nq)
            have HB8 := Lib.hid (below_drewN HB.out nq)
            clear HW HG HB g1 g2 s1 g0
            generalize wr.drewN nq = w8 at *
            go_wp2_with fail
            go_roundw
            case rel => exact ⟨n + 1, q, by omega, rfl, by go_num, hqp, HNX.out, HW8.out, HG8.out, HB8.out⟩
            case measure => simp [intOf]; omega
    · obtain rfl : k = p := by omega
      have HYES : Hid (IsTree (bdG k m s f) (sgN sz)) := tree_reach HBO.out HLT.out (by rw [← HD.out]; intro j hj; have h := HALL.out j (by rw [HD.out] at hj; exact hj); rw [HD.out] at h ⊢; exact h)
      go_wp2_with fail
      go_ret
      exact ⟨⟨true, ⟨fun _ => HYES.out, fun _ => rfl⟩, rfl⟩, HB.out⟩
end Rt
end Go.Proofs.YtjikildiblchpaaDoor
