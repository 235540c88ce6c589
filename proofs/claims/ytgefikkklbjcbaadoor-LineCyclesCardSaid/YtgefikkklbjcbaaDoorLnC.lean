/- WALK: line.Compose$1, Widen$1; line.Compose, Widen. -/
import Derived.Test.YtgefikkklbjcbaaDoorLnM
import Derived.Deep.RegionWith
namespace Go.Proofs.YtgefikkklbjcbaaDoor
set_option linter.unusedSimpArgs false
set_option linter.unusedVariables false
open Go.RowKit
namespace Ln
open Tld Mem

/-- A rule of a line that a walk knows. -/
structure RulIs (w : World) (st ra : Nat) (ta : Option Addr) (tn : Nat) (tz : List Int) : Prop where
  is : Ints.Is w ta tn tz
  st2 : 2 ≤ st
  st4 : st ≤ 4
  ra5 : ra ≤ 5
  len : tn = st ^ (2 * ra + 1)
  le : tn ≤ 4096
  tz : ∀ z ∈ tz, 0 ≤ z ∧ z < (st : Int)
theorem RulIs.keep {w w' : World} {st ra tn : Nat} {ta : Option Addr} {tz : List Int} (h : RulIs w st ra ta tn tz) (hb : Below w.heap.size w w') : RulIs w' st ra ta tn tz := ⟨h.is.keep hb, h.st2, h.st4, h.ra5, h.len, h.le, h.tz⟩
theorem RulIs.lt {w : World} {st ra tn : Nat} {ta : Option Addr} {tz : List Int} (h : RulIs w st ra ta tn tz) (k : Nat) : wf tz k < st := wf_lt (by have := h.st2; omega) h.tz k
/-- apply, of a word that is written as a function. -/
theorem apply_lst {K B S : Int} {st ra : Nat} {ta : Option Addr} {tn tc : Nat} {tz : List Int} {tu : ByteArray} {w : World} (h : RulIs w st ra ta tn tz) (wa : Option Addr) (wn wc m : Nat) (f : Nat → Nat) (hW : Ints.Is w wa wn (lst wn f)) (hwc : wn ≤ wc) (hf : ∀ k, f k < st) (hwn : wn ≤ 10000) (hm : wn = m + 2 * ra) :
    Calls Tryd.prog 31 #[.agg #[.int .i64 K, .int .i64 B, .int .i64 S, .int .i64 st, .int .i64 ra, .slice ta tn tc, .string tu], .slice wa wn wc] w fun e w' => (∃ ao co, e = .returned (.slice ao m co) ∧ m ≤ co ∧ Ints.Is w' ao m (lst m (app (wf tz) st ra f))) ∧ Below w.heap.size w w' := by
  refine (apply_any K B S st ra ta tn tc tz tu wa wn wc (lst wn f) w h.is h.st2 h.st4 h.ra5 h.len h.le h.tz hW hwc (lst_mem hf) hwn).mono ?_
  rintro e w' ⟨⟨v', rfl, hown⟩, hb⟩
  rw [show wn - 2 * ra = m from by omega] at hown
  have hl : applyL (wf tz) st ra (lst wn f) = lst m (app (wf tz) st ra f) := by
    unfold applyL
    rw [lst_len, show wn - 2 * ra = m from by omega]
    refine lst_congr fun k hk => ?_
    unfold app
    congr 1
    exact win_congr fun j hj => wf_lst (by omega)
  rw [hl] at hown
  obtain ⟨ao, co, rfl, hco⟩ := own_slice2 hown
  exact ⟨⟨ao, co, rfl, hco, (own_is hown lst_len (by unfold maxLen; omega)).1⟩, hb⟩
theorem two_cells {w : World} {p q : Nat} {K B S K' B' S' : Int} {st ra rb : Nat} {ta tb : Option Addr} {tna tca tnb tcb : Nat} {tu tu' : ByteArray} (hp : Row w p 24 (rulL K' B' S' st rb tb tnb tcb tu')) (hq : Row w q 24 (rulL K B S st ra ta tna tca tu)) :
    w.cell? ⟨p, 0, none⟩ = some (.int .i64 K') ∧ w.cell? ⟨p, 1, none⟩ = some (.int .i64 B') ∧ w.cell? ⟨p, 2, none⟩ = some (.int .i64 S') ∧ w.cell? ⟨p, 3, none⟩ = some (.int .i64 (st : Int)) ∧ w.cell? ⟨p, 4, none⟩ = some (.int .i64 (rb : Int)) ∧ w.cell? ⟨p, 5, none⟩ = some (.slice tb tnb tcb) ∧ w.cell? ⟨p, 6, none⟩ = some (.string tu') ∧ w.cell? ⟨q, 0, none⟩ = some (.int .i64 K) ∧ w.cell? ⟨q, 1, none⟩ = some (.int .i64 B) ∧ w.cell? ⟨q, 2, none⟩ = some (.int .i64 S) ∧ w.cell? ⟨q, 3, none⟩ = some (.int .i64 (st : Int)) ∧ w.cell? ⟨q, 4, none⟩ = some (.int .i64 (ra : Int)) ∧ w.cell? ⟨q, 5, none⟩ = some (.slice ta tna tca) ∧ w.cell? ⟨q, 6, none⟩ = some (.string tu) :=
  ⟨hp.cell 0, hp.cell 1, hp.cell 2, hp.cell 3, hp.cell 4, hp.cell 5, hp.cell 6, hq.cell 0, hq.cell 1, hq.cell 2, hq.cell 3, hq.cell 4, hq.cell 5, hq.cell 6⟩
set_option maxHeartbeats 8000000 in
set_option maxRecDepth 1000000 in
theorem compose1_any (K B S K' B' S' : Int) (st ra rb : Nat) (ta tb : Option Addr) (tna tca tnb tcb : Nat) (tza tzb : List Int) (tu tu' : ByteArray) (p q g : Nat) (i : Nat) (w : World) (ha : RulIs w st ra ta tna tza) (hb : RulIs w st rb tb tnb tzb)
    (hp : Row w p 24 (rulL K' B' S' st rb tb tnb tcb tu')) (hq : Row w q 24 (rulL K B S st ra ta tna tca tu)) (hg : Ints.Is w (some ⟨g, 0, none⟩) (2 * (ra + rb) + 1) (lst (2 * (ra + rb) + 1) (dig st (2 * (ra + rb) + 1) i))) :
    Calls Tryd.prog 30 #[.slice (some ⟨g, 0, none⟩) (2 * (ra + rb) + 1) (2 * (ra + rb) + 1), .pointer (some ⟨p, 0, none⟩), .pointer (some ⟨q, 0, none⟩)] w fun e w' => e = .returned (.int .i64 (comp (wf tza) (wf tzb) st ra rb i : Nat)) ∧ Below w.heap.size w w' := by
  have hs2 := ha.st2
  have hr1 := ha.ra5
  have hr2 := hb.ra5
  have hdr : Below w.heap.size w w.drew := (Below.refl _ _).drew
  have HC1 := Lib.hid (apply_lst (K := K) (B := B) (S := S) (tc := tca) (tu := tu) (ha.keep hdr) (some ⟨g, 0, none⟩) (2 * (ra + rb) + 1) (2 * (ra + rb) + 1) (2 * rb + 1) _ (hg.keep hdr) (Nat.le_refl _) (fun k => dig_lt (by omega)) (by omega) (by omega))
  have HC2 : Hid (∀ (w6 : World), Below w.drew.heap.size w.drew w6 → ∀ ao co, 2 * rb + 1 ≤ co → Ints.Is w6 ao (2 * rb + 1) (lst (2 * rb + 1) (app (wf tza) st ra (dig st (2 * (ra + rb) + 1) i))) → Calls Tryd.prog 31 #[.agg #[.int .i64 K', .int .i64 B', .int .i64 S', .int .i64 st, .int .i64 rb, .slice tb tnb tcb, .string tu'], .slice ao (2 * rb + 1) co] w6 fun e w' => (∃ g2 co2, e = .returned (.slice (some ⟨g2, 0, none⟩) 1 co2) ∧ w'.cell? ⟨g2, 0, none⟩ = some (.int .i64 (comp (wf tza) (wf tzb) st ra rb i : Nat))) ∧ Below w.heap.size w w') := fun w6 h6 ao co hco hI => by
    refine (apply_any K' B' S' st rb tb tnb tcb tzb tu' ao (2 * rb + 1) co _ w6 ((hb.keep hdr).keep h6).is hb.st2 hb.st4 hb.ra5 hb.len hb.le hb.tz hI hco (lst_mem fun k => ha.lt _) (by omega)).mono ?_
    rintro e w' ⟨⟨v', rfl, hown⟩, hb2⟩
    refine ⟨?_, (hdr.trans (h6.mono hdr.size)).trans (hb2.mono (hdr.trans (h6.mono hdr.size)).size)⟩
    rw [show 2 * rb + 1 - 2 * rb = 1 from by omega] at hown
    have hl : applyL (wf tzb) st rb (lst (2 * rb + 1) (app (wf tza) st ra (dig st (2 * (ra + rb) + 1) i))) = [((comp (wf tza) (wf tzb) st ra rb i : Nat) : Int)] := by
      unfold applyL
      rw [lst_len, show 2 * rb + 1 - 2 * rb = 1 from by omega]
      show [((app (wf tzb) st rb _ 0 : Nat) : Int)] = _
      unfold comp
      congr 2
      unfold app
      congr 1
      refine win_congr fun j hj => ?_
      rw [wf_lst (by omega)]
    rw [hl] at hown
    rcases hown.2 with ⟨_, h0⟩ | ⟨g2, cap, cur, rfl, _, hg2, _, _, hcs, ht⟩
    · exact absurd h0 (by decide)
    · refine ⟨g2, cap, rfl, ?_⟩
      have h1 : w'.cell? ⟨g2, 0, none⟩ = cur[0]? := by simp [World.cell?, hg2]
      rw [h1]
      have h3 : (cur.toList.take (1 * 1))[0]? = [Value.int .i64 ((comp (wf tza) (wf tzb) st ra rb i : Nat) : Int)][0]? := by rw [ht]; rfl
      rw [List.getElem?_take_of_lt (by omega), Array.getElem?_toList] at h3
      exact h3
  have HP := Lib.hid hp
  have HQ := Lib.hid hq
  have f0 := hp.cell 0
  have f1 := hp.cell 1
  have f2 := hp.cell 2
  have f3 := hp.cell 3
  have f4 := hp.cell 4
  have f5 := hp.cell 5
  have f6 := hp.cell 6
  have g0 := hq.cell 0
  have g1 := hq.cell 1
  have g2 := hq.cell 2
  have g3 := hq.cell 3
  have g4 := hq.cell 4
  have g5 := hq.cell 5
  have g6 := hq.cell 6
  unfold rulL at f0 f1 f2 f3 f4 f5 f6 g0 g1 g2 g3 g4 g5 g6
  dsimp only [List.getElem?_cons_succ, List.getElem?_cons_zero] at f0 f1 f2 f3 f4 f5 f6 g0 g1 g2 g3 g4 g5 g6
  clear ha hb hp hq hg hdr
  generalize 2 * (ra + rb) + 1 = ww at *
  generalize 2 * rb + 1 = wb at *
  generalize comp (wf tza) (wf tzb) st ra rb i = cv at *
  go_enter Tryd.func30, Tryd.ntmps30
  go_wp2_with fail
  go_region_with (first
    | (go_at_call 31
       refine (HC2.out _ hb6 _ _ hco hI).mono ?_
       rintro e2 w7 ⟨⟨g7, co7, rfl, hc7⟩, hb7⟩)
    | (go_at_call 31
       refine HC1.out.mono ?_
       rintro e1 w6 ⟨⟨ao, co, rfl, hco, hI⟩, hb6⟩
       obtain ⟨k0, k1, k2, k3, k4, k5, k6, _⟩ := two_cells (HP.out.drew.keep hb6 HP.out.drew.lt) (HQ.out.drew.keep hb6 HQ.out.drew.lt)))
  all_goals
    go_wp2_with fail
    go_ret
    exact ⟨rfl, hb7⟩
end Ln
end Go.Proofs.YtgefikkklbjcbaaDoor
