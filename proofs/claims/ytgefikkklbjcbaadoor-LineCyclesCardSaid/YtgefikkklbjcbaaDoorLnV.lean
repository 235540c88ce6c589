/- WALK: line.Widen$1. -/
import Derived.Test.YtgefikkklbjcbaaDoorLnC
namespace Go.Proofs.YtgefikkklbjcbaaDoor
set_option linter.unusedSimpArgs false
set_option linter.unusedVariables false
open Go.RowKit
namespace Ln
open Tld Mem

theorem is_sub {w : World} {g n m d : Nat} {f : Nat → Nat} (h : Ints.Is w (some ⟨g, 0, none⟩) n (lst n f)) (hd : d + m ≤ n) : Ints.Is w (some ⟨g, d, none⟩) m (lst m fun k => f (d + k)) := by
  refine ⟨lst_len, fun i hi => ?_, by have := h.le; omega⟩
  obtain ⟨b, o, e, hb, hc⟩ := h.cells (d + i) (by omega)
  cases e
  refine ⟨g, d, rfl, hb, ?_⟩
  dsimp only at hc ⊢
  rw [show d + i = 0 + (d + i) from by omega, hc, lst_get (by omega), lst_get hi]
set_option maxHeartbeats 8000000 in
set_option maxRecDepth 1000000 in
theorem widen1_any (K B S : Int) (st ra d n : Nat) (ta : Option Addr) (tna tca : Nat) (tza : List Int) (tu : ByteArray) (p q g : Nat) (i : Nat) (w : World) (ha : RulIs w st ra ta tna tza) (hd : d ≤ 5) (hn : n = 2 * (ra + d) + 1)
    (hp : Row w p 24 (rulL K B S st ra ta tna tca tu)) (hq : Row w q 3 [.int .i64 d]) (hg : Ints.Is w (some ⟨g, 0, none⟩) n (lst n (dig st n i))) :
    Calls Tryd.prog 32 #[.slice (some ⟨g, 0, none⟩) n n, .pointer (some ⟨p, 0, none⟩), .pointer (some ⟨q, 0, none⟩)] w fun e w' => e = .returned (.int .i64 (wide (wf tza) st ra (ra + d) i : Nat)) ∧ Below w.heap.size w w' := by
  have hs2 := ha.st2
  have hr1 := ha.ra5
  have hdr : Below w.heap.size w w.drew := (Below.refl _ _).drew
  have HC1 : Hid (Calls Tryd.prog 31 #[.agg #[.int .i64 K, .int .i64 B, .int .i64 S, .int .i64 st, .int .i64 ra, .slice ta tna tca, .string tu], .slice (some ⟨g, d, none⟩) (n - d - d) (n - d)] w.drew fun e w' => (∃ g2 co2, e = .returned (.slice (some ⟨g2, 0, none⟩) 1 co2) ∧ w'.cell? ⟨g2, 0, none⟩ = some (.int .i64 (wide (wf tza) st ra (ra + d) i : Nat))) ∧ Below w.heap.size w w') := by
    have hd2 : ∀ k, dig st n i k < st := fun k => dig_lt (by omega)
    rw [show n - d - d = 2 * ra + 1 from by omega, show n - d = 2 * ra + 1 + d from by omega]
    refine (apply_any K B S st ra ta tna tca tza tu (some ⟨g, d, none⟩) (2 * ra + 1) (2 * ra + 1 + d) (lst (2 * ra + 1) fun k => dig st n i (d + k)) w.drew (ha.keep hdr).is ha.st2 ha.st4 ha.ra5 ha.len ha.le ha.tz ((is_sub hg (by omega)).keep hdr) (by omega) (lst_mem fun k => hd2 _) (by omega)).mono ?_
    rintro e w' ⟨⟨v', rfl, hown⟩, hb2⟩
    refine ⟨?_, hdr.trans (hb2.mono hdr.size)⟩
    rw [show 2 * ra + 1 - 2 * ra = 1 from by omega] at hown
    have hl : applyL (wf tza) st ra (lst (2 * ra + 1) fun k => dig st n i (d + k)) = [((wide (wf tza) st ra (ra + d) i : Nat) : Int)] := by
      unfold applyL
      rw [lst_len, show 2 * ra + 1 - 2 * ra = 1 from by omega]
      show [((app (wf tza) st ra _ 0 : Nat) : Int)] = _
      unfold wide
      congr 2
      unfold app
      congr 1
      refine win_congr fun j hj => ?_
      rw [wf_lst (by omega)]
      dsimp only
      rw [show ra + d - ra = d from by omega, hn]
    rw [hl] at hown
    rcases hown.2 with ⟨_, h0⟩ | ⟨g2, cap, cur, rfl, _, hg2, _, _, hcs, ht⟩
    · exact absurd h0 (by decide)
    · refine ⟨g2, cap, rfl, ?_⟩
      have h1 : w'.cell? ⟨g2, 0, none⟩ = cur[0]? := by simp [World.cell?, hg2]
      rw [h1]
      have h3 : (cur.toList.take (1 * 1))[0]? = [Value.int .i64 ((wide (wf tza) st ra (ra + d) i : Nat) : Int)][0]? := by rw [ht]; rfl
      rw [List.getElem?_take_of_lt (by omega), Array.getElem?_toList] at h3
      exact h3
  have f0 := hp.cell 0
  have f1 := hp.cell 1
  have f2 := hp.cell 2
  have f3 := hp.cell 3
  have f4 := hp.cell 4
  have f5 := hp.cell 5
  have f6 := hp.cell 6
  have g0 := hq.cell 0
  unfold rulL at f0 f1 f2 f3 f4 f5 f6
  dsimp only [List.getElem?_cons_succ, List.getElem?_cons_zero] at f0 f1 f2 f3 f4 f5 f6 g0
  have hn21 : n ≤ 21 := by omega
  obtain ⟨e, he⟩ : ∃ e, e = n - d := ⟨_, rfl⟩
  rw [← he] at HC1
  have hsub : (n : Int) - (d : Int) = (e : Int) := by omega
  have hed : d < e := by omega
  have hwr : IntKind.i64.wrap (e : Int) = (e : Int) := by rw [IntKind.wrap_i64]; omega
  have hne : ¬ n = d := by omega
  have hen : e ≤ n := by omega
  have hend : n - d = e := he.symm
  clear ha hp hq hg hdr hn hd he
  generalize wide (wf tza) st ra (ra + d) i = cv at *
  go_enter Tryd.func32, Tryd.ntmps32
  go_wp2_with fail
  go_region_with (
      (go_at_call 31
       refine HC1.out.mono ?_
       rintro e1 w6 ⟨⟨g7, co7, rfl, hc7⟩, hb7⟩))
  all_goals
    go_wp2_with fail
    go_ret
    exact ⟨rfl, hb7⟩
end Ln
end Go.Proofs.YtgefikkklbjcbaaDoor
