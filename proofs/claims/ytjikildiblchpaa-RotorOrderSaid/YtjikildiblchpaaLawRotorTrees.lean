/- THE LAW RotorTrees: its walk, out of its callees' contracts. -/
import Derived.Test.YtjikildiblchpaaRtT
namespace Go.Proofs.Ytjikildiblchpaa
set_option linter.unusedSimpArgs false
set_option linter.unusedVariables false
open Go.RowKit Go.Lib
namespace Rt
open Tld Mem

/-- The graph of two places and one edge, twice. -/
def f2 (_ j : Nat) : Int := if j = 0 then 0 else if j = 1 then 1 else 2
theorem f2_edge : EdgeOk 2 f2 0 := by unfold EdgeOk f2; decide
theorem f2_conn : ConnG 2 f2 1 := fun k hk => by
  have h0 : Reach f2 1 0 := reach_zero
  have hb : Btw f2 0 0 1 := by decide
  match k, hk with
  | 0, _ => exact h0
  | 1, _ => exact h0.step (by omega) hb
theorem f2_ok : gfault 2 1 f2 = 0 := gfault_ok (by omega) (by omega) (fun i hi => by
  obtain rfl : i = 0 := by omega
  exact f2_edge) f2_conn
theorem f2_deg1 : deg f2 1 1 = 2 := by decide
theorem f2_deg0 : deg f2 0 1 = 2 := by decide
theorem f2_signs {a b : Int} (ha : a = 0) (hb : 0 ≤ b) (hb2 : b < 2) : sfault 2 1 f2 0 [a, b] = 0 := by
  refine sfault_ok f2_ok (by omega) (by simp) fun k hk => ?_
  have hk2 : k < 2 := hk
  match k, hk2 with
  | 0, _ => exact ⟨by show 0 ≤ a; omega, fun _ => ha, fun h => absurd rfl h⟩
  | 1, _ => exact ⟨hb, fun h => (by cases h), fun _ => by
      show b < ((deg f2 1 1 : Nat) : Int)
      rw [f2_deg1]; exact hb2⟩
theorem f2_tree : IsTree (bdG 2 1 0 f2) (sgN [0, 1]) := fun k hk => by
  have hk2 : k < 2 := hk
  match k, hk2 with
  | 0, _ => decide
  | 1, _ => decide
theorem rows_one {w : World} {b : Nat} (h : Row w b 27 [.int .i64 0, .int .i64 1, .int .i64 2]) : Mem.Rows w (some ⟨b, 0, none⟩) 1 3 (fun i j => .int .i64 (f2 i j)) := fun i hi => by
  obtain rfl : i = 0 := by omega
  refine ⟨b, 0, rfl, h.lt, fun j hj => ?_⟩
  rw [show 0 + 0 * 3 + j = j by omega, h.cell j]
  match j, hj with
  | 0, _ => rfl
  | 1, _ => rfl
  | 2, _ => rfl
/-- Unlike trees come to unlike trees. -/
theorem trees_law {p s m : Nat} {f : Nat → Nat → Int} {s1 s2 : List Int} {c u1 u2 : Nat → Nat} (hok : GOk p m f) (hs : s < p) (h1 : s1.length = p) (h2 : s2.length = p)
    (g1 : ∀ k, k < p → SignOk s (fun k => deg f k m) k (s1.getD k 0)) (g2 : ∀ k, k < p → SignOk s (fun k => deg f k m) k (s2.getD k 0)) (t1 : IsTree (bdG p m s f) (sgN s1)) (t2 : IsTree (bdG p m s f) (sgN s2))
    (l1 : Leg (bdG p m s f) (sgN s1) c u1) (d1 : Done (bdG p m s f) (sgN s1) c u1) (l2 : Leg (bdG p m s f) (sgN s2) c u2) (d2 : Done (bdG p m s f) (sgN s2) c u2) :
    (lstF p (fun k => (sgU (bdG p m s f) (sgN s1) u1 k : Int)) = lstF p (fun k => (sgU (bdG p m s f) (sgN s2) u2 k : Int))) ↔ s1 = s2 := by
  have hbo := bdG_ok hok hs
  have k1 := signs_ok g1
  have k2 := signs_ok g2
  constructor
  · intro e
    have hf : ∀ k, k < (bdG p m s f).P → k ≠ (bdG p m s f).sink → sgU (bdG p m s f) (sgN s1) u1 k = sgU (bdG p m s f) (sgN s2) u2 k := fun k hk _ => by
      have := congrArg (fun l => l.getD k 0) e
      try dsimp only at this
      have hk' : k < p := hk
      rw [lstF_get hk', lstF_get hk'] at this
      exact Int.ofNat.inj this
    have hi := tree_inj hbo (fun k hk hn => (k1 k hk).2.2 hn) (fun k hk hn => (k2 k hk).2.2 hn) t1 t2 l1 d1 l2 d2 hf
    rw [← lstF_of h1, ← lstF_of h2]
    refine lstF_congr fun k hk => ?_
    rw [(k1 k hk).1, (k2 k hk).1]
    by_cases e : k = s
    · rw [(k1 k hk).2.1 e, (k2 k hk).2.1 e]
    · rw [hi k hk e]
  · intro e
    subst e
    rw [Leg.unique l1 d1 l2 d2]

theorem tree_out {P : Int} {m : Nat} {f : Nat → Nat → Int} {sink : Int} {sz : List Int} {w w' : World} {e : Ending} (h : TreePost P m f sink sz w e w') : (∃ b : Bool, e = .returned (.tuple #[.bool b, errV (sfault P m f sink sz)]) ∧ (sfault P m f sink sz = 0 → ∃ p s : Nat, P = (p : Int) ∧ sink = (s : Int) ∧ s < p ∧ GOk p m f ∧ sz.length = p ∧ (∀ k, k < p → SignOk s (fun k => deg f k m) k (sz.getD k 0)) ∧ (b = true ↔ IsTree (bdG p m s f) (sgN sz)))) ∧ Below w.heap.size w w' := by
  obtain ⟨h, hb⟩ := h
  refine ⟨?_, hb⟩
  rcases h with ⟨hf, he⟩ | ⟨hf, p, s, b, h1, h2, h3, h4, h5, h6, h7, he⟩
  · exact ⟨false, he, fun h => absurd h hf⟩
  · exact ⟨b, by rw [he, errV_zero hf], fun _ => ⟨p, s, h1, h2, h3, h4, h5, h6, h7⟩⟩
/-- Chips on one place. -/
theorem one_chips {p s q n : Nat} (hs : s < p) (hq : q < p) (hqs : q ≠ s) (hn : n ≤ 1000) : cfault p s (lstF p (upd (fun _ => 0) q (n : Int))) = 0 ∧ sumN (sgN (lstF p (upd (fun _ => 0) q (n : Int)))) p ≤ 1000 := by
  have hg : ∀ k, k < p → (lstF p (upd (fun _ => 0) q (n : Int))).getD k 0 = ((if q = k then n else 0 : Nat) : Int) := fun k hk => by
    rw [lstF_get hk]
    unfold upd
    by_cases e : k = q
    · rw [if_pos e, if_pos e.symm]
    · rw [if_neg e, if_neg (Ne.symm e)]; rfl
  constructor
  · unfold cfault
    rw [if_neg (by rw [lstF_len]; exact fun h => h rfl)]
    refine if_neg fun h => ?_
    rcases h with h | h
    · apply h
      rw [hg s hs, if_neg hqs]; rfl
    · obtain ⟨x, hx, hb⟩ := List.any_eq_true.1 h
      obtain ⟨k, hk, rfl⟩ := List.getElem_of_mem hx
      have hk' : k < p := by rw [lstF_len] at hk; exact hk
      have h2 := hg k hk'
      rw [List.getD_eq_getElem?_getD, List.getElem?_eq_getElem hk] at h2
      have h3 : (lstF p (upd (fun _ => 0) q (n : Int)))[k] = ((if q = k then n else 0 : Nat) : Int) := h2
      rw [h3] at hb
      unfold pbad at hb
      have := of_decide_eq_true hb
      split at this <;> omega
  · have e : sumN (sgN (lstF p (upd (fun _ => 0) q (n : Int)))) p = sumN (fun k => if q = k then n else 0) p := sumN_congr fun k hk => by
      unfold sgN
      rw [hg k hk]
      exact Int.toNat_natCast _
    have h2 := sumN_pickF (a := q) (F := fun _ => n) (n := p)
    rw [if_pos hq] at h2
    rw [e, h2]
    exact hn
set_option maxHeartbeats 8000000 in
set_option maxRecDepth 1000000 in
theorem rotorTrees_any (P sink : Int) (ea : Option Addr) (m ec : Nat) (f : Nat → Nat → Int) (s1 : Option Addr) (n1 c1 : Nat) (z1 : List Int) (s2 : Option Addr) (n2 c2 : Nat) (z2 : List Int) (pl n : Int) (w : World) (hE : Mem.Rows w ea m 3 (fun i j => .int .i64 (f i j))) (hm : m ≤ 9223372036854775807) (hS1 : Ints.Is w s1 n1 z1) (hnil1 : s1 = none → n1 = 0) (hS2 : Ints.Is w s2 n2 z2) (hnil2 : s2 = none → n2 = 0) :
    Calls Try.prog 3 #[.agg #[.int .i64 P, .slice ea m ec], .int .i64 sink, .slice s1 n1 c1, .slice s2 n2 c2, .int .i64 pl, .int .i64 n] w fun e w' => e = .returned (.bool true) ∧ Below w.heap.size w w' := by
  have HE := Lib.hid hE
  have HS1 := Lib.hid hS1
  have HS2 := Lib.hid hS2
  have HN1 := Lib.hid hnil1
  have HN2 := Lib.hid hnil2
  clear hE hS1 hS2 hnil1 hnil2
  go_enter Try.func3, Try.ntmps3
  go_upto_region 1 with fail
  have hR : Row (w.alloc (.cells #[.int .i64 P, .slice ea m ec] 24)) w.heap.size 24 [.int .i64 P, .slice ea m ec] := row_alloc w _ _
  have hB : Below w.heap.size w (w.alloc (.cells #[.int .i64 P, .slice ea m ec] 24)) := (Below.refl _ _).alloc (Nat.le_refl _) _
  have HG := Lib.hid hR
  have HB := Lib.hid hB
  clear hR hB
  generalize w.alloc (.cells #[.int .i64 P, .slice ea m ec] 24) = w1 at *
  obtain ⟨bg, hbg⟩ : ∃ bg, bg = w.heap.size := ⟨_, rfl⟩
  rw [← hbg] at HG ⊢
  clear hbg
  go_upto_region 2 with fail
  have hrE : Row (w1.alloc (.cells #[.int .i64 0, .int .i64 1, .int .i64 2] 27)) w1.heap.size 27 [.int .i64 0, .int .i64 1, .int .i64 2] := row_alloc w1 _ _
  have hbE : Below w1.heap.size w1 (w1.alloc (.cells #[.int .i64 0, .int .i64 1, .int .i64 2] 27)) := (Below.refl _ _).alloc (Nat.le_refl _) _
  have hsE : (w1.alloc (.cells #[.int .i64 0, .int .i64 1, .int .i64 2] 27)).heap.size = w1.heap.size + 1 := by simp
  have hrO := row_alloc (w1.alloc (.cells #[.int .i64 0, .int .i64 1, .int .i64 2] 27)) 24 [.int .i64 2, .slice (some ⟨w1.heap.size, 0, none⟩) 1 1]
  have hbO : Below (w1.heap.size + 1) (w1.alloc (.cells #[.int .i64 0, .int .i64 1, .int .i64 2] 27)) ((w1.alloc (.cells #[.int .i64 0, .int .i64 1, .int .i64 2] 27)).alloc (.cells [.int .i64 2, .slice (some ⟨w1.heap.size, 0, none⟩) 1 1].toArray 24)) := (Below.refl _ _).alloc (by rw [hsE]; exact Nat.le_refl _) _
  rw [hsE] at hrO
  have HRE := Lib.hid (rows_one (hrE.keep hbO (by omega)))
  have HRO := Lib.hid hrO
  have hbB := hbE.trans (hbO.mono (by omega))
  have HG := Lib.hid (HG.out.keep hbB HG.out.lt)
  have HB := Lib.hid (HB.out.trans (hbB.mono HB.out.size))
  clear hrE hbE hsE hrO hbO hbB
  generalize (w1.alloc (.cells #[.int .i64 0, .int .i64 1, .int .i64 2] 27)).alloc (.cells #[.int .i64 2, .slice (some ⟨w1.heap.size, 0, none⟩) 1 1] 24) = w2 at *
  obtain ⟨bo, hbo⟩ : ∃ b, b = w1.heap.size + 1 := ⟨_, rfl⟩
  obtain ⟨be, hbe⟩ : ∃ b, b = w1.heap.size := ⟨_, rfl⟩
  rw [← hbo, ← hbe] at HRO
  rw [← hbe] at HRE
  rw [← hbo, ← hbe]
  clear hbo hbe
  have l1 := row_range HRO.out
  have hr3 := row_alloc w2 3 [.int .i64 0, .int .i64 1]
  have hb3 : Below w2.heap.size w2 (w2.alloc (.cells [.int .i64 0, .int .i64 1].toArray 3)) := (Below.refl _ _).alloc (Nat.le_refl _) _
  have HI3 : Hid (Ints.Is (w2.alloc (.cells [.int .i64 0, .int .i64 1].toArray 3)) (some ⟨w2.heap.size, 0, none⟩) 2 [0, 1]) := (own_is (B := 0) (zs := [0, 1]) (own_made hr3 (Nat.zero_le _) (by unfold maxLen; decide)) rfl (by unfold maxLen; decide)).1
  have HRE := Lib.hid (HRE.out.keep hb3)
  have HG := Lib.hid (HG.out.keep hb3 HG.out.lt)
  have HB := Lib.hid (HB.out.trans (hb3.mono HB.out.size))
  clear hr3 hb3
  go_wp2_with (refine wpList_load_mid rfl 24 _ rfl bo 0 rfl _ _ l1 Try.underlying24 rfl infoGraph ?_)
  clear l1
  generalize w2.alloc (.cells #[.int .i64 0, .int .i64 1] 3) = w3 at *
  refine (tree_any 2 0 _ 1 1 f2 _ 2 2 [0, 1] w3 HRE.out (by omega) HI3.out (fun h => by cases h)).mono ?_
  intro e3 w4 hpost
  obtain ⟨⟨b, rfl, hinfo⟩, hb4⟩ := tree_out hpost
  have hsf := f2_signs (a := 0) (b := 1) rfl (by omega) (by omega)
  obtain ⟨p0, s0, hp0, hs0, _, _, _, _, htr⟩ := hinfo hsf
  obtain rfl : p0 = 2 := by omega
  obtain rfl : s0 = 0 := by omega
  obtain rfl : b = true := htr.2 f2_tree
  rw [errV_zero hsf]
  have HG := Lib.hid (HG.out.keep hb4 HG.out.lt)
  have HB := Lib.hid (HB.out.trans (hb4.mono HB.out.size))
  clear hpost hb4 hinfo hsf hp0 hs0 htr HRE HI3 HRO
  go_upto_region 5 with fail
  have l1 := row_range HG.out
  go_wp2_with (refine wpList_load_mid rfl 24 _ rfl bg 0 rfl _ _ l1 Try.underlying24 rfl infoGraph ?_)
  clear l1
  refine (tree_any P sink ea m ec f s1 n1 c1 z1 w4 (HE.out.keep HB.out) hm (HS1.out.keep HB.out) HN1.out).mono ?_
  intro e3 w5 hpost
  obtain ⟨⟨b1, rfl, hi1⟩, hb5⟩ := tree_out hpost
  have HI1 := Lib.hid hi1
  have HG := Lib.hid (HG.out.keep hb5 HG.out.lt)
  have HB := Lib.hid (HB.out.trans (hb5.mono HB.out.size))
  obtain ⟨e1, he1⟩ : ∃ z, z = sfault P m f sink z1 := ⟨_, rfl⟩
  rw [← he1] at HI1 ⊢
  clear hpost hi1 hb5 he1
  go_upto_region 6 with fail
  have l1 := row_range HG.out
  go_wp2_with (refine wpList_load_mid rfl 24 _ rfl bg 0 rfl _ _ l1 Try.underlying24 rfl infoGraph ?_)
  clear l1
  refine (tree_any P sink ea m ec f s2 n2 c2 z2 w5 (HE.out.keep HB.out) hm (HS2.out.keep HB.out) HN2.out).mono ?_
  intro e3 w6 hpost
  obtain ⟨⟨b2, rfl, hi2⟩, hb6⟩ := tree_out hpost
  have HI2 := Lib.hid hi2
  have HG := Lib.hid (HG.out.keep hb6 HG.out.lt)
  have HB := Lib.hid (HB.out.trans (hb6.mono HB.out.size))
  obtain ⟨e2, he2⟩ : ∃ z, z = sfault P m f sink z2 := ⟨_, rfl⟩
  rw [← he2] at HI2 ⊢
  clear hpost hi2 hb6 he2
  by_cases h1 : e1 = 0
  case neg =>
    rw [errV_some h1]
    go_wp2_with fail
    go_ret
    exact ⟨rfl, HB.out⟩
  subst h1
  by_cases h2 : e2 = 0
  case neg =>
    rw [errV_some h2]
    rw [errV_zero rfl]
    go_wp2_with fail
    go_ret
    exact ⟨rfl, HB.out⟩
  subst h2
  rw [errV_zero rfl]
  obtain ⟨p, s, rfl, rfl, hsp, hok, hl1, hg1, ht1⟩ := HI1.out rfl
  obtain ⟨p', s', hp', hs', _, _, hl2, hg2, ht2⟩ := HI2.out rfl
  obtain rfl : p' = p := by omega
  obtain rfl : s' = s := by omega
  have g0 := HG.out.cell 0
  dsimp only [List.getElem?_cons_zero] at g0
  have HT1 := Lib.hid ht1
  have HT2 := Lib.hid ht2
  have HL1 := Lib.hid hl1
  have HL2 := Lib.hid hl2
  have HG1 := Lib.hid hg1
  have HG2 := Lib.hid hg2
  have HOK := Lib.hid hok
  have hp1 := hok.p1
  have hp10 := hok.p10
  clear ht1 ht2 hl1 hl2 hg1 hg2 hok hp' hs' HI1 HI2
  cases b1
  case false => 
    go_wp2_with fail
    go_ret
    exact ⟨rfl, HB.out⟩
  cases b2
  case false =>
    go_wp2_with fail
    go_ret
    exact ⟨rfl, HB.out⟩
  by_cases q1 : pl < 0
  · go_wp2_with fail
    go_ret
    exact ⟨rfl, HB.out⟩
  by_cases q2 : (p' : Int) ≤ pl
  · go_wp2_with fail
    go_ret
    exact ⟨rfl, HB.out⟩
  obtain ⟨q, rfl⟩ : ∃ q : Nat, pl = (q : Int) := ⟨pl.toNat, by omega⟩
  have hqp : q < p' := by omega
  have d1 : decide ((p' : Int) ≤ (q : Int)) = false := decide_eq_false q2
  clear q1 q2
  obtain ⟨b, hb⟩ : ∃ b, b = ((q : Int) == (s' : Int)) := ⟨_, rfl⟩
  have q3 := hb.symm
  have HBQ := Lib.hid hb
  clear hb
  cases b
  case true =>
    go_wp2_with fail
    go_ret
    exact ⟨rfl, HB.out⟩
  by_cases q4 : n < 0
  · go_wp2_with fail
    go_ret
    exact ⟨rfl, HB.out⟩
  by_cases q5 : 1000 < n
  · go_wp2_with fail
    go_ret
    exact ⟨rfl, HB.out⟩
  obtain ⟨nn, rfl⟩ : ∃ nn : Nat, n = (nn : Int) := ⟨n.toNat, by omega⟩
  have hnn : nn ≤ 1000 := by omega
  have d2 : decide ((1000 : Int) < (nn : Int)) = false := decide_eq_false q5
  have hqs : q ≠ s' := fun e => by
    have := HBQ.out
    rw [e, beq_self_eq_true] at this
    cases this
  have HQS := Lib.hid hqs
  have HOC := Lib.hid (one_chips hsp hqp hqs hnn)
  clear q4 q5 hqs
  go_upto_region 9 with fail
  have hmk := mk_ints p' hp10 w6
  have hr0 := rep_row w6 p'
  have hb0 : Below w6.heap.size w6 (w6.alloc (.cells (Array.replicate p' (Value.int .i64 0)) 3)) := (Below.refl _ _).alloc (Nat.le_refl _) _
  have HV0 := Lib.hid (row_made hr0)
  have HB0 := Lib.hid hb0
  clear hr0 hb0
  go_upto_region 10 with fail
  clear hmk g0
  generalize w6.alloc (.cells (Array.replicate p' (Value.int .i64 0)) 3) = w6b at *
  obtain ⟨bc, hbc⟩ : ∃ b, b = w6.heap.size := ⟨_, rfl⟩
  have hlc : w6.heap.size ≤ bc := by omega
  rw [← hbc] at HV0 ⊢
  clear hbc
  have hc0 := HV0.out.cell hqp
  have hz0 := HV0.out.frozen q
  have hon := only_setCell w6b bc q (.int .i64 (nn : Int))
  have hb1 := HB0.out.trans (hon.below hlc)
  have hpm : p' ≤ maxLen := by unfold maxLen; omega
  have HC := Lib.hid ((HV0.out.set hqp (nn : Int)).is hpm)
  have HG := Lib.hid (HG.out.keep hb1 HG.out.lt)
  have HB := Lib.hid (HB.out.trans (hb1.mono HB.out.size))
  have hq2 : (q : Int) < (p' : Int) := by omega
  clear hon hb1
  go_upto_region 11 with fail
  clear hc0 hz0
  generalize w6b.setCell ⟨bc, q, none⟩ (.int .i64 (nn : Int)) = w7 at *
  obtain ⟨cz, hcz⟩ : ∃ l, l = lstF p' (upd (fun _ => 0) q (nn : Int)) := ⟨_, rfl⟩
  rw [← hcz] at HC HOC
  clear hcz
  have l1 := row_range HG.out
  go_wp2_with (refine wpList_load_mid rfl 24 _ rfl bg 0 rfl _ _ l1 Try.underlying24 rfl infoGraph ?_)
  clear l1
  refine (route_any (p' : Int) (s' : Int) ea m ec f s1 n1 c1 z1 _ p' p' cz w7 (HE.out.keep HB.out) hm (HS1.out.keep HB.out) HC.out (by omega) HN1.out (fun h => by cases h)).mono ?_
  rintro e8 w8 ⟨hpost, hb⟩
  have HG := Lib.hid (HG.out.keep hb HG.out.lt)
  have HC := Lib.hid (HC.out.keep hb)
  have HB := Lib.hid (HB.out.trans (hb.mono HB.out.size))

  have hsf1 : sfault (p' : Int) m f (s' : Int) z1 = 0 := sfault_ok (gfault_ok (by omega) (by have := HOK.out.m40; omega) (fun i hi => by
    have h := HOK.out.edge i hi
    have := h.a; have := h.b; have := h.t; have := h.al; have := h.bl; have := h.ne; have := h.tl; have := h.th
    unfold EdgeOk
    refine ⟨?_, ?_, ?_, ?_, ?_, ?_, ?_⟩ <;> omega) (by rw [Int.toNat_natCast]; exact HOK.out.conn)) (by omega) (by rw [HL1.out]; omega) (by rw [Int.toNat_natCast, Int.toNat_natCast]; exact HG1.out)
  have hsf2 : sfault (p' : Int) m f (s' : Int) z2 = 0 := sfault_ok (gfault_ok (by omega) (by have := HOK.out.m40; omega) (fun i hi => by
    have h := HOK.out.edge i hi
    have := h.a; have := h.b; have := h.t; have := h.al; have := h.bl; have := h.ne; have := h.tl; have := h.th
    unfold EdgeOk
    refine ⟨?_, ?_, ?_, ?_, ?_, ?_, ?_⟩ <;> omega) (by rw [Int.toNat_natCast]; exact HOK.out.conn)) (by omega) (by rw [HL2.out]; omega) (by rw [Int.toNat_natCast, Int.toNat_natCast]; exact HG2.out)
  have hbf1 : bfault (p' : Int) m f (s' : Int) z1 cz = 0 := by rw [bfault_c hsf1, Int.toNat_natCast, Int.toNat_natCast]; exact HOC.out.1
  have hbf2 : bfault (p' : Int) m f (s' : Int) z2 cz = 0 := by rw [bfault_c hsf2, Int.toNat_natCast, Int.toNat_natCast]; exact HOC.out.1
  have HBF2 := Lib.hid hbf2
  clear hsf1 hsf2 hbf2
  rcases hpost with ⟨hf, _⟩ | ⟨_, hsum, _⟩ | ⟨_, _, p1, s1', b1, c1', b2, c2', u1, hpp, hss, _, _, _, _, _, _, hleg1, hdon1, rfl, hi1, hi2⟩
  · exact absurd hbf1 hf
  · rw [Int.toNat_natCast] at hsum
    exact absurd HOC.out.2 (by omega)
  obtain rfl : p1 = p' := by omega
  obtain rfl : s1' = s' := by omega
  have HLG1 := Lib.hid hleg1
  have HDN1 := Lib.hid hdon1
  have HA1 := Lib.hid hi1
  clear hbf1 hleg1 hdon1 hi1 hi2 hb hpp hss
  go_upto_region 12 with fail
  have l1 := row_range HG.out
  go_wp2_with (refine wpList_load_mid rfl 24 _ rfl bg 0 rfl _ _ l1 Try.underlying24 rfl infoGraph ?_)
  clear l1
  refine (route_any (p1 : Int) (s1' : Int) ea m ec f s2 n2 c2 z2 _ p1 p1 cz w8 (HE.out.keep HB.out) hm (HS2.out.keep HB.out) HC.out (by omega) HN2.out (fun h => by cases h)).mono ?_
  rintro e9 w9 ⟨hpost, hb⟩
  have HA1 := Lib.hid (HA1.out.keep hb)
  have HB := Lib.hid (HB.out.trans (hb.mono HB.out.size))
  rcases hpost with ⟨hf, _⟩ | ⟨_, hsum, _⟩ | ⟨_, _, p2, s2', b3, c3', b4, c4', u2, hpp, hss, _, _, _, _, _, _, hleg2, hdon2, rfl, hi1, hi2⟩
  · exact absurd HBF2.out hf
  · rw [Int.toNat_natCast] at hsum
    exact absurd HOC.out.2 (by omega)
  obtain rfl : p2 = p1 := by omega
  obtain rfl : s2' = s1' := by omega
  have HLAW := Lib.hid (trees_law HOK.out hsp HL1.out HL2.out HG1.out HG2.out (HT1.out.1 (by first | trivial | rfl)) (HT2.out.1 (by first | trivial | rfl)) HLG1.out HDN1.out hleg2 hdon2)
  have HA2 := Lib.hid hi1
  clear hleg2 hdon2 hi1 hi2 hb hpp hss HC HG HLG1 HDN1 HBF2 HOC
  generalize lstF p2 (fun k => (sgU (bdG p2 m s2' f) (sgN z1) u1 k : Int)) = x1 at *
  generalize lstF p2 (fun k => (sgU (bdG p2 m s2' f) (sgN z2) u2 k : Int)) = x2 at *
  go_upto_region 13 with fail
  go_wp2_with fail
  refine (Ints.ints_any _ _ p2 p2 c1' c3' x1 x2 w9 HA1.out HA2.out).mono ?_
  rintro e10 w10 ⟨rfl, hb⟩
  have HB := Lib.hid (HB.out.trans (hb.mono HB.out.size))
  clear hb HA1 HA2
  go_wp2_with fail
  refine (Ints.ints_any s1 s2 n1 n2 c1 c2 z1 z2 w10 (HS1.out.keep HB.out) (HS2.out.keep HB.out)).mono ?_
  rintro e11 w11 ⟨rfl, hb⟩
  have HB := Lib.hid (HB.out.trans (hb.mono HB.out.size))
  have heq : decide (x1 = x2) = decide (z1 = z2) := decide_eq_decide.2 HLAW.out
  rw [heq]
  obtain ⟨y, hy⟩ : ∃ y, y = decide (z1 = z2) := ⟨_, rfl⟩
  rw [← hy]
  have hyy : (y == y) = true := beq_self_eq_true y
  clear hb heq hy
  go_wp2_with fail
  go_ret
  exact ⟨rfl, HB.out⟩
end Rt
end Go.Proofs.Ytjikildiblchpaa
