/- WALK: the document's edenref3.Grow. -/
import Derived.Test.YtdckcejkliggfaaDoorPnP
import Derived.Test.YtdckcejkliggfaaDoorPnY
namespace Go.Proofs.YtdckcejkliggfaaDoor
set_option linter.unusedSimpArgs false
set_option linter.unusedVariables false
open Go.RowKit
namespace Pn
open Tld Mem Bl

/-- The boxes of the document's Grow. -/
structure DSt (w0 wr : World) (ub qb rb : Nat) (RT : TypeId) (RC RZ : List Value) (Wg Hg : Nat) (ag : Option Addr) (ng cg : Nat) (Xg Yg : Int) (fg : Nat → Nat → Nat) : Prop where
  u : Row wr ub 24 RC
  q : Row wr qb 43 (boxN Wg Hg ag ng cg Xg Yg)
  r : Row wr rb RT RZ
  ig : Ints.Is wr ag ng (flat Wg Hg fg)
  ng : ∀ b o, ag = some ⟨b, o, none⟩ → ng ≠ 0 → b ≠ qb ∧ b ≠ rb ∧ w0.heap.size ≤ b
  ne : ub ≠ qb ∧ rb ≠ qb ∧ w0.heap.size ≤ rb ∧ w0.heap.size ≤ qb
  b : Below w0.heap.size w0 wr
theorem DSt.keep {w0 wr w2 : World} {ub qb rb : Nat} {RT : TypeId} {RC RZ : List Value} {Wg Hg : Nat} {ag : Option Addr} {ng cg : Nat} {Xg Yg : Int} {fg : Nat → Nat → Nat}
    (h : DSt w0 wr ub qb rb RT RC RZ Wg Hg ag ng cg Xg Yg fg) (k : Below wr.heap.size wr w2) : DSt w0 w2 ub qb rb RT RC RZ Wg Hg ag ng cg Xg Yg fg :=
  ⟨h.u.keep k h.u.lt, h.q.keep k h.q.lt, h.r.keep k h.r.lt, h.ig.keep k, h.ng, h.ne, h.b.trans (k.mono h.b.size)⟩
theorem DSt.put {w0 wr w2 : World} {ub qb rb : Nat} {RT : TypeId} {RC RZ : List Value} {Wg Hg : Nat} {ag : Option Addr} {ng cg : Nat} {Xg Yg : Int} {fg : Nat → Nat → Nat} {W1 H1 : Nat} {a1 : Option Addr} {n1 c1 : Nat} {X1 Y1 : Int} {f1 : Nat → Nat → Nat}
    (h : DSt w0 wr ub qb rb RT RC RZ Wg Hg ag ng cg Xg Yg fg) (o : Only qb wr w2) (hq : Row w2 qb 43 (boxN W1 H1 a1 n1 c1 X1 Y1)) (hi : Ints.Is wr a1 n1 (flat W1 H1 f1)) (hn : ∀ b o, a1 = some ⟨b, o, none⟩ → n1 ≠ 0 → b ≠ qb ∧ b ≠ rb ∧ w0.heap.size ≤ b) : DSt w0 w2 ub qb rb RT RC RZ W1 H1 a1 n1 c1 X1 Y1 f1 :=
  ⟨h.u.other o h.ne.1, hq, h.r.other o h.ne.2.1, is_other2 hi o (fun b off e k => (hn b off e k).1), hn, h.ne, h.b.trans (o.below h.ne.2.2.2)⟩
theorem bitN_zero (v : Nat) : bitN v 0 = v % 2 := by unfold bitN; rw [Nat.pow_zero, Nat.div_one]
/-- What is dead stays dead, and is not too great. -/
theorem dead_on {B S m n : Nat} {L : Int → Int → Nat} (hB : B % 2 = 0) (h : Dead (far B S L m)) (hn : m ≤ n) : Dead (far B S L n) := by
  obtain ⟨i, rfl⟩ : ∃ i, n = m + i := ⟨n - m, by omega⟩
  clear hn
  induction i with
  | zero => exact h
  | succ i ih => exact dead_next hB ih
theorem grows_on {B S m n : Nat} {L : Int → Int → Nat} (hB : B % 2 = 0) (hg : Grows B S L m) (h : Dead (far B S L m)) : Grows B S L n := fun j h1 h2 => by
  by_cases hj : j ≤ m
  · exact hg j h1 hj
  · exact fun ⟨x, y, _, _, h3, _⟩ => h3 (dead_on hB h (by omega) x y)

set_option maxHeartbeats 16000000 in
set_option maxRecDepth 1000000 in
theorem dgrow_ok (K st ra : Int) (B S : Nat) (ta : Option Addr) (tn tc : Nat) (tu : ByteArray) (W H : Nat) (a : Option Addr) (n c : Nat) (f : Nat → Nat → Nat) (steps : Nat) (w : World) (hBS : B < 512) (hSS : S < 512) (hB2 : B % 2 = 0) (hZ : Ints.Is w a n (flat W H f)) (hn : n = W * H) (hW : W ≤ 100) (hH : H ≤ 100) (hf : ∀ x y, f x y < 2) (hs : steps ≤ 100000) :
    Calls Tryd.prog 14 #[.agg #[.int .i64 K, .int .i64 B, .int .i64 S, .int .i64 st, .int .i64 ra, .slice ta tn tc, .string tu], .agg #[.int .i64 W, .int .i64 H, .slice a n c], .int .i64 steps] w fun e w' => ((e = .returned (.tuple #[grn 0 0 none 0 0 0 0, .int .i64 4]) ∧ Bursts B S (ext W H f) steps) ∨ (e = .returned (.tuple #[grn 0 0 none 0 0 0 0, .int .i64 0]) ∧ Grows B S (ext W H f) steps ∧ Dead (far B S (ext W H f) steps)) ∨
      (∃ Wg Hg : Nat, ∃ ag, ∃ ng cg : Nat, ∃ Xg Yg, e = .returned (.tuple #[grn Wg Hg ag ng cg Xg Yg, .int .i64 0]) ∧ ∃ fg, (Grows B S (ext W H f) steps ∧ Held (far B S (ext W H f) steps) Wg Hg fg Xg Yg) ∧ 0 < Wg ∧ ng = Wg * Hg ∧ Ints.Is w' ag ng (flat Wg Hg fg) ∧ (∀ b o, ag = some ⟨b, o, none⟩ → ng ≠ 0 → w.heap.size ≤ b))) ∧ Below w.heap.size w w' := by
  have HBIT := Lib.hid (fun w2 => bit_any B 0 (by decide) hBS w2)
  rw [bitN_zero, hB2] at HBIT
  have HTR := Lib.hid (fun w2 (h : Below w.heap.size w w2) => dfirst_any W H a n c f w2 (hZ.keep h) hn (by omega) (by omega) hf)
  have HNX := Lib.hid (fun (Wg Hg : Nat) ag ng cg Xg Yg fg m w2 (h : ANum B S (ext W H f) m Wg Hg ng cg Xg Yg fg) (hz : Ints.Is w2 ag ng (flat Wg Hg fg)) (hw : 0 < Wg) (hm : m ≤ 100000) => dnext_any K st ra B S ta tn tc tu Wg Hg ag ng cg Xg Yg fg w2 hBS hSS hz h.len h.w h.h (h.lt hw) (by have := h.x; omega) (by have := h.y; have := h.pos hw; omega))
  have HF := Lib.hid hf
  have HWH : Hid (W ≤ 100 ∧ H ≤ 100) := Lib.hid ⟨hW, hH⟩
  have HB2 := Lib.hid hB2
  have HS := Lib.hid hs
  have hm1i : ¬ (steps : Int) < 0 := by omega
  have hm2i : ¬ (100000 : Int) < (steps : Int) := by omega
  obtain ⟨L0, hL0⟩ : ∃ L0, L0 = ext W H f := ⟨_, rfl⟩
  have HL0 := Lib.hid hL0
  rw [← hL0] at HNX ⊢
  unfold grn at HTR HNX
  clear hZ hn hW hH hf hBS hSS hB2 hL0 hs
  go_enter Tryd.func14, Tryd.ntmps14
  go_upto_region 1 with fail
  obtain ⟨hr1, hr2, hr3, hb2⟩ := three_new w 24 26 43 (rulP K B S st ra ta tn tc tu) (boxP W H a n c) noGrown
  have HU : Hid (Row (((w.alloc (.cells #[.int .i64 K, .int .i64 B, .int .i64 S, .int .i64 st, .int .i64 ra, .slice ta tn tc, .string tu] 24)).alloc (.cells #[.int .i64 W, .int .i64 H, .slice a n c] 26)).alloc (.cells #[.int .i64 0, .int .i64 0, .slice none 0 0, .int .i64 0, .int .i64 0] 43)) w.heap.size 24 (rulP K B S st ra ta tn tc tu)) := hr1
  have HP : Hid (Row (((w.alloc (.cells #[.int .i64 K, .int .i64 B, .int .i64 S, .int .i64 st, .int .i64 ra, .slice ta tn tc, .string tu] 24)).alloc (.cells #[.int .i64 W, .int .i64 H, .slice a n c] 26)).alloc (.cells #[.int .i64 0, .int .i64 0, .slice none 0 0, .int .i64 0, .int .i64 0] 43)) (w.heap.size + 1) 26 (boxP W H a n c)) := hr2
  have HR : Hid (Row (((w.alloc (.cells #[.int .i64 K, .int .i64 B, .int .i64 S, .int .i64 st, .int .i64 ra, .slice ta tn tc, .string tu] 24)).alloc (.cells #[.int .i64 W, .int .i64 H, .slice a n c] 26)).alloc (.cells #[.int .i64 0, .int .i64 0, .slice none 0 0, .int .i64 0, .int .i64 0] 43)) (w.heap.size + 1 + 1) 43 noGrown) := hr3
  have HB : Hid (Below w.heap.size w (((w.alloc (.cells #[.int .i64 K, .int .i64 B, .int .i64 S, .int .i64 st, .int .i64 ra, .slice ta tn tc, .string tu] 24)).alloc (.cells #[.int .i64 W, .int .i64 H, .slice a n c] 26)).alloc (.cells #[.int .i64 0, .int .i64 0, .slice none 0 0, .int .i64 0, .int .i64 0] 43))) := hb2
  clear hr1 hr2 hr3 hb2
  generalize ((w.alloc (.cells #[.int .i64 K, .int .i64 B, .int .i64 S, .int .i64 st, .int .i64 ra, .slice ta tn tc, .string tu] 24)).alloc (.cells #[.int .i64 W, .int .i64 H, .slice a n c] 26)).alloc (.cells #[.int .i64 0, .int .i64 0, .slice none 0 0, .int .i64 0, .int .i64 0] 43) = w1 at *
  obtain ⟨ub, hub⟩ : ∃ ub, ub = w.heap.size := ⟨_, rfl⟩
  rw [← hub] at HU HP HR ⊢
  obtain ⟨pb, hpb⟩ : ∃ pb, pb = ub + 1 := ⟨_, rfl⟩
  rw [← hpb] at HP HR ⊢
  obtain ⟨rb, hrb⟩ : ∃ rb, rb = pb + 1 := ⟨_, rfl⟩
  rw [← hrb] at HR ⊢
  have HRB : Hid (w.heap.size ≤ rb ∧ ub ≠ rb) := Lib.hid (by omega)
  clear hub hpb hrb
  have f1 := HU.out.cell 1
  unfold rulP at f1
  dsimp only [List.getElem?_cons_succ, List.getElem?_cons_zero] at f1
  go_wp2_with fail
  refine (HBIT.out w1).mono ?_
  rintro e2 w2 ⟨rfl, rfl⟩
  clear f1
  have l6 := row_range HP.out
  go_wp2_with (refine wpList_load_mid rfl 26 _ rfl pb 0 rfl _ _ l6 Tryd.underlying26 rfl infoPat ?_)
  refine (HTR.out _ HB.out).mono ?_
  rintro e3 w3 ⟨⟨W0, H0, X0, Y0, a0, n0, c0, rfl, f0, ht, hn0, hc0, hi0, hab⟩, hb3⟩
  have hrl := HR.out.lt
  have hul := HU.out.lt
  have hbz := HB.out.size
  have HU := Lib.hid (HU.out.keep hb3 hul)
  have HR := Lib.hid (HR.out.keep hb3 hrl)
  have hlt3 : ∀ b o, a0 = some ⟨b, o, none⟩ → n0 ≠ 0 → b < w3.heap.size := fun b o e hne => by
    obtain ⟨b', o', e', hl, _⟩ := hi0.cells 0 (by omega)
    rw [e] at e'; cases e'; exact hl
  have HB := Lib.hid (HB.out.trans (hb3.mono HB.out.size))
  have HHE : Hid (Held L0 W0 H0 f0 X0 Y0) := Lib.hid (by rw [HL0.out]; exact ht.held)
  have hle := ht.le
  have HPOS := Lib.hid (ht.lt HF.out)
  have HI0 := Lib.hid hi0
  have HN0 : Hid (n0 = W0 * H0 ∧ n0 ≤ c0 ∧ W0 ≤ 100 ∧ H0 ≤ 100 ∧ X0 ≤ 100 ∧ Y0 ≤ 100) := Lib.hid (by have := HWH.out; exact ⟨hn0, hc0, by omega, by omega, by omega, by omega⟩)
  have hq0 : Row (w3.alloc (.cells #[.int .i64 (W0 : Nat), .int .i64 (H0 : Nat), .slice a0 n0 c0, .int .i64 (X0 : Nat), .int .i64 (Y0 : Nat)] 43)) w3.heap.size 43 (boxN W0 H0 a0 n0 c0 X0 Y0) := row_alloc w3 _ _
  have hb4 : Below w3.heap.size w3 (w3.alloc (.cells #[.int .i64 (W0 : Nat), .int .i64 (H0 : Nat), .slice a0 n0 c0, .int .i64 (X0 : Nat), .int .i64 (Y0 : Nat)] 43)) := (Below.refl _ _).alloc (Nat.le_refl _) _
  have hbs := HB.out.size
  have HNE : Hid (ub ≠ w3.heap.size ∧ rb ≠ w3.heap.size ∧ w.heap.size ≤ rb ∧ w.heap.size ≤ w3.heap.size) := Lib.hid ⟨Nat.ne_of_lt HU.out.lt, Nat.ne_of_lt HR.out.lt, HRB.out.1, hbs⟩
  have HAQ : Hid (∀ b o, a0 = some ⟨b, o, none⟩ → n0 ≠ 0 → b ≠ w3.heap.size ∧ b ≠ rb ∧ w.heap.size ≤ b) := Lib.hid (fun b o e k => ⟨Nat.ne_of_lt (hlt3 b o e k), by have := hab b o e; omega, by have := hab b o e; omega⟩)
  clear ht hle hi0 hn0 hc0 hab HTR HP l6 hb3 hlt3 hrl hul hbs hbz
  go_upto_region 4 with fail
  have HU := Lib.hid (HU.out.keep hb4 HU.out.lt)
  have HR := Lib.hid (HR.out.keep hb4 HR.out.lt)
  have HI0 := Lib.hid (HI0.out.keep hb4)
  have HB := Lib.hid (HB.out.trans (hb4.mono HB.out.size))
  have HQ := Lib.hid hq0
  generalize w3.alloc (.cells #[.int .i64 (W0 : Nat), .int .i64 (H0 : Nat), .slice a0 n0 c0, .int .i64 (X0 : Nat), .int .i64 (Y0 : Nat)] 43) = w4 at *
  obtain ⟨qb, hqb⟩ : ∃ qb, qb = w3.heap.size := ⟨_, rfl⟩
  rw [← hqb] at HQ HNE HAQ ⊢
  clear hb4 hq0 hqb
  have HA : Hid (DSt w w4 ub qb rb 43 (rulP K B S st ra ta tn tc tu) noGrown W0 H0 a0 n0 c0 X0 Y0 f0) := Lib.hid ⟨HU.out, HQ.out, HR.out, HI0.out, HAQ.out, HNE.out, HB.out⟩
  have HN : Hid (ANum B S L0 0 W0 H0 n0 c0 X0 Y0 f0) := Lib.hid ⟨HHE.out, HN0.out.1, HN0.out.2.1, HN0.out.2.2.1, HN0.out.2.2.2.1, HPOS.out, by have := HN0.out; omega, by have := HN0.out; omega⟩
  have HGO : Hid (Grows B S L0 0) := Lib.hid (fun j h1 h2 => by omega)
  clear HU HQ HR HI0 HB HAQ
  go_wp2_with fail
  go_loopw [9] (fun v wr => ∃ m Wg Hg : Nat, ∃ ag, ∃ ng cg : Nat, ∃ Xg Yg : Int, ∃ fg, m ≤ steps ∧ v = .int .i64 (m : Nat) ∧ DSt w wr ub qb rb 43 (rulP K B S st ra ta tn tc tu) noGrown Wg Hg ag ng cg Xg Yg fg ∧ ANum B S L0 m Wg Hg ng cg Xg Yg fg ∧ Grows B S L0 m) (fun v _ => steps - (RowKit.intOf v).toNat)
  case atStart => exact ⟨0, W0, H0, a0, n0, c0, X0, Y0, f0, Nat.zero_le _, rfl, HA.out, HN.out, HGO.out⟩
  case round =>
    clear HA HN HGO
    obtain ⟨m, Wg, Hg, ag, ng, cg, Xg, Yg, fg, hm, rfl, ha, hnm, hgo⟩ := hrel
    have HA := Lib.hid ha
    have HN := Lib.hid hnm
    have HGO := Lib.hid hgo
    clear ha hnm hgo
    have q0 := HA.out.q.cell 0
    unfold boxN at q0
    dsimp only [List.getElem?_cons_zero] at q0
    by_cases hwg : 0 < Wg
    · have HWG := Lib.hid hwg
      have hwi : (0 : Int) < (Wg : Int) := by omega
      have hw0 : ((Wg : Int) == 0) = false := by rw [beq_eq_false_iff_ne]; omega
      by_cases hms : m < steps
      · have hmi : (m : Int) < (steps : Int) := by omega
        have HMS := Lib.hid hms
        have l5 := row_range HA.out.u
        have l7 : wr.rangeAt qb 0 [.int .i64 (Wg : Nat), .int .i64 (Hg : Nat), .slice ag ng cg, .int .i64 Xg, .int .i64 Yg] := row_range HA.out.q
        have hs3 := HS.out
        clear hm hms hwg hw0
        go_wp2_with (first | (refine wpList_load_mid rfl 43 _ rfl qb 0 rfl _ _ l7 Tryd.underlying43 rfl infoG ?_) | (refine wpList_load_mid rfl 24 _ rfl ub 0 rfl _ _ l5 Tryd.underlying24 rfl infoRule ?_))
        refine (HNX.out Wg Hg ag ng cg Xg Yg fg m wr HN.out HA.out.ig HWG.out (by omega)).mono ?_
        rintro e6 w6 ⟨⟨W', H', X', Y', f', htr, hcase⟩, hb6⟩
        have hqs := HA.out.q.lt
        have hrs := HA.out.r.lt
        have HA6 := Lib.hid (HA.out.keep hb6)
        clear l5 l7 hb6 q0
        obtain ⟨k1, k2, k3, k4⟩ := nextD_held HB2.out HN.out.held htr
        rcases hcase with ⟨hbig, rfl⟩ | ⟨hw1, hh1, hz, rfl⟩ | ⟨hw1, hh1, hwp, a', n', c', rfl, hn1, hc1, hi1, hab1⟩
        · have HBU : Hid (Bursts B S L0 steps) := Lib.hid ⟨m, HMS.out, HGO.out, k1 hbig⟩
          clear htr hbig hqs hrs k1 k2 k3 k4
          have hh0 : Row (w6.alloc (.cells #[.int .i64 0, .int .i64 0, .slice none 0 0, .int .i64 0, .int .i64 0] 43)) w6.heap.size 43 (boxN 0 0 none 0 0 0 0) := row_alloc w6 _ _
          have hb7 : Below w6.heap.size w6 (w6.alloc (.cells #[.int .i64 0, .int .i64 0, .slice none 0 0, .int .i64 0, .int .i64 0] 43)) := (Below.refl _ _).alloc (Nat.le_refl _) _
          go_upto_region 8 with fail
          have HA7 := Lib.hid (HA6.out.keep hb7)
          have hr8 := HA7.out.r
          have HH7 := Lib.hid hh0
          clear hh0 hb7 HA6
          generalize w6.alloc (.cells #[.int .i64 0, .int .i64 0, .slice none 0 0, .int .i64 0, .int .i64 0] 43) = w7 at *
          generalize w6.heap.size = hb at *
          go_wp2_with (refine Ops.wpList_store_arr rfl 43 _ _ rfl rb rfl 43 _ noGrown rfl hr8 rfl infoG (boxN_one _ _ _ _ _ _ _) ?_; intro w9 hr9 ho9)
          exact bodyPost_ret (results_G (t := 6) (u := 7) (e := .int .i64 4) rfl _ _ hr9 rfl rfl rfl) rfl ⟨(.inl ⟨rfl, HBU.out⟩), HA7.out.b.trans (ho9.below HA7.out.ne.2.2.1)⟩
        · have HG1 : Hid (Grows B S L0 (m + 1)) := Lib.hid (fun j h1 h2 => by
            by_cases e : j = m + 1
            · subst e; exact k3 hw1 hh1
            · exact HGO.out j h1 (by omega))
          have HN1 : Hid (ANum B S L0 (m + 1) 0 0 0 0 0 0 f') := Lib.hid (HN.out.next (k2 hz) (by decide) (by decide) rfl (Nat.le_refl _) (.inl ⟨rfl, rfl, rfl⟩) (fun h => absurd h (Nat.lt_irrefl 0)))
          have HI1 : Hid (Ints.Is w6 none 0 (flat 0 0 f')) := Lib.hid ⟨by rw [flat_len], fun i hi => absurd hi (Nat.not_lt_zero _), Nat.zero_le _⟩
          have HAB1 : Hid (∀ b o, (none : Option Addr) = some ⟨b, o, none⟩ → 0 ≠ 0 → b ≠ qb ∧ b ≠ rb ∧ w.heap.size ≤ b) := Lib.hid (fun b o e _ => by cases e)
          clear htr hw1 hh1 hz hqs hrs k1 k2 k3 k4
          have hh0 : Row (w6.alloc (.cells #[.int .i64 0, .int .i64 0, .slice none 0 0, .int .i64 0, .int .i64 0] 43)) w6.heap.size 43 (boxN 0 0 none 0 0 0 0) := row_alloc w6 _ _
          have hb7 : Below w6.heap.size w6 (w6.alloc (.cells #[.int .i64 0, .int .i64 0, .slice none 0 0, .int .i64 0, .int .i64 0] 43)) := (Below.refl _ _).alloc (Nat.le_refl _) _
          go_upto_region 8 with fail
          have HA7 := Lib.hid (HA6.out.keep hb7)
          have HI1 := Lib.hid (HI1.out.keep hb7)
          have hq7 := HA7.out.q
          have HH7 := Lib.hid hh0
          clear hh0 hb7 HA6
          generalize w6.alloc (.cells #[.int .i64 0, .int .i64 0, .slice none 0 0, .int .i64 0, .int .i64 0] 43) = w7 at *
          generalize w6.heap.size = hb at *
          have l8 : w7.rangeAt hb 0 [.int .i64 0, .int .i64 0, .slice none 0 0, .int .i64 0, .int .i64 0] := row_range HH7.out
          go_wp2_with (first | (refine Ops.wpList_store_arr rfl 43 _ _ rfl qb rfl 43 _ (boxN 0 0 none 0 0 0 0) rfl hq7 rfl infoG (boxN_one _ _ _ _ _ _ _) ?_; intro w8 hr8 ho8) | (refine wpList_load_mid rfl 43 _ rfl hb 0 rfl _ _ l8 Tryd.underlying43 rfl infoG ?_))
          have HA8 := Lib.hid (HA7.out.put ho8 hr8 HI1.out HAB1.out)
          clear hq7 hr8 ho8 HI1 l8
          go_roundw
          case rel => exact ⟨m + 1, 0, 0, none, 0, 0, 0, 0, f', HMS.out, by go_num, HA8.out, HN1.out, HG1.out⟩
          case measure => have := HMS.out; simp [RowKit.intOf]; omega
        · have HG1 : Hid (Grows B S L0 (m + 1)) := Lib.hid (fun j h1 h2 => by
            by_cases e : j = m + 1
            · subst e; exact k3 hw1 hh1
            · exact HGO.out j h1 (by omega))
          obtain ⟨X1, hX1⟩ : ∃ X1, X1 = Xg + X' - 1 := ⟨_, rfl⟩
          obtain ⟨Y1, hY1⟩ : ∃ Y1, Y1 = Yg + Y' - 1 := ⟨_, rfl⟩
          rw [← hX1, ← hY1] at k4 ⊢
          obtain ⟨hh, j1, j2, j3, j4, j5⟩ := k4 hwp
          have HN1 : Hid (ANum B S L0 (m + 1) W' H' n' c' X1 Y1 f') := Lib.hid (HN.out.next hh hw1 hh1 hn1 hc1 (.inr ⟨hwp, j1, j2, j3, j4⟩) (fun _ => j5))
          have HI1 := Lib.hid hi1
          have HAB1 : Hid (∀ b o, a' = some ⟨b, o, none⟩ → n' ≠ 0 → b ≠ qb ∧ b ≠ rb ∧ w.heap.size ≤ b) := Lib.hid (fun b o e _ => by have := hab1 b o e; have := HA.out.b.size; omega)
          clear htr hw1 hh1 hwp hn1 hc1 hi1 hab1 hqs hrs k1 k2 k3 k4 hh j1 j2 j3 j4 j5 hX1 hY1
          have hh0 : Row (w6.alloc (.cells #[.int .i64 (W' : Nat), .int .i64 (H' : Nat), .slice a' n' c', .int .i64 X1, .int .i64 Y1] 43)) w6.heap.size 43 (boxN (W' : Nat) (H' : Nat) a' n' c' X1 Y1) := row_alloc w6 _ _
          have hb7 : Below w6.heap.size w6 (w6.alloc (.cells #[.int .i64 (W' : Nat), .int .i64 (H' : Nat), .slice a' n' c', .int .i64 X1, .int .i64 Y1] 43)) := (Below.refl _ _).alloc (Nat.le_refl _) _
          go_upto_region 8 with fail
          have HA7 := Lib.hid (HA6.out.keep hb7)
          have HI1 := Lib.hid (HI1.out.keep hb7)
          have hq7 := HA7.out.q
          have HH7 := Lib.hid hh0
          clear hh0 hb7 HA6
          generalize w6.alloc (.cells #[.int .i64 (W' : Nat), .int .i64 (H' : Nat), .slice a' n' c', .int .i64 X1, .int .i64 Y1] 43) = w7 at *
          generalize w6.heap.size = hb at *
          have l8 : w7.rangeAt hb 0 [.int .i64 (W' : Nat), .int .i64 (H' : Nat), .slice a' n' c', .int .i64 X1, .int .i64 Y1] := row_range HH7.out
          go_wp2_with (first | (refine Ops.wpList_store_arr rfl 43 _ _ rfl qb rfl 43 _ (boxN (W' : Nat) (H' : Nat) a' n' c' X1 Y1) rfl hq7 rfl infoG (boxN_one _ _ _ _ _ _ _) ?_; intro w8 hr8 ho8) | (refine wpList_load_mid rfl 43 _ rfl hb 0 rfl _ _ l8 Tryd.underlying43 rfl infoG ?_))
          have HA8 := Lib.hid (HA7.out.put ho8 hr8 HI1.out HAB1.out)
          clear hq7 hr8 ho8 HI1 l8
          go_roundw
          case rel => exact ⟨m + 1, W', H', a', n', c', X1, Y1, f', HMS.out, by go_num, HA8.out, HN1.out, HG1.out⟩
          case measure => have := HMS.out; simp [RowKit.intOf]; omega
      · obtain rfl : m = steps := by omega
        have hnl : ¬ (m : Int) < (m : Int) := by omega
        have l7 : wr.rangeAt qb 0 [.int .i64 (Wg : Nat), .int .i64 (Hg : Nat), .slice ag ng cg, .int .i64 Xg, .int .i64 Yg] := row_range HA.out.q
        have hr8 := HA.out.r
        clear hm hms hwg hwi
        go_wp2_with (first | (refine Ops.wpList_store_arr rfl 43 _ _ rfl rb rfl 43 _ (boxN Wg Hg ag ng cg Xg Yg) rfl hr8 rfl infoG (boxN_one _ _ _ _ _ _ _) ?_; intro w9 hr9 ho9) | (refine wpList_load_mid rfl 43 _ rfl qb 0 rfl _ _ l7 Tryd.underlying43 rfl infoG ?_))
        exact bodyPost_ret (results_G (t := 6) (u := 7) (e := .int .i64 0) rfl _ _ hr9 rfl rfl rfl) rfl ⟨(.inr (.inr ⟨Wg, Hg, ag, ng, cg, Xg, Yg, rfl, fg, ⟨HGO.out, HN.out.held⟩, HWG.out, HN.out.len, is_other2 HA.out.ig ho9 (fun b o e k => (HA.out.ng b o e k).2.1), fun b o e k => (HA.out.ng b o e k).2.2⟩)), HA.out.b.trans (ho9.below HA.out.ne.2.2.1)⟩
    · obtain rfl : Wg = 0 := by omega
      have HD := HN.out.held.dead.1 rfl
      have HDD : Hid (Grows B S L0 steps ∧ Dead (far B S L0 steps)) := Lib.hid ⟨grows_on HB2.out HGO.out HD, dead_on HB2.out HD hm⟩
      have hr8 := HA.out.r
      clear HD hwg
      by_cases hms : m < steps
      · have hmi : (m : Int) < (steps : Int) := by omega
        clear hm hms
        go_wp2_with (refine Ops.wpList_store_arr rfl 43 _ _ rfl rb rfl 43 _ noGrown rfl hr8 rfl infoG (boxN_one _ _ _ _ _ _ _) ?_; intro w9 hr9 ho9)
        exact bodyPost_ret (results_G (t := 6) (u := 7) (e := .int .i64 0) rfl _ _ hr9 rfl rfl rfl) rfl ⟨(.inr (.inl ⟨rfl, HDD.out⟩)), HA.out.b.trans (ho9.below HA.out.ne.2.2.1)⟩
      · have hmi : ¬ (m : Int) < (steps : Int) := by omega
        clear hm hms
        go_wp2_with (refine Ops.wpList_store_arr rfl 43 _ _ rfl rb rfl 43 _ noGrown rfl hr8 rfl infoG (boxN_one _ _ _ _ _ _ _) ?_; intro w9 hr9 ho9)
        exact bodyPost_ret (results_G (t := 6) (u := 7) (e := .int .i64 0) rfl _ _ hr9 rfl rfl rfl) rfl ⟨(.inr (.inl ⟨rfl, HDD.out⟩)), HA.out.b.trans (ho9.below HA.out.ne.2.2.1)⟩
end Pn
end Go.Proofs.YtdckcejkliggfaaDoor
