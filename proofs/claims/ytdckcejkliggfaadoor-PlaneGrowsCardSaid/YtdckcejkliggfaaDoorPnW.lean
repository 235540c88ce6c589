/- WALK: plane.Again. -/
import Derived.Test.YtdckcejkliggfaaDoorPnS
import Derived.Test.YtdckcejkliggfaaDoorPnK
namespace Go.Proofs.YtdckcejkliggfaaDoor
set_option linter.unusedSimpArgs false
set_option linter.unusedVariables false
open Go.RowKit
namespace Pn
open Tld Mem Bl

theorem infoAgain : (Tryd.prog.info? 35).map (·.size) = some 3 := by kernel_rfl
theorem results_again {fn : Func} {t u : Tmp} (hr : fn.results = #[.cell t 35, .tmp u]) (tmps : Array Value) (w : World) {q : Nat} {V : List Value} {e : Value} (h : Row w q 35 V) (hV : V.length = 3) (h8 : tmps.getD t undef = .pointer (some ⟨q, 0, none⟩)) (h9 : tmps.getD u undef = e) :
    (results fn tmps).run Tryd.prog w = .ok (.tuple #[.agg V.toArray, e]) w := by
  have hl := run_loadVar_row (P := Tryd.prog) w q 35 35 V.toArray (0, 0) _ h Tryd.underlying35 rfl (by rw [List.size_toArray, hV]; exact infoAgain)
  have h8' : tmps[t]?.getD undef = .pointer (some ⟨q, 0, none⟩) := by simpa using h8
  have h9' : tmps[u]?.getD undef = e := by simpa using h9
  simp [results, hr, h8', h9', asAddr, hl]
theorem is_other2 {w w' : World} {a : Option Addr} {n c : Nat} {zs : List Int} (h : Ints.Is w a n zs) (o : Only c w w') (hne : ∀ b off, a = some ⟨b, off, none⟩ → n ≠ 0 → b ≠ c) : Ints.Is w' a n zs :=
  ⟨h.len, fun i hi => by
    obtain ⟨b, off, e, hlt, hc⟩ := h.cells i hi
    refine ⟨b, off, e, by rw [o.size]; exact hlt, ?_⟩
    rw [← hc]
    unfold World.cell?
    rw [show (⟨b, off + i, none⟩ : Addr).block = b from rfl, o.block b (hne b off e (by omega))], h.le⟩
def z3 : List Value := [.int .i64 0, .int .i64 0, .int .i64 0]
def agn (x y z : Int) : List Value := [.int .i64 x, .int .i64 y, .int .i64 z]
theorem agn_one (x y z : Int) : ∀ v ∈ agn x y z, v.oneCell' = true := by simp [agn, Value.oneCell']
theorem and1_fin : ∀ v : Fin 512, bits .and .i64 (v.val : Int) 1 = ((v.val % 2 : Nat) : Int) := by decide +kernel
theorem and1 {v : Nat} (hv : v < 512) : bits .and .i64 (v : Int) 1 = ((v % 2 : Nat) : Int) := and1_fin ⟨v, hv⟩
/-- The boxes of Again and Grow, and what the two patterns hold. -/
structure ASt (w0 wr : World) (ub fb qb rb : Nat) (RT : TypeId) (RC RZ : List Value) (W0 H0 : Nat) (a0 : Option Addr) (n0 c0 : Nat) (X0 Y0 : Int) (f0 : Nat → Nat → Nat) (Wg Hg : Nat) (ag : Option Addr) (ng cg : Nat) (Xg Yg : Int) (fg : Nat → Nat → Nat) : Prop where
  u : Row wr ub 24 RC
  fi : Row wr fb 56 (boxN W0 H0 a0 n0 c0 X0 Y0)
  q : Row wr qb 56 (boxN Wg Hg ag ng cg Xg Yg)
  r : Row wr rb RT RZ
  i0 : Ints.Is wr a0 n0 (flat W0 H0 f0)
  ig : Ints.Is wr ag ng (flat Wg Hg fg)
  n0 : ∀ b o, a0 = some ⟨b, o, none⟩ → n0 ≠ 0 → b ≠ qb ∧ b ≠ rb
  ng : ∀ b o, ag = some ⟨b, o, none⟩ → ng ≠ 0 → b ≠ qb ∧ b ≠ rb
  ne : ub ≠ qb ∧ fb ≠ qb ∧ rb ≠ qb ∧ w0.heap.size ≤ rb ∧ w0.heap.size ≤ qb
  b : Below w0.heap.size w0 wr
theorem ASt.keep {w0 wr w2 : World} {ub fb qb rb : Nat} {RT : TypeId} {RC RZ : List Value} {W0 H0 : Nat} {a0 : Option Addr} {n0 c0 : Nat} {X0 Y0 : Int} {f0 : Nat → Nat → Nat} {Wg Hg : Nat} {ag : Option Addr} {ng cg : Nat} {Xg Yg : Int} {fg : Nat → Nat → Nat}
    (h : ASt w0 wr ub fb qb rb RT RC RZ W0 H0 a0 n0 c0 X0 Y0 f0 Wg Hg ag ng cg Xg Yg fg) (k : Below wr.heap.size wr w2) : ASt w0 w2 ub fb qb rb RT RC RZ W0 H0 a0 n0 c0 X0 Y0 f0 Wg Hg ag ng cg Xg Yg fg :=
  ⟨h.u.keep k h.u.lt, h.fi.keep k h.fi.lt, h.q.keep k h.q.lt, h.r.keep k h.r.lt, h.i0.keep k, h.ig.keep k, h.n0, h.ng, h.ne, h.b.trans (k.mono h.b.size)⟩
theorem ASt.put {w0 wr w2 : World} {ub fb qb rb : Nat} {RT : TypeId} {RC RZ : List Value} {W0 H0 : Nat} {a0 : Option Addr} {n0 c0 : Nat} {X0 Y0 : Int} {f0 : Nat → Nat → Nat} {Wg Hg : Nat} {ag : Option Addr} {ng cg : Nat} {Xg Yg : Int} {fg : Nat → Nat → Nat} {W1 H1 : Nat} {a1 : Option Addr} {n1 c1 : Nat} {X1 Y1 : Int} {f1 : Nat → Nat → Nat}
    (h : ASt w0 wr ub fb qb rb RT RC RZ W0 H0 a0 n0 c0 X0 Y0 f0 Wg Hg ag ng cg Xg Yg fg) (o : Only qb wr w2) (hq : Row w2 qb 56 (boxN W1 H1 a1 n1 c1 X1 Y1)) (hi : Ints.Is wr a1 n1 (flat W1 H1 f1)) (hn : ∀ b o, a1 = some ⟨b, o, none⟩ → n1 ≠ 0 → b ≠ qb ∧ b ≠ rb) :
    ASt w0 w2 ub fb qb rb RT RC RZ W0 H0 a0 n0 c0 X0 Y0 f0 W1 H1 a1 n1 c1 X1 Y1 f1 :=
  ⟨h.u.other o h.ne.1, h.fi.other o h.ne.2.1, hq, h.r.other o h.ne.2.2.1, is_other2 h.i0 o (fun b off e k => (h.n0 b off e k).1), is_other2 hi o (fun b off e k => (hn b off e k).1), h.n0, hn, h.ne, h.b.trans (o.below h.ne.2.2.2.2)⟩
/-- The numbers that go with it. -/
structure ANum (B S : Nat) (L0 : Int → Int → Nat) (m Wg Hg ng cg : Nat) (Xg Yg : Int) (fg : Nat → Nat → Nat) : Prop where
  held : Held (far B S L0 m) Wg Hg fg Xg Yg
  len : ng = Wg * Hg
  cap : ng ≤ cg
  w : Wg ≤ 100
  h : Hg ≤ 100
  lt : 0 < Wg → ∀ x y, fg x y < 2
  x : -(1000 + m : Int) ≤ Xg ∧ Xg + Wg ≤ 1000 + m
  y : -(1000 + m : Int) ≤ Yg ∧ Yg + Hg ≤ 1000 + m
theorem ANum.pos {B S : Nat} {L0 : Int → Int → Nat} {m Wg Hg ng cg : Nat} {Xg Yg : Int} {fg : Nat → Nat → Nat} (h : ANum B S L0 m Wg Hg ng cg Xg Yg fg) (hW : 0 < Wg) : 0 < Hg := by
  rcases h.held with ⟨h1, _⟩ | ⟨h1, h2, _⟩
  · omega
  · exact h2
theorem ANum.next {B S : Nat} {L0 : Int → Int → Nat} {m Wg Hg ng cg : Nat} {Xg Yg : Int} {fg : Nat → Nat → Nat} (h : ANum B S L0 m Wg Hg ng cg Xg Yg fg) {W' H' n' c' : Nat} {X' Y' : Int} {f' : Nat → Nat → Nat} (hh : Held (nx B S (far B S L0 m)) W' H' f' X' Y') (hw : W' ≤ 100) (hh2 : H' ≤ 100) (hn : n' = W' * H') (hc : n' ≤ c')
    (hx : (W' = 0 ∧ X' = 0 ∧ Y' = 0) ∨ (0 < W' ∧ Xg - 1 ≤ X' ∧ X' + W' ≤ Xg + Wg + 1 ∧ Yg - 1 ≤ Y' ∧ Y' + H' ≤ Yg + Hg + 1)) (hl : 0 < W' → ∀ x y, f' x y < 2) : ANum B S L0 (m + 1) W' H' n' c' X' Y' f' := by
  have h1 := h.x
  have h2 := h.y
  have hH : W' = 0 → H' = 0 := fun e => by
    rcases hh with ⟨_, h2, _⟩ | ⟨h1, _⟩
    · exact h2
    · omega
  exact ⟨hh, hn, hc, hw, hh2, hl, by push_cast; omega, by push_cast; omega⟩

set_option maxHeartbeats 16000000 in
set_option maxRecDepth 1000000 in
theorem again_ok (K st ra : Int) (B S : Nat) (ta : Option Addr) (tn tc : Nat) (tz : List Int) (tu : ByteArray) (W H : Nat) (a : Option Addr) (n c : Nat) (f : Nat → Nat → Nat) (most : Nat) (w : World) (hBS : B < 512) (hSS : S < 512) (hB2 : B % 2 = 0) (hT : Ints.Is w ta tn tz) (hu : tu.size ≤ 9223372036854775807) (hZ : Ints.Is w a n (flat W H f)) (hn : n = W * H) (hc : n ≤ c) (hW : W ≤ 100) (hH : H ≤ 100) (hf : ∀ x y, f x y < 2) (hp : plf K B S st ra tn tz tu W H (flat W H f) = 0) (hm1 : 1 ≤ most) (hm64 : most ≤ 64) :
    Calls Tryd.prog 10 #[.agg #[.int .i64 K, .int .i64 B, .int .i64 S, .int .i64 st, .int .i64 ra, .slice ta tn tc, .string tu], .agg #[.int .i64 W, .int .i64 H, .slice a n c], .int .i64 most] w fun e w' => (∃ o, e = .returned (againV o) ∧ Tells B S (ext W H f) most o) ∧ Below w.heap.size w w' := by
  have HK := Lib.hid (fun w2 (h : Below w.heap.size w w2) => check_any K B S st ra ta tn tc tz tu W H a n c (flat W H f) w2 (hT.keep h) hu (hZ.keep h))
  rw [hp, errV_zero rfl] at HK
  have HTR := Lib.hid (fun w2 (h : Below w.heap.size w w2) => ptrim_any W H a n c f w2 (hZ.keep h) hn hc hW hH hf (plf_zero hp).2.2)
  have HNX := Lib.hid (fun (Wg Hg : Nat) ag ng cg Xg Yg fg m w2 (h : ANum B S (ext W H f) m Wg Hg ng cg Xg Yg fg) (hz : Ints.Is w2 ag ng (flat Wg Hg fg)) (hw : 0 < Wg) (hm : m ≤ 64) => next_any K st ra B S ta tn tc tu Wg Hg ag ng cg Xg Yg fg w2 hBS hSS hz h.len h.cap hw (h.pos hw) h.w h.h (h.lt hw) (by have := h.x; omega) (by have := h.y; have := h.pos hw; omega))
  have HF := Lib.hid hf
  have HWH : Hid (W ≤ 100 ∧ H ≤ 100) := Lib.hid ⟨hW, hH⟩
  have HB2 := Lib.hid hB2
  have hand := and1 hBS
  rw [hB2] at hand
  have hm1i : ¬ (most : Int) < 1 := by omega
  have hm2i : ¬ (64 : Int) < (most : Int) := by omega
  obtain ⟨L0, hL0⟩ : ∃ L0, L0 = ext W H f := ⟨_, rfl⟩
  have HL0 := Lib.hid hL0
  rw [← hL0] at HNX ⊢
  unfold pat at HTR
  unfold grn at HTR HNX
  clear hT hu hZ hn hc hW hH hf hp hBS hSS hB2 hL0
  go_enter Tryd.func10, Tryd.ntmps10
  go_upto_region 1 with fail
  obtain ⟨hr1, hr2, hr3, hb2⟩ := three_new w 24 26 35 (rulP K B S st ra ta tn tc tu) (boxP W H a n c) z3
  have HU : Hid (Row (((w.alloc (.cells #[.int .i64 K, .int .i64 B, .int .i64 S, .int .i64 st, .int .i64 ra, .slice ta tn tc, .string tu] 24)).alloc (.cells #[.int .i64 W, .int .i64 H, .slice a n c] 26)).alloc (.cells #[.int .i64 0, .int .i64 0, .int .i64 0] 35)) w.heap.size 24 (rulP K B S st ra ta tn tc tu)) := hr1
  have HP : Hid (Row (((w.alloc (.cells #[.int .i64 K, .int .i64 B, .int .i64 S, .int .i64 st, .int .i64 ra, .slice ta tn tc, .string tu] 24)).alloc (.cells #[.int .i64 W, .int .i64 H, .slice a n c] 26)).alloc (.cells #[.int .i64 0, .int .i64 0, .int .i64 0] 35)) (w.heap.size + 1) 26 (boxP W H a n c)) := hr2
  have HR : Hid (Row (((w.alloc (.cells #[.int .i64 K, .int .i64 B, .int .i64 S, .int .i64 st, .int .i64 ra, .slice ta tn tc, .string tu] 24)).alloc (.cells #[.int .i64 W, .int .i64 H, .slice a n c] 26)).alloc (.cells #[.int .i64 0, .int .i64 0, .int .i64 0] 35)) (w.heap.size + 1 + 1) 35 z3) := hr3
  have HB : Hid (Below w.heap.size w (((w.alloc (.cells #[.int .i64 K, .int .i64 B, .int .i64 S, .int .i64 st, .int .i64 ra, .slice ta tn tc, .string tu] 24)).alloc (.cells #[.int .i64 W, .int .i64 H, .slice a n c] 26)).alloc (.cells #[.int .i64 0, .int .i64 0, .int .i64 0] 35))) := hb2
  clear hr1 hr2 hr3 hb2
  generalize ((w.alloc (.cells #[.int .i64 K, .int .i64 B, .int .i64 S, .int .i64 st, .int .i64 ra, .slice ta tn tc, .string tu] 24)).alloc (.cells #[.int .i64 W, .int .i64 H, .slice a n c] 26)).alloc (.cells #[.int .i64 0, .int .i64 0, .int .i64 0] 35) = w1 at *
  obtain ⟨ub, hub⟩ : ∃ ub, ub = w.heap.size := ⟨_, rfl⟩
  rw [← hub] at HU HP HR ⊢
  obtain ⟨pb, hpb⟩ : ∃ pb, pb = ub + 1 := ⟨_, rfl⟩
  rw [← hpb] at HP HR ⊢
  obtain ⟨rb, hrb⟩ : ∃ rb, rb = pb + 1 := ⟨_, rfl⟩
  rw [← hrb] at HR ⊢
  have HRB : Hid (w.heap.size ≤ rb ∧ ub ≠ rb) := Lib.hid (by omega)
  clear hub hpb hrb
  have l5 := row_range HU.out
  have l6 := row_range HP.out
  go_wp2_with (first | (refine wpList_load_mid rfl 24 _ rfl ub 0 rfl _ _ l5 Tryd.underlying24 rfl infoRule ?_) | (refine wpList_load_mid rfl 26 _ rfl pb 0 rfl _ _ l6 Tryd.underlying26 rfl infoPat ?_))
  refine (HK.out _ HB.out).mono ?_
  rintro e2 w2 ⟨rfl, hb2⟩
  have HU := Lib.hid (HU.out.keep hb2 HU.out.lt)
  have HP := Lib.hid (HP.out.keep hb2 HP.out.lt)
  have HR := Lib.hid (HR.out.keep hb2 HR.out.lt)
  have HB := Lib.hid (HB.out.trans (hb2.mono HB.out.size))
  clear l5 l6 hb2
  have l6 := row_range HP.out
  have f1 := HU.out.cell 1
  unfold rulP at f1
  dsimp only [List.getElem?_cons_succ, List.getElem?_cons_zero] at f1
  go_wp2_with (refine wpList_load_mid rfl 26 _ rfl pb 0 rfl _ _ l6 Tryd.underlying26 rfl infoPat ?_)
  refine (HTR.out _ HB.out).mono ?_
  rintro e3 w3 ⟨⟨W0, H0, X0, Y0, a0, n0, c0, rfl, f0, ht, hn0, hc0, hcm, hi0, hab⟩, hb3⟩
  have hrl := HR.out.lt
  have hul := HU.out.lt
  have HU := Lib.hid (HU.out.keep hb3 hul)
  have HR := Lib.hid (HR.out.keep hb3 hrl)
  have hlt3 : ∀ b o, a0 = some ⟨b, o, none⟩ → n0 ≠ 0 → b < w3.heap.size := fun b o e hne => by
    obtain ⟨b', o', e', hl, _⟩ := hi0.cells 0 (by omega)
    rw [e] at e'; cases e'; exact hl
  have HB := Lib.hid (HB.out.trans (hb3.mono HB.out.size))
  have HHE : Hid (Held L0 W0 H0 f0 X0 Y0) := Lib.hid (by rw [HL0.out]; exact ht.held)
  have hle := ht.le
  have hpos := ht.lt HF.out
  have HPOS := Lib.hid hpos
  have HI0 := Lib.hid hi0
  have HN0 : Hid (n0 = W0 * H0 ∧ n0 ≤ c0 ∧ W0 ≤ 100 ∧ H0 ≤ 100 ∧ X0 ≤ 100 ∧ Y0 ≤ 100) := Lib.hid (by have := HWH.out; exact ⟨hn0, hc0, by omega, by omega, by omega, by omega⟩)
  have hg0 : Row (w3.alloc (.cells #[.int .i64 (W0 : Nat), .int .i64 (H0 : Nat), .slice a0 n0 c0, .int .i64 (X0 : Nat), .int .i64 (Y0 : Nat)] 56)) w3.heap.size 56 (boxN W0 H0 a0 n0 c0 X0 Y0) := row_alloc w3 _ _
  have hb4 : Below w3.heap.size w3 (w3.alloc (.cells #[.int .i64 (W0 : Nat), .int .i64 (H0 : Nat), .slice a0 n0 c0, .int .i64 (X0 : Nat), .int .i64 (Y0 : Nat)] 56)) := (Below.refl _ _).alloc (Nat.le_refl _) _
  have HS4 := Lib.hid hb4.size
  have HAR : Hid (∀ b o, a0 = some ⟨b, o, none⟩ → n0 ≠ 0 → b < w3.heap.size ∧ b ≠ rb) := Lib.hid (fun b o e k => ⟨hlt3 b o e k, by have := hab b o e; omega⟩)
  clear ht hle hpos hi0 hn0 hc0 hcm hab HTR HK HP l6 f1 hb3 hlt3 hrl hul
  go_upto_region 7 with fail
  have HU := Lib.hid (HU.out.keep hb4 HU.out.lt)
  have HR := Lib.hid (HR.out.keep hb4 HR.out.lt)
  have HI0 := Lib.hid (HI0.out.keep hb4)
  have hbs := HB.out.size
  have HB := Lib.hid (HB.out.trans (hb4.mono HB.out.size))
  have HFI := Lib.hid hg0
  generalize w3.alloc (.cells #[.int .i64 (W0 : Nat), .int .i64 (H0 : Nat), .slice a0 n0 c0, .int .i64 (X0 : Nat), .int .i64 (Y0 : Nat)] 56) = w4 at *
  obtain ⟨fb, hfb⟩ : ∃ fb, fb = w3.heap.size := ⟨_, rfl⟩
  rw [← hfb] at HFI ⊢
  have HFB := Lib.hid hfb
  have hul4 := HU.out.lt
  have hrl4 := HR.out.lt
  have hfl4 := HFI.out.lt
  clear hb4 hg0 hfb
  have l6 : w4.rangeAt fb 0 [.int .i64 (W0 : Nat), .int .i64 (H0 : Nat), .slice a0 n0 c0, .int .i64 (X0 : Nat), .int .i64 (Y0 : Nat)] := row_range HFI.out
  have hq0 : Row (w4.alloc (.cells #[.int .i64 (W0 : Nat), .int .i64 (H0 : Nat), .slice a0 n0 c0, .int .i64 (X0 : Nat), .int .i64 (Y0 : Nat)] 56)) w4.heap.size 56 (boxN W0 H0 a0 n0 c0 X0 Y0) := row_alloc w4 _ _
  have hb5 : Below w4.heap.size w4 (w4.alloc (.cells #[.int .i64 (W0 : Nat), .int .i64 (H0 : Nat), .slice a0 n0 c0, .int .i64 (X0 : Nat), .int .i64 (Y0 : Nat)] 56)) := (Below.refl _ _).alloc (Nat.le_refl _) _
  go_upto_region 8 with (refine wpList_load_mid rfl 56 _ rfl fb 0 rfl _ _ l6 Tryd.underlying56 rfl infoGrown ?_)
  clear l6
  have HU := Lib.hid (HU.out.keep hb5 HU.out.lt)
  have HR := Lib.hid (HR.out.keep hb5 HR.out.lt)
  have HFI := Lib.hid (HFI.out.keep hb5 HFI.out.lt)
  have HI0 := Lib.hid (HI0.out.keep hb5)
  have hbt := HB.out.size
  have HB := Lib.hid (HB.out.trans (hb5.mono HB.out.size))
  have HQ := Lib.hid hq0
  generalize w4.alloc (.cells #[.int .i64 (W0 : Nat), .int .i64 (H0 : Nat), .slice a0 n0 c0, .int .i64 (X0 : Nat), .int .i64 (Y0 : Nat)] 56) = w5 at *
  obtain ⟨qb, hqb⟩ : ∃ qb, qb = w4.heap.size := ⟨_, rfl⟩
  rw [← hqb] at HQ ⊢
  have HNE : Hid (ub ≠ qb ∧ fb ≠ qb ∧ rb ≠ qb ∧ w.heap.size ≤ rb ∧ w.heap.size ≤ qb) := Lib.hid (by have := HRB.out; omega)
  have HAQ : Hid (∀ b o, a0 = some ⟨b, o, none⟩ → n0 ≠ 0 → b ≠ qb ∧ b ≠ rb) := Lib.hid (fun b o e k => by have := HAR.out b o e k; have := HS4.out; omega)
  clear hb5 hq0 hul4 hrl4 hfl4 hqb hbs hbt
  have HA : Hid (ASt w w5 ub fb qb rb 35 (rulP K B S st ra ta tn tc tu) z3 W0 H0 a0 n0 c0 X0 Y0 f0 W0 H0 a0 n0 c0 X0 Y0 f0) := Lib.hid ⟨HU.out, HFI.out, HQ.out, HR.out, HI0.out, HI0.out, HAQ.out, HAQ.out, HNE.out, HB.out⟩
  have HN : Hid (ANum B S L0 0 W0 H0 n0 c0 X0 Y0 f0) := Lib.hid ⟨HHE.out, HN0.out.1, HN0.out.2.1, HN0.out.2.2.1, HN0.out.2.2.2.1, HPOS.out, by have := HN0.out; omega, by have := HN0.out; omega⟩
  have HGO : Hid (Going B S L0 0) := Lib.hid Going.zero
  clear HU HFI HQ HR HI0 HB HAR
  go_wp2_with fail
  go_loopw [11] (fun v wr => ∃ m Wg Hg : Nat, ∃ ag, ∃ ng cg : Nat, ∃ Xg Yg : Int, ∃ fg, m ≤ most ∧ v = .int .i64 ((m + 1 : Nat) : Int) ∧ ASt w wr ub fb qb rb 35 (rulP K B S st ra ta tn tc tu) z3 W0 H0 a0 n0 c0 X0 Y0 f0 Wg Hg ag ng cg Xg Yg fg ∧ ANum B S L0 m Wg Hg ng cg Xg Yg fg ∧ Going B S L0 m) (fun v _ => most + 1 - (RowKit.intOf v).toNat)
  case atStart => exact ⟨0, W0, H0, a0, n0, c0, X0, Y0, f0, Nat.zero_le _, rfl, HA.out, HN.out, HGO.out⟩
  case round =>
    clear HA HN HGO
    obtain ⟨m, Wg, Hg, ag, ng, cg, Xg, Yg, fg, hm, rfl, ha, hnm, hgo⟩ := hrel
    have HA := Lib.hid ha
    have HN := Lib.hid hnm
    have HGO := Lib.hid hgo
    clear ha hnm hgo
    have g0 := HA.out.q.cell 0
    unfold boxN at g0
    dsimp only [List.getElem?_cons_zero] at g0
    obtain ⟨m1, hm1'⟩ : ∃ m1, m1 = m + 1 := ⟨_, rfl⟩
    rw [← hm1']
    have HM1 := Lib.hid hm1'
    clear hm1'
    by_cases hgo1 : m1 ≤ most
    · have hgo1i : (m1 : Int) ≤ (most : Int) := by omega
      by_cases hwg : 0 < Wg
      · --{next
        have hwgi : (0 : Int) < (Wg : Int) := by omega
        have HWG := Lib.hid hwg
        have HMM : Hid (m < most ∧ m ≤ 64) := Lib.hid (by have := HM1.out; omega)
        have hlive : ¬ Dead (far B S L0 m) := fun hd => by
          have := HN.out.held.dead.2 hd
          omega
        have HLV := Lib.hid hlive
        have l5 := row_range HA.out.u
        have l7 : wr.rangeAt qb 0 [.int .i64 (Wg : Nat), .int .i64 (Hg : Nat), .slice ag ng cg, .int .i64 Xg, .int .i64 Yg] := row_range HA.out.q
        clear hgo1 hwg hlive hm
        go_wp2_with (first | (refine wpList_load_mid rfl 56 _ rfl qb 0 rfl _ _ l7 Tryd.underlying56 rfl infoGrown ?_) | (refine wpList_load_mid rfl 24 _ rfl ub 0 rfl _ _ l5 Tryd.underlying24 rfl infoRule ?_))
        refine (HNX.out Wg Hg ag ng cg Xg Yg fg m wr HN.out HA.out.ig HWG.out HMM.out.2).mono ?_
        rintro e6 w6 ⟨⟨W', H', a', n', c', X', Y', ev, rfl, f', hnx, hok⟩, hb6⟩
        have hqs := HA.out.q.lt
        have hrs := HA.out.r.lt
        have HA6 := Lib.hid (HA.out.keep hb6)
        clear l5 l7 hb6 g0
        rcases nextIs_held HB2.out HN.out.held hnx with ⟨rfl, hnb, hh, hw1, hh1, hxy, hlt⟩ | ⟨rfl, hbig⟩
        · obtain ⟨hn1, hc1, hcm1, hi1, hab1⟩ := hok rfl
          have HI1 := Lib.hid hi1
          have HAB1 : Hid (∀ b o, a' = some ⟨b, o, none⟩ → n' ≠ 0 → b ≠ qb ∧ b ≠ rb) := Lib.hid (fun b o e _ => by have := hab1 b o e; omega)
          have HN1 : Hid (ANum B S L0 (m + 1) W' H' n' c' X' Y' f') := Lib.hid (HN.out.next hh hw1 hh1 hn1 hc1 hxy hlt)
          have HNB : Hid (¬ Big (far B S L0 (m + 1))) := Lib.hid hnb
          clear hnx hok hnb hh hw1 hh1 hxy hlt hn1 hc1 hcm1 hi1 hab1 hqs hrs
          have hq6 := HA6.out.q
          go_upto_region 13 with (refine Ops.wpList_store_arr rfl 56 _ _ rfl qb rfl 56 _ (boxN W' H' a' n' c' X' Y') rfl hq6 rfl infoGrown (boxN_one _ _ _ _ _ _ _) ?_; intro w7 hq7 ho7)
          have HA7 := Lib.hid (HA6.out.put ho7 hq7 HI1.out HAB1.out)
          clear hq6 hq7 ho7 HI1
          have l5 : w7.rangeAt qb 0 [.int .i64 (W' : Nat), .int .i64 (H' : Nat), .slice a' n' c'] := row_pre HA7.out.q
          have l7 : w7.rangeAt fb 0 [.int .i64 (W0 : Nat), .int .i64 (H0 : Nat), .slice a0 n0 c0] := row_pre HA7.out.fi
          have HSA := Lib.hid (same_any W' H' W0 H0 a' a0 n' c' n0 c0 (flat W' H' f') (flat W0 H0 f0) w7 HA7.out.ig HA7.out.i0 (by have := HN1.out.len; have := Nat.mul_le_mul HN1.out.w HN1.out.h; omega) HN1.out.len HN0.out.1)
          unfold pat at HSA
          go_wp2_with (first | (refine wpList_load_mid rfl 26 _ rfl qb 0 rfl _ _ l5 Tryd.underlying26 rfl infoPat ?_) | (refine wpList_load_mid rfl 26 _ rfl fb 0 rfl _ _ l7 Tryd.underlying26 rfl infoPat ?_))
          refine HSA.out.mono ?_
          rintro e8 w8 ⟨rfl, hb8⟩
          have HA8 := Lib.hid (HA7.out.keep hb8)
          obtain ⟨q, hq⟩ : ∃ q, q = sameB W' H' W0 H0 (flat W' H' f') (flat W0 H0 f0) := ⟨_, rfl⟩
          rw [← hq]
          have HQ := Lib.hid hq
          clear l5 l7 hb8 HSA hq HA7 HA6
          have hd0 : ¬ Dead L0 := fun hd => HLV.out (dead_far HB2.out hd m)
          have hw0 : 0 < W0 := by
            rcases Nat.eq_zero_or_pos W0 with h | h
            · exact absurd (HHE.out.dead.1 h) hd0
            · exact h
          cases q
          · have hne : ¬ (W' = W0 ∧ H' = H0 ∧ flat W' H' f' = flat W0 H0 f0) := fun h => by
              have h2 := HQ.out
              unfold sameB at h2
              rw [decide_eq_true h] at h2; cases h2
            have HG2 : Hid (Going B S L0 (m + 1)) := Lib.hid (HGO.out.next HLV.out HNB.out (fun u v hcm => by
              have hs := same_of_came HHE.out HN1.out.held hw0 hcm
              exact hne ⟨hs.1.symm, hs.2.1.symm, hs.2.2.1.symm⟩))
            clear hne hd0 hw0
            have hm3 := HM1.out
            have hmm := HMM.out
            go_wp2_with fail
            go_roundw
            case rel => exact ⟨m + 1, W', H', a', n', c', X', Y', f', by omega, by go_num, HA8.out, HN1.out, HG2.out⟩
            case measure => simp [RowKit.intOf]; omega
          · have hyes : W' = W0 ∧ H' = H0 ∧ flat W' H' f' = flat W0 H0 f0 := by
              have h2 := HQ.out
              unfold sameB at h2
              exact of_decide_eq_true h2.symm
            obtain ⟨hWe, hHe, hfe⟩ := hyes
            have hcame := came_of_same HHE.out (by have h := HN1.out.held; rw [hWe, hHe] at h; exact h) hw0 (by rw [← hfe, hWe, hHe])
            have hd2 : ¬ Dead (far B S L0 (m + 1)) := fun hd => by have := HN1.out.held.dead.2 hd; omega
            have HTL := Lib.hid (HGO.out.at (most := most) HLV.out hd0 (by have := HMM.out; omega) HNB.out hd2 hcame)
            obtain ⟨u, hu⟩ : ∃ u : Int, u = X' - (X0 : Int) := ⟨_, rfl⟩
            obtain ⟨v, hv⟩ : ∃ v : Int, v = Y' - (Y0 : Int) := ⟨_, rfl⟩
            rw [← hu, ← hv] at HTL
            have hbx : -1000000 ≤ X' - (X0 : Int) ∧ X' - (X0 : Int) ≤ 1000000 := by have := HN1.out.x; have := HN0.out; have := HMM.out; omega
            have hby : -1000000 ≤ Y' - (Y0 : Int) ∧ Y' - (Y0 : Int) ≤ 1000000 := by have := HN1.out.y; have := HN0.out; have := HMM.out; omega
            have a1 : wrap64 (X' - (X0 : Int)) = u := (wr_in hbx.1 hbx.2).trans hu.symm
            have a2 : wrap64 (Y' - (Y0 : Int)) = v := (wr_in hby.1 hby.2).trans hv.symm
            have k3 := HA8.out.fi.cell 3
            have k4 := HA8.out.fi.cell 4
            have q3 := HA8.out.q.cell 3
            have q4 := HA8.out.q.cell 4
            unfold boxN at k3 k4 q3 q4
            dsimp only [List.getElem?_cons_succ, List.getElem?_cons_zero] at k3 k4 q3 q4
            have hr8 := HA8.out.r
            clear hu hv hbx hby hWe hHe hfe hcame hd2 hd0 hw0
            go_wp2_with (refine Ops.wpList_store_arr rfl 35 _ _ rfl rb rfl 35 _ (agn m1 u v) rfl hr8 rfl infoAgain (agn_one _ _ _) ?_; intro w9 hr9 ho9)
            exact bodyPost_ret (results_again (t := 6) (u := 7) (e := .nilIface) rfl _ _ hr9 rfl rfl rfl) rfl ⟨⟨.at (m + 1) u v, by rw [HM1.out]; rfl, HTL.out⟩, HA8.out.b.trans (ho9.below HNE.out.2.2.2.1)⟩
        · have hd0 : ¬ Dead L0 := fun hd => HLV.out (dead_far HB2.out hd m)
          have HTL := Lib.hid (HGO.out.full (most := most) HLV.out hd0 (by have := HMM.out; omega) hbig)
          clear hnx hok hbig hd0 hqs hrs
          have hq6 := HA6.out.q
          rw [errV_some (show (4 : Int) ≠ 0 by decide)]
          go_upto_region 13 with (refine Ops.wpList_store_arr rfl 56 _ _ rfl qb rfl 56 _ (boxN W' H' a' n' c' X' Y') rfl hq6 rfl infoGrown (boxN_one _ _ _ _ _ _ _) ?_; intro w7 hq7 ho7)
          have HR7 := Lib.hid (HA6.out.r.other ho7 HNE.out.2.2.1)
          have HB7 := Lib.hid (HA6.out.b.trans (ho7.below HNE.out.2.2.2.2))
          clear hq6 hq7 ho7
          go_wp2_with (refine Ops.wpList_store_arr rfl 35 _ _ rfl rb rfl 35 _ z3 rfl HR7.out rfl infoAgain (agn_one _ _ _) ?_; intro w9 hr9 ho9)
          exact bodyPost_ret (results_again (t := 6) (u := 7) (e := errV 4) rfl _ _ hr9 rfl rfl rfl) rfl ⟨⟨.full, rfl, HTL.out⟩, HB7.out.trans (ho9.below HNE.out.2.2.2.1)⟩
        --}
      · have hwgi : ¬ (0 : Int) < (Wg : Int) := by omega
        have HTL := Lib.hid (HGO.out.none hm (.inl (HN.out.held.dead.1 (by omega))))
        have hr8 := HA.out.r
        clear hgo1 hwg hm
        go_wp2_with (refine Ops.wpList_store_arr rfl 35 _ _ rfl rb rfl 35 _ z3 rfl hr8 rfl infoAgain (agn_one _ _ _) ?_; intro w9 hr9 ho9)
        exact bodyPost_ret (results_again (t := 6) (u := 7) (e := errV 5) rfl _ _ hr9 rfl rfl rfl) rfl ⟨⟨.none, rfl, HTL.out⟩, HA.out.b.trans (ho9.below HNE.out.2.2.2.1)⟩
    · have hgo1i : ¬ (m1 : Int) ≤ (most : Int) := by omega
      have HTL := Lib.hid (HGO.out.none hm (.inr (by have := HM1.out; omega)))
      have hr8 := HA.out.r
      clear hgo1 hm
      go_wp2_with (refine Ops.wpList_store_arr rfl 35 _ _ rfl rb rfl 35 _ z3 rfl hr8 rfl infoAgain (agn_one _ _ _) ?_; intro w9 hr9 ho9)
      exact bodyPost_ret (results_again (t := 6) (u := 7) (e := errV 5) rfl _ _ hr9 rfl rfl rfl) rfl ⟨⟨.none, rfl, HTL.out⟩, HA.out.b.trans (ho9.below HNE.out.2.2.2.1)⟩
end Pn
end Go.Proofs.YtdckcejkliggfaaDoor
