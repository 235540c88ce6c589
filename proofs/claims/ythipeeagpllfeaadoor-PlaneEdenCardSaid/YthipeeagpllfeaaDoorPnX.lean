/- WALK: plane.Grow. -/
import Derived.Test.YthipeeagpllfeaaDoorPnW
namespace Go.Proofs.YthipeeagpllfeaaDoor
set_option linter.unusedSimpArgs false
set_option linter.unusedVariables false
open Go.RowKit
namespace Pn
open Tld Mem Bl

set_option maxHeartbeats 8000000 in
set_option maxRecDepth 1000000 in
/-- Where nothing lives nothing becomes of it. -/
theorem next_zero (K B S st ra : Int) (ta : Option Addr) (tn tc : Nat) (tu : ByteArray) (H : Int) (a : Option Addr) (n c : Nat) (X Y : Int) (w : World) :
    Calls Tryd.prog 31 #[.agg #[.int .i64 0, .int .i64 H, .slice a n c, .int .i64 X, .int .i64 Y], .agg #[.int .i64 K, .int .i64 B, .int .i64 S, .int .i64 st, .int .i64 ra, .slice ta tn tc, .string tu]] w fun e w' => e = .returned (.tuple #[.agg #[.int .i64 0, .int .i64 H, .slice a n c, .int .i64 X, .int .i64 Y], .nilIface]) ∧ Below w.heap.size w w' := by
  go_enter Tryd.func31, Tryd.ntmps31
  go_upto_region 1 with fail
  obtain ⟨hr2, hr3, hr4, hb2⟩ := three_new w 69 24 69 (boxN 0 H a n c X Y) (rulP K B S st ra ta tn tc tu) noGrown
  have HG : Hid (Row (((w.alloc (.cells #[.int .i64 0, .int .i64 H, .slice a n c, .int .i64 X, .int .i64 Y] 69)).alloc (.cells #[.int .i64 K, .int .i64 B, .int .i64 S, .int .i64 st, .int .i64 ra, .slice ta tn tc, .string tu] 24)).alloc (.cells #[.int .i64 0, .int .i64 0, .slice none 0 0, .int .i64 0, .int .i64 0] 69)) w.heap.size 69 (boxN 0 H a n c X Y)) := hr2
  have HR : Hid (Row (((w.alloc (.cells #[.int .i64 0, .int .i64 H, .slice a n c, .int .i64 X, .int .i64 Y] 69)).alloc (.cells #[.int .i64 K, .int .i64 B, .int .i64 S, .int .i64 st, .int .i64 ra, .slice ta tn tc, .string tu] 24)).alloc (.cells #[.int .i64 0, .int .i64 0, .slice none 0 0, .int .i64 0, .int .i64 0] 69)) (w.heap.size + 1 + 1) 69 noGrown) := hr4
  have HB : Hid (Below w.heap.size w (((w.alloc (.cells #[.int .i64 0, .int .i64 H, .slice a n c, .int .i64 X, .int .i64 Y] 69)).alloc (.cells #[.int .i64 K, .int .i64 B, .int .i64 S, .int .i64 st, .int .i64 ra, .slice ta tn tc, .string tu] 24)).alloc (.cells #[.int .i64 0, .int .i64 0, .slice none 0 0, .int .i64 0, .int .i64 0] 69))) := hb2
  clear hr2 hr3 hr4 hb2
  generalize ((w.alloc (.cells #[.int .i64 0, .int .i64 H, .slice a n c, .int .i64 X, .int .i64 Y] 69)).alloc (.cells #[.int .i64 K, .int .i64 B, .int .i64 S, .int .i64 st, .int .i64 ra, .slice ta tn tc, .string tu] 24)).alloc (.cells #[.int .i64 0, .int .i64 0, .slice none 0 0, .int .i64 0, .int .i64 0] 69) = w1 at *
  obtain ⟨gb, hgb⟩ : ∃ gb, gb = w.heap.size := ⟨_, rfl⟩
  rw [← hgb] at HG HR ⊢
  obtain ⟨rb, hrb⟩ : ∃ rb, rb = gb + 1 + 1 := ⟨_, rfl⟩
  rw [← hrb] at HR ⊢
  have HRB : Hid (w.heap.size ≤ rb) := Lib.hid (by omega)
  clear hgb hrb
  have g0 := HG.out.cell 0
  unfold boxN at g0
  dsimp only [List.getElem?_cons_zero] at g0
  have l7 := row_range HG.out
  go_wp2_with (first | (refine wpList_load_mid rfl 69 _ rfl gb 0 rfl _ _ l7 Tryd.underlying69 rfl infoGrown ?_) | (refine Ops.wpList_store_arr rfl 69 _ _ rfl rb rfl 69 _ (boxN 0 H a n c X Y) rfl HR.out rfl infoGrown (boxN_one _ _ _ _ _ _ _) ?_; intro w5 hrow5 hon5))
  exact bodyPost_ret (results_grown2 (t := 4) (u := 5) (e := .nilIface) rfl _ _ hrow5 rfl rfl rfl) rfl ⟨rfl, HB.out.trans (hon5.below HRB.out)⟩
/-- The boxes of Grow. -/
structure GSt (w0 wr : World) (ub qb rb : Nat) (RC : List Value) (Wg Hg : Nat) (ag : Option Addr) (ng cg : Nat) (Xg Yg : Int) (fg : Nat → Nat → Nat) : Prop where
  u : Row wr ub 24 RC
  q : Row wr qb 69 (boxN Wg Hg ag ng cg Xg Yg)
  r : Row wr rb 26 noPat
  ig : Ints.Is wr ag ng (flat Wg Hg fg)
  ng : ∀ b o, ag = some ⟨b, o, none⟩ → ng ≠ 0 → b ≠ qb ∧ b ≠ rb
  ne : ub ≠ qb ∧ rb ≠ qb ∧ w0.heap.size ≤ rb ∧ w0.heap.size ≤ qb
  b : Below w0.heap.size w0 wr
theorem GSt.keep {w0 wr w2 : World} {ub qb rb : Nat} {RC : List Value} {Wg Hg : Nat} {ag : Option Addr} {ng cg : Nat} {Xg Yg : Int} {fg : Nat → Nat → Nat}
    (h : GSt w0 wr ub qb rb RC Wg Hg ag ng cg Xg Yg fg) (k : Below wr.heap.size wr w2) : GSt w0 w2 ub qb rb RC Wg Hg ag ng cg Xg Yg fg :=
  ⟨h.u.keep k h.u.lt, h.q.keep k h.q.lt, h.r.keep k h.r.lt, h.ig.keep k, h.ng, h.ne, h.b.trans (k.mono h.b.size)⟩
theorem GSt.put {w0 wr w2 : World} {ub qb rb : Nat} {RC : List Value} {Wg Hg : Nat} {ag : Option Addr} {ng cg : Nat} {Xg Yg : Int} {fg : Nat → Nat → Nat} {W1 H1 : Nat} {a1 : Option Addr} {n1 c1 : Nat} {X1 Y1 : Int} {f1 : Nat → Nat → Nat}
    (h : GSt w0 wr ub qb rb RC Wg Hg ag ng cg Xg Yg fg) (o : Only qb wr w2) (hq : Row w2 qb 69 (boxN W1 H1 a1 n1 c1 X1 Y1)) (hi : Ints.Is wr a1 n1 (flat W1 H1 f1)) (hn : ∀ b o, a1 = some ⟨b, o, none⟩ → n1 ≠ 0 → b ≠ qb ∧ b ≠ rb) : GSt w0 w2 ub qb rb RC W1 H1 a1 n1 c1 X1 Y1 f1 :=
  ⟨h.u.other o h.ne.1, hq, h.r.other o h.ne.2.1, is_other2 hi o (fun b off e k => (hn b off e k).1), hn, h.ne, h.b.trans (o.below h.ne.2.2.2)⟩
/-- So many steps, none of them too great. -/
def Grows (B S : Nat) (L0 : Int → Int → Nat) (n : Nat) : Prop := ∀ j, 1 ≤ j → j ≤ n → ¬ Big (far B S L0 j)
/-- One of so many is too great. -/
def Bursts (B S : Nat) (L0 : Int → Int → Nat) (n : Nat) : Prop := ∃ m, m < n ∧ Grows B S L0 m ∧ Big (far B S L0 (m + 1))
theorem ANum.dead {B S : Nat} {L0 : Int → Int → Nat} {m Wg Hg ng cg : Nat} {Xg Yg : Int} {fg : Nat → Nat → Nat} (h : ANum B S L0 m Wg Hg ng cg Xg Yg fg) (hB : B % 2 = 0) (hW : Wg = 0) : ANum B S L0 (m + 1) Wg Hg ng cg Xg Yg fg := by
  have hx := h.x
  have hy := h.y
  refine ⟨?_, h.len, h.cap, h.w, h.h, h.lt, by push_cast; omega, by push_cast; omega⟩
  rcases h.held with ⟨h1, h2, h3⟩ | ⟨h1, _⟩
  · exact .inl ⟨h1, h2, dead_next hB h3⟩
  · omega

set_option maxHeartbeats 16000000 in
set_option maxRecDepth 1000000 in
theorem grow_ok (K st ra : Int) (B S : Nat) (ta : Option Addr) (tn tc : Nat) (tz : List Int) (tu : ByteArray) (W H : Nat) (a : Option Addr) (n c : Nat) (f : Nat → Nat → Nat) (steps : Nat) (w : World) (hBS : B < 512) (hSS : S < 512) (hB2 : B % 2 = 0) (hT : Ints.Is w ta tn tz) (hu : tu.size ≤ 9223372036854775807) (hZ : Ints.Is w a n (flat W H f)) (hn : n = W * H) (hc : n ≤ c) (hW : W ≤ 100) (hH : H ≤ 100) (hf : ∀ x y, f x y < 2) (hp : plf K B S st ra tn tz tu W H (flat W H f) = 0) (hs : steps ≤ 100000) :
    Calls Tryd.prog 20 #[.agg #[.int .i64 K, .int .i64 B, .int .i64 S, .int .i64 st, .int .i64 ra, .slice ta tn tc, .string tu], .agg #[.int .i64 W, .int .i64 H, .slice a n c], .int .i64 steps] w fun e w' => ((e = .returned (.tuple #[.agg #[.int .i64 0, .int .i64 0, .slice none 0 0], .int .i64 0, .int .i64 0, errV 4]) ∧ Bursts B S (ext W H f) steps) ∨ (e = .returned (.tuple #[.agg #[.int .i64 0, .int .i64 0, .slice none 0 0], .int .i64 0, .int .i64 0, .nilIface]) ∧ Grows B S (ext W H f) steps ∧ Dead (far B S (ext W H f) steps)) ∨
      (∃ Wg Hg : Nat, ∃ ag, ∃ ng cg : Nat, ∃ Xg Yg, e = .returned (.tuple #[.agg #[.int .i64 Wg, .int .i64 Hg, .slice ag ng cg], .int .i64 Xg, .int .i64 Yg, .nilIface]) ∧ ∃ fg, (Grows B S (ext W H f) steps ∧ Held (far B S (ext W H f) steps) Wg Hg fg Xg Yg) ∧ 0 < Wg ∧ ng = Wg * Hg ∧ ng ≤ cg ∧ Wg ≤ 100 ∧ Hg ≤ 100 ∧ (∀ x y, fg x y < 2) ∧ Ints.Is w' ag ng (flat Wg Hg fg))) ∧ Below w.heap.size w w' := by
  have HK := Lib.hid (fun w2 (h : Below w.heap.size w w2) => check_any K B S st ra ta tn tc tz tu W H a n c (flat W H f) w2 (hT.keep h) hu (hZ.keep h))
  rw [hp, errV_zero rfl] at HK
  have HTR := Lib.hid (fun w2 (h : Below w.heap.size w w2) => ptrim_any W H a n c f w2 (hZ.keep h) hn hc hW hH hf (plf_zero hp).2.2)
  have HNX := Lib.hid (fun (Wg Hg : Nat) ag ng cg Xg Yg fg m w2 (h : ANum B S (ext W H f) m Wg Hg ng cg Xg Yg fg) (hz : Ints.Is w2 ag ng (flat Wg Hg fg)) (hw : 0 < Wg) (hm : m ≤ 100000) => next_any K st ra B S ta tn tc tu Wg Hg ag ng cg Xg Yg fg w2 hBS hSS hz h.len h.cap hw (h.pos hw) h.w h.h (h.lt hw) (by have := h.x; omega) (by have := h.y; have := h.pos hw; omega))
  have HNZ := Lib.hid (fun (Hg : Int) ag ng cg Xg Yg w2 => next_zero K B S st ra ta tn tc tu Hg ag ng cg Xg Yg w2)
  have HF := Lib.hid hf
  have HWH : Hid (W ≤ 100 ∧ H ≤ 100) := Lib.hid ⟨hW, hH⟩
  have HB2 := Lib.hid hB2
  have HS := Lib.hid hs
  have hand := and1 hBS
  rw [hB2] at hand
  have hm1i : ¬ (steps : Int) < 0 := by omega
  have hm2i : ¬ (100000 : Int) < (steps : Int) := by omega
  obtain ⟨L0, hL0⟩ : ∃ L0, L0 = ext W H f := ⟨_, rfl⟩
  have HL0 := Lib.hid hL0
  rw [← hL0] at HNX ⊢
  unfold pat at HTR
  unfold grn at HTR HNX
  clear hT hu hZ hn hc hW hH hf hp hBS hSS hB2 hL0 hs
  go_enter Tryd.func20, Tryd.ntmps20
  go_upto_region 1 with fail
  obtain ⟨hr1, hr2, hr3, hb2⟩ := three_new w 24 26 26 (rulP K B S st ra ta tn tc tu) (boxP W H a n c) noPat
  have HU : Hid (Row (((w.alloc (.cells #[.int .i64 K, .int .i64 B, .int .i64 S, .int .i64 st, .int .i64 ra, .slice ta tn tc, .string tu] 24)).alloc (.cells #[.int .i64 W, .int .i64 H, .slice a n c] 26)).alloc (.cells #[.int .i64 0, .int .i64 0, .slice none 0 0] 26)) w.heap.size 24 (rulP K B S st ra ta tn tc tu)) := hr1
  have HP : Hid (Row (((w.alloc (.cells #[.int .i64 K, .int .i64 B, .int .i64 S, .int .i64 st, .int .i64 ra, .slice ta tn tc, .string tu] 24)).alloc (.cells #[.int .i64 W, .int .i64 H, .slice a n c] 26)).alloc (.cells #[.int .i64 0, .int .i64 0, .slice none 0 0] 26)) (w.heap.size + 1) 26 (boxP W H a n c)) := hr2
  have HR : Hid (Row (((w.alloc (.cells #[.int .i64 K, .int .i64 B, .int .i64 S, .int .i64 st, .int .i64 ra, .slice ta tn tc, .string tu] 24)).alloc (.cells #[.int .i64 W, .int .i64 H, .slice a n c] 26)).alloc (.cells #[.int .i64 0, .int .i64 0, .slice none 0 0] 26)) (w.heap.size + 1 + 1) 26 noPat) := hr3
  have HB : Hid (Below w.heap.size w (((w.alloc (.cells #[.int .i64 K, .int .i64 B, .int .i64 S, .int .i64 st, .int .i64 ra, .slice ta tn tc, .string tu] 24)).alloc (.cells #[.int .i64 W, .int .i64 H, .slice a n c] 26)).alloc (.cells #[.int .i64 0, .int .i64 0, .slice none 0 0] 26))) := hb2
  clear hr1 hr2 hr3 hb2
  generalize ((w.alloc (.cells #[.int .i64 K, .int .i64 B, .int .i64 S, .int .i64 st, .int .i64 ra, .slice ta tn tc, .string tu] 24)).alloc (.cells #[.int .i64 W, .int .i64 H, .slice a n c] 26)).alloc (.cells #[.int .i64 0, .int .i64 0, .slice none 0 0] 26) = w1 at *
  obtain ⟨ub, hub⟩ : ∃ ub, ub = w.heap.size := ⟨_, rfl⟩
  rw [← hub] at HU HP HR ⊢
  obtain ⟨pb, hpb⟩ : ∃ pb, pb = ub + 1 := ⟨_, rfl⟩
  rw [← hpb] at HP HR ⊢
  obtain ⟨rb, hrb⟩ : ∃ rb, rb = pb + 1 := ⟨_, rfl⟩
  rw [← hrb] at HR ⊢
  have HRB : Hid (w.heap.size ≤ rb ∧ ub ≠ rb) := Lib.hid (by omega)
  clear hub hpb hrb
  have l5 := row_range HU.out
  have l6 := row_range HP.out
  go_wp2_with (first | (refine wpList_load_mid rfl 24 _ rfl ub 0 rfl _ _ l5 Tryd.underlying24 rfl infoRule ?_) | (refine wpList_load_mid rfl 26 _ rfl pb 0 rfl _ _ l6 Tryd.underlying26 rfl infoPat ?_))
  refine (HK.out _ HB.out).mono ?_
  rintro e2 w2 ⟨rfl, hb2⟩
  have HU := Lib.hid (HU.out.keep hb2 HU.out.lt)
  have HP := Lib.hid (HP.out.keep hb2 HP.out.lt)
  have HR := Lib.hid (HR.out.keep hb2 HR.out.lt)
  have HB := Lib.hid (HB.out.trans (hb2.mono HB.out.size))
  clear l5 l6 hb2
  have l6 := row_range HP.out
  have f1 := HU.out.cell 1
  unfold rulP at f1
  dsimp only [List.getElem?_cons_succ, List.getElem?_cons_zero] at f1
  go_wp2_with (refine wpList_load_mid rfl 26 _ rfl pb 0 rfl _ _ l6 Tryd.underlying26 rfl infoPat ?_)
  refine (HTR.out _ HB.out).mono ?_
  rintro e3 w3 ⟨⟨W0, H0, X0, Y0, a0, n0, c0, rfl, f0, ht, hn0, hc0, hcm, hi0, hab⟩, hb3⟩
  have hrl := HR.out.lt
  have hul := HU.out.lt
  have HU := Lib.hid (HU.out.keep hb3 hul)
  have HR := Lib.hid (HR.out.keep hb3 hrl)
  have hlt3 : ∀ b o, a0 = some ⟨b, o, none⟩ → n0 ≠ 0 → b < w3.heap.size := fun b o e hne => by
    obtain ⟨b', o', e', hl, _⟩ := hi0.cells 0 (by omega)
    rw [e] at e'; cases e'; exact hl
  have HB := Lib.hid (HB.out.trans (hb3.mono HB.out.size))
  have HHE : Hid (Held L0 W0 H0 f0 X0 Y0) := Lib.hid (by rw [HL0.out]; exact ht.held)
  have hle := ht.le
  have HPOS := Lib.hid (ht.lt HF.out)
  have HI0 := Lib.hid hi0
  have HN0 : Hid (n0 = W0 * H0 ∧ n0 ≤ c0 ∧ W0 ≤ 100 ∧ H0 ≤ 100 ∧ X0 ≤ 100 ∧ Y0 ≤ 100) := Lib.hid (by have := HWH.out; exact ⟨hn0, hc0, by omega, by omega, by omega, by omega⟩)
  have hq0 : Row (w3.alloc (.cells #[.int .i64 (W0 : Nat), .int .i64 (H0 : Nat), .slice a0 n0 c0, .int .i64 (X0 : Nat), .int .i64 (Y0 : Nat)] 69)) w3.heap.size 69 (boxN W0 H0 a0 n0 c0 X0 Y0) := row_alloc w3 _ _
  have hb4 : Below w3.heap.size w3 (w3.alloc (.cells #[.int .i64 (W0 : Nat), .int .i64 (H0 : Nat), .slice a0 n0 c0, .int .i64 (X0 : Nat), .int .i64 (Y0 : Nat)] 69)) := (Below.refl _ _).alloc (Nat.le_refl _) _
  have hbs := HB.out.size
  have HNE : Hid (ub ≠ w3.heap.size ∧ rb ≠ w3.heap.size ∧ w.heap.size ≤ rb ∧ w.heap.size ≤ w3.heap.size) := Lib.hid ⟨Nat.ne_of_lt HU.out.lt, Nat.ne_of_lt HR.out.lt, HRB.out.1, hbs⟩
  have HAQ : Hid (∀ b o, a0 = some ⟨b, o, none⟩ → n0 ≠ 0 → b ≠ w3.heap.size ∧ b ≠ rb) := Lib.hid (fun b o e k => ⟨Nat.ne_of_lt (hlt3 b o e k), by have := hab b o e; omega⟩)
  clear ht hle hi0 hn0 hc0 hcm hab HTR HK HP l6 f1 hb3 hlt3 hrl hul hbs
  go_upto_region 7 with fail
  have HU := Lib.hid (HU.out.keep hb4 HU.out.lt)
  have HR := Lib.hid (HR.out.keep hb4 HR.out.lt)
  have HI0 := Lib.hid (HI0.out.keep hb4)
  have HB := Lib.hid (HB.out.trans (hb4.mono HB.out.size))
  have HQ := Lib.hid hq0
  generalize w3.alloc (.cells #[.int .i64 (W0 : Nat), .int .i64 (H0 : Nat), .slice a0 n0 c0, .int .i64 (X0 : Nat), .int .i64 (Y0 : Nat)] 69) = w4 at *
  obtain ⟨qb, hqb⟩ : ∃ qb, qb = w3.heap.size := ⟨_, rfl⟩
  rw [← hqb] at HQ HNE HAQ ⊢
  clear hb4 hq0 hqb
  have HA : Hid (GSt w w4 ub qb rb (rulP K B S st ra ta tn tc tu) W0 H0 a0 n0 c0 X0 Y0 f0) := Lib.hid ⟨HU.out, HQ.out, HR.out, HI0.out, HAQ.out, HNE.out, HB.out⟩
  have HN : Hid (ANum B S L0 0 W0 H0 n0 c0 X0 Y0 f0) := Lib.hid ⟨HHE.out, HN0.out.1, HN0.out.2.1, HN0.out.2.2.1, HN0.out.2.2.2.1, HPOS.out, by have := HN0.out; omega, by have := HN0.out; omega⟩
  have HGO : Hid (Grows B S L0 0) := Lib.hid (fun j h1 h2 => by omega)
  clear HU HQ HR HI0 HB HAQ
  go_wp2_with fail
  go_loopw [37] (fun v wr => ∃ m Wg Hg : Nat, ∃ ag, ∃ ng cg : Nat, ∃ Xg Yg : Int, ∃ fg, m ≤ steps ∧ v = .int .i64 (m : Nat) ∧ GSt w wr ub qb rb (rulP K B S st ra ta tn tc tu) Wg Hg ag ng cg Xg Yg fg ∧ ANum B S L0 m Wg Hg ng cg Xg Yg fg ∧ Grows B S L0 m) (fun v _ => steps - (RowKit.intOf v).toNat)
  case atStart => exact ⟨0, W0, H0, a0, n0, c0, X0, Y0, f0, Nat.zero_le _, rfl, HA.out, HN.out, HGO.out⟩
  case round =>
    clear HA HN HGO
    obtain ⟨m, Wg, Hg, ag, ng, cg, Xg, Yg, fg, hm, rfl, ha, hnm, hgo⟩ := hrel
    have HA := Lib.hid ha
    have HN := Lib.hid hnm
    have HGO := Lib.hid hgo
    clear ha hnm hgo
    by_cases hms : m < steps
    · --{step
      have hmi : (m : Int) < (steps : Int) := by omega
      have HMS := Lib.hid hms
      have l5 := row_range HA.out.u
      have l7 : wr.rangeAt qb 0 [.int .i64 (Wg : Nat), .int .i64 (Hg : Nat), .slice ag ng cg, .int .i64 Xg, .int .i64 Yg] := row_range HA.out.q
      have hs3 := HS.out
      clear hm hms
      by_cases hwg : 0 < Wg
      · have HWG := Lib.hid hwg
        clear hwg
        go_wp2_with (first | (refine wpList_load_mid rfl 69 _ rfl qb 0 rfl _ _ l7 Tryd.underlying69 rfl infoGrown ?_) | (refine wpList_load_mid rfl 24 _ rfl ub 0 rfl _ _ l5 Tryd.underlying24 rfl infoRule ?_))
        refine (HNX.out Wg Hg ag ng cg Xg Yg fg m wr HN.out HA.out.ig HWG.out (by omega)).mono ?_
        rintro e6 w6 ⟨⟨W', H', a', n', c', X', Y', ev, rfl, f', hnx, hok⟩, hb6⟩
        have hqs := HA.out.q.lt
        have hrs := HA.out.r.lt
        have HA6 := Lib.hid (HA.out.keep hb6)
        clear l5 l7 hb6
        rcases nextIs_held HB2.out HN.out.held hnx with ⟨rfl, hnb, hh, hw1, hh1, hxy, hlt⟩ | ⟨rfl, hbig⟩
        · obtain ⟨hn1, hc1, hcm1, hi1, hab1⟩ := hok rfl
          have HI1 := Lib.hid hi1
          have HAB1 : Hid (∀ b o, a' = some ⟨b, o, none⟩ → n' ≠ 0 → b ≠ qb ∧ b ≠ rb) := Lib.hid (fun b o e _ => by have := hab1 b o e; omega)
          have HN1 : Hid (ANum B S L0 (m + 1) W' H' n' c' X' Y' f') := Lib.hid (HN.out.next hh hw1 hh1 hn1 hc1 hxy hlt)
          have HG1 : Hid (Grows B S L0 (m + 1)) := Lib.hid (fun j h1 h2 => by
            by_cases e : j = m + 1
            · subst e; exact hnb
            · exact HGO.out j h1 (by omega))
          clear hnx hok hnb hh hw1 hh1 hxy hlt hn1 hc1 hcm1 hi1 hab1 hqs hrs
          have hq6 := HA6.out.q
          go_wp2_with (refine Ops.wpList_store_arr rfl 69 _ _ rfl qb rfl 69 _ (boxN W' H' a' n' c' X' Y') rfl hq6 rfl infoGrown (boxN_one _ _ _ _ _ _ _) ?_; intro w7 hq7 ho7)
          have HA7 := Lib.hid (HA6.out.put ho7 hq7 HI1.out HAB1.out)
          clear hq6 hq7 ho7 HI1
          go_roundw
          case rel => exact ⟨m + 1, W', H', a', n', c', X', Y', f', HMS.out, by go_num, HA7.out, HN1.out, HG1.out⟩
          case measure => have := HMS.out; simp [RowKit.intOf]; omega
        · have HBU : Hid (Bursts B S L0 steps) := Lib.hid ⟨m, HMS.out, HGO.out, hbig⟩
          clear hnx hok hbig hqs hrs
          have hq6 := HA6.out.q
          rw [errV_some (show (4 : Int) ≠ 0 by decide)]
          go_upto_region 11 with (refine Ops.wpList_store_arr rfl 69 _ _ rfl qb rfl 69 _ (boxN W' H' a' n' c' X' Y') rfl hq6 rfl infoGrown (boxN_one _ _ _ _ _ _ _) ?_; intro w7 hq7 ho7)
          have HR7 := Lib.hid (HA6.out.r.other ho7 HNE.out.2.1)
          have HB7 := Lib.hid (HA6.out.b.trans (ho7.below HNE.out.2.2.2))
          clear hq6 hq7 ho7
          go_wp2_with (refine Ops.wpList_store_arr rfl 26 _ _ rfl rb rfl 26 _ noPat rfl HR7.out rfl infoPat noPat_one ?_; intro w9 hr9 ho9)
          exact bodyPost_ret (results_pat4 (t := 6) (u := 7) (v := 8) (z := 9) (e := .int .i64 0) (f := .int .i64 0) (g := errV 4) rfl _ _ hr9 rfl rfl rfl rfl rfl) rfl ⟨.inl ⟨rfl, HBU.out⟩, HB7.out.trans (ho9.below HNE.out.2.2.1)⟩
      · obtain rfl : Wg = 0 := by omega
        clear hwg
        go_wp2_with (first | (refine wpList_load_mid rfl 69 _ rfl qb 0 rfl _ _ l7 Tryd.underlying69 rfl infoGrown ?_) | (refine wpList_load_mid rfl 24 _ rfl ub 0 rfl _ _ l5 Tryd.underlying24 rfl infoRule ?_))
        refine (HNZ.out _ _ _ _ _ _ _).mono ?_
        rintro e6 w6 ⟨rfl, hb6⟩
        have HA6 := Lib.hid (HA.out.keep hb6)
        have HN1 := Lib.hid (HN.out.dead HB2.out rfl)
        have HG1 : Hid (Grows B S L0 (m + 1)) := Lib.hid (fun j h1 h2 => by
          by_cases e : j = m + 1
          · subst e
            exact HN1.out.held.not_big HN1.out.w HN1.out.h
          · exact HGO.out j h1 (by omega))
        clear l5 l7 hb6
        have hq6 := HA6.out.q
        go_wp2_with (refine Ops.wpList_store_arr rfl 69 _ _ rfl qb rfl 69 _ (boxN ((0 : Nat) : Int) Hg ag ng cg Xg Yg) rfl hq6 rfl infoGrown (boxN_one _ _ _ _ _ _ _) ?_; intro w7 hq7 ho7)
        have HA7 := Lib.hid (HA6.out.put ho7 hq7 HA6.out.ig HA6.out.ng)
        clear hq6 hq7 ho7
        go_roundw
        case rel => exact ⟨m + 1, 0, Hg, ag, ng, cg, Xg, Yg, fg, HMS.out, by go_num, HA7.out, HN1.out, HG1.out⟩
        case measure => have := HMS.out; simp [RowKit.intOf]; omega
      --}
    · obtain rfl : m = steps := by omega
      have hnl : ¬ (m : Int) < (m : Int) := by omega
      have q0 := HA.out.q.cell 0
      unfold boxN at q0
      dsimp only [List.getElem?_cons_zero] at q0
      clear hm hms
      by_cases hwg : 0 < Wg
      · have HWG := Lib.hid hwg
        have hwi : ¬ (Wg : Int) = 0 := by omega
        have q1 := HA.out.q.cell 1
        have q2 := HA.out.q.cell 2
        have q3 := HA.out.q.cell 3
        have q4 := HA.out.q.cell 4
        unfold boxN at q1 q2 q3 q4
        dsimp only [List.getElem?_cons_succ, List.getElem?_cons_zero] at q1 q2 q3 q4
        have hdr : Below wr.heap.size wr wr.drew := (Below.refl _ _).drew
        clear hwg
        go_upto_region 16 with fail
        clear hwi
        refine Rt.region_Cn (Sc2 (fun w2 => w2.cell? ⟨qb, 0, none⟩ = some (.int .i64 Wg) ∧ w2.cell? ⟨qb, 1, none⟩ = some (.int .i64 Hg) ∧ w2.cell? ⟨qb, 2, none⟩ = some (.slice ag ng cg) ∧ w2.cell? ⟨qb, 3, none⟩ = some (.int .i64 Xg) ∧ w2.cell? ⟨qb, 4, none⟩ = some (.int .i64 Yg)) (fun w2 => True) 999) 10 #[false, false, false, false, false, false, false, false, false, false] (by kernel_rfl) (by kernel_rfl) (by kernel_rfl) ?_
        have hS1 : ∀ o, Sc2 (fun w2 => w2.cell? ⟨qb, 0, none⟩ = some (.int .i64 Wg) ∧ w2.cell? ⟨qb, 1, none⟩ = some (.int .i64 Hg) ∧ w2.cell? ⟨qb, 2, none⟩ = some (.slice ag ng cg) ∧ w2.cell? ⟨qb, 3, none⟩ = some (.int .i64 Xg) ∧ w2.cell? ⟨qb, 4, none⟩ = some (.int .i64 Yg)) (fun w2 => True) 999 o wr.drew := Sc2.of ⟨q0, q1, q2, q3, q4⟩ trivial
        refine Rt.C_take (none) (i := 0) (oi := _) (v := ?_) rfl (by kernel_rfl) (by kernel_rfl) (by kernel_rfl) (by kernel_rfl) (fun _ _ _ h => h) (Sc2.other (by decide)) (Or.inl ⟨by rfl, ?_⟩) (fun o' _ => hS1 o') ?_
        rotate_left
        · intro w2 hSw
          obtain ⟨s0, s1, s2, s3, s4⟩ := hSw
          go_simp
          try with_reducible rfl
        simp only [Act.put, List.getElem_toArray, List.getElem_cons_succ, List.getElem_cons_zero, List.setIfInBounds_toArray, List.set_cons_zero, List.set_cons_succ]
        refine Rt.C_take (none) (i := 1) (oi := _) (v := ?_) rfl (by kernel_rfl) (by kernel_rfl) (by kernel_rfl) (by kernel_rfl) (fun _ _ _ h => h) (Sc2.other (by decide)) (Or.inl ⟨by rfl, ?_⟩) (fun o' _ => hS1 o') ?_
        rotate_left
        · intro w2 hSw
          obtain ⟨s0, s1, s2, s3, s4⟩ := hSw
          go_simp
          try with_reducible rfl
        simp only [Act.put, List.getElem_toArray, List.getElem_cons_succ, List.getElem_cons_zero, List.setIfInBounds_toArray, List.set_cons_zero, List.set_cons_succ]
        refine Rt.C_take (none) (i := 2) (oi := _) (v := ?_) rfl (by kernel_rfl) (by kernel_rfl) (by kernel_rfl) (by kernel_rfl) (fun _ _ _ h => h) (Sc2.other (by decide)) (Or.inl ⟨by rfl, ?_⟩) (fun o' _ => hS1 o') ?_
        rotate_left
        · intro w2 hSw
          obtain ⟨s0, s1, s2, s3, s4⟩ := hSw
          go_simp
          try with_reducible rfl
        simp only [Act.put, List.getElem_toArray, List.getElem_cons_succ, List.getElem_cons_zero, List.setIfInBounds_toArray, List.set_cons_zero, List.set_cons_succ]
        refine Rt.C_take (none) (i := 3) (oi := _) (v := ?_) rfl (by kernel_rfl) (by kernel_rfl) (by kernel_rfl) (by kernel_rfl) (fun _ _ _ h => h) (Sc2.other (by decide)) (Or.inl ⟨by rfl, ?_⟩) (fun o' _ => hS1 o') ?_
        rotate_left
        · intro w2 hSw
          obtain ⟨s0, s1, s2, s3, s4⟩ := hSw
          go_simp
          try with_reducible rfl
        simp only [Act.put, List.getElem_toArray, List.getElem_cons_succ, List.getElem_cons_zero, List.setIfInBounds_toArray, List.set_cons_zero, List.set_cons_succ]
        refine Rt.C_take (none) (i := 4) (oi := _) (v := ?_) rfl (by kernel_rfl) (by kernel_rfl) (by kernel_rfl) (by kernel_rfl) (fun _ _ _ h => h) (Sc2.other (by decide)) (Or.inl ⟨by rfl, ?_⟩) (fun o' _ => hS1 o') ?_
        rotate_left
        · intro w2 hSw
          obtain ⟨s0, s1, s2, s3, s4⟩ := hSw
          go_simp
          try with_reducible rfl
        simp only [Act.put, List.getElem_toArray, List.getElem_cons_succ, List.getElem_cons_zero, List.setIfInBounds_toArray, List.set_cons_zero, List.set_cons_succ]
        refine Rt.C_take (none) (i := 5) (oi := _) (v := ?_) rfl (by kernel_rfl) (by kernel_rfl) (by kernel_rfl) (by kernel_rfl) (fun _ _ _ h => h) (Sc2.other (by decide)) (Or.inl ⟨by rfl, ?_⟩) (fun o' _ => hS1 o') ?_
        rotate_left
        · intro w2 hSw
          obtain ⟨s0, s1, s2, s3, s4⟩ := hSw
          go_simp
          try with_reducible rfl
        simp only [Act.put, List.getElem_toArray, List.getElem_cons_succ, List.getElem_cons_zero, List.setIfInBounds_toArray, List.set_cons_zero, List.set_cons_succ]
        clear hS1
        have HAd := Lib.hid (HA.out.keep hdr)
        clear hdr q0 q1 q2 q3 q4
        generalize wr.drew = wd at *
        refine Rt.C_ready (rs := [6]) (by kernel_rfl) (by simp) ?_
        refine Rt.AllC.cons (i := 6) (o := _) rfl (by rfl) (fun K' hK => ?_) ?_
        · skip
          refine wp_store_arr 26 _ _ rfl rb (by rfl) 26 noPat (boxP Wg Hg ag ng cg) (by rfl) HAd.out.r rfl infoPat (boxP_one _ _ _ _ _) ?_
          intro w7 hr7 ho7
          have HQ7 := Lib.hid (HAd.out.q.other ho7 HAd.out.ne.2.1.symm)
          have HI7 := Lib.hid (is_other2 HAd.out.ig ho7 (fun b o e k => (HAd.out.ng b o e k).2))
          have HB7 := Lib.hid (HAd.out.b.trans (ho7.below HAd.out.ne.2.2.1))
          have hS2 : ∀ o, Sc2 (fun w2 => w2.cell? ⟨qb, 0, none⟩ = some (.int .i64 Wg) ∧ w2.cell? ⟨qb, 1, none⟩ = some (.int .i64 Hg) ∧ w2.cell? ⟨qb, 2, none⟩ = some (.slice ag ng cg) ∧ w2.cell? ⟨qb, 3, none⟩ = some (.int .i64 Xg) ∧ w2.cell? ⟨qb, 4, none⟩ = some (.int .i64 Yg)) (fun w2 => True) 999 o w7 := Sc2.of ⟨HQ7.out.cell 0, HQ7.out.cell 1, HQ7.out.cell 2, HQ7.out.cell 3, HQ7.out.cell 4⟩ trivial
          refine hK _ _ (fun o _ => hS2 o) ?_
          clear hK K'
          simp only [Act.put, List.getElem_toArray, List.getElem_cons_succ, List.getElem_cons_zero, List.setIfInBounds_toArray, List.set_cons_zero, List.set_cons_succ]
          refine Rt.C_take (none) (i := 7) (oi := _) (v := ?_) rfl (by kernel_rfl) (by kernel_rfl) (by kernel_rfl) (by kernel_rfl) (fun _ _ _ h => h) (Sc2.other (by decide)) (Or.inl ⟨by rfl, ?_⟩) (fun o _ => hS2 o) ?_
          rotate_left
          · intro w2 hSw
            obtain ⟨s0, s1, s2, s3, s4⟩ := hSw
            go_simp
            try with_reducible rfl
          simp only [Act.put, List.getElem_toArray, List.getElem_cons_succ, List.getElem_cons_zero, List.setIfInBounds_toArray, List.set_cons_zero, List.set_cons_succ]
          refine Rt.C_take (none) (i := 8) (oi := _) (v := ?_) rfl (by kernel_rfl) (by kernel_rfl) (by kernel_rfl) (by kernel_rfl) (fun _ _ _ h => h) (Sc2.other (by decide)) (Or.inl ⟨by rfl, ?_⟩) (fun o _ => hS2 o) ?_
          rotate_left
          · intro w2 hSw
            obtain ⟨s0, s1, s2, s3, s4⟩ := hSw
            go_simp
            try with_reducible rfl
          simp only [Act.put, List.getElem_toArray, List.getElem_cons_succ, List.getElem_cons_zero, List.setIfInBounds_toArray, List.set_cons_zero, List.set_cons_succ]
          refine Rt.C_take (none) (i := 9) (oi := _) (v := ?_) rfl (by kernel_rfl) (by kernel_rfl) (by kernel_rfl) (by kernel_rfl) (fun _ _ _ h => h) (Sc2.other (by decide)) (Or.inl ⟨by rfl, ?_⟩) (fun o _ => hS2 o) ?_
          rotate_left
          · intro w2 hSw
            obtain ⟨s0, s1, s2, s3, s4⟩ := hSw
            go_simp
            try with_reducible rfl
          simp only [Act.put, List.getElem_toArray, List.getElem_cons_succ, List.getElem_cons_zero, List.setIfInBounds_toArray, List.set_cons_zero, List.set_cons_succ]
          refine Rt.C_done (by kernel_rfl) ?_ _
          clear hS2
          go_wp2_with fail
          refine bodyPost_ret (results_pat4 (t := 6) (u := 7) (v := 8) (z := 9) (e := .int .i64 Xg) (f := .int .i64 Yg) (g := .nilIface) rfl _ _ hr7 rfl rfl rfl rfl rfl) rfl ⟨.inr (.inr ⟨Wg, Hg, ag, ng, cg, Xg, Yg, rfl, fg, ⟨HGO.out, HN.out.held⟩, HWG.out, HN.out.len, HN.out.cap, HN.out.w, HN.out.h, HN.out.lt HWG.out, HI7.out⟩), HB7.out⟩
        exact Rt.AllC.nil
      · obtain rfl : Wg = 0 := by omega
        have HD : Hid (Dead (far B S L0 m)) := Lib.hid (HN.out.held.dead.1 rfl)
        have hr8 := HA.out.r
        clear hwg
        go_wp2_with (refine Ops.wpList_store_arr rfl 26 _ _ rfl rb rfl 26 _ noPat rfl hr8 rfl infoPat noPat_one ?_; intro w9 hr9 ho9)
        exact bodyPost_ret (results_pat4 (t := 6) (u := 7) (v := 8) (z := 9) (e := .int .i64 0) (f := .int .i64 0) (g := .nilIface) rfl _ _ hr9 rfl rfl rfl rfl rfl) rfl ⟨.inr (.inl ⟨rfl, HGO.out, HD.out⟩), HA.out.b.trans (ho9.below HNE.out.2.2.1)⟩
end Pn
end Go.Proofs.YthipeeagpllfeaaDoor
