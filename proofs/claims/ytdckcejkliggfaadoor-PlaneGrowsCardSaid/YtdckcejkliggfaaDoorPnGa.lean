/- WALK: the document's edenref3.Again; Grow and Again where something is wrong. -/
import Derived.Test.YtdckcejkliggfaaDoorPnZ
import Derived.Test.YtdckcejkliggfaaDoorPnL
namespace Go.Proofs.YtdckcejkliggfaaDoor
set_option linter.unusedSimpArgs false
set_option linter.unusedVariables false
open Go.RowKit
namespace Pn
open Tld Mem Bl

/-- The boxes of the document's Again. -/
structure DaSt (w0 wr : World) (ub fb qb rb : Nat) (RT : TypeId) (RC RZ : List Value) (W0 H0 : Nat) (a0 : Option Addr) (n0 c0 : Nat) (X0 Y0 : Int) (f0 : Nat → Nat → Nat) (Wg Hg : Nat) (ag : Option Addr) (ng cg : Nat) (Xg Yg : Int) (fg : Nat → Nat → Nat) : Prop where
  u : Row wr ub 24 RC
  fi : Row wr fb 43 (boxN W0 H0 a0 n0 c0 X0 Y0)
  q : Row wr qb 43 (boxN Wg Hg ag ng cg Xg Yg)
  r : Row wr rb RT RZ
  i0 : Ints.Is wr a0 n0 (flat W0 H0 f0)
  ig : Ints.Is wr ag ng (flat Wg Hg fg)
  n0 : ∀ b o, a0 = some ⟨b, o, none⟩ → n0 ≠ 0 → b ≠ qb ∧ b ≠ rb
  ng : ∀ b o, ag = some ⟨b, o, none⟩ → ng ≠ 0 → b ≠ qb ∧ b ≠ rb
  ne : ub ≠ qb ∧ fb ≠ qb ∧ rb ≠ qb ∧ w0.heap.size ≤ rb ∧ w0.heap.size ≤ qb
  b : Below w0.heap.size w0 wr
theorem DaSt.keep {w0 wr w2 : World} {ub fb qb rb : Nat} {RT : TypeId} {RC RZ : List Value} {W0 H0 : Nat} {a0 : Option Addr} {n0 c0 : Nat} {X0 Y0 : Int} {f0 : Nat → Nat → Nat} {Wg Hg : Nat} {ag : Option Addr} {ng cg : Nat} {Xg Yg : Int} {fg : Nat → Nat → Nat}
    (h : DaSt w0 wr ub fb qb rb RT RC RZ W0 H0 a0 n0 c0 X0 Y0 f0 Wg Hg ag ng cg Xg Yg fg) (k : Below wr.heap.size wr w2) : DaSt w0 w2 ub fb qb rb RT RC RZ W0 H0 a0 n0 c0 X0 Y0 f0 Wg Hg ag ng cg Xg Yg fg :=
  ⟨h.u.keep k h.u.lt, h.fi.keep k h.fi.lt, h.q.keep k h.q.lt, h.r.keep k h.r.lt, h.i0.keep k, h.ig.keep k, h.n0, h.ng, h.ne, h.b.trans (k.mono h.b.size)⟩
theorem DaSt.put {w0 wr w2 : World} {ub fb qb rb : Nat} {RT : TypeId} {RC RZ : List Value} {W0 H0 : Nat} {a0 : Option Addr} {n0 c0 : Nat} {X0 Y0 : Int} {f0 : Nat → Nat → Nat} {Wg Hg : Nat} {ag : Option Addr} {ng cg : Nat} {Xg Yg : Int} {fg : Nat → Nat → Nat} {W1 H1 : Nat} {a1 : Option Addr} {n1 c1 : Nat} {X1 Y1 : Int} {f1 : Nat → Nat → Nat}
    (h : DaSt w0 wr ub fb qb rb RT RC RZ W0 H0 a0 n0 c0 X0 Y0 f0 Wg Hg ag ng cg Xg Yg fg) (o : Only qb wr w2) (hq : Row w2 qb 43 (boxN W1 H1 a1 n1 c1 X1 Y1)) (hi : Ints.Is wr a1 n1 (flat W1 H1 f1)) (hn : ∀ b o, a1 = some ⟨b, o, none⟩ → n1 ≠ 0 → b ≠ qb ∧ b ≠ rb) :
    DaSt w0 w2 ub fb qb rb RT RC RZ W0 H0 a0 n0 c0 X0 Y0 f0 W1 H1 a1 n1 c1 X1 Y1 f1 :=
  ⟨h.u.other o h.ne.1, h.fi.other o h.ne.2.1, hq, h.r.other o h.ne.2.2.1, is_other2 h.i0 o (fun b off e k => (h.n0 b off e k).1), is_other2 hi o (fun b off e k => (hn b off e k).1), h.n0, hn, h.ne, h.b.trans (o.below h.ne.2.2.2.2)⟩

/-- What the document's Again hands back. -/
def againD : Out → Value
  | .full => .tuple #[.agg #[.int .i64 0, .int .i64 0, .int .i64 0], .int .i64 4]
  | .none => .tuple #[.agg #[.int .i64 0, .int .i64 0, .int .i64 0], .int .i64 5]
  | .at n u v => .tuple #[.agg #[.int .i64 (n : Nat), .int .i64 u, .int .i64 v], .int .i64 0]
theorem dnext_held (K st ra : Int) (B S : Nat) (ta : Option Addr) (tn tc : Nat) (tu : ByteArray) (W H : Nat) (a : Option Addr) (n c : Nat) (X Y : Int) (f : Nat → Nat → Nat) (w : World) (L : Int → Int → Nat) (hB : B % 2 = 0) (hL : Held L W H f X Y) (hBS : B < 512) (hSS : S < 512) (hZ : Ints.Is w a n (flat W H f)) (hn : n = W * H) (hW : W ≤ 100) (hH : H ≤ 100) (hf : ∀ x y, f x y < 2) (hX : -900000 ≤ X ∧ X ≤ 900000) (hY : -900000 ≤ Y ∧ Y ≤ 900000) :
    Calls Tryd.prog 31 #[.agg #[.int .i64 K, .int .i64 B, .int .i64 S, .int .i64 st, .int .i64 ra, .slice ta tn tc, .string tu], .agg #[.int .i64 W, .int .i64 H, .slice a n c, .int .i64 X, .int .i64 Y]] w fun e w' => ((e = .returned (.tuple #[grn 0 0 none 0 0 0 0, .bool false]) ∧ Big (nx B S L)) ∨
      (∃ W1 H1 : Nat, ∃ a1 n1 c1 X1 Y1 f1, e = .returned (.tuple #[grn W1 H1 a1 n1 c1 X1 Y1, .bool true]) ∧ ¬ Big (nx B S L) ∧ Held (nx B S L) W1 H1 f1 X1 Y1 ∧ W1 ≤ 100 ∧ H1 ≤ 100 ∧ n1 = W1 * H1 ∧ n1 ≤ c1 ∧ ((W1 = 0 ∧ X1 = 0 ∧ Y1 = 0) ∨ (0 < W1 ∧ X - 1 ≤ X1 ∧ X1 + W1 ≤ X + W + 1 ∧ Y - 1 ≤ Y1 ∧ Y1 + H1 ≤ Y + H + 1)) ∧ (0 < W1 → ∀ x y, f1 x y < 2) ∧
        Ints.Is w' a1 n1 (flat W1 H1 f1) ∧ (∀ b o, a1 = some ⟨b, o, none⟩ → w.heap.size ≤ b))) ∧ Below w.heap.size w w' := by
  refine (dnext_any K st ra B S ta tn tc tu W H a n c X Y f w hBS hSS hZ hn hW hH hf hX hY).mono ?_
  rintro e w' ⟨⟨W', H', X', Y', f', htr, hcase⟩, hb⟩
  obtain ⟨k1, k2, k3, k4⟩ := nextD_held hB hL htr
  rcases hcase with ⟨hbig, rfl⟩ | ⟨hw1, hh1, hz, rfl⟩ | ⟨hw1, hh1, hwp, a', n', c', rfl, hn1, hc1, hi1, hab1⟩
  · exact ⟨.inl ⟨rfl, k1 hbig⟩, hb⟩
  · exact ⟨.inr ⟨0, 0, none, 0, 0, 0, 0, f', rfl, k3 hw1 hh1, k2 hz, by decide, by decide, rfl, Nat.le_refl _, .inl ⟨rfl, rfl, rfl⟩, fun h => absurd h (Nat.lt_irrefl 0), ⟨by rw [flat_len], fun i hi => absurd hi (Nat.not_lt_zero _), Nat.zero_le _⟩, fun b o e => by cases e⟩, hb⟩
  · obtain ⟨hh, j1, j2, j3, j4, j5⟩ := k4 hwp
    exact ⟨.inr ⟨W', H', a', n', c', _, _, f', rfl, k3 hw1 hh1, hh, hw1, hh1, hn1, hc1, .inr ⟨hwp, j1, j2, j3, j4⟩, fun _ => j5, hi1, hab1⟩, hb⟩

set_option maxHeartbeats 8000000 in
set_option maxRecDepth 1000000 in
theorem dgrow_bad (K st ra : Int) (B S : Nat) (ta : Option Addr) (tn tc : Nat) (tu : ByteArray) (W H : Int) (a : Option Addr) (n c : Nat) (m : Int) (w : World) (hBS : B < 512) (hf : B % 2 = 1 ∨ m < 0 ∨ 100000 < m) :
    Calls Tryd.prog 14 #[.agg #[.int .i64 K, .int .i64 B, .int .i64 S, .int .i64 st, .int .i64 ra, .slice ta tn tc, .string tu], .agg #[.int .i64 W, .int .i64 H, .slice a n c], .int .i64 m] w fun e w' => e = .returned (.tuple #[grn 0 0 none 0 0 0 0, .int .i64 1]) ∧ Below w.heap.size w w' := by
  have HBIT := Lib.hid (fun w2 => bit_any B 0 (by decide) hBS w2)
  rw [bitN_zero] at HBIT
  clear hBS
  go_enter Tryd.func14, Tryd.ntmps14
  go_upto_region 1 with fail
  obtain ⟨hr1, hr2, hr3, hb2⟩ := three_new w 24 26 43 (rulP K B S st ra ta tn tc tu) (boxP W H a n c) noGrown
  have HU : Hid (Row (((w.alloc (.cells #[.int .i64 K, .int .i64 B, .int .i64 S, .int .i64 st, .int .i64 ra, .slice ta tn tc, .string tu] 24)).alloc (.cells #[.int .i64 W, .int .i64 H, .slice a n c] 26)).alloc (.cells #[.int .i64 0, .int .i64 0, .slice none 0 0, .int .i64 0, .int .i64 0] 43)) w.heap.size 24 (rulP K B S st ra ta tn tc tu)) := hr1
  have HP : Hid (Row (((w.alloc (.cells #[.int .i64 K, .int .i64 B, .int .i64 S, .int .i64 st, .int .i64 ra, .slice ta tn tc, .string tu] 24)).alloc (.cells #[.int .i64 W, .int .i64 H, .slice a n c] 26)).alloc (.cells #[.int .i64 0, .int .i64 0, .slice none 0 0, .int .i64 0, .int .i64 0] 43)) (w.heap.size + 1) 26 (boxP W H a n c)) := hr2
  have HR : Hid (Row (((w.alloc (.cells #[.int .i64 K, .int .i64 B, .int .i64 S, .int .i64 st, .int .i64 ra, .slice ta tn tc, .string tu] 24)).alloc (.cells #[.int .i64 W, .int .i64 H, .slice a n c] 26)).alloc (.cells #[.int .i64 0, .int .i64 0, .slice none 0 0, .int .i64 0, .int .i64 0] 43)) (w.heap.size + 1 + 1) 43 noGrown) := hr3
  have HB : Hid (Below w.heap.size w (((w.alloc (.cells #[.int .i64 K, .int .i64 B, .int .i64 S, .int .i64 st, .int .i64 ra, .slice ta tn tc, .string tu] 24)).alloc (.cells #[.int .i64 W, .int .i64 H, .slice a n c] 26)).alloc (.cells #[.int .i64 0, .int .i64 0, .slice none 0 0, .int .i64 0, .int .i64 0] 43))) := hb2
  clear hr1 hr2 hr3 hb2
  generalize ((w.alloc (.cells #[.int .i64 K, .int .i64 B, .int .i64 S, .int .i64 st, .int .i64 ra, .slice ta tn tc, .string tu] 24)).alloc (.cells #[.int .i64 W, .int .i64 H, .slice a n c] 26)).alloc (.cells #[.int .i64 0, .int .i64 0, .slice none 0 0, .int .i64 0, .int .i64 0] 43) = w1 at *
  obtain ⟨ub, hub⟩ : ∃ ub, ub = w.heap.size := ⟨_, rfl⟩
  rw [← hub] at HU HP HR ⊢
  obtain ⟨pb, hpb⟩ : ∃ pb, pb = ub + 1 := ⟨_, rfl⟩
  rw [← hpb] at HP HR ⊢
  obtain ⟨rb, hrb⟩ : ∃ rb, rb = pb + 1 := ⟨_, rfl⟩
  rw [← hrb] at HR ⊢
  have HRB : Hid (w.heap.size ≤ rb ∧ ub ≠ rb) := Lib.hid (by omega)
  clear hub hpb hrb
  have f1 := HU.out.cell 1
  unfold rulP at f1
  dsimp only [List.getElem?_cons_succ, List.getElem?_cons_zero] at f1
  go_wp2_with fail
  refine (HBIT.out w1).mono ?_
  rintro e2 w2 ⟨rfl, rfl⟩
  clear f1
  rcases (show B % 2 = 1 ∨ (B % 2 = 0 ∧ m < 0) ∨ (B % 2 = 0 ∧ ¬ m < 0 ∧ 100000 < m) by omega) with h | ⟨h, h2⟩ | ⟨h, h2, h3⟩
  all_goals
    rw [h]
    clear hf h HBIT
    go_wp2_with (refine Ops.wpList_store_arr rfl 43 _ _ rfl rb rfl 43 _ noGrown rfl HR.out rfl infoG (boxN_one _ _ _ _ _ _ _) ?_; intro w9 hr9 ho9)
    exact bodyPost_ret (results_G (t := 6) (u := 7) (e := .int .i64 1) rfl _ _ hr9 rfl rfl rfl) rfl ⟨rfl, HB.out.trans (ho9.below HRB.out.1)⟩

set_option maxHeartbeats 8000000 in
set_option maxRecDepth 1000000 in
theorem dagain_bad (K st ra : Int) (B S : Nat) (ta : Option Addr) (tn tc : Nat) (tu : ByteArray) (W H : Int) (a : Option Addr) (n c : Nat) (m : Int) (w : World) (hBS : B < 512) (hf : B % 2 = 1 ∨ m < 1 ∨ 64 < m) :
    Calls Tryd.prog 16 #[.agg #[.int .i64 K, .int .i64 B, .int .i64 S, .int .i64 st, .int .i64 ra, .slice ta tn tc, .string tu], .agg #[.int .i64 W, .int .i64 H, .slice a n c], .int .i64 m] w fun e w' => e = .returned (.tuple #[.agg #[.int .i64 0, .int .i64 0, .int .i64 0], .int .i64 1]) ∧ Below w.heap.size w w' := by
  have HBIT := Lib.hid (fun w2 => bit_any B 0 (by decide) hBS w2)
  rw [bitN_zero] at HBIT
  clear hBS
  go_enter Tryd.func16, Tryd.ntmps16
  go_upto_region 1 with fail
  obtain ⟨hr1, hr2, hr3, hb2⟩ := three_new w 24 26 35 (rulP K B S st ra ta tn tc tu) (boxP W H a n c) z3
  have HU : Hid (Row (((w.alloc (.cells #[.int .i64 K, .int .i64 B, .int .i64 S, .int .i64 st, .int .i64 ra, .slice ta tn tc, .string tu] 24)).alloc (.cells #[.int .i64 W, .int .i64 H, .slice a n c] 26)).alloc (.cells #[.int .i64 0, .int .i64 0, .int .i64 0] 35)) w.heap.size 24 (rulP K B S st ra ta tn tc tu)) := hr1
  have HP : Hid (Row (((w.alloc (.cells #[.int .i64 K, .int .i64 B, .int .i64 S, .int .i64 st, .int .i64 ra, .slice ta tn tc, .string tu] 24)).alloc (.cells #[.int .i64 W, .int .i64 H, .slice a n c] 26)).alloc (.cells #[.int .i64 0, .int .i64 0, .int .i64 0] 35)) (w.heap.size + 1) 26 (boxP W H a n c)) := hr2
  have HR : Hid (Row (((w.alloc (.cells #[.int .i64 K, .int .i64 B, .int .i64 S, .int .i64 st, .int .i64 ra, .slice ta tn tc, .string tu] 24)).alloc (.cells #[.int .i64 W, .int .i64 H, .slice a n c] 26)).alloc (.cells #[.int .i64 0, .int .i64 0, .int .i64 0] 35)) (w.heap.size + 1 + 1) 35 z3) := hr3
  have HB : Hid (Below w.heap.size w (((w.alloc (.cells #[.int .i64 K, .int .i64 B, .int .i64 S, .int .i64 st, .int .i64 ra, .slice ta tn tc, .string tu] 24)).alloc (.cells #[.int .i64 W, .int .i64 H, .slice a n c] 26)).alloc (.cells #[.int .i64 0, .int .i64 0, .int .i64 0] 35))) := hb2
  clear hr1 hr2 hr3 hb2
  generalize ((w.alloc (.cells #[.int .i64 K, .int .i64 B, .int .i64 S, .int .i64 st, .int .i64 ra, .slice ta tn tc, .string tu] 24)).alloc (.cells #[.int .i64 W, .int .i64 H, .slice a n c] 26)).alloc (.cells #[.int .i64 0, .int .i64 0, .int .i64 0] 35) = w1 at *
  obtain ⟨ub, hub⟩ : ∃ ub, ub = w.heap.size := ⟨_, rfl⟩
  rw [← hub] at HU HP HR ⊢
  obtain ⟨pb, hpb⟩ : ∃ pb, pb = ub + 1 := ⟨_, rfl⟩
  rw [← hpb] at HP HR ⊢
  obtain ⟨rb, hrb⟩ : ∃ rb, rb = pb + 1 := ⟨_, rfl⟩
  rw [← hrb] at HR ⊢
  have HRB : Hid (w.heap.size ≤ rb ∧ ub ≠ rb) := Lib.hid (by omega)
  clear hub hpb hrb
  have f1 := HU.out.cell 1
  unfold rulP at f1
  dsimp only [List.getElem?_cons_succ, List.getElem?_cons_zero] at f1
  go_wp2_with fail
  refine (HBIT.out w1).mono ?_
  rintro e2 w2 ⟨rfl, rfl⟩
  clear f1
  rcases (show B % 2 = 1 ∨ (B % 2 = 0 ∧ m < 1) ∨ (B % 2 = 0 ∧ ¬ m < 1 ∧ 64 < m) by omega) with h | ⟨h, h2⟩ | ⟨h, h2, h3⟩
  all_goals
    rw [h]
    clear hf h HBIT
    go_wp2_with (refine Ops.wpList_store_arr rfl 35 _ _ rfl rb rfl 35 _ z3 rfl HR.out rfl infoAgain (agn_one _ _ _) ?_; intro w9 hr9 ho9)
    exact bodyPost_ret (results_again (t := 6) (u := 7) (e := .int .i64 1) rfl _ _ hr9 rfl rfl rfl) rfl ⟨rfl, HB.out.trans (ho9.below HRB.out.1)⟩

set_option maxHeartbeats 16000000 in
set_option maxRecDepth 1000000 in
theorem dagain_ok (K st ra : Int) (B S : Nat) (ta : Option Addr) (tn tc : Nat) (tu : ByteArray) (W H : Nat) (a : Option Addr) (n c : Nat) (f : Nat → Nat → Nat) (most : Nat) (w : World) (hBS : B < 512) (hSS : S < 512) (hB2 : B % 2 = 0) (hZ : Ints.Is w a n (flat W H f)) (hn : n = W * H) (hW : W ≤ 100) (hH : H ≤ 100) (hf : ∀ x y, f x y < 2) (hm1 : 1 ≤ most) (hm64 : most ≤ 64) :
    Calls Tryd.prog 16 #[.agg #[.int .i64 K, .int .i64 B, .int .i64 S, .int .i64 st, .int .i64 ra, .slice ta tn tc, .string tu], .agg #[.int .i64 W, .int .i64 H, .slice a n c], .int .i64 most] w fun e w' => (∃ o, e = .returned (againD o) ∧ Tells B S (ext W H f) most o) ∧ Below w.heap.size w w' := by
  have HBIT := Lib.hid (fun w2 => bit_any B 0 (by decide) hBS w2)
  rw [bitN_zero, hB2] at HBIT
  have HTR := Lib.hid (fun w2 (h : Below w.heap.size w w2) => dfirst_any W H a n c f w2 (hZ.keep h) hn (by omega) (by omega) hf)
  have HNX := Lib.hid (fun (Wg Hg : Nat) ag ng cg Xg Yg fg m w2 (h : ANum B S (ext W H f) m Wg Hg ng cg Xg Yg fg) (hz : Ints.Is w2 ag ng (flat Wg Hg fg)) (hw : 0 < Wg) (hm : m ≤ 64) => dnext_held K st ra B S ta tn tc tu Wg Hg ag ng cg Xg Yg fg w2 (far B S (ext W H f) m) hB2 h.held hBS hSS hz h.len h.w h.h (h.lt hw) (by have := h.x; omega) (by have := h.y; have := h.pos hw; omega))
  have HF := Lib.hid hf
  have HWH : Hid (W ≤ 100 ∧ H ≤ 100) := Lib.hid ⟨hW, hH⟩
  have HB2 := Lib.hid hB2
  have hm1i : ¬ (most : Int) < 1 := by omega
  have hm2i : ¬ (64 : Int) < (most : Int) := by omega
  obtain ⟨L0, hL0⟩ : ∃ L0, L0 = ext W H f := ⟨_, rfl⟩
  have HL0 := Lib.hid hL0
  rw [← hL0] at HNX ⊢
  unfold grn at HTR HNX
  clear hZ hn hW hH hf hBS hSS hB2 hL0
  go_enter Tryd.func16, Tryd.ntmps16
  go_upto_region 1 with fail
  obtain ⟨hr1, hr2, hr3, hb2⟩ := three_new w 24 26 35 (rulP K B S st ra ta tn tc tu) (boxP W H a n c) z3
  have HU : Hid (Row (((w.alloc (.cells #[.int .i64 K, .int .i64 B, .int .i64 S, .int .i64 st, .int .i64 ra, .slice ta tn tc, .string tu] 24)).alloc (.cells #[.int .i64 W, .int .i64 H, .slice a n c] 26)).alloc (.cells #[.int .i64 0, .int .i64 0, .int .i64 0] 35)) w.heap.size 24 (rulP K B S st ra ta tn tc tu)) := hr1
  have HP : Hid (Row (((w.alloc (.cells #[.int .i64 K, .int .i64 B, .int .i64 S, .int .i64 st, .int .i64 ra, .slice ta tn tc, .string tu] 24)).alloc (.cells #[.int .i64 W, .int .i64 H, .slice a n c] 26)).alloc (.cells #[.int .i64 0, .int .i64 0, .int .i64 0] 35)) (w.heap.size + 1) 26 (boxP W H a n c)) := hr2
  have HR : Hid (Row (((w.alloc (.cells #[.int .i64 K, .int .i64 B, .int .i64 S, .int .i64 st, .int .i64 ra, .slice ta tn tc, .string tu] 24)).alloc (.cells #[.int .i64 W, .int .i64 H, .slice a n c] 26)).alloc (.cells #[.int .i64 0, .int .i64 0, .int .i64 0] 35)) (w.heap.size + 1 + 1) 35 z3) := hr3
  have HB : Hid (Below w.heap.size w (((w.alloc (.cells #[.int .i64 K, .int .i64 B, .int .i64 S, .int .i64 st, .int .i64 ra, .slice ta tn tc, .string tu] 24)).alloc (.cells #[.int .i64 W, .int .i64 H, .slice a n c] 26)).alloc (.cells #[.int .i64 0, .int .i64 0, .int .i64 0] 35))) := hb2
  clear hr1 hr2 hr3 hb2
  generalize ((w.alloc (.cells #[.int .i64 K, .int .i64 B, .int .i64 S, .int .i64 st, .int .i64 ra, .slice ta tn tc, .string tu] 24)).alloc (.cells #[.int .i64 W, .int .i64 H, .slice a n c] 26)).alloc (.cells #[.int .i64 0, .int .i64 0, .int .i64 0] 35) = w1 at *
  obtain ⟨ub, hub⟩ : ∃ ub, ub = w.heap.size := ⟨_, rfl⟩
  rw [← hub] at HU HP HR ⊢
  obtain ⟨pb, hpb⟩ : ∃ pb, pb = ub + 1 := ⟨_, rfl⟩
  rw [← hpb] at HP HR ⊢
  obtain ⟨rb, hrb⟩ : ∃ rb, rb = pb + 1 := ⟨_, rfl⟩
  rw [← hrb] at HR ⊢
  have HRB : Hid (w.heap.size ≤ rb ∧ ub ≠ rb) := Lib.hid (by omega)
  clear hub hpb hrb
  have f1 := HU.out.cell 1
  unfold rulP at f1
  dsimp only [List.getElem?_cons_succ, List.getElem?_cons_zero] at f1
  go_wp2_with fail
  refine (HBIT.out w1).mono ?_
  rintro e2 w2 ⟨rfl, rfl⟩
  clear f1
  have l6 := row_range HP.out
  go_wp2_with (refine wpList_load_mid rfl 26 _ rfl pb 0 rfl _ _ l6 Tryd.underlying26 rfl infoPat ?_)
  refine (HTR.out _ HB.out).mono ?_
  rintro e3 w3 ⟨⟨W0, H0, X0, Y0, a0, n0, c0, rfl, f0, ht, hn0, hc0, hi0, hab⟩, hb3⟩
  have hrl := HR.out.lt
  have hul := HU.out.lt
  have HU := Lib.hid (HU.out.keep hb3 hul)
  have HR := Lib.hid (HR.out.keep hb3 hrl)
  have hlt3 : ∀ b o, a0 = some ⟨b, o, none⟩ → n0 ≠ 0 → b < w3.heap.size := fun b o e hne => by
    obtain ⟨b', o', e', hl, _⟩ := hi0.cells 0 (by omega)
    rw [e] at e'; cases e'; exact hl
  have HB := Lib.hid (HB.out.trans (hb3.mono HB.out.size))
  have HHE : Hid (Held L0 W0 H0 f0 X0 Y0) := Lib.hid (by rw [HL0.out]; exact ht.held)
  have hle := ht.le
  have HPOS := Lib.hid (ht.lt HF.out)
  have HI0 := Lib.hid hi0
  have HN0 : Hid (n0 = W0 * H0 ∧ n0 ≤ c0 ∧ W0 ≤ 100 ∧ H0 ≤ 100 ∧ X0 ≤ 100 ∧ Y0 ≤ 100) := Lib.hid (by have := HWH.out; exact ⟨hn0, hc0, by omega, by omega, by omega, by omega⟩)
  have hg0 : Row (w3.alloc (.cells #[.int .i64 (W0 : Nat), .int .i64 (H0 : Nat), .slice a0 n0 c0, .int .i64 (X0 : Nat), .int .i64 (Y0 : Nat)] 43)) w3.heap.size 43 (boxN W0 H0 a0 n0 c0 X0 Y0) := row_alloc w3 _ _
  have hb4 : Below w3.heap.size w3 (w3.alloc (.cells #[.int .i64 (W0 : Nat), .int .i64 (H0 : Nat), .slice a0 n0 c0, .int .i64 (X0 : Nat), .int .i64 (Y0 : Nat)] 43)) := (Below.refl _ _).alloc (Nat.le_refl _) _
  have HS4 := Lib.hid hb4.size
  have HAR : Hid (∀ b o, a0 = some ⟨b, o, none⟩ → n0 ≠ 0 → b < w3.heap.size ∧ b ≠ rb) := Lib.hid (fun b o e k => ⟨hlt3 b o e k, by have := hab b o e; omega⟩)
  clear ht hle hi0 hn0 hc0 hab HTR HP l6 hb3 hlt3 hrl hul
  go_upto_region 4 with fail
  have HU := Lib.hid (HU.out.keep hb4 HU.out.lt)
  have HR := Lib.hid (HR.out.keep hb4 HR.out.lt)
  have HI0 := Lib.hid (HI0.out.keep hb4)
  have hbs := HB.out.size
  have HB := Lib.hid (HB.out.trans (hb4.mono HB.out.size))
  have HFI := Lib.hid hg0
  generalize w3.alloc (.cells #[.int .i64 (W0 : Nat), .int .i64 (H0 : Nat), .slice a0 n0 c0, .int .i64 (X0 : Nat), .int .i64 (Y0 : Nat)] 43) = w4 at *
  obtain ⟨fb, hfb⟩ : ∃ fb, fb = w3.heap.size := ⟨_, rfl⟩
  rw [← hfb] at HFI ⊢
  have HFB := Lib.hid hfb
  have hul4 := HU.out.lt
  have hrl4 := HR.out.lt
  have hfl4 := HFI.out.lt
  clear hb4 hg0 hfb
  have l6 : w4.rangeAt fb 0 [.int .i64 (W0 : Nat), .int .i64 (H0 : Nat), .slice a0 n0 c0, .int .i64 (X0 : Nat), .int .i64 (Y0 : Nat)] := row_range HFI.out
  have hq0 : Row (w4.alloc (.cells #[.int .i64 (W0 : Nat), .int .i64 (H0 : Nat), .slice a0 n0 c0, .int .i64 (X0 : Nat), .int .i64 (Y0 : Nat)] 43)) w4.heap.size 43 (boxN W0 H0 a0 n0 c0 X0 Y0) := row_alloc w4 _ _
  have hb5 : Below w4.heap.size w4 (w4.alloc (.cells #[.int .i64 (W0 : Nat), .int .i64 (H0 : Nat), .slice a0 n0 c0, .int .i64 (X0 : Nat), .int .i64 (Y0 : Nat)] 43)) := (Below.refl _ _).alloc (Nat.le_refl _) _
  go_upto_region 5 with (refine wpList_load_mid rfl 43 _ rfl fb 0 rfl _ _ l6 Tryd.underlying43 rfl infoG ?_)
  clear l6
  have HU := Lib.hid (HU.out.keep hb5 HU.out.lt)
  have HR := Lib.hid (HR.out.keep hb5 HR.out.lt)
  have HFI := Lib.hid (HFI.out.keep hb5 HFI.out.lt)
  have HI0 := Lib.hid (HI0.out.keep hb5)
  have hbt := HB.out.size
  have HB := Lib.hid (HB.out.trans (hb5.mono HB.out.size))
  have HQ := Lib.hid hq0
  generalize w4.alloc (.cells #[.int .i64 (W0 : Nat), .int .i64 (H0 : Nat), .slice a0 n0 c0, .int .i64 (X0 : Nat), .int .i64 (Y0 : Nat)] 43) = w5 at *
  obtain ⟨qb, hqb⟩ : ∃ qb, qb = w4.heap.size := ⟨_, rfl⟩
  rw [← hqb] at HQ ⊢
  have HNE : Hid (ub ≠ qb ∧ fb ≠ qb ∧ rb ≠ qb ∧ w.heap.size ≤ rb ∧ w.heap.size ≤ qb) := Lib.hid (by have := HRB.out; omega)
  have HAQ : Hid (∀ b o, a0 = some ⟨b, o, none⟩ → n0 ≠ 0 → b ≠ qb ∧ b ≠ rb) := Lib.hid (fun b o e k => by have := HAR.out b o e k; have := HS4.out; omega)
  clear hb5 hq0 hul4 hrl4 hfl4 hqb hbs hbt
  have HA : Hid (DaSt w w5 ub fb qb rb 35 (rulP K B S st ra ta tn tc tu) z3 W0 H0 a0 n0 c0 X0 Y0 f0 W0 H0 a0 n0 c0 X0 Y0 f0) := Lib.hid ⟨HU.out, HFI.out, HQ.out, HR.out, HI0.out, HI0.out, HAQ.out, HAQ.out, HNE.out, HB.out⟩
  have HN : Hid (ANum B S L0 0 W0 H0 n0 c0 X0 Y0 f0) := Lib.hid ⟨HHE.out, HN0.out.1, HN0.out.2.1, HN0.out.2.2.1, HN0.out.2.2.2.1, HPOS.out, by have := HN0.out; omega, by have := HN0.out; omega⟩
  have HGO : Hid (Going B S L0 0) := Lib.hid Going.zero
  clear HU HFI HQ HR HI0 HB HAR
  go_wp2_with fail
  go_loopw [10] (fun v wr => ∃ m Wg Hg : Nat, ∃ ag, ∃ ng cg : Nat, ∃ Xg Yg : Int, ∃ fg, m ≤ most ∧ v = .int .i64 ((m + 1 : Nat) : Int) ∧ DaSt w wr ub fb qb rb 35 (rulP K B S st ra ta tn tc tu) z3 W0 H0 a0 n0 c0 X0 Y0 f0 Wg Hg ag ng cg Xg Yg fg ∧ ANum B S L0 m Wg Hg ng cg Xg Yg fg ∧ Going B S L0 m) (fun v _ => most + 1 - (RowKit.intOf v).toNat)
  case atStart => exact ⟨0, W0, H0, a0, n0, c0, X0, Y0, f0, Nat.zero_le _, rfl, HA.out, HN.out, HGO.out⟩
  case round =>
    clear HA HN HGO
    obtain ⟨m, Wg, Hg, ag, ng, cg, Xg, Yg, fg, hm, rfl, ha, hnm, hgo⟩ := hrel
    have HA := Lib.hid ha
    have HN := Lib.hid hnm
    have HGO := Lib.hid hgo
    clear ha hnm hgo
    have g0 := HA.out.q.cell 0
    unfold boxN at g0
    dsimp only [List.getElem?_cons_zero] at g0
    obtain ⟨m1, hm1'⟩ : ∃ m1, m1 = m + 1 := ⟨_, rfl⟩
    rw [← hm1']
    have HM1 := Lib.hid hm1'
    clear hm1'
    by_cases hgo1 : m1 ≤ most
    · have hgo1i : (m1 : Int) ≤ (most : Int) := by omega
      by_cases hwg : 0 < Wg
      · have hw0 : ((Wg : Int) == 0) = false := by rw [beq_eq_false_iff_ne]; omega
        have HWG := Lib.hid hwg
        have HMM : Hid (m < most ∧ m ≤ 64) := Lib.hid (by have := HM1.out; omega)
        have hlive : ¬ Dead (far B S L0 m) := fun hd => by
          have := HN.out.held.dead.2 hd
          omega
        have HLV := Lib.hid hlive
        have l5 := row_range HA.out.u
        have l7 : wr.rangeAt qb 0 [.int .i64 (Wg : Nat), .int .i64 (Hg : Nat), .slice ag ng cg, .int .i64 Xg, .int .i64 Yg] := row_range HA.out.q
        clear hgo1 hwg hlive hm
        go_wp2_with (first | (refine wpList_load_mid rfl 43 _ rfl qb 0 rfl _ _ l7 Tryd.underlying43 rfl infoG ?_) | (refine wpList_load_mid rfl 24 _ rfl ub 0 rfl _ _ l5 Tryd.underlying24 rfl infoRule ?_))
        refine (HNX.out Wg Hg ag ng cg Xg Yg fg m wr HN.out HA.out.ig HWG.out HMM.out.2).mono ?_
        have hqs := HA.out.q.lt
        have hrs := HA.out.r.lt
        have hd0 : ¬ Dead L0 := fun hd => HLV.out (dead_far HB2.out hd m)
        rintro e6 w6 ⟨⟨rfl, hbig⟩ | ⟨W1, H1, a1, n1, c1, X1, Y1, f1, rfl, hnb, hh, hw1, hh1, hn1, hc1, hxy, hlt, hi1, hab1⟩, hb6⟩
        · have HA6 := Lib.hid (HA.out.keep hb6)
          have HTL := Lib.hid (HGO.out.full (most := most) HLV.out hd0 (by have := HMM.out; omega) hbig)
          clear l5 l7 hb6 g0 hbig hd0 hqs hrs
          have hh0 : Row (w6.alloc (.cells #[.int .i64 0, .int .i64 0, .slice none 0 0, .int .i64 0, .int .i64 0] 43)) w6.heap.size 43 noGrown := row_alloc w6 _ _
          have hb7 : Below w6.heap.size w6 (w6.alloc (.cells #[.int .i64 0, .int .i64 0, .slice none 0 0, .int .i64 0, .int .i64 0] 43)) := (Below.refl _ _).alloc (Nat.le_refl _) _
          go_upto_region 11 with fail
          have HA7 := Lib.hid (HA6.out.keep hb7)
          have hr8 := HA7.out.r
          have HH7 := Lib.hid hh0
          clear hh0 hb7 HA6
          generalize w6.alloc (.cells #[.int .i64 0, .int .i64 0, .slice none 0 0, .int .i64 0, .int .i64 0] 43) = w7 at *
          generalize w6.heap.size = hb at *
          go_wp2_with (refine Ops.wpList_store_arr rfl 35 _ _ rfl rb rfl 35 _ z3 rfl hr8 rfl infoAgain (agn_one _ _ _) ?_; intro w9 hr9 ho9)
          exact bodyPost_ret (results_again (t := 6) (u := 7) (e := .int .i64 4) rfl _ _ hr9 rfl rfl rfl) rfl ⟨⟨.full, rfl, HTL.out⟩, HA7.out.b.trans (ho9.below HNE.out.2.2.2.1)⟩
        · have HA6 := Lib.hid (HA.out.keep hb6)
          have HI1 := Lib.hid hi1
          have HAB1 : Hid (∀ b o, a1 = some ⟨b, o, none⟩ → n1 ≠ 0 → b ≠ qb ∧ b ≠ rb) := Lib.hid (fun b o e _ => by have := hab1 b o e; omega)
          have HN1 : Hid (ANum B S L0 (m + 1) W1 H1 n1 c1 X1 Y1 f1) := Lib.hid (HN.out.next hh hw1 hh1 hn1 hc1 hxy hlt)
          have HNB : Hid (¬ Big (far B S L0 (m + 1))) := Lib.hid hnb
          have HD0 := Lib.hid hd0
          clear l5 l7 hb6 g0 hnb hh hw1 hh1 hn1 hc1 hxy hlt hi1 hab1 hqs hrs hd0
          have hh0 : Row (w6.alloc (.cells #[.int .i64 (W1 : Nat), .int .i64 (H1 : Nat), .slice a1 n1 c1, .int .i64 X1, .int .i64 Y1] 43)) w6.heap.size 43 (boxN W1 H1 a1 n1 c1 X1 Y1) := row_alloc w6 _ _
          have hb7 : Below w6.heap.size w6 (w6.alloc (.cells #[.int .i64 (W1 : Nat), .int .i64 (H1 : Nat), .slice a1 n1 c1, .int .i64 X1, .int .i64 Y1] 43)) := (Below.refl _ _).alloc (Nat.le_refl _) _
          go_upto_region 11 with fail
          have HA7 := Lib.hid (HA6.out.keep hb7)
          have HI1 := Lib.hid (HI1.out.keep hb7)
          have hq7 := HA7.out.q
          have HH7 := Lib.hid hh0
          clear hh0 hb7 HA6
          generalize w6.alloc (.cells #[.int .i64 (W1 : Nat), .int .i64 (H1 : Nat), .slice a1 n1 c1, .int .i64 X1, .int .i64 Y1] 43) = w7 at *
          generalize w6.heap.size = hb at *
          have l8 : w7.rangeAt hb 0 [.int .i64 (W1 : Nat), .int .i64 (H1 : Nat), .slice a1 n1 c1, .int .i64 X1, .int .i64 Y1] := row_range HH7.out
          go_upto_region 14 with (first | (refine Ops.wpList_store_arr rfl 43 _ _ rfl qb rfl 43 _ (boxN W1 H1 a1 n1 c1 X1 Y1) rfl hq7 rfl infoG (boxN_one _ _ _ _ _ _ _) ?_; intro w8 hr8 ho8) | (refine wpList_load_mid rfl 43 _ rfl hb 0 rfl _ _ l8 Tryd.underlying43 rfl infoG ?_))
          have HA8 := Lib.hid (HA7.out.put ho8 hr8 HI1.out HAB1.out)
          clear hq7 hr8 ho8 HI1 l8 HA7 HH7
          have l5 : w8.rangeAt qb 0 [.int .i64 (W1 : Nat), .int .i64 (H1 : Nat), .slice a1 n1 c1] := row_pre HA8.out.q
          have l7 : w8.rangeAt fb 0 [.int .i64 (W0 : Nat), .int .i64 (H0 : Nat), .slice a0 n0 c0] := row_pre HA8.out.fi
          have HSA := Lib.hid (alike_any W1 H1 a1 n1 c1 (flat W1 H1 f1) W0 H0 a0 n0 c0 (flat W0 H0 f0) w8 HA8.out.ig HA8.out.i0)
          unfold pat at HSA
          go_wp2_with (first | (refine wpList_load_mid rfl 26 _ rfl qb 0 rfl _ _ l5 Tryd.underlying26 rfl infoPat ?_) | (refine wpList_load_mid rfl 26 _ rfl fb 0 rfl _ _ l7 Tryd.underlying26 rfl infoPat ?_))
          refine HSA.out.mono ?_
          rintro e8 w9 ⟨rfl, hb8⟩
          have HA9 := Lib.hid (HA8.out.keep hb8)
          obtain ⟨q, hq⟩ : ∃ q, q = decide (flat W1 H1 f1 = flat W0 H0 f0 ∧ (W1 : Int) = W0 ∧ (H1 : Int) = H0) := ⟨_, rfl⟩
          rw [← hq]
          have HQ := Lib.hid hq
          clear l5 l7 hb8 HSA hq HA8
          have hw0 : 0 < W0 := by
            rcases Nat.eq_zero_or_pos W0 with h | h
            · exact absurd (HHE.out.dead.1 h) HD0.out
            · exact h
          cases q
          · have hne : ¬ (flat W1 H1 f1 = flat W0 H0 f0 ∧ (W1 : Int) = W0 ∧ (H1 : Int) = H0) := fun h => by
              have h2 := HQ.out
              rw [decide_eq_true h] at h2; cases h2
            have HG2 : Hid (Going B S L0 (m + 1)) := Lib.hid (HGO.out.next HLV.out HNB.out (fun u v hcm => by
              have hs := same_of_came HHE.out HN1.out.held hw0 hcm
              exact hne ⟨hs.2.2.1.symm, by rw [hs.1], by rw [hs.2.1]⟩))
            clear hne hw0
            have hm3 := HM1.out
            have hmm := HMM.out
            go_wp2_with fail
            go_roundw
            case rel => exact ⟨m + 1, W1, H1, a1, n1, c1, X1, Y1, f1, by omega, by go_num, HA9.out, HN1.out, HG2.out⟩
            case measure => simp [RowKit.intOf]; omega
          · have hyes : W1 = W0 ∧ H1 = H0 ∧ flat W1 H1 f1 = flat W0 H0 f0 := by
              have h2 := of_decide_eq_true HQ.out.symm
              exact ⟨by omega, by omega, h2.1⟩
            obtain ⟨hWe, hHe, hfe⟩ := hyes
            have hcame := came_of_same HHE.out (by have h := HN1.out.held; rw [hWe, hHe] at h; exact h) hw0 (by rw [← hfe, hWe, hHe])
            have hd2 : ¬ Dead (far B S L0 (m + 1)) := fun hd => by have := HN1.out.held.dead.2 hd; omega
            have HTL := Lib.hid (HGO.out.at (most := most) HLV.out HD0.out (by have := HMM.out; omega) HNB.out hd2 hcame)
            obtain ⟨u, hu⟩ : ∃ u : Int, u = X1 - (X0 : Int) := ⟨_, rfl⟩
            obtain ⟨v, hv⟩ : ∃ v : Int, v = Y1 - (Y0 : Int) := ⟨_, rfl⟩
            rw [← hu, ← hv] at HTL
            have hbx : -1000000 ≤ X1 - (X0 : Int) ∧ X1 - (X0 : Int) ≤ 1000000 := by have := HN1.out.x; have := HN0.out; have := HMM.out; omega
            have hby : -1000000 ≤ Y1 - (Y0 : Int) ∧ Y1 - (Y0 : Int) ≤ 1000000 := by have := HN1.out.y; have := HN0.out; have := HMM.out; omega
            have a1 : wrap64 (X1 - (X0 : Int)) = u := (wr_in hbx.1 hbx.2).trans hu.symm
            have a2 : wrap64 (Y1 - (Y0 : Int)) = v := (wr_in hby.1 hby.2).trans hv.symm
            have k3 := HA9.out.fi.cell 3
            have k4 := HA9.out.fi.cell 4
            have q0 := HA9.out.q.cell 0
            have q3 := HA9.out.q.cell 3
            have q4 := HA9.out.q.cell 4
            unfold boxN at k3 k4 q0 q3 q4
            dsimp only [List.getElem?_cons_succ, List.getElem?_cons_zero] at k3 k4 q0 q3 q4
            have hr8 := HA9.out.r
            have hw1i : (0 : Int) < (W1 : Int) := by omega
            clear hu hv hbx hby hWe hHe hfe hcame hd2 hw0
            go_wp2_with (refine Ops.wpList_store_arr rfl 35 _ _ rfl rb rfl 35 _ (agn m1 u v) rfl hr8 rfl infoAgain (agn_one _ _ _) ?_; intro w10 hr9 ho9)
            exact bodyPost_ret (results_again (t := 6) (u := 7) (e := .int .i64 0) rfl _ _ hr9 rfl rfl rfl) rfl ⟨⟨.at (m + 1) u v, by rw [HM1.out]; rfl, HTL.out⟩, HA9.out.b.trans (ho9.below HNE.out.2.2.2.1)⟩
      · have hw0 : ((Wg : Int) == 0) = true := by rw [beq_iff_eq]; omega
        have HTL := Lib.hid (HGO.out.none hm (.inl (HN.out.held.dead.1 (by omega))))
        have hr8 := HA.out.r
        clear hgo1 hwg hm
        go_wp2_with (refine Ops.wpList_store_arr rfl 35 _ _ rfl rb rfl 35 _ z3 rfl hr8 rfl infoAgain (agn_one _ _ _) ?_; intro w9 hr9 ho9)
        exact bodyPost_ret (results_again (t := 6) (u := 7) (e := .int .i64 5) rfl _ _ hr9 rfl rfl rfl) rfl ⟨⟨.none, rfl, HTL.out⟩, HA.out.b.trans (ho9.below HNE.out.2.2.2.1)⟩
    · have hgo1i : ¬ (m1 : Int) ≤ (most : Int) := by omega
      have HTL := Lib.hid (HGO.out.none hm (.inr (by have := HM1.out; omega)))
      have hr8 := HA.out.r
      clear hgo1 hm
      go_wp2_with (refine Ops.wpList_store_arr rfl 35 _ _ rfl rb rfl 35 _ z3 rfl hr8 rfl infoAgain (agn_one _ _ _) ?_; intro w9 hr9 ho9)
      exact bodyPost_ret (results_again (t := 6) (u := 7) (e := .int .i64 5) rfl _ _ hr9 rfl rfl rfl) rfl ⟨⟨.none, rfl, HTL.out⟩, HA.out.b.trans (ho9.below HNE.out.2.2.2.1)⟩
end Pn
end Go.Proofs.YtdckcejkliggfaaDoor
