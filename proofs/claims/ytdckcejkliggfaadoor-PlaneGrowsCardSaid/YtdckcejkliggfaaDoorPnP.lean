/- WALK: the document's edenref3.First; plain: what Next of the document gives. -/
import Derived.Test.YtdckcejkliggfaaDoorPnJ
namespace Go.Proofs.YtdckcejkliggfaaDoor
set_option linter.unusedSimpArgs false
set_option linter.unusedVariables false
open Go.RowKit
namespace Pn
open Tld Mem Bl

theorem Lies.ext {L : Int → Int → Nat} {W H : Nat} {c : Nat → Nat → Nat} {X Y : Int} (h : Lies L W H c X Y) (x y : Int) : Pn.ext W H c x y = L (X + x) (Y + y) := by
  unfold Pn.ext
  by_cases hc : (0 ≤ x ∧ x < W) ∧ 0 ≤ y ∧ y < H
  · rw [if_pos hc]
    obtain ⟨⟨h1, h2⟩, h3, h4⟩ := hc
    obtain ⟨i, rfl⟩ := Int.eq_ofNat_of_zero_le h1
    obtain ⟨j, rfl⟩ := Int.eq_ofNat_of_zero_le h3
    rw [Int.toNat_natCast, Int.toNat_natCast]
    exact h.cell i j (by omega) (by omega)
  · rw [if_neg hc, h.zero (by omega)]
theorem nx_shift {B S : Nat} {L M : Int → Int → Nat} {X Y : Int} (h : ∀ x y, M x y = L (X + x) (Y + y)) (x y : Int) : nx B S M x y = nx B S L (X + x) (Y + y) := by
  unfold nx nine
  simp only [h, Int.add_assoc]
theorem nxd_near {B S W H : Nat} {L : Int → Int → Nat} {f : Nat → Nat → Nat} {X Y : Int} (hB : B % 2 = 0) (h : Lies L W H f X Y) : Lies (nx B S L) (W + 2) (H + 2) (nxd B S W H f) (X - 1) (Y - 1) := by
  have hn := lies_near (S := S) hB h
  refine ⟨fun x y hx hy => ?_, hn.rest⟩
  unfold nxd
  rw [nx_shift h.ext]
  congr 1 <;> omega
/-- What Next of the document gives: a step that is too great, or what lives then. -/
theorem nextD_held {B S W H W' H' X' Y' : Nat} {f f' : Nat → Nat → Nat} {X Y : Int} {L : Int → Int → Nat} (hB : B % 2 = 0) (hL : Held L W H f X Y) (h : Trimmed (W + 2) (H + 2) (nxd B S W H f) W' H' f' X' Y') :
    ((100 < W' ∨ 100 < H') → Big (nx B S L)) ∧ (W' = 0 → Held (nx B S L) 0 0 f' 0 0) ∧ (W' ≤ 100 → H' ≤ 100 → ¬ Big (nx B S L)) ∧
      (0 < W' → Held (nx B S L) W' H' f' (X + X' - 1) (Y + Y' - 1) ∧ X - 1 ≤ X + X' - 1 ∧ X + X' - 1 + W' ≤ X + W + 1 ∧ Y - 1 ≤ Y + Y' - 1 ∧ Y + Y' - 1 + H' ≤ Y + H + 1 ∧ ∀ x y, f' x y < 2) := by
  have hn := nxd_near (S := S) hB hL.lies
  rcases h with ⟨rfl, rfl, rfl, rfl, hz⟩ | ⟨r, b, hb, hW', hH', rfl⟩
  · have hd := hn.dead hz
    exact ⟨fun h => by omega, fun _ => .inl ⟨rfl, rfl, hd⟩, fun _ _ ⟨x, y, _, _, h1, _⟩ => h1 (hd x y), fun h => absurd h (Nat.lt_irrefl 0)⟩
  · have hh := hn.held hb
    have hlr := hb.lr
    have htb := hb.tb
    rw [← hW', ← hH'] at hh
    have e1 : X - 1 + (X' : Int) = X + X' - 1 := by omega
    have e2 : Y - 1 + (Y' : Int) = Y + Y' - 1 := by omega
    rw [e1, e2] at hh
    refine ⟨fun hbig => ?_, fun h => by omega, fun h1 h2 => hh.not_big h1 h2, fun _ => ⟨hh, by omega, by omega, by omega, by omega, fun x y => nx_lt _ _ _ _ _⟩⟩
    rcases hh with ⟨h0, _⟩ | ⟨h1, h2, h3, h4⟩
    · omega
    · exact h3.big.2 (by omega)
theorem results_G1 {fn : Func} {t : Tmp} (hr : fn.results = #[.cell t 43]) (tmps : Array Value) (w : World) {q : Nat} {V : List Value} (h : Row w q 43 V) (hV : V.length = 5) (h8 : tmps.getD t undef = .pointer (some ⟨q, 0, none⟩)) :
    (results fn tmps).run Tryd.prog w = .ok (.agg V.toArray) w := by
  have hl := run_loadVar_row (P := Tryd.prog) w q 43 43 V.toArray (0, 0) _ h Tryd.underlying43 rfl (by rw [List.size_toArray, hV]; exact infoG)
  have h8' : tmps[t]?.getD undef = .pointer (some ⟨q, 0, none⟩) := by simpa using h8
  simp [results, hr, h8', asAddr, hl]
set_option maxHeartbeats 8000000 in
set_option maxRecDepth 1000000 in
theorem dfirst_any (W H : Nat) (a : Option Addr) (n c : Nat) (f : Nat → Nat → Nat) (w : World) (hZ : Ints.Is w a n (flat W H f)) (hn : n = W * H) (hW : W ≤ 200) (hH : H ≤ 200) (hf : ∀ x y, f x y < 2) :
    Calls Tryd.prog 30 #[.agg #[.int .i64 W, .int .i64 H, .slice a n c]] w fun e w' => (∃ W' H' X Y : Nat, ∃ a' n' c', e = .returned (grn W' H' a' n' c' X Y) ∧ ∃ f', Trimmed W H f W' H' f' X Y ∧ n' = W' * H' ∧ n' ≤ c' ∧ Ints.Is w' a' n' (flat W' H' f') ∧ (∀ b o, a' = some ⟨b, o, none⟩ → w.heap.size ≤ b)) ∧ Below w.heap.size w w' := by
  have HT := Lib.hid (fun w2 (h : Below w.heap.size w w2) => dtrim_any W H a n c f w2 (hZ.keep h) hn hW hH hf)
  clear hZ hn hW hH hf
  unfold pat at HT
  unfold grn
  go_enter Tryd.func30, Tryd.ntmps30
  go_upto_region 1 with fail
  obtain ⟨hr5, hr8, hb2⟩ := two_new w 26 43 (boxP W H a n c) noGrown
  have HP : Hid (Row ((w.alloc (.cells #[.int .i64 W, .int .i64 H, .slice a n c] 26)).alloc (.cells #[.int .i64 0, .int .i64 0, .slice none 0 0, .int .i64 0, .int .i64 0] 43)) w.heap.size 26 (boxP W H a n c)) := hr5
  have HR : Hid (Row ((w.alloc (.cells #[.int .i64 W, .int .i64 H, .slice a n c] 26)).alloc (.cells #[.int .i64 0, .int .i64 0, .slice none 0 0, .int .i64 0, .int .i64 0] 43)) (w.heap.size + 1) 43 noGrown) := hr8
  have HB : Hid (Below w.heap.size w ((w.alloc (.cells #[.int .i64 W, .int .i64 H, .slice a n c] 26)).alloc (.cells #[.int .i64 0, .int .i64 0, .slice none 0 0, .int .i64 0, .int .i64 0] 43))) := hb2
  clear hr5 hr8 hb2
  generalize (w.alloc (.cells #[.int .i64 W, .int .i64 H, .slice a n c] 26)).alloc (.cells #[.int .i64 0, .int .i64 0, .slice none 0 0, .int .i64 0, .int .i64 0] 43) = w1 at *
  obtain ⟨pb, hpb⟩ : ∃ pb, pb = w.heap.size := ⟨_, rfl⟩
  rw [← hpb] at HP HR ⊢
  obtain ⟨rb, hrb⟩ : ∃ rb, rb = pb + 1 := ⟨_, rfl⟩
  rw [← hrb] at HR ⊢
  have HRB : Hid (w.heap.size ≤ rb) := Lib.hid (by omega)
  clear hrb hpb
  have l6 := row_range HP.out
  go_wp2_with (refine wpList_load_mid rfl 26 _ rfl pb 0 rfl _ _ l6 Tryd.underlying26 rfl infoPat ?_)
  clear l6
  refine (HT.out _ HB.out).mono ?_
  rintro e8 w8 ⟨⟨W', H', X', Y', a', n', c', rfl, f', htr, hn', hc', hi', hab⟩, hb8⟩
  have hrl := HR.out.lt
  have HR := Lib.hid (HR.out.keep hb8 hrl)
  have HABW : Hid (∀ b o, a' = some ⟨b, o, none⟩ → w.heap.size ≤ b ∧ b ≠ rb) := Lib.hid (fun b o e => by have h1 := hab b o e; have h2 := HB.out.size; omega)
  have HB := Lib.hid (HB.out.trans (hb8.mono HB.out.size))
  have HIS := Lib.hid hi'
  have HTM := Lib.hid htr
  have HNC := Lib.hid (And.intro hn' hc')
  have hp0 : Row (w8.alloc (.cells #[.int .i64 (W' : Nat), .int .i64 (H' : Nat), .slice a' n' c'] 26)) w8.heap.size 26 (boxP (W' : Nat) (H' : Nat) a' n' c') := row_alloc w8 _ _
  have hb9 : Below w8.heap.size w8 (w8.alloc (.cells #[.int .i64 (W' : Nat), .int .i64 (H' : Nat), .slice a' n' c'] 26)) := (Below.refl _ _).alloc (Nat.le_refl _) _
  clear htr hn' hc' hi' hab hb8 hrl
  go_upto_region 2 with fail
  have HR := Lib.hid (HR.out.keep hb9 HR.out.lt)
  have HIS := Lib.hid (HIS.out.keep hb9)
  have HB := Lib.hid (HB.out.trans (hb9.mono HB.out.size))
  have HPR := Lib.hid hp0
  clear hb9 hp0
  generalize w8.alloc (.cells #[.int .i64 (W' : Nat), .int .i64 (H' : Nat), .slice a' n' c'] 26) = w9 at *
  generalize w8.heap.size = tb at *
  have l5 : w9.rangeAt tb 0 [.int .i64 (W' : Nat), .int .i64 (H' : Nat), .slice a' n' c'] := row_range HPR.out
  go_wp2_with (first | (refine Ops.wpList_store_arr rfl 43 _ _ rfl rb rfl 43 _ (boxN (W' : Nat) (H' : Nat) a' n' c' (X' : Nat) (Y' : Nat)) rfl HR.out rfl infoG (boxN_one _ _ _ _ _ _ _) ?_; intro w5 hrow5 hon5) | (refine wpList_load_mid rfl 26 _ rfl tb 0 rfl _ _ l5 Tryd.underlying26 rfl infoPat ?_))
  exact bodyPost_ret (results_G1 (t := 2) rfl _ _ hrow5 rfl rfl) rfl ⟨⟨W', H', X', Y', a', n', c', rfl, f', HTM.out, HNC.out.1, HNC.out.2, is_other2 HIS.out hon5 (fun b off e k => (HABW.out b off e).2), fun b o e => (HABW.out b o e).1⟩, HB.out.trans (hon5.below HRB.out)⟩
end Pn
end Go.Proofs.YtdckcejkliggfaaDoor
