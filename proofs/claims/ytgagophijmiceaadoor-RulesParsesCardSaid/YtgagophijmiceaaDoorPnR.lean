/- WALK: pattern.Trim, plane.trim, plane.same, pattern.Turn where nothing is wrong. -/
import Derived.Test.YtgagophijmiceaaDoorPnM
import Derived.Test.YtgagophijmiceaaDoorPnU
namespace Go.Proofs.YtgagophijmiceaaDoor
set_option linter.unusedSimpArgs false
set_option linter.unusedVariables false
open Go.RowKit
namespace Pn
open Tld Mem Bl

theorem results_pat4 {fn : Func} {t u v z : Tmp} (hr : fn.results = #[.cell t 35, .tmp u, .tmp v, .tmp z]) (tmps : Array Value) (w : World) {q : Nat} {V : List Value} {e f g : Value} (h : Row w q 35 V) (hV : V.length = 3) (h8 : tmps.getD t undef = .pointer (some ⟨q, 0, none⟩)) (h9 : tmps.getD u undef = e) (h10 : tmps.getD v undef = f) (h11 : tmps.getD z undef = g) :
    (results fn tmps).run Tryd.prog w = .ok (.tuple #[.agg V.toArray, e, f, g]) w := by
  have hl := run_loadVar_row (P := Tryd.prog) w q 35 35 V.toArray (0, 0) _ h Tryd.underlying35 rfl (by rw [List.size_toArray, hV]; exact infoPat)
  have h8' : tmps[t]?.getD undef = .pointer (some ⟨q, 0, none⟩) := by simpa using h8
  have h9' : tmps[u]?.getD undef = e := by simpa using h9
  have h10' : tmps[v]?.getD undef = f := by simpa using h10
  have h11' : tmps[z]?.getD undef = g := by simpa using h11
  simp [results, hr, h8', h9', h10', h11', asAddr, hl]
set_option maxHeartbeats 8000000 in
set_option maxRecDepth 1000000 in
theorem Trim_ok (W H : Nat) (a : Option Addr) (n c : Nat) (f : Nat → Nat → Nat) (w : World) (hZ : Ints.Is w a n (flat W H f)) (hn : n = W * H) (hc : n ≤ c) (hW : W ≤ 100) (hH : H ≤ 100) (hf : ∀ x y, f x y < 2) (hp : pfault W H (flat W H f) = 0) :
    Calls Tryd.prog 20 #[pat W H a n c] w fun e w' => (∃ W' H' X Y : Nat, ∃ a' n' c', e = .returned (.tuple #[pat W' H' a' n' c', .int .i64 X, .int .i64 Y, .nilIface]) ∧ ∃ f', Trimmed W H f W' H' f' X Y ∧ n' = W' * H' ∧ n' ≤ c' ∧ c' ≤ maxLen ∧ Ints.Is w' a' n' (flat W' H' f') ∧ (∀ b o, a' = some ⟨b, o, none⟩ → w.heap.size ≤ b)) ∧ Below w.heap.size w w' := by
  have HT := Lib.hid (fun w2 (h : Below w.heap.size w w2) => trim_any W H a n c f w2 (hZ.keep h) hn hc (by omega) (by omega) hf)
  have HK := Lib.hid (fun w2 (h : Below w.heap.size w w2) => pcheck_any W H a n c (flat W H f) w2 (by rw [flat_len, hn]) (by have := Nat.mul_le_mul hW hH; omega) (hZ.keep h).cells)
  rw [hp, errV_zero rfl] at HK
  clear hZ hn hW hH hf hc hp
  unfold pat at HT HK ⊢
  go_enter Tryd.func20, Tryd.ntmps20
  go_upto_region 1 with fail
  obtain ⟨hr5, hr8, hb2⟩ := two_new w 35 35 (boxP W H a n c) noPat
  have HR5 : Hid (Row ((w.alloc (.cells #[.int .i64 W, .int .i64 H, .slice a n c] 35)).alloc (.cells #[.int .i64 0, .int .i64 0, .slice none 0 0] 35)) w.heap.size 35 (boxP W H a n c)) := hr5
  have HR8 : Hid (Row ((w.alloc (.cells #[.int .i64 W, .int .i64 H, .slice a n c] 35)).alloc (.cells #[.int .i64 0, .int .i64 0, .slice none 0 0] 35)) (w.heap.size + 1) 35 noPat) := hr8
  have HB : Hid (Below w.heap.size w ((w.alloc (.cells #[.int .i64 W, .int .i64 H, .slice a n c] 35)).alloc (.cells #[.int .i64 0, .int .i64 0, .slice none 0 0] 35))) := hb2
  clear hr5 hr8 hb2
  generalize (w.alloc (.cells #[.int .i64 W, .int .i64 H, .slice a n c] 35)).alloc (.cells #[.int .i64 0, .int .i64 0, .slice none 0 0] 35) = w1 at *
  obtain ⟨gb, hgb⟩ : ∃ gb, gb = w.heap.size := ⟨_, rfl⟩
  rw [← hgb] at HR5 HR8 ⊢
  obtain ⟨rb, hrb⟩ : ∃ rb, rb = gb + 1 := ⟨_, rfl⟩
  rw [← hrb] at HR8 ⊢
  have HGR : Hid (w.heap.size ≤ gb ∧ w.heap.size ≤ rb ∧ gb ≠ rb) := Lib.hid (by omega)
  clear hgb hrb
  have l5 := row_range HR5.out
  go_wp2_with (refine wpList_load_mid rfl 35 _ rfl gb 0 rfl _ _ l5 Tryd.underlying35 rfl infoPat ?_)
  refine (HK.out _ HB.out).mono ?_
  rintro e2 w2 ⟨rfl, hb2⟩
  have HR5 := Lib.hid (HR5.out.keep hb2 HR5.out.lt)
  have HR8 := Lib.hid (HR8.out.keep hb2 HR8.out.lt)
  have HB := Lib.hid (HB.out.trans (hb2.mono HB.out.size))
  clear hb2 l5 HK
  have l5 := row_range HR5.out
  go_wp2_with (refine wpList_load_mid rfl 35 _ rfl gb 0 rfl _ _ l5 Tryd.underlying35 rfl infoPat ?_)
  refine (HT.out _ HB.out).mono ?_
  rintro e3 w3 ⟨⟨W', H', X, Y, a', n', c', rfl, f', ht, hn', hnc, hcm, hi, hab⟩, hb3⟩
  have hrl := HR8.out.lt
  have HR8 := Lib.hid (HR8.out.keep hb3 HR8.out.lt)
  have hsz := HB.out.size
  have HB := Lib.hid (HB.out.trans (hb3.mono HB.out.size))
  have HI := Lib.hid hi
  clear hb3 l5 hi
  have HNN := Lib.hid hn'
  have hq : Row (w3.alloc (.cells #[.int .i64 W', .int .i64 H', .slice a' n' c'] 35)) w3.heap.size 35 (boxP W' H' a' n' c') := row_alloc w3 _ _
  have hb4 : Below w3.heap.size w3 (w3.alloc (.cells #[.int .i64 W', .int .i64 H', .slice a' n' c'] 35)) := (Below.refl _ _).alloc (Nat.le_refl _) _
  have HR8 := Lib.hid (HR8.out.keep hb4 HR8.out.lt)
  have HB := Lib.hid (HB.out.trans (hb4.mono HB.out.size))
  have HI := Lib.hid (HI.out.keep hb4)
  have HQ := Lib.hid hq
  clear hb4 hq hn'
  go_upto_region 5 with fail
  generalize w3.alloc (.cells #[.int .i64 W', .int .i64 H', .slice a' n' c'] 35) = w4 at *
  have hq := HQ.out
  have l5 := row_range hq
  go_wp2_with (first | (refine wpList_load_mid rfl 35 _ rfl w3.heap.size 0 rfl _ _ l5 Tryd.underlying35 rfl infoPat ?_) | (refine Ops.wpList_store_arr rfl 35 _ _ rfl rb rfl 35 _ _ rfl HR8.out rfl infoPat (boxP_one _ _ _ _ _) ?_; intro w5 hrow5 hon5))
  have hne : ∀ b o, a' = some ⟨b, o, none⟩ → b ≠ rb := fun b o e => by have := hab b o e; omega
  refine bodyPost_ret (results_pat4 (t := 2) (u := 3) (v := 4) (z := 5) (e := .int .i64 (X : Nat)) (f := .int .i64 (Y : Nat)) (g := .nilIface) rfl _ _ hrow5 rfl rfl rfl rfl rfl) rfl ⟨⟨W', H', X, Y, a', n', c', rfl, f', ht, HNN.out, hnc, hcm, is_other HI.out hon5 hne, fun b o e => Nat.le_trans hsz (hab b o e)⟩, HB.out.trans (hon5.below HGR.out.2.1)⟩

end Pn
end Go.Proofs.YtgagophijmiceaaDoor
