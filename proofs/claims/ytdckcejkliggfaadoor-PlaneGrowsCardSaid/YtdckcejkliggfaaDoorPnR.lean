/- WALK: pattern.Trim, plane.trim, plane.same, pattern.Turn where nothing is wrong. -/
import Derived.Test.YtdckcejkliggfaaDoorPnM
import Derived.Test.YtdckcejkliggfaaDoorPnU
namespace Go.Proofs.YtdckcejkliggfaaDoor
set_option linter.unusedSimpArgs false
set_option linter.unusedVariables false
open Go.RowKit
namespace Pn
open Tld Mem Bl

theorem infoGrown : (Tryd.prog.info? 56).map (·.size) = some 5 := by kernel_rfl
def boxN (W H : Int) (a : Option Addr) (n c : Nat) (X Y : Int) : List Value := [.int .i64 W, .int .i64 H, .slice a n c, .int .i64 X, .int .i64 Y]
theorem boxN_one (W H : Int) (a : Option Addr) (n c : Nat) (X Y : Int) : ∀ v ∈ boxN W H a n c X Y, v.oneCell' = true := by simp [boxN, Value.oneCell']
def noGrown : List Value := boxN 0 0 none 0 0 0 0
def grn (W H : Int) (a : Option Addr) (n c : Nat) (X Y : Int) : Value := .agg #[.int .i64 W, .int .i64 H, .slice a n c, .int .i64 X, .int .i64 Y]
theorem results_pat4 {fn : Func} {t u v z : Tmp} (hr : fn.results = #[.cell t 26, .tmp u, .tmp v, .tmp z]) (tmps : Array Value) (w : World) {q : Nat} {V : List Value} {e f g : Value} (h : Row w q 26 V) (hV : V.length = 3) (h8 : tmps.getD t undef = .pointer (some ⟨q, 0, none⟩)) (h9 : tmps.getD u undef = e) (h10 : tmps.getD v undef = f) (h11 : tmps.getD z undef = g) :
    (results fn tmps).run Tryd.prog w = .ok (.tuple #[.agg V.toArray, e, f, g]) w := by
  have hl := run_loadVar_row (P := Tryd.prog) w q 26 26 V.toArray (0, 0) _ h Tryd.underlying26 rfl (by rw [List.size_toArray, hV]; exact infoPat)
  have h8' : tmps[t]?.getD undef = .pointer (some ⟨q, 0, none⟩) := by simpa using h8
  have h9' : tmps[u]?.getD undef = e := by simpa using h9
  have h10' : tmps[v]?.getD undef = f := by simpa using h10
  have h11' : tmps[z]?.getD undef = g := by simpa using h11
  simp [results, hr, h8', h9', h10', h11', asAddr, hl]
theorem results_grown1 {fn : Func} {t : Tmp} (hr : fn.results = #[.cell t 56]) (tmps : Array Value) (w : World) {q : Nat} {V : List Value} (h : Row w q 56 V) (hV : V.length = 5) (h8 : tmps.getD t undef = .pointer (some ⟨q, 0, none⟩)) :
    (results fn tmps).run Tryd.prog w = .ok (.agg V.toArray) w := by
  have hl := run_loadVar_row (P := Tryd.prog) w q 56 56 V.toArray (0, 0) _ h Tryd.underlying56 rfl (by rw [List.size_toArray, hV]; exact infoGrown)
  have h8' : tmps[t]?.getD undef = .pointer (some ⟨q, 0, none⟩) := by simpa using h8
  simp [results, hr, h8', asAddr, hl]

set_option maxHeartbeats 8000000 in
set_option maxRecDepth 1000000 in
theorem Trim_ok (W H : Nat) (a : Option Addr) (n c : Nat) (f : Nat → Nat → Nat) (w : World) (hZ : Ints.Is w a n (flat W H f)) (hn : n = W * H) (hc : n ≤ c) (hW : W ≤ 100) (hH : H ≤ 100) (hf : ∀ x y, f x y < 2) (hp : pfault W H (flat W H f) = 0) :
    Calls Tryd.prog 40 #[pat W H a n c] w fun e w' => (∃ W' H' X Y : Nat, ∃ a' n' c', e = .returned (.tuple #[pat W' H' a' n' c', .int .i64 X, .int .i64 Y, .nilIface]) ∧ ∃ f', Trimmed W H f W' H' f' X Y ∧ n' = W' * H' ∧ n' ≤ c' ∧ c' ≤ maxLen ∧ Ints.Is w' a' n' (flat W' H' f') ∧ (∀ b o, a' = some ⟨b, o, none⟩ → w.heap.size ≤ b)) ∧ Below w.heap.size w w' := by
  have HT := Lib.hid (fun w2 (h : Below w.heap.size w w2) => trim_any W H a n c f w2 (hZ.keep h) hn hc (by omega) (by omega) hf)
  have HK := Lib.hid (fun w2 (h : Below w.heap.size w w2) => pcheck_any W H a n c (flat W H f) w2 (by rw [flat_len, hn]) (by have := Nat.mul_le_mul hW hH; omega) (hZ.keep h).cells)
  rw [hp, errV_zero rfl] at HK
  clear hZ hn hW hH hf hc hp
  unfold pat at HT HK ⊢
  go_enter Tryd.func40, Tryd.ntmps40
  go_upto_region 1 with fail
  obtain ⟨hr5, hr8, hb2⟩ := two_new w 26 26 (boxP W H a n c) noPat
  have HR5 : Hid (Row ((w.alloc (.cells #[.int .i64 W, .int .i64 H, .slice a n c] 26)).alloc (.cells #[.int .i64 0, .int .i64 0, .slice none 0 0] 26)) w.heap.size 26 (boxP W H a n c)) := hr5
  have HR8 : Hid (Row ((w.alloc (.cells #[.int .i64 W, .int .i64 H, .slice a n c] 26)).alloc (.cells #[.int .i64 0, .int .i64 0, .slice none 0 0] 26)) (w.heap.size + 1) 26 noPat) := hr8
  have HB : Hid (Below w.heap.size w ((w.alloc (.cells #[.int .i64 W, .int .i64 H, .slice a n c] 26)).alloc (.cells #[.int .i64 0, .int .i64 0, .slice none 0 0] 26))) := hb2
  clear hr5 hr8 hb2
  generalize (w.alloc (.cells #[.int .i64 W, .int .i64 H, .slice a n c] 26)).alloc (.cells #[.int .i64 0, .int .i64 0, .slice none 0 0] 26) = w1 at *
  obtain ⟨gb, hgb⟩ : ∃ gb, gb = w.heap.size := ⟨_, rfl⟩
  rw [← hgb] at HR5 HR8 ⊢
  obtain ⟨rb, hrb⟩ : ∃ rb, rb = gb + 1 := ⟨_, rfl⟩
  rw [← hrb] at HR8 ⊢
  have HGR : Hid (w.heap.size ≤ gb ∧ w.heap.size ≤ rb ∧ gb ≠ rb) := Lib.hid (by omega)
  clear hgb hrb
  have l5 := row_range HR5.out
  go_wp2_with (refine wpList_load_mid rfl 26 _ rfl gb 0 rfl _ _ l5 Tryd.underlying26 rfl infoPat ?_)
  refine (HK.out _ HB.out).mono ?_
  rintro e2 w2 ⟨rfl, hb2⟩
  have HR5 := Lib.hid (HR5.out.keep hb2 HR5.out.lt)
  have HR8 := Lib.hid (HR8.out.keep hb2 HR8.out.lt)
  have HB := Lib.hid (HB.out.trans (hb2.mono HB.out.size))
  clear hb2 l5 HK
  have l5 := row_range HR5.out
  go_wp2_with (refine wpList_load_mid rfl 26 _ rfl gb 0 rfl _ _ l5 Tryd.underlying26 rfl infoPat ?_)
  refine (HT.out _ HB.out).mono ?_
  rintro e3 w3 ⟨⟨W', H', X, Y, a', n', c', rfl, f', ht, hn', hnc, hcm, hi, hab⟩, hb3⟩
  have hrl := HR8.out.lt
  have HR8 := Lib.hid (HR8.out.keep hb3 HR8.out.lt)
  have hsz := HB.out.size
  have HB := Lib.hid (HB.out.trans (hb3.mono HB.out.size))
  have HI := Lib.hid hi
  clear hb3 l5 hi
  have HNN := Lib.hid hn'
  have hq : Row (w3.alloc (.cells #[.int .i64 W', .int .i64 H', .slice a' n' c'] 26)) w3.heap.size 26 (boxP W' H' a' n' c') := row_alloc w3 _ _
  have hb4 : Below w3.heap.size w3 (w3.alloc (.cells #[.int .i64 W', .int .i64 H', .slice a' n' c'] 26)) := (Below.refl _ _).alloc (Nat.le_refl _) _
  have HR8 := Lib.hid (HR8.out.keep hb4 HR8.out.lt)
  have HB := Lib.hid (HB.out.trans (hb4.mono HB.out.size))
  have HI := Lib.hid (HI.out.keep hb4)
  have HQ := Lib.hid hq
  clear hb4 hq hn'
  go_upto_region 5 with fail
  generalize w3.alloc (.cells #[.int .i64 W', .int .i64 H', .slice a' n' c'] 26) = w4 at *
  have hq := HQ.out
  have l5 := row_range hq
  go_wp2_with (first | (refine wpList_load_mid rfl 26 _ rfl w3.heap.size 0 rfl _ _ l5 Tryd.underlying26 rfl infoPat ?_) | (refine Ops.wpList_store_arr rfl 26 _ _ rfl rb rfl 26 _ _ rfl HR8.out rfl infoPat (boxP_one _ _ _ _ _) ?_; intro w5 hrow5 hon5))
  have hne : ∀ b o, a' = some ⟨b, o, none⟩ → b ≠ rb := fun b o e => by have := hab b o e; omega
  refine bodyPost_ret (results_pat4 (t := 2) (u := 3) (v := 4) (z := 5) (e := .int .i64 (X : Nat)) (f := .int .i64 (Y : Nat)) (g := .nilIface) rfl _ _ hrow5 rfl rfl rfl rfl rfl) rfl ⟨⟨W', H', X, Y, a', n', c', rfl, f', ht, HNN.out, hnc, hcm, is_other HI.out hon5 hne, fun b o e => Nat.le_trans hsz (hab b o e)⟩, HB.out.trans (hon5.below HGR.out.2.1)⟩

set_option maxHeartbeats 8000000 in
set_option maxRecDepth 1000000 in
theorem ptrim_any (W H : Nat) (a : Option Addr) (n c : Nat) (f : Nat → Nat → Nat) (w : World) (hZ : Ints.Is w a n (flat W H f)) (hn : n = W * H) (hc : n ≤ c) (hW : W ≤ 100) (hH : H ≤ 100) (hf : ∀ x y, f x y < 2) (hp : pfault W H (flat W H f) = 0) :
    Calls Tryd.prog 22 #[pat W H a n c] w fun e w' => (∃ W' H' X Y : Nat, ∃ a' n' c', e = .returned (grn W' H' a' n' c' X Y) ∧ ∃ f', Trimmed W H f W' H' f' X Y ∧ n' = W' * H' ∧ n' ≤ c' ∧ c' ≤ maxLen ∧ Ints.Is w' a' n' (flat W' H' f') ∧ (∀ b o, a' = some ⟨b, o, none⟩ → w.heap.size ≤ b)) ∧ Below w.heap.size w w' := by
  have HT := Lib.hid (fun w2 (h : Below w.heap.size w w2) => Trim_ok W H a n c f w2 (hZ.keep h) hn hc hW hH hf hp)
  clear hZ hn hW hH hf hc hp
  unfold pat at HT ⊢
  unfold grn
  go_enter Tryd.func22, Tryd.ntmps22
  go_upto_region 1 with fail
  obtain ⟨hr5, hr8, hb2⟩ := two_new w 26 56 (boxP W H a n c) noGrown
  have HR5 : Hid (Row ((w.alloc (.cells #[.int .i64 W, .int .i64 H, .slice a n c] 26)).alloc (.cells #[.int .i64 0, .int .i64 0, .slice none 0 0, .int .i64 0, .int .i64 0] 56)) w.heap.size 26 (boxP W H a n c)) := hr5
  have HR8 : Hid (Row ((w.alloc (.cells #[.int .i64 W, .int .i64 H, .slice a n c] 26)).alloc (.cells #[.int .i64 0, .int .i64 0, .slice none 0 0, .int .i64 0, .int .i64 0] 56)) (w.heap.size + 1) 56 noGrown) := hr8
  have HB : Hid (Below w.heap.size w ((w.alloc (.cells #[.int .i64 W, .int .i64 H, .slice a n c] 26)).alloc (.cells #[.int .i64 0, .int .i64 0, .slice none 0 0, .int .i64 0, .int .i64 0] 56))) := hb2
  clear hr5 hr8 hb2
  generalize (w.alloc (.cells #[.int .i64 W, .int .i64 H, .slice a n c] 26)).alloc (.cells #[.int .i64 0, .int .i64 0, .slice none 0 0, .int .i64 0, .int .i64 0] 56) = w1 at *
  obtain ⟨gb, hgb⟩ : ∃ gb, gb = w.heap.size := ⟨_, rfl⟩
  rw [← hgb] at HR5 HR8 ⊢
  obtain ⟨rb, hrb⟩ : ∃ rb, rb = gb + 1 := ⟨_, rfl⟩
  rw [← hrb] at HR8 ⊢
  have HGR : Hid (w.heap.size ≤ gb ∧ w.heap.size ≤ rb ∧ gb ≠ rb) := Lib.hid (by omega)
  clear hgb hrb
  have l5 := row_range HR5.out
  go_wp2_with (refine wpList_load_mid rfl 26 _ rfl gb 0 rfl _ _ l5 Tryd.underlying26 rfl infoPat ?_)
  refine (HT.out _ HB.out).mono ?_
  rintro e3 w3 ⟨⟨W', H', X, Y, a', n', c', rfl, f', ht, hn', hnc, hcm, hi, hab⟩, hb3⟩
  have hrl := HR8.out.lt
  have HR8 := Lib.hid (HR8.out.keep hb3 HR8.out.lt)
  have hsz := HB.out.size
  have HB := Lib.hid (HB.out.trans (hb3.mono HB.out.size))
  have HI := Lib.hid hi
  clear hb3 l5 hi
  have HNN := Lib.hid hn'
  have hq : Row (w3.alloc (.cells #[.int .i64 W', .int .i64 H', .slice a' n' c'] 26)) w3.heap.size 26 (boxP W' H' a' n' c') := row_alloc w3 _ _
  have hb4 : Below w3.heap.size w3 (w3.alloc (.cells #[.int .i64 W', .int .i64 H', .slice a' n' c'] 26)) := (Below.refl _ _).alloc (Nat.le_refl _) _
  have HR8 := Lib.hid (HR8.out.keep hb4 HR8.out.lt)
  have HB := Lib.hid (HB.out.trans (hb4.mono HB.out.size))
  have HI := Lib.hid (HI.out.keep hb4)
  have HQ := Lib.hid hq
  clear hb4 hq hn'
  go_upto_region 2 with fail
  generalize w3.alloc (.cells #[.int .i64 W', .int .i64 H', .slice a' n' c'] 26) = w4 at *
  have hq := HQ.out
  have l5 : w4.rangeAt w3.heap.size 0 [.int .i64 W', .int .i64 H', .slice a' n' c'] := row_range hq
  go_wp2_with (first | (refine wpList_load_mid rfl 26 _ rfl w3.heap.size 0 rfl _ _ l5 Tryd.underlying26 rfl infoPat ?_) | (refine Ops.wpList_store_arr rfl 56 _ _ rfl rb rfl 56 _ (boxN W' H' a' n' c' X Y) rfl HR8.out rfl infoGrown (boxN_one _ _ _ _ _ _ _) ?_; intro w5 hrow5 hon5))
  have hne : ∀ b o, a' = some ⟨b, o, none⟩ → b ≠ rb := fun b o e => by have := hab b o e; omega
  refine bodyPost_ret (results_grown1 (t := 2) rfl _ _ hrow5 rfl rfl) rfl ⟨⟨W', H', X, Y, a', n', c', rfl, f', ht, HNN.out, hnc, hcm, is_other HI.out hon5 hne, fun b o e => Nat.le_trans hsz (hab b o e)⟩, HB.out.trans (hon5.below HGR.out.2.1)⟩

def sameB (W H W' H' : Nat) (zs zs' : List Int) : Bool := decide (W = W' ∧ H = H' ∧ zs = zs')
set_option maxRecDepth 100000 in
/-- Two patterns are the same. -/
theorem same_any (W H W' H' : Nat) (a a' : Option Addr) (n c n' c' : Nat) (zs zs' : List Int) (w : World) (hZ : Ints.Is w a n zs) (hZ' : Ints.Is w a' n' zs') (hn : n ≤ 1000000) (hnW : n = W * H) (hnW' : n' = W' * H') :
    Calls Tryd.prog 24 #[pat W H a n c, pat W' H' a' n' c'] w fun e w' => e = .returned (.bool (sameB W H W' H' zs zs')) ∧ Below w.heap.size w w' := by
  have HE : Hid (W = W' → H = H' → ∀ w2, Below w.heap.size w w2 → Calls Tryd.prog 42 #[.slice a n c, .slice a' n' c'] w2 fun e w3 => e = .returned (.bool (decide (zs = zs'))) ∧ Below w2.heap.size w2 w3) := Lib.hid (fun hWW hHH w2 hb => by
    have hnn : n' = n := by rw [hnW, hnW', hWW, hHH]
    have h1 := hZ.keep hb
    have h2 := hZ'.keep hb
    have l1 := h1.len
    have l2 := h2.len
    rcases Nat.eq_zero_or_pos n with h0 | h0
    · subst h0
      refine (Tryd.slices_Equal_int_empty a a' c n' c' w2 (by omega)).mono ?_
      rintro e w3 ⟨rfl, rfl⟩
      refine ⟨?_, Below.refl _ _⟩
      have e0 : zs = [] := List.eq_nil_of_length_eq_zero l1
      congr 2
      rw [e0]
      refine decide_eq_decide.2 ⟨fun h => ?_, fun h => by rw [← h] at l2; simpa using l2.symm⟩
      rw [h] at l2
      exact (List.eq_nil_of_length_eq_zero l2).symm
    · obtain ⟨b1, o1, rfl, _, _⟩ := h1.cells 0 h0
      · obtain ⟨b2, o2, rfl, _, _⟩ := h2.cells 0 (by omega)
        refine (Tryd.slices_Equal_int b1 o1 n c b2 o2 n' c' zs zs' w2 (by omega) (by omega) (by omega) (by omega) (fun j hj => ?_) (fun j hj => ?_)).mono ?_
        · obtain ⟨_, _, e, _, hc⟩ := h1.cells j (by omega)
          cases e; exact hc
        · obtain ⟨_, _, e, _, hc⟩ := h2.cells j (by omega)
          cases e; exact hc
        · rintro e w3 ⟨rfl, q, rfl⟩
          refine ⟨?_, ⟨rfl, rfl, rfl, Nat.le_refl _, fun _ _ => rfl⟩⟩
          rw [List.take_of_length_le (by omega), List.take_of_length_le (by omega)]
          congr 2
          by_cases h : zs = zs'
          · subst h; simp
          · simp [h])
  clear hZ hZ' hn hnW hnW'
  unfold pat
  go_enter Tryd.func24, Tryd.ntmps24
  go_upto_region 1 with fail
  obtain ⟨hr5, hr8, hb2⟩ := two_new w 26 26 (boxP W H a n c) (boxP W' H' a' n' c')
  have HR5 : Row ((w.alloc (.cells #[.int .i64 W, .int .i64 H, .slice a n c] 26)).alloc (.cells #[.int .i64 W', .int .i64 H', .slice a' n' c'] 26)) w.heap.size 26 (boxP W H a n c) := hr5
  have HR8 : Row ((w.alloc (.cells #[.int .i64 W, .int .i64 H, .slice a n c] 26)).alloc (.cells #[.int .i64 W', .int .i64 H', .slice a' n' c'] 26)) (w.heap.size + 1) 26 (boxP W' H' a' n' c') := hr8
  have HB : Below w.heap.size w ((w.alloc (.cells #[.int .i64 W, .int .i64 H, .slice a n c] 26)).alloc (.cells #[.int .i64 W', .int .i64 H', .slice a' n' c'] 26)) := hb2
  clear hr5 hr8 hb2
  generalize (w.alloc (.cells #[.int .i64 W, .int .i64 H, .slice a n c] 26)).alloc (.cells #[.int .i64 W', .int .i64 H', .slice a' n' c'] 26) = w1 at *
  have f0 := HR5.cell 0
  have f1 := HR5.cell 1
  have f2 := HR5.cell 2
  have g0 := HR8.cell 0
  have g1 := HR8.cell 1
  have g2 := HR8.cell 2
  unfold boxP at f0 f1 f2 g0 g2 g1
  dsimp only [List.getElem?_cons_succ, List.getElem?_cons_zero] at f0 f1 f2 g0 g1 g2
  have HB := Lib.hid HB
  clear HR5 HR8
  by_cases hW : W = W'
  · by_cases hH : H = H'
    · have HE2 := Lib.hid (HE.out hW hH)
      obtain ⟨q, hq⟩ : ∃ q, q = decide (zs = zs') := ⟨_, rfl⟩
      have HQ : Hid (sameB W H W' H' zs zs' = q) := Lib.hid (by rw [hq, hW, hH]; unfold sameB; simp)
      rw [← hq] at HE2
      subst hW hH
      clear hq HE
      go_wp2_with fail
      refine (HE2.out _ HB.out).mono ?_
      rintro e2 w2 ⟨rfl, hb2⟩
      have HB := Lib.hid (HB.out.trans (hb2.mono HB.out.size))
      clear hb2
      go_wp2_with fail
      go_ret
      exact ⟨by rw [HQ.out]; rfl, HB.out⟩
    · have hHI : ¬ (H : Int) = (H' : Int) := by omega
      have hHB : ((H : Int) == (H' : Int)) = false := beq_eq_false_iff_ne.2 hHI
      have HQ : Hid (sameB W H W' H' zs zs' = false) := Lib.hid (decide_eq_false fun h => hH h.2.1)
      subst hW
      clear hH HE
      go_wp2_with fail
      go_ret
      exact ⟨by rw [HQ.out]; rfl, HB.out⟩
  · have hWI : ¬ (W : Int) = (W' : Int) := by omega
    have hWB : ((W : Int) == (W' : Int)) = false := beq_eq_false_iff_ne.2 hWI
    have HQ : Hid (sameB W H W' H' zs zs' = false) := Lib.hid (decide_eq_false fun h => hW h.1)
    clear hW HE
    go_wp2_with fail
    go_ret
    exact ⟨by rw [HQ.out]; rfl, HB.out⟩
end Pn
end Go.Proofs.YtdckcejkliggfaaDoor
