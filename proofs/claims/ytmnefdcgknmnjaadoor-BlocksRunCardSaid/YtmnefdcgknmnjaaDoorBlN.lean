/- WALK: edenref4.Run. -/
import Derived.Test.YtmnefdcgknmnjaaDoorBlRF
import Derived.Test.YtmnefdcgknmnjaaDoorBlK
namespace Go.Proofs.YtmnefdcgknmnjaaDoor
set_option linter.unusedSimpArgs false
set_option linter.unusedVariables false
open Go.RowKit Go.Lib
namespace Bl
open Tld Mem

/-- n numbers, of which the first k have been put. -/
def midI (f : Nat → Nat) (n k : Nat) : List Int := (List.range n).map fun j => if j < k then ((f j : Nat) : Int) else 0
theorem midI_len (f : Nat → Nat) (n k : Nat) : (midI f n k).length = n := by simp [midI]
theorem midI_zero (f : Nat → Nat) (n : Nat) : midI f n 0 = List.replicate n 0 := by
  apply List.ext_getElem (by simp [midI])
  intro i h1 h2
  simp [midI]
theorem midI_get (f : Nat → Nat) {n k j : Nat} (h : j < n) : (midI f n k)[j]? = some (if j < k then ((f j : Nat) : Int) else 0) := by
  unfold midI
  rw [List.getElem?_map, List.getElem?_range h]; rfl
theorem midI_next (f : Nat → Nat) {n k : Nat} (h : k < n) : (midI f n k).set k ((f k : Nat) : Int) = midI f n (k + 1) := by
  apply List.ext_getElem? 
  intro j
  by_cases hj : j < n
  · rw [midI_get f hj]
    by_cases hk : k = j
    · subst hk
      rw [List.getElem?_set_self (by rw [midI_len]; exact h), if_pos (by omega)]
    · rw [List.getElem?_set_ne hk, midI_get f hj]
      by_cases h1 : j < k
      · rw [if_pos h1, if_pos (by omega)]
      · rw [if_neg h1, if_neg (by omega)]
  · rw [List.getElem?_eq_none (by rw [List.length_set, midI_len]; omega), List.getElem?_eq_none (by rw [midI_len]; omega)]
theorem midI_flat (W H : Nat) (c : Nat → Nat → Nat) : midI (fun j => c (j % W) (j / W)) (W * H) (W * H) = flat W H c := by
  unfold midI flat
  refine List.map_congr_left fun k hk => ?_
  rw [if_pos (List.mem_range.1 hk)]
theorem midI_all (f : Nat → Nat) {n k : Nat} (h : n ≤ k) : midI f n k = midI f n n := by
  unfold midI
  refine List.map_congr_left fun j hj => ?_
  have := List.mem_range.1 hj
  rw [if_pos (by omega), if_pos this]
theorem row_isN {w : World} {b n : Nat} {zs : List Int} (h : Row w b 3 (zs.map (Value.int .i64))) (hz : zs.length = n) (hn : n ≤ maxLen) : Ints.Is w (some ⟨b, 0, none⟩) n zs := by
  refine ⟨hz, fun i hi => ⟨b, 0, rfl, h.lt, ?_⟩, hn⟩
  dsimp only
  rw [Nat.zero_add, h.cell, List.getElem?_map, List.getElem?_eq_getElem (by omega), List.getD_eq_getElem?_getD, List.getElem?_eq_getElem (by omega)]
  rfl
theorem set_mapI (zs : List Int) (k : Nat) (z : Int) : (zs.map (Value.int .i64)).set k (.int .i64 z) = (zs.set k z).map (Value.int .i64) := by rw [List.map_set]
theorem is_only {w w' : World} {a : Option Addr} {n q : Nat} {zs : List Int} (h : Ints.Is w a n zs) (ho : Only q w w') (hne : 0 < n → ∀ x, a = some x → x.block ≠ q) : Ints.Is w' a n zs := ⟨h.len, fun i hi => by
  obtain ⟨b, off, e, hlt, hc⟩ := h.cells i hi
  have := hne (by omega) _ e
  exact ⟨b, off, e, by rw [ho.size]; exact hlt, by rw [World.cell?_of_block (ho.block b this)]; exact hc⟩, h.le⟩
theorem run_nextC (t : Nat → Nat) (W H ph : Nat) (c : Nat → Nat → Nat) (s : Nat) : run t W H ph c (s + 1) = cellN t W H ((ph + s) % 2) (run t W H ph c s) := rfl

theorem three_newN (w : World) (T : TypeId) (c1 c2 c3 : List Value) : Row (((w.alloc (.cells c1.toArray T)).alloc (.cells c2.toArray T)).alloc (.cells c3.toArray T)) w.heap.size T c1 ∧ Row (((w.alloc (.cells c1.toArray T)).alloc (.cells c2.toArray T)).alloc (.cells c3.toArray T)) (w.heap.size + 1) T c2 ∧ Row (((w.alloc (.cells c1.toArray T)).alloc (.cells c2.toArray T)).alloc (.cells c3.toArray T)) (w.heap.size + 1 + 1) T c3 ∧ Below w.heap.size w (((w.alloc (.cells c1.toArray T)).alloc (.cells c2.toArray T)).alloc (.cells c3.toArray T)) := by
  obtain ⟨h1, h2, h3⟩ := two_new w T T c1 c2
  have hb : Below ((w.alloc (.cells c1.toArray T)).alloc (.cells c2.toArray T)).heap.size ((w.alloc (.cells c1.toArray T)).alloc (.cells c2.toArray T)) (((w.alloc (.cells c1.toArray T)).alloc (.cells c2.toArray T)).alloc (.cells c3.toArray T)) := (Below.refl _ _).alloc (Nat.le_refl _) _
  refine ⟨h1.keep hb h1.lt, h2.keep hb h2.lt, ?_, h3.trans (hb.mono h3.size)⟩
  have := row_alloc ((w.alloc (.cells c1.toArray T)).alloc (.cells c2.toArray T)) T c3
  rwa [World.size_alloc, World.size_alloc] at this
theorem org_tmod {W r x e : Nat} (hx : x < W) (hr : r ≤ 1) (he : e ≤ 1) : ((x : Int) - ((dxy r x : Nat) : Int) + (e : Int) + (W : Int)).tmod (W : Int) = ((nxt W (ogn W r x) e : Nat) : Int) := by
  have key : ∀ k z : Nat, z < W → ((x : Int) - ((dxy r x : Nat) : Int) + (e : Int) + (W : Int) = ((z + e : Nat) : Int) + (k : Int) * (W : Int)) → ((x : Int) - ((dxy r x : Nat) : Int) + (e : Int) + (W : Int)).tmod (W : Int) = ((nxt W z e : Nat) : Int) := by
    intro k z hz h
    rw [h, ← nxt_mod hz he, show ((z + e : Nat) : Int) + (k : Int) * (W : Int) = ((z + e + k * W : Nat) : Int) from by push_cast; rfl]
    rw [show (((z + e + k * W : Nat) : Int)).tmod (W : Int) = (((z + e + k * W) % W : Nat) : Int) from Int.ofNat_tmod _ _, Nat.add_mul_mod_self_right]
  unfold ogn
  by_cases h0 : (x + r) % 2 = 0
  · rw [if_pos h0]
    refine key 1 x hx ?_
    unfold dxy; rw [h0]; push_cast; omega
  · rw [if_neg h0]
    have h1 : (x + r) % 2 = 1 := by omega
    by_cases hx0 : x = 0
    · rw [if_pos hx0]
      refine key 0 (W - 1) (by omega) ?_
      unfold dxy; rw [h1]; omega
    · rw [if_neg hx0]
      refine key 1 (x - 1) (by omega) ?_
      unfold dxy; rw [h1]; omega
theorem dxy_tmod {ph s x : Nat} : ((x : Int) + (ph : Int) + (s : Int)).tmod 2 = ((dxy ((ph + s) % 2) x : Nat) : Int) := by
  rw [show (x : Int) + (ph : Int) + (s : Int) = ((x + ph + s : Nat) : Int) from by push_cast; rfl]
  rw [show (((x + ph + s : Nat) : Int)).tmod 2 = (((x + ph + s) % 2 : Nat) : Int) from Int.ofNat_tmod _ _]
  unfold dxy
  rw [show (x + ph + s) % 2 = (x + (ph + s) % 2) % 2 from by omega]
theorem ogn_lt {W r x : Nat} (hW : W % 2 = 0) (hx : x < W) (hr : r ≤ 1) : ogn W r x < W := (nxt_ogn hW hx hr).2.1
/-- What a step's row's cells are. -/
def stepF (t : Nat → Nat) (W H ph : Nat) (c : Nat → Nat → Nat) (j : Nat) : Nat := cellN t W H ph c (j % W) (j / W)
set_option maxHeartbeats 8000000 in
set_option maxRecDepth 1000000 in
theorem rrun_any (ta : Option Addr) (tc : Nat) (tz : List Int) (W H : Nat) (a : Option Addr) (n c : Nat) (cf : Nat → Nat → Nat) (ph m : Nat) (w : World) (hT : Cells w ta 16 (fun i => .int .i64 (tz.getD i 0))) (htb : ∀ z ∈ tz, 0 ≤ z ∧ z ≤ 15) (hP : Ints.Is w a n (flat W H cf)) (hn : n = W * H)
    (hW : W ≤ 100) (hH : H ≤ 100) (hW2 : W % 2 = 0) (hH2 : H % 2 = 0) (hc : ∀ x y, cf x y < 2) (hph : ph ≤ 1) (hm : m ≤ 100000) :
    Calls Tryd.prog 9 #[.slice ta 16 tc, .agg #[.int .i64 W, .int .i64 H, .slice a n c], .int .i64 ph, .int .i64 m] w fun e w' =>
      (∃ a' c', e = .returned (.agg #[.int .i64 W, .int .i64 H, .slice a' n c']) ∧ Ints.Is w' a' n (flat W H (run (tN tz) W H ph cf m)) ∧ (a' = a ∨ ∀ x, a' = some x → w.heap.size ≤ x.block)) ∧ Below w.heap.size w w' := by
  obtain ⟨i0, hI0, hz0, hz1, hz2⟩ := info_parts infoIntB
  have HI0 := Lib.hid hI0
  have HZ0 := Lib.hid hz0
  have HZ1 := Lib.hid hz1
  have HZ2 := Lib.hid hz2
  have hn1 : n ≤ 10000 := by
    have : W * H ≤ 100 * 100 := Nat.mul_le_mul hW hH
    omega
  have HT := Lib.hid hT
  have HTB := Lib.hid htb
  have HP := Lib.hid hP
  have HN := Lib.hid hn
  have HW2 := Lib.hid hW2
  have HH2 := Lib.hid hH2
  have HC := Lib.hid (fun s => run_lt (t := tN tz) (W := W) (H := H) (ph := ph) hc s)
  clear hI0 hz0 hz1 hz2 hT htb hP hn hW2 hH2 hc
  go_enter Tryd.func9, Tryd.ntmps9
  go_wp2_with fail
  obtain ⟨h5, h8, h9, hB⟩ := three_newN w 24 (boxP W H a n c) noPat (boxP W H a n c)
  have H5 : Hid (Row (((w.alloc (.cells #[.int .i64 W, .int .i64 H, .slice a n c] 24)).alloc (.cells #[.int .i64 0, .int .i64 0, .slice none 0 0] 24)).alloc (.cells #[.int .i64 W, .int .i64 H, .slice a n c] 24)) w.heap.size 24 (boxP W H a n c)) := h5
  have H8 : Hid (Row (((w.alloc (.cells #[.int .i64 W, .int .i64 H, .slice a n c] 24)).alloc (.cells #[.int .i64 0, .int .i64 0, .slice none 0 0] 24)).alloc (.cells #[.int .i64 W, .int .i64 H, .slice a n c] 24)) (w.heap.size + 1) 24 noPat) := h8
  have H9 : Hid (Row (((w.alloc (.cells #[.int .i64 W, .int .i64 H, .slice a n c] 24)).alloc (.cells #[.int .i64 0, .int .i64 0, .slice none 0 0] 24)).alloc (.cells #[.int .i64 W, .int .i64 H, .slice a n c] 24)) (w.heap.size + 1 + 1) 24 (boxP W H a n c)) := h9
  have HB : Hid (Below w.heap.size w (((w.alloc (.cells #[.int .i64 W, .int .i64 H, .slice a n c] 24)).alloc (.cells #[.int .i64 0, .int .i64 0, .slice none 0 0] 24)).alloc (.cells #[.int .i64 W, .int .i64 H, .slice a n c] 24))) := hB
  clear h5 h8 h9 hB
  generalize ((w.alloc (.cells #[.int .i64 W, .int .i64 H, .slice a n c] 24)).alloc (.cells #[.int .i64 0, .int .i64 0, .slice none 0 0] 24)).alloc (.cells #[.int .i64 W, .int .i64 H, .slice a n c] 24) = w1 at *
  obtain ⟨b5, hb5⟩ : ∃ b5, b5 = w.heap.size := ⟨_, rfl⟩
  rw [← hb5] at H5 H8 H9 ⊢
  have HB5 := Lib.hid hb5
  have HNE : Hid (0 < n → ∀ x, a = some x → x.block ≠ b5 + 1) := fun h0 x e => by
    obtain ⟨b', off', e', hlt', _⟩ := HP.out.cells 0 h0
    rw [e] at e'
    cases e'
    dsimp only
    omega
  clear hb5
  go_loopw [10] (fun v wr => ∃ s : Nat, s ≤ m ∧ v = .int .i64 s ∧ Row wr b5 24 (boxP W H a n c) ∧ Row wr (b5 + 1) 24 noPat ∧ (∃ sa sc, Row wr (b5 + 1 + 1) 24 (boxP W H sa n sc) ∧ Ints.Is wr sa n (flat W H (run (tN tz) W H ph cf s)) ∧ (0 < n → ∀ x, sa = some x → x.block ≠ b5 + 1) ∧ (sa = a ∨ ∀ x, sa = some x → b5 ≤ x.block)) ∧ Below w.heap.size w wr) (fun v _ => m - (intOf v).toNat)
  case atStart => exact ⟨0, Nat.zero_le _, rfl, H5.out, H8.out, ⟨a, c, H9.out, HP.out.keep HB.out, HNE.out, .inl rfl⟩, HB.out⟩
  case round =>
    clear H5 H8 H9 HB HNE
    obtain ⟨s, hs, rfl, h5, h8, ⟨sa, sc, h9, hI, hNE, hSA⟩, hbel⟩ := hrel
    have H5 := Lib.hid h5
    have H8 := Lib.hid h8
    have H9 := Lib.hid h9
    have HI := Lib.hid hI
    have HNE := Lib.hid hNE
    have HSA := Lib.hid hSA
    have HB := Lib.hid hbel
    clear h5 h8 h9 hI hNE hSA hbel
    by_cases hlt : s < m
    · -- a step
      have f0 := H5.out.cell 0
      have f1 := H5.out.cell 1
      have f2 := H5.out.cell 2
      unfold boxP at f0 f1 f2
      dsimp only [List.getElem?_cons_succ, List.getElem?_cons_zero] at f0 f1 f2
      go_upto_region 6 with fail
      obtain ⟨hr11, hb11⟩ : Row (wr.alloc (.cells #[.int .i64 W, .int .i64 H, .slice none 0 0] 24)) wr.heap.size 24 (boxP W H none 0 0) ∧ Below wr.heap.size wr (wr.alloc (.cells #[.int .i64 W, .int .i64 H, .slice none 0 0] 24)) := ⟨row_alloc wr _ _, (Below.refl _ _).alloc (Nat.le_refl _) _⟩
      have H11 := Lib.hid hr11
      have HE := Lib.hid hb11
      have f2 := (H5.out.keep hb11 H5.out.lt).cell 2
      unfold boxP at f2
      dsimp only [List.getElem?_cons_succ, List.getElem?_cons_zero] at f2
      clear f0 f1 hr11 hb11
      generalize wr.alloc (.cells #[.int .i64 W, .int .i64 H, .slice none 0 0] 24) = w2 at *
      obtain ⟨b11, hb11⟩ : ∃ b11, b11 = wr.heap.size := ⟨_, rfl⟩
      rw [← hb11] at H11 HE ⊢
      have HB11 := Lib.hid hb11
      clear hb11
      go_wp2_with (refine Ops.wpList_make rfl 22 _ _ rfl 3 i0 (.int .i64 0) Tryd.underlying22 HI0.out HZ0.out rfl HZ1.out (by rw [HZ2.out]; decide) n rfl rfl (by omega) ?_; intro g w3 hg hb3 hRg; have z2 := (H11.out.keep hb3 H11.out.lt).frozen 2; have f3 : w3.cell? ⟨b11, 2, none⟩ = some (.slice none 0 0) := (H11.out.keep hb3 H11.out.lt).cell 2)
      have h11 := H11.out.keep hb3 H11.out.lt
      have hne : b11 ≠ g := by have := H11.out.lt; omega
      have hBg : b11 ≤ g := by have := H11.out.lt; omega
      have hE3 := HE.out.trans (hb3.mono (by have h1 := HE.out.size; have h2 := HB11.out; omega))
      have hon := only_setCell w3 b11 2 (.slice (some ⟨g, 0, none⟩) n n)
      have H11b : Hid (Row (w3.setCell ⟨b11, 2, none⟩ (.slice (some ⟨g, 0, none⟩) n n)) b11 24 (boxP W H (some ⟨g, 0, none⟩) n n)) := h11.set 2 (.slice (some ⟨g, 0, none⟩) n n)
      have HRG := hRg.other hon hne.symm
      have HEb := Lib.hid (hE3.trans (hon.below (Nat.le_refl _)))
      clear h11 hE3 hRg hb3 H11 HE hon
      generalize w3.setCell ⟨b11, 2, none⟩ (.slice (some ⟨g, 0, none⟩) n n) = w4 at *
      clear f2 z2 f3
      obtain ⟨r, hr⟩ : ∃ r, r = (ph + s) % 2 := ⟨_, rfl⟩
      have HNX : Hid (flat W H (run (tN tz) W H ph cf (s + 1)) = midI (stepF (tN tz) W H r (run (tN tz) W H ph cf s)) n n) := by
        show flat W H (run (tN tz) W H ph cf (s + 1)) = _
        rw [run_nextC, ← hr, HN.out, ← midI_flat]; rfl
      have HCS := Lib.hid (HC.out s)
      generalize run (tN tz) W H ph cf s = c0 at *
      have HM0 : Hid (Row w4 g 3 ((midI (stepF (tN tz) W H r c0) n 0).map (Value.int .i64))) := by
        show Row w4 g 3 _
        rw [midI_zero, List.map_replicate]
        exact HRG
      clear HRG
      have hr1 : r ≤ 1 := by omega
      have HR := Lib.hid hr
      clear hr
      obtain ⟨wo, rfl⟩ : ∃ wo : World, wo = wr := ⟨_, rfl⟩
      go_loopw [12] (fun v wr => ∃ y : Nat, y ≤ H ∧ v = .int .i64 y ∧ Row wr b11 24 (boxP W H (some ⟨g, 0, none⟩) n n) ∧ Row wr g 3 ((midI (stepF (tN tz) W H r c0) n (y * W)).map (Value.int .i64)) ∧ Below b11 wo wr) (fun v _ => H - (intOf v).toNat)
      case atStart => exact ⟨0, Nat.zero_le _, rfl, H11b.out, by rw [Nat.zero_mul]; exact HM0.out, HEb.out⟩
      case round =>
        clear H11b HM0 HEb
        obtain ⟨y, hy, rfl, h11, hM, hE⟩ := hrel
        have H11 := Lib.hid h11
        have HM := Lib.hid hM
        have HE := Lib.hid hE
        clear h11 hM hE
        have hE5 : Below wo.heap.size wo wr := by rw [← HB11.out]; exact HE.out
        have h5k := H5.out.keep hE5 H5.out.lt
        have f0 := h5k.cell 0
        have f1 := h5k.cell 1
        unfold boxP at f0 f1
        dsimp only [List.getElem?_cons_succ, List.getElem?_cons_zero] at f0 f1
        clear h5k hE5
        by_cases hyl : y < H
        · go_wp2_with fail
          clear f0 f1
          obtain ⟨wy, rfl⟩ : ∃ wy : World, wy = wr := ⟨_, rfl⟩
          go_loopw [13] (fun v wr => ∃ x : Nat, x ≤ W ∧ v = .int .i64 x ∧ Row wr b11 24 (boxP W H (some ⟨g, 0, none⟩) n n) ∧ Row wr g 3 ((midI (stepF (tN tz) W H r c0) n (y * W + x)).map (Value.int .i64)) ∧ Below b11 wo wr) (fun v _ => W - (intOf v).toNat)
          case atStart => exact ⟨0, Nat.zero_le _, rfl, H11.out, HM.out, HE.out⟩
          case round =>
            clear H11 HM HE
            obtain ⟨x, hx, rfl, h11, hM, hE⟩ := hrel
            have H11 := Lib.hid h11
            have HM := Lib.hid hM
            have HE := Lib.hid hE
            clear h11 hM hE
            have hE5 : Below wo.heap.size wo wr := by rw [← HB11.out]; exact HE.out
            have h5k := H5.out.keep hE5 H5.out.lt
            have f0 := h5k.cell 0
            have f1 := h5k.cell 1
            unfold boxP at f0 f1
            dsimp only [List.getElem?_cons_succ, List.getElem?_cons_zero] at f0 f1
            clear h5k
            by_cases hxl : x < W
            · have hk : y * W + x < n := by rw [HN.out]; exact at_lt hxl hyl
              have hox := ogn_lt HW2.out hxl hr1
              have hoy := ogn_lt HH2.out hyl hr1
              have hdx : ((x : Int) + (ph : Int) + (s : Int)).tmod 2 = ((dxy r x : Nat) : Int) := by rw [HR.out]; exact dxy_tmod
              have hdy : ((y : Int) + (ph : Int) + (s : Int)).tmod 2 = ((dxy r y : Nat) : Int) := by rw [HR.out]; exact dxy_tmod
              have HAX := Lib.hid (fun e (he : e ≤ 1) => org_tmod (e := e) hxl hr1 he)
              have HAY := Lib.hid (fun e (he : e ≤ 1) => org_tmod (e := e) hyl hr1 he)
              have hdx1 : dxy r x ≤ 1 := by unfold dxy; omega
              have hdy1 : dxy r y ≤ 1 := by unfold dxy; omega
              have HCE : Hid (stepF (tN tz) W H r c0 (y * W + x) = bitN (tN tz (blk c0 W H (ogn W r x) (ogn H r y))) (dxy r y * 2 + dxy r x)) := by
                show stepF (tN tz) W H r c0 (y * W + x) = _
                unfold stepF
                rw [at_mod hxl, at_div hxl]; rfl
              generalize hox' : ogn W r x = ox at *
              generalize hoy' : ogn H r y = oy at *
              generalize hdx' : dxy r x = dx at *
              generalize hdy' : dxy r y = dy at *
              clear hox' hoy' hdx' hdy'
              have HKX := Lib.hid hk
              clear hk
              go_wp2_with fail
              clear f0 f1 hdx hdy
              obtain ⟨wx, rfl⟩ : ∃ wx : World, wx = wr := ⟨_, rfl⟩
              go_loop [16, 17, 18] (fun u v k' => ∃ k : Nat, k ≤ 4 ∧ k' = .int .i64 k ∧ u = .int .i64 (part c0 W H ox oy k : Nat) ∧ v = .int .i64 ((2 ^ k : Nat) : Int)) (fun _ _ k' => 4 - (intOf k').toNat)
              case atStart => exact ⟨0, Nat.zero_le _, rfl, rfl, rfl⟩
              case round =>
                obtain ⟨k, hk4, rfl, rfl, rfl⟩ := hrel
                by_cases hkl : k < 4
                · obtain ⟨e, he⟩ : ∃ e, e = k % 2 := ⟨_, rfl⟩
                  obtain ⟨f, hf⟩ : ∃ f, f = k / 2 := ⟨_, rfl⟩
                  have he1 : e ≤ 1 := by omega
                  have hf1 : f ≤ 1 := by omega
                  have htm : (k : Int).tmod 2 = (e : Int) := by rw [he]; exact Int.ofNat_tmod _ _
                  have htd : (k : Int).tdiv 2 = (f : Int) := by rw [hf]; exact Int.ofNat_tdiv _ _
                  have hax := HAX.out e he1
                  have hay := HAY.out f hf1
                  have hxx := nxt_lt hox he1
                  have hyy := nxt_lt hoy hf1
                  have hPT : part c0 W H ox oy (k + 1) = part c0 W H ox oy k + c0 (nxt W ox e) (nxt H oy f) * 2 ^ k := by rw [hf, he]; rfl
                  have hpl := part_lt (W := W) (H := H) (x0 := ox) (y0 := oy) HCS.out k
                  have h2k : (2 : Nat) ^ k ≤ 2 ^ 3 := Nat.pow_le_pow_right (by omega) (by omega)
                  have hcv := HCS.out (nxt W ox e) (nxt H oy f)
                  have hkk : nxt H oy f * W + nxt W ox e < n := by rw [HN.out]; exact at_lt hxx hyy
                  obtain ⟨bs, off, rfl, _, hcl⟩ := (HI.out.keep hE5).cells _ hkk
                  dsimp only at hcl
                  rw [flat_at hxx hyy] at hcl
                  have h9k := H9.out.keep hE5 H9.out.lt
                  have g2 := h9k.cell 2
                  have h5k := H5.out.keep hE5 H5.out.lt
                  have f0 := h5k.cell 0
                  have f1 := h5k.cell 1
                  unfold boxP at f0 f1 g2
                  dsimp only [List.getElem?_cons_succ, List.getElem?_cons_zero] at f0 f1 g2
                  clear h5k h9k he hf
                  generalize c0 (nxt W ox e) (nxt H oy f) = cv at *
                  generalize nxt W ox e = xx at *
                  generalize nxt H oy f = yy at *
                  obtain ⟨mr, hmr⟩ : ∃ mr, mr = yy * W := ⟨_, rfl⟩
                  have hmrn : mr ≤ n := by omega
                  have hw1 : IntKind.i64.wrap ((yy : Int) * (W : Int)) = (mr : Int) := by
                    rw [show ((yy : Int) * (W : Int)) = ((yy * W : Nat) : Int) from by push_cast; rfl, ← hmr, IntKind.wrap_i64]; omega
                  rw [← hmr] at hkk hcl
                  clear hmr
                  have hP2 : (2 : Nat) ^ (k + 1) = 2 ^ k * 2 := Nat.pow_succ 2 k
                  generalize hm2 : (2 : Nat) ^ (k + 1) = mm2 at *
                  have HM2 := Lib.hid hm2
                  clear hm2
                  generalize (2 : Nat) ^ k = mm at *
                  obtain ⟨pr, hpr⟩ : ∃ pr, pr = mm * cv := ⟨_, rfl⟩
                  have hpr8 : pr ≤ 8 := by
                    have : mm * cv ≤ 8 * 1 := Nat.mul_le_mul h2k (by omega)
                    omega
                  have hw2 : IntKind.i64.wrap ((mm : Int) * (cv : Int)) = (pr : Int) := by
                    rw [show ((mm : Int) * (cv : Int)) = ((mm * cv : Nat) : Int) from by push_cast; rfl, ← hpr, IntKind.wrap_i64]; omega
                  have HPT : Hid (part c0 W H ox oy (k + 1) = part c0 W H ox oy k + pr) := by
                    show part c0 W H ox oy (k + 1) = _
                    rw [hPT, hpr, Nat.mul_comm cv mm]
                  have HP2 := Lib.hid hP2
                  clear hPT hP2 hpr
                  generalize hbn : part c0 W H ox oy (k + 1) = bn at *
                  have HBN := Lib.hid hbn
                  clear hbn
                  generalize part c0 W H ox oy k = bk at *
                  go_wp2_with fail
                  exact ⟨⟨k + 1, by omega, by go_num, by rw [HBN.out, HPT.out]; push_cast; rfl, by rw [HM2.out, HP2.out]; push_cast; rfl⟩, by simp [intOf]; omega⟩
                · have e4 : k = 4 := by omega
                  subst e4
                  have hb4 : part c0 W H ox oy 4 = blk c0 W H ox oy := part_four hox hoy
                  have hb16 : blk c0 W H ox oy < 16 := by
                    have h1 := HCS.out ox oy
                    have h2 := HCS.out (nxt W ox 1) oy
                    have h3 := HCS.out ox (nxt H oy 1)
                    have h4 := HCS.out (nxt W ox 1) (nxt H oy 1)
                    unfold blk
                    omega
                  rw [hb4]
                  have hEW : Below w.heap.size w wx := HB.out.trans (hE5.mono HB.out.size)
                  obtain ⟨bt, ot, rfl, _, htc⟩ := (HT.out.keep hEW) (blk c0 W H ox oy) hb16
                  dsimp only at htc
                  have htv := tN_lt HTB.out (blk c0 W H ox oy)
                  rw [tN_at HTB.out] at htc
                  clear hb4 hEW
                  generalize tN tz (blk c0 W H ox oy) = tv at *
                  generalize blk c0 W H ox oy = bv at *
                  go_wp2_with fail
                  go_loop [21, 22] (fun u v => ∃ j : Nat, j ≤ dy * 2 + dx ∧ v = .int .i64 j ∧ u = .int .i64 ((tv / 2 ^ j : Nat) : Int)) (fun _ v => dy * 2 + dx - (intOf v).toNat)
                  case atStart => exact ⟨0, Nat.zero_le _, rfl, by rw [Nat.pow_zero, Nat.div_one]⟩
                  case round =>
                    clear htc
                    obtain ⟨j, hj, rfl, rfl⟩ := hrel
                    by_cases hjl : j < dy * 2 + dx
                    · have hq : tv / 2 ^ (j + 1) = tv / 2 ^ j / 2 := by rw [Nat.pow_succ, Nat.div_div_eq_div_mul]
                      have hqt : ((tv / 2 ^ j : Nat) : Int).tdiv 2 = ((tv / 2 ^ j / 2 : Nat) : Int) := Int.ofNat_tdiv _ _
                      have HQ := Lib.hid hq
                      have hq16 : tv / 2 ^ j ≤ tv := Nat.div_le_self _ _
                      clear hq
                      generalize tv / 2 ^ j = q at *
                      go_wp2_with fail
                      exact ⟨⟨j + 1, by omega, by go_num, by rw [HQ.out]; push_cast; rfl⟩, by simp [intOf]; omega⟩
                    · have ej : j = dy * 2 + dx := by omega
                      subst ej
                      have hqm : ((tv / 2 ^ (dy * 2 + dx) : Nat) : Int).tmod 2 = ((bitN tv (dy * 2 + dx) : Nat) : Int) := Int.ofNat_tmod _ _
                      have hq16 : tv / 2 ^ (dy * 2 + dx) ≤ tv := Nat.div_le_self _ _
                      generalize tv / 2 ^ (dy * 2 + dx) = q at *
                      generalize hbt : bitN tv (dy * 2 + dx) = bt' at *
                      clear hbt
                      have hk := HKX.out
                      have hgc := (HM.out.cell (y * W + x)).trans (show _ = some (Value.int .i64 0) by rw [List.getElem?_map, midI_get _ hk, if_neg (by omega)]; rfl)
                      have hgf := HM.out.frozen (y * W + x)
                      have HSET := Lib.hid (HM.out.set (y * W + x) (.int .i64 ((bt' : Nat) : Int)))
                      rw [set_mapI, ← HCE.out, midI_next _ hk, HCE.out] at HSET
                      have HO := Lib.hid (only_setCell wx g (y * W + x) (.int .i64 ((bt' : Nat) : Int)))
                      obtain ⟨mr, hmr⟩ : ∃ mr, mr = y * W := ⟨_, rfl⟩
                      have hw1 : IntKind.i64.wrap ((y : Int) * (W : Int)) = (mr : Int) := by
                        rw [show ((y : Int) * (W : Int)) = ((y * W : Nat) : Int) from by push_cast; rfl, ← hmr, IntKind.wrap_i64]; omega
                      have h5k := H5.out.keep hE5 H5.out.lt
                      have f0 := h5k.cell 0
                      have g2 := H11.out.cell 2
                      unfold boxP at f0 g2
                      dsimp only [List.getElem?_cons_succ, List.getElem?_cons_zero] at f0 g2
                      have hmx : (mr : Int) + (x : Int) = ((y * W + x : Nat) : Int) := by rw [hmr]; push_cast; rfl
                      have hKN : y * W + x + 1 = y * W + (x + 1) := by omega
                      rw [hKN] at HSET
                      clear h5k hmr hKN
                      have HE2 := Lib.hid (HE.out.trans (HO.out.below hBg))
                      have H11b := Lib.hid (H11.out.other HO.out hne)
                      clear HO H11 HM HE HCE
                      generalize y * W + x = k at *
                      go_wp2_with fail
                      exact ⟨⟨x + 1, by omega, by go_num, H11b.out, HSET.out, HE2.out⟩, by simp [intOf]; omega⟩
            · have HKE : Hid (y * W + x = (y + 1) * W) := by
                show y * W + x = (y + 1) * W
                rw [Nat.succ_mul]; omega
              rw [HKE.out] at HM
              go_wp2
              go_roundw
              case rel => exact ⟨y + 1, by omega, by go_num, H11.out, HM.out, HE.out⟩
              case measure => simp [intOf]; omega
        · have HYH : Hid (y * W = n) := by
            show y * W = n
            rw [HN.out, show y = H from by omega, Nat.mul_comm]
          rw [HYH.out, ← HNX.out] at HM
          have hE5 : Below wo.heap.size wo wr := by rw [← HB11.out]; exact HE.out
          have h9k := H9.out.keep hE5 H9.out.lt
          have h9l := H9.out.lt
          have l11 := row_range H11.out
          have h59 : b5 + 1 + 1 < b11 := by rw [HB11.out]; exact h9l
          go_wp2_with (first | (refine wpList_load_mid rfl 24 _ rfl b11 0 rfl _ _ l11 Tryd.underlying24 rfl infoPat ?_) | (refine Ops.wpList_store_arr rfl 24 _ _ rfl (b5 + 1 + 1) rfl 24 _ _ rfl h9k rfl infoPat (boxP_one _ _ _ _ _) ?_; intro w5 hrow5 hon5))
          have h5k := Lib.hid ((H5.out.keep hE5 H5.out.lt).other hon5 (by omega))
          have h8k := Lib.hid ((H8.out.keep hE5 H8.out.lt).other hon5 (by omega))
          have hGk := HM.out.other hon5 (by omega)
          have hIk := Lib.hid (row_isN (n := n) hGk (by rw [flat_len, HN.out]) (by unfold maxLen; omega))
          have hBk := Lib.hid ((HB.out.trans (hE5.mono HB.out.size)).trans (hon5.below (by rw [← HB5.out]; omega)))
          have H9k := Lib.hid hrow5
          clear hrow5 hon5 hGk h9k hE5 l11
          go_roundw
          case rel => exact ⟨s + 1, by omega, by go_num, h5k.out, h8k.out, ⟨_, _, H9k.out, hIk.out, fun _ x e => by cases e; dsimp only; omega, .inr fun x e => by cases e; dsimp only; omega⟩, hBk.out⟩
          case measure => simp [intOf]; omega
    · have hsm : s = m := by omega
      subst hsm
      have l9 := row_range H9.out
      go_wp2_with (first | (refine wpList_load_mid rfl 24 _ rfl (b5 + 1 + 1) 0 rfl _ _ l9 Tryd.underlying24 rfl infoPat ?_) | (refine Ops.wpList_store_arr rfl 24 _ _ rfl (b5 + 1) rfl 24 _ _ rfl H8.out rfl infoPat (boxP_one _ _ _ _ _) ?_; intro w5 hrow5 hon5))
      have hIk := is_only HI.out hon5 HNE.out
      exact bodyPost_ret (results_cell_row rfl _ _ (b5 + 1) 24 (boxP W H sa n sc).toArray (0, 0) _ rfl hrow5 Tryd.underlying24 rfl infoPat) rfl ⟨⟨sa, sc, rfl, hIk, by rw [← HB5.out]; exact HSA.out⟩, HB.out.trans (hon5.below (by rw [← HB5.out]; omega))⟩
end Bl
end Go.Proofs.YtmnefdcgknmnjaaDoor
