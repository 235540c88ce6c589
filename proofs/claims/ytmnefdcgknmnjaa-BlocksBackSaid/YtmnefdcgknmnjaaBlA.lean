/- WALK: edenref1.At, Alike, Turn (a quarter clockwise). -/
import Derived.Test.YtmnefdcgknmnjaaBlR
namespace Go.Proofs.Ytmnefdcgknmnjaa
set_option linter.unusedSimpArgs false
set_option linter.unusedVariables false
open Go.RowKit Go.Lib
namespace Bl
open Tld Mem

theorem row_new (w : World) (W H : Int) (a : Option Addr) (n c : Nat) : Row (w.alloc (.cells #[.int .i64 W, .int .i64 H, .slice a n c] 24)) w.heap.size 24 (boxP W H a n c) ∧ Below w.heap.size w (w.alloc (.cells #[.int .i64 W, .int .i64 H, .slice a n c] 24)) :=
  ⟨row_alloc w _ _, (Below.refl _ _).alloc (Nat.le_refl _) _⟩
set_option maxHeartbeats 4000000 in
theorem alike_any (W1 H1 : Int) (a1 : Option Addr) (n1 c1 : Nat) (z1 : List Int) (W2 H2 : Int) (a2 : Option Addr) (n2 c2 : Nat) (z2 : List Int) (w : World) (h1 : Ints.Is w a1 n1 z1) (h2 : Ints.Is w a2 n2 z2) :
    Calls Try.prog 10 #[pat W1 H1 a1 n1 c1, pat W2 H2 a2 n2 c2] w fun e w' => e = .returned (.bool (decide (z1 = z2 ∧ W1 = W2 ∧ H1 = H2))) ∧ Below w.heap.size w w' := by
  have HI := Lib.hid (fun w2 : World => fun hb : Below w.heap.size w w2 => Ints.ints_any a1 a2 n1 n2 c1 c2 z1 z2 w2 (h1.keep hb) (h2.keep hb))
  clear h1 h2
  unfold pat
  obtain ⟨q, hq⟩ : ∃ q, q = decide (z1 = z2) := ⟨_, rfl⟩
  have HR : Hid (decide (z1 = z2 ∧ W1 = W2 ∧ H1 = H2) = (q && (decide (W1 = W2) && decide (H1 = H2)))) := by
    show _ = _
    rw [hq, Bool.decide_and, Bool.decide_and]
  rw [← hq] at HI
  clear hq
  have hd : q = false ∨ (q = true ∧ W1 ≠ W2) ∨ (q = true ∧ W1 = W2 ∧ H1 ≠ H2) ∨ (q = true ∧ W1 = W2 ∧ H1 = H2) := by
    cases q
    · exact .inl rfl
    · by_cases h1 : W1 = W2
      · by_cases h2 : H1 = H2
        · exact .inr (.inr (.inr ⟨rfl, h1, h2⟩))
        · exact .inr (.inr (.inl ⟨rfl, h1, h2⟩))
      · exact .inr (.inl ⟨rfl, h1⟩)
  obtain ⟨b, hb⟩ : ∃ b, b = (q && (decide (W1 = W2) && decide (H1 = H2))) := ⟨_, rfl⟩
  rw [← hb] at HR
  have HB := Lib.hid hb
  clear hb
  rcases hd with rfl | ⟨rfl, hw⟩ | ⟨rfl, rfl, hh⟩ | ⟨rfl, rfl, rfl⟩
  all_goals
    first | (have hw2 : (W1 == W2) = false := by rw [beq_eq_false_iff_ne]; exact hw) | skip
    first | (have hh2 : (H1 == H2) = false := by rw [beq_eq_false_iff_ne]; exact hh) | skip
    go_enter Try.func10, Try.ntmps10
    go_wp2_with fail
    refine (HI.out _ (((Below.refl _ _).alloc (Nat.le_refl _) _).alloc (by simp) _)).mono ?_
    rintro e1 w1 ⟨rfl, hb1⟩
    obtain ⟨hR2, hR3, hB⟩ := two_new w 24 24 (boxP _ _ a1 n1 c1) (boxP _ _ a2 n2 c2)
    have hR2' := hR2.keep hb1 hR2.lt
    have hR3' := hR3.keep hb1 hR3.lt
    have HBE := Lib.hid (hB.trans (hb1.mono hB.size))
    clear hR2 hR3 hb1 hB
    have f0 := hR2'.cell 0
    have f1 := hR2'.cell 1
    have g0 := hR3'.cell 0
    have g1 := hR3'.cell 1
    unfold boxP at f0 f1 g0 g1
    dsimp only [List.getElem?_cons_succ, List.getElem?_cons_zero] at f0 f1 g0 g1
    clear hR2' hR3'
    go_wp2_with fail
    go_ret
    refine ⟨?_, HBE.out⟩
    rw [HR.out, HB.out]
    simp [*]
set_option maxHeartbeats 4000000 in
theorem at_any (W H : Nat) (a : Option Addr) (n c : Nat) (zs : List Int) (x y : Nat) (w : World) (hx : x < W) (hy : y < H) (hn : n = W * H) (hW : W ≤ 100) (hH : H ≤ 100) (hZ : Cells w a n (fun i => .int .i64 (zs.getD i 0))) :
    Calls Try.prog 17 #[pat W H a n c, .int .i64 x, .int .i64 y] w fun e w' => e = .returned (.int .i64 (zs.getD (y * W + x) 0)) ∧ Below w.heap.size w w' := by
  have hk : y * W + x < n := by rw [hn]; exact at_lt hx hy
  have hnn : n ≤ 100 * 100 := by rw [hn]; exact Nat.mul_le_mul hW hH
  obtain ⟨hR, hB⟩ := row_new w W H a n c
  obtain ⟨b, off, rfl, _, hc⟩ := (hZ.keep hB) _ hk
  dsimp only at hc
  have HB := Lib.hid hB
  have f0 := hR.cell 0
  have f1 := hR.cell 1
  have f2 := hR.cell 2
  unfold boxP at f0 f1 f2
  dsimp only [List.getElem?_cons_succ, List.getElem?_cons_zero] at f0 f1 f2
  have hm : ((y : Nat) : Int) * (W : Int) = ((y * W : Nat) : Int) := by push_cast; rfl
  have HN := Lib.hid hn
  clear hR hB hZ hn
  unfold pat
  generalize zs.getD (y * W + x) 0 = z at *
  obtain ⟨m, hme⟩ : ∃ m, m = y * W := ⟨_, rfl⟩
  rw [← hme] at hk hc hm
  have hmw : IntKind.i64.wrap ((y : Int) * (W : Int)) = (m : Int) := by rw [hm, IntKind.wrap_i64]; omega
  have hmx : (m : Int) + (x : Int) = ((m + x : Nat) : Int) := by push_cast; rfl
  clear hme hm
  go_enter Try.func17, Try.ntmps17
  generalize hk' : m + x = k at *
  clear hk'
  go_wp2
  generalize w.alloc (.cells #[.int .i64 W, .int .i64 H, .slice (some ⟨b, off, none⟩) n c] 24) = w1 at *
  go_ret
  exact ⟨rfl, HB.out⟩
/-- The first k numbers of a grid, as cells. -/
def firstK (W : Nat) (c : Nat → Nat → Nat) (k : Nat) : List Value := (List.range k).map fun j => .int .i64 ((c (j % W) (j / W) : Nat) : Int)
theorem firstK_succ (W : Nat) (c : Nat → Nat → Nat) (k : Nat) : firstK W c (k + 1) = firstK W c k ++ [.int .i64 ((c (k % W) (k / W) : Nat) : Int)] := by
  unfold firstK; rw [List.range_succ, List.map_append]; rfl
theorem firstK_flat (W H : Nat) (c : Nat → Nat → Nat) : firstK W c (W * H) = (flat W H c).map (Value.int .i64) := by
  unfold firstK flat; rw [List.map_map]; rfl
theorem own_nil (w : World) (B : Nat) : w.ownsRow B 3 1 (.slice none 0 0) 0 [] := ⟨rfl, .inl ⟨rfl, rfl⟩⟩
theorem own_low {w : World} {B : Nat} {e : TypeId} {v : Value} {n : Nat} {xs : List Value} (h : w.ownsRow B e 1 v n xs) : ∀ k, v.ownBlock = some k → B ≤ k := fun k hk => (h.lt k hk).1
/-- Own numbers as a slice that can be read. -/
theorem own_is {w : World} {B : Nat} {a : Option Addr} {n c : Nat} {zs : List Int} (h : w.ownsRow B 3 1 (.slice a n c) n (zs.map (Value.int .i64))) (hz : zs.length = n) (hn : n ≤ maxLen) : Ints.Is w a n zs ∧ (a = none → n = 0) := by
  rcases h.2 with ⟨hv, h0⟩ | ⟨g, cap, cur, hv, hB, hg, hnc, hcm, hcs, ht⟩
  · cases hv
    exact ⟨⟨hz, fun i hi => absurd hi (Nat.not_lt_zero _), Nat.zero_le _⟩, fun _ => rfl⟩
  · cases hv
    refine ⟨⟨hz, fun i hi => ⟨g, 0, rfl, (Array.getElem?_eq_some_iff.1 hg).1, ?_⟩, hn⟩, fun h => by cases h⟩
    have h1 : w.cell? ⟨g, 0 + i, none⟩ = cur[i]? := by simp [World.cell?, hg]
    rw [h1]
    have h3 : (cur.toList.take (n * 1))[i]? = (zs.map (Value.int .i64))[i]? := by rw [ht]
    rw [List.getElem?_take_of_lt (by omega), Array.getElem?_toList] at h3
    rw [h3, List.getElem?_map, List.getElem?_eq_getElem (by omega)]
    simp [List.getD_eq_getElem?_getD, List.getElem?_eq_getElem (show i < zs.length by omega)]
theorem infoPatA : (Try.prog.info? 24).map (·.size) = some 3 := by kernel_rfl
theorem three_new (w : World) (T : TypeId) (c1 c2 c3 : List Value) : Row (((w.alloc (.cells c1.toArray T)).alloc (.cells c2.toArray T)).alloc (.cells c3.toArray T)) w.heap.size T c1 ∧ Row (((w.alloc (.cells c1.toArray T)).alloc (.cells c2.toArray T)).alloc (.cells c3.toArray T)) (w.heap.size + 1) T c2 ∧ Row (((w.alloc (.cells c1.toArray T)).alloc (.cells c2.toArray T)).alloc (.cells c3.toArray T)) (w.heap.size + 1 + 1) T c3 ∧ Below w.heap.size w (((w.alloc (.cells c1.toArray T)).alloc (.cells c2.toArray T)).alloc (.cells c3.toArray T)) := by
  obtain ⟨h1, h2, h3⟩ := two_new w T T c1 c2
  have hb : Below ((w.alloc (.cells c1.toArray T)).alloc (.cells c2.toArray T)).heap.size ((w.alloc (.cells c1.toArray T)).alloc (.cells c2.toArray T)) (((w.alloc (.cells c1.toArray T)).alloc (.cells c2.toArray T)).alloc (.cells c3.toArray T)) := (Below.refl _ _).alloc (Nat.le_refl _) _
  refine ⟨h1.keep hb h1.lt, h2.keep hb h2.lt, ?_, h3.trans (hb.mono h3.size)⟩
  have := row_alloc ((w.alloc (.cells c1.toArray T)).alloc (.cells c2.toArray T)) T c3
  rwa [World.size_alloc, World.size_alloc] at this
/-- The state of a turn: k numbers have been put. -/
structure TSt (w wr : World) (W H : Nat) (a : Option Addr) (n c : Nat) (f : Nat → Nat → Nat) (k : Nat) : Prop where
  r2 : Row wr w.heap.size 24 (boxP W H a n c)
  r4 : Row wr (w.heap.size + 1) 24 noPat
  r5 : ∃ ao co, Row wr (w.heap.size + 1 + 1) 24 (boxP H W ao k co) ∧ wr.ownsRow w.heap.size 3 1 (.slice ao k co) k (firstK H f k)
  bel : Below w.heap.size w wr
set_option maxHeartbeats 8000000 in
set_option maxRecDepth 1000000 in
theorem turn_any (W H : Nat) (a : Option Addr) (n c : Nat) (zs : List Int) (w : World) (hn : n = W * H) (hW : W ≤ 100) (hH : H ≤ 100) (hz : zs.length = n) (h01 : ∀ z ∈ zs, z = 0 ∨ z = 1) (hZ : Cells w a n (fun i => .int .i64 (zs.getD i 0))) :
    Calls Try.prog 9 #[pat W H a n c, .int .i64 1] w fun e w' => (∃ a' c', e = .returned (pat H W a' n c') ∧ Ints.Is w' a' n (flat H W (turnC H (cel zs W))) ∧ (a' = none → n = 0)) ∧ Below w.heap.size w w' := by
  have hn1 : n ≤ 100 * 100 := by rw [hn]; exact Nat.mul_le_mul hW hH
  have HAT := Lib.hid (fun (w2 : World) (hb : Below w.heap.size w w2) (x y : Nat) (hx : x < W) (hy : y < H) => at_any W H a n c zs x y w2 hx hy hn hW hH (hZ.keep hb))
  have HCA := Lib.hid (fun x y => (cel_at (W := W) h01 x y).symm)
  have HN := Lib.hid hn
  clear hZ hz h01 hn
  obtain ⟨i0, hI0, hz0, hz1, hz2⟩ := info_parts infoIntB
  have HI0 := Lib.hid hI0
  have HZ0 := Lib.hid hz0
  have HZ1 := Lib.hid hz1
  have HZ2 := Lib.hid hz2
  clear hI0 hz0 hz1 hz2
  unfold pat at HAT ⊢
  go_enter Try.func9, Try.ntmps9
  go_wp2_with fail
  obtain ⟨h2, h4, h5, hB⟩ := three_new w 24 (boxP W H a n c) noPat (boxP H W none 0 0)
  have HST : Hid (TSt w (((w.alloc (.cells #[.int .i64 W, .int .i64 H, .slice a n c] 24)).alloc (.cells #[.int .i64 0, .int .i64 0, .slice none 0 0] 24)).alloc (.cells #[.int .i64 H, .int .i64 W, .slice none 0 0] 24)) W H a n c (turnC H (cel zs W)) 0) := ⟨h2, h4, ⟨none, 0, h5, own_nil _ _⟩, hB⟩
  clear h2 h4 h5 hB
  generalize (((w.alloc (.cells #[.int .i64 W, .int .i64 H, .slice a n c] 24)).alloc (.cells #[.int .i64 0, .int .i64 0, .slice none 0 0] 24)).alloc (.cells #[.int .i64 H, .int .i64 W, .slice none 0 0] 24)) = w1 at *
  go_loopw [6] (fun v wr => ∃ y : Nat, y ≤ W ∧ v = .int .i64 y ∧ TSt w wr W H a n c (turnC H (cel zs W)) (y * H)) (fun v _ => W - (intOf v).toNat)
  case atStart => exact ⟨0, Nat.zero_le _, rfl, by rw [Nat.zero_mul]; exact HST.out⟩
  case round =>
    clear HST
    obtain ⟨y, hy, rfl, hst⟩ := hrel
    have HST := Lib.hid hst
    obtain ⟨ao, co, hr5, _⟩ := hst.r5
    have f0 := hr5.cell 0
    have f1 := hr5.cell 1
    unfold boxP at f0 f1
    dsimp only [List.getElem?_cons_succ, List.getElem?_cons_zero] at f0 f1
    have HR5 := Lib.hid hr5
    clear hst hr5
    by_cases hyl : y < W
    · go_wp2_with fail
      clear f0 f1 HR5
      obtain ⟨wo, rfl⟩ : ∃ wo : World, wo = wr := ⟨_, rfl⟩
      go_loopw [7] (fun v wr => ∃ x : Nat, x ≤ H ∧ v = .int .i64 x ∧ TSt w wr W H a n c (turnC H (cel zs W)) (y * H + x)) (fun v _ => H - (intOf v).toNat)
      case atStart => exact ⟨0, Nat.zero_le _, rfl, HST.out⟩
      case round =>
        clear HST
        obtain ⟨x, hx, rfl, hst⟩ := hrel
        have HST := Lib.hid hst
        obtain ⟨ao, co, hr5, hown⟩ := hst.r5
        have f0 := hr5.cell 0
        unfold boxP at f0
        dsimp only [List.getElem?_cons_succ, List.getElem?_cons_zero] at f0
        have HR5 := Lib.hid hr5
        have HOWN := Lib.hid hown
        clear hst hr5 hown
        by_cases hxl : x < H
        · obtain ⟨r, hr⟩ : ∃ r, r = H - 1 - x := ⟨_, rfl⟩
          have hrI : (H : Int) - 1 - (x : Int) = (r : Int) := by omega
          have hrl : r < H := by omega
          have l2 := row_range HST.out.r2
          have g1 := HST.out.r2.cell 1
          unfold boxP at g1
          dsimp only [List.getElem?_cons_succ, List.getElem?_cons_zero] at g1
          have HV : Hid (zs.getD (r * W + y) 0 = ((turnC H (cel zs W) x y : Nat) : Int)) := by
            show zs.getD (r * W + y) 0 = ((cel zs W y (H - 1 - x) : Nat) : Int)
            rw [← HCA.out, hr]
          have HTA := Lib.hid (HAT.out wr HST.out.bel y r hyl hrl)
          rw [HV.out] at HTA
          have HK := Lib.hid (firstK_succ H (turnC H (cel zs W)) (y * H + x))
          rw [at_mod hxl, at_div hxl] at HK
          have hk1 : y * H + x < W * H := by rw [Nat.mul_comm W H]; exact at_lt hxl hyl
          rw [← HN.out] at hk1
          clear hr HV
          generalize turnC H (cel zs W) = tf at *
          generalize tf x y = tv at *
          generalize hkk : y * H + x = k at *
          have HKK := Lib.hid hkk
          clear hkk
          go_wp2_with (refine wpList_load_mid rfl 24 _ rfl w.heap.size 0 rfl _ _ l2 Try.underlying24 rfl infoPatA ?_)
          refine HTA.out.mono ?_
          rintro e1 w2 ⟨rfl, hb1⟩
          have HR2 := Lib.hid (HST.out.r2.keep hb1 HST.out.r2.lt)
          have HR4 := Lib.hid (HST.out.r4.keep hb1 HST.out.r4.lt)
          have HR5' := Lib.hid (HR5.out.keep hb1 HR5.out.lt)
          have HOWN' := Lib.hid (own_keep HOWN.out hb1)
          have HB2 := Lib.hid (HST.out.bel.trans (hb1.mono HST.out.bel.size))
          clear HST HR5 HOWN hb1 l2 f0 g1 HTA
          have f2 := HR5'.out.cell 2
          unfold boxP at f2
          dsimp only [List.getElem?_cons_succ, List.getElem?_cons_zero] at f2
          have hnew := row_alloc w2 3 [.int .i64 (tv : Int)]
          have hbn : Below w2.heap.size w2 (w2.alloc (.cells [.int .i64 (tv : Int)].toArray 3)) := (Below.refl _ _).alloc (Nat.le_refl _) _
          have HR2a := Lib.hid (HR2.out.keep hbn HR2.out.lt)
          have HR4a := Lib.hid (HR4.out.keep hbn HR4.out.lt)
          have HR5a := Lib.hid (HR5'.out.keep hbn HR5'.out.lt)
          have HOWNa := Lib.hid (own_keep HOWN'.out hbn)
          have HB2a := Lib.hid (HB2.out.trans (hbn.mono HB2.out.size))
          have HCEL := Lib.hid (hnew.cell 0)
          have HSZ : Hid (w.heap.size ≤ (w2.alloc (.cells [.int .i64 (tv : Int)].toArray 3)).heap.size) := HB2a.out.size
          clear HR2 HR4 HR5' HOWN' HB2 hnew hbn
          go_wp2_with (at_builtin; refine Ops.wpList_append1 rfl _ _ 22 rfl w.heap.size 3 i0 (.int .i64 0) 8 Try.underlying22 HI0.out HZ0.out rfl HZ1.out HZ2.out _ k _ rfl HOWNa.out ⟨w2.heap.size, 0, none⟩ 1 (.int .i64 tv) rfl HCEL.out rfl ?c1 ?c2 HSZ.out ?_)
          case c1 => unfold maxLen; omega
          case c2 => omega
          intro ao' co' w3 hO3 hg3
          have hR5b := row_grown HOWNa.out hg3 HR5a.out (by decide)
          have HR2b := Lib.hid (row_grown HOWNa.out hg3 HR2a.out (by decide))
          have HR4b := Lib.hid (row_grown HOWNa.out hg3 HR4a.out (by decide))
          have HB3 := Lib.hid (HB2a.out.grown hg3 HSZ.out (own_low HOWNa.out))
          rw [← HK.out] at hO3
          have HO3 := Lib.hid hO3
          have f2 := hR5b.cell 2
          unfold boxP at f2
          dsimp only [List.getElem?_cons_succ, List.getElem?_cons_zero] at f2
          have z2 := hR5b.frozen 2
          have HR5b := Lib.hid hR5b
          clear HR2a HR4a HR5a HOWNa HB2a HCEL HSZ hO3 hg3 hR5b
          go_wp2_with fail
          have hon := only_setCell w3 (w.heap.size + 1 + 1) 2 (.slice ao' (k + 1) co')
          have hT : TSt w (w3.setCell ⟨w.heap.size + 1 + 1, 2, none⟩ (.slice ao' (k + 1) co')) W H a n c tf (k + 1) :=
            ⟨HR2b.out.other hon (by omega), HR4b.out.other hon (by omega), ⟨ao', co', HR5b.out.set 2 (.slice ao' (k + 1) co'), own_only HO3.out hon (own_ne HO3.out HR5b.out (by decide))⟩, HB3.out.trans (hon.below (by omega))⟩
          exact ⟨⟨x + 1, by omega, by go_num, by rw [← Nat.add_assoc, HKK.out]; exact hT⟩, by simp [intOf]; omega⟩
        · have HKE : Hid (y * H + x = (y + 1) * H) := by
            show y * H + x = (y + 1) * H
            rw [Nat.succ_mul]; omega
          rw [HKE.out] at HST
          go_wp2
          go_roundw
          case rel => exact ⟨y + 1, by omega, by go_num, HST.out⟩
          case measure => simp [intOf]; omega
    · have hyW : y = W := by omega
      subst hyW
      clear HR5
      rw [← HN.out] at HST
      obtain ⟨ao, co, hr5, hown⟩ := HST.out.r5
      have hfl : firstK H (turnC H (cel zs y)) n = (flat H y (turnC H (cel zs y))).map (Value.int .i64) := by
        rw [HN.out, Nat.mul_comm y H, firstK_flat]
      rw [hfl] at hown
      have hI := own_is hown (by rw [flat_len, HN.out, Nat.mul_comm]) (by unfold maxLen; omega)
      have HI := Lib.hid hI.1
      have HNL := Lib.hid hI.2
      have l5 := row_range hr5
      have HR4 := Lib.hid HST.out.r4
      have HB := Lib.hid HST.out.bel
      have HR5 := Lib.hid hr5
      have HOW := Lib.hid hown
      clear hfl hown hI HST hr5
      go_wp2_with (first | (refine wpList_load_mid rfl 24 _ rfl (w.heap.size + 1 + 1) 0 rfl _ _ l5 Try.underlying24 rfl infoPatA ?_) | (refine Ops.wpList_store_arr rfl 24 _ _ rfl (w.heap.size + 1) rfl 24 _ _ rfl HR4.out rfl infoPatA (boxP_one _ _ _ _ _) ?_; intro w5 hrow5 hon5))
      have hown2 := own_only HOW.out hon5 (own_ne HOW.out HR4.out (by decide))
      have hI2 := own_is hown2 (by rw [flat_len, HN.out, Nat.mul_comm]) (by unfold maxLen; omega)
      exact bodyPost_ret (results_cell_row rfl _ _ (w.heap.size + 1) 24 (boxP H y ao n co).toArray (0, 0) _ rfl hrow5 Try.underlying24 rfl infoPatA) rfl ⟨⟨ao, co, rfl, hI2.1, hI2.2⟩, HB.out.trans (hon5.below (by omega))⟩
end Bl
end Go.Proofs.Ytmnefdcgknmnjaa
