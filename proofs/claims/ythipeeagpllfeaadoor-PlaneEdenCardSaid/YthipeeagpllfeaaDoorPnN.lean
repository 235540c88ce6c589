/- WALK: (plane.grown).next, where something lives. -/
import Derived.Test.YthipeeagpllfeaaDoorPnN1
namespace Go.Proofs.YthipeeagpllfeaaDoor
set_option linter.unusedSimpArgs false
set_option linter.unusedVariables false
open Go.RowKit
namespace Pn
open Tld Mem Bl

theorem infoRule : (Tryd.prog.info? 24).map (·.size) = some 7 := by kernel_rfl
theorem results_grown2 {fn : Func} {t u : Tmp} (hr : fn.results = #[.cell t 69, .tmp u]) (tmps : Array Value) (w : World) {q : Nat} {V : List Value} {e : Value} (h : Row w q 69 V) (hV : V.length = 5) (h8 : tmps.getD t undef = .pointer (some ⟨q, 0, none⟩)) (h9 : tmps.getD u undef = e) :
    (results fn tmps).run Tryd.prog w = .ok (.tuple #[.agg V.toArray, e]) w := by
  have hl := run_loadVar_row (P := Tryd.prog) w q 69 69 V.toArray (0, 0) _ h Tryd.underlying69 rfl (by rw [List.size_toArray, hV]; exact infoGrown)
  have h8' : tmps[t]?.getD undef = .pointer (some ⟨q, 0, none⟩) := by simpa using h8
  have h9' : tmps[u]?.getD undef = e := by simpa using h9
  simp [results, hr, h8', h9', asAddr, hl]
/-- What next gives. -/
def NextIs (B S W H : Nat) (f : Nat → Nat → Nat) (X Y : Int) (W' H' : Nat) (f' : Nat → Nat → Nat) (X' Y' : Int) (ev : Value) : Prop :=
  (ev = .nilIface ∧ W' = 0 ∧ H' = 0 ∧ X' = 0 ∧ Y' = 0 ∧ ∀ x y, x < W + 2 + 2 → y < H + 2 + 2 → nxg B S W H f x y = 0) ∨
  ∃ l t r b, GBox (W + 2 + 2) (H + 2 + 2) (nxg B S W H f) l t r b ∧ W' = r - l + 1 ∧ H' = b - t + 1 ∧
    ((ev = errV 4 ∧ (100 < W' ∨ 100 < H')) ∨ (ev = .nilIface ∧ W' ≤ 100 ∧ H' ≤ 100 ∧ f' = (fun x y => nxg B S W H f (l + x) (t + y)) ∧ X' = X + l - 2 ∧ Y' = Y + t - 2))

set_option maxHeartbeats 32000000 in
set_option maxRecDepth 1000000 in
theorem next_any (K st ra : Int) (B S : Nat) (ta : Option Addr) (tn tc : Nat) (tu : ByteArray) (W H : Nat) (a : Option Addr) (n c : Nat) (X Y : Int) (f : Nat → Nat → Nat) (w : World) (hBS : B < 512) (hSS : S < 512) (hZ : Ints.Is w a n (flat W H f)) (hn : n = W * H) (hc : n ≤ c) (hW0 : 0 < W) (hH0 : 0 < H) (hW : W ≤ 100) (hH : H ≤ 100) (hf : ∀ x y, f x y < 2) (hX : -900000 ≤ X ∧ X ≤ 900000) (hY : -900000 ≤ Y ∧ Y ≤ 900000) :
    Calls Tryd.prog 31 #[grn W H a n c X Y, .agg #[.int .i64 K, .int .i64 B, .int .i64 S, .int .i64 st, .int .i64 ra, .slice ta tn tc, .string tu]] w fun e w' => (∃ W' H' : Nat, ∃ a' n' c' X' Y' ev, e = .returned (.tuple #[grn W' H' a' n' c' X' Y', ev]) ∧ ∃ f', NextIs B S W H f X Y W' H' f' X' Y' ev ∧ (ev = .nilIface → n' = W' * H' ∧ n' ≤ c' ∧ c' ≤ maxLen ∧ Ints.Is w' a' n' (flat W' H' f') ∧ (∀ b o, a' = some ⟨b, o, none⟩ → w.heap.size ≤ b))) ∧ Below w.heap.size w w' := by
  obtain ⟨N1, hN1⟩ : ∃ N1, N1 = (W + 2) * (H + 2) := ⟨_, rfl⟩
  obtain ⟨N2, hN2⟩ : ∃ N2, N2 = (W + 2 + 2) * (H + 2 + 2) := ⟨_, rfl⟩
  have hN1b : N1 ≤ 40000 := by rw [hN1]; exact Nat.le_trans (Nat.mul_le_mul (show W + 2 ≤ 200 by omega) (show H + 2 ≤ 200 by omega)) (by decide)
  have hN2b : N2 ≤ 40000 := by rw [hN2]; exact Nat.le_trans (Nat.mul_le_mul (show W + 2 + 2 ≤ 200 by omega) (show H + 2 + 2 ≤ 200 by omega)) (by decide)
  have HZ := Lib.hid (fun w2 (h : Below w.heap.size w w2) => hZ.keep h)
  have HA1 := Lib.hid (fun w2 (h : Below w.heap.size w w2) => around_any W H a n c f w2 (hZ.keep h) hn hc hW0 hH0 (by omega) (by omega))
  have HA2 := Lib.hid (fun g w2 (h : Vec w2 g N1 (fun k => pad W H f (k % (W + 2)) (k / (W + 2)))) => around_any (W + 2) (H + 2) (some ⟨g, 0, none⟩) N1 N1 (pad W H f) w2 (h.flat hN1 (by unfold maxLen; omega)) hN1 (Nat.le_refl _) (by omega) (by omega) (by omega) (by omega))
  have HT := Lib.hid (fun g w2 (h : Vec w2 g N2 (fun k => pad (W + 2) (H + 2) (pad W H f) (k % (W + 2 + 2)) (k / (W + 2 + 2)))) => torus_any K st ra B S ta tn tc tu (W + 2 + 2) (H + 2 + 2) (some ⟨g, 0, none⟩) N2 N2 (pad (W + 2) (H + 2) (pad W H f)) w2 hBS hSS (h.flat hN2 (by unfold maxLen; omega)) hN2 (by omega) (by omega) (pad_lt (pad_lt hf)))
  rw [← hN1] at HA1
  rw [← hN2] at HA2
  obtain ⟨A, hA⟩ : ∃ A, A = W + 2 + 2 := ⟨_, rfl⟩
  obtain ⟨D, hD⟩ : ∃ D, D = H + 2 + 2 := ⟨_, rfl⟩
  obtain ⟨F, hF⟩ : ∃ F, F = nxg B S W H f := ⟨_, rfl⟩
  have HFE : Hid (tor B S (W + 2 + 2) (H + 2 + 2) (pad (W + 2) (H + 2) (pad W H f)) = F) := Lib.hid (by rw [hF]; rfl)
  rw [HFE.out] at HT
  rw [← hA, ← hD] at HA2 HT
  have HX := Lib.hid hX
  have HY := Lib.hid hY
  have HAD : Hid (A ≤ 104 ∧ D ≤ 104 ∧ N2 = A * D) := Lib.hid (by rw [hA, hD]; exact ⟨by omega, by omega, hN2⟩)
  have HFL : Hid (∀ x y, F x y < 2) := Lib.hid (by rw [hF]; exact fun x y => tor_lt _ _ _ _ _ _ _)
  have HNI : Hid (∀ W' H' f' X' Y' ev, (((ev = .nilIface ∧ W' = 0 ∧ H' = 0 ∧ X' = 0 ∧ Y' = 0 ∧ ∀ x y, x < A → y < D → F x y = 0) ∨
    ∃ l t r b, GBox A D F l t r b ∧ W' = r - l + 1 ∧ H' = b - t + 1 ∧
      ((ev = errV 4 ∧ (100 < W' ∨ 100 < H')) ∨ (ev = .nilIface ∧ W' ≤ 100 ∧ H' ≤ 100 ∧ f' = (fun x y => F (l + x) (t + y)) ∧ X' = X + l - 2 ∧ Y' = Y + t - 2)))) → NextIs B S W H f X Y W' H' f' X' Y' ev) := Lib.hid (fun W' H' f' X' Y' ev h => by
    rw [hA, hD, hF] at h
    exact h)
  have hWI : ¬ (W : Int) = 0 := by omega
  have hn4 : N2 ≤ 40000 := hN2b
  have HGR : Hid (∀ W' H' a' n' c' X' Y', grn W' H' a' n' c' X' Y' = .agg #[.int .i64 W', .int .i64 H', .slice a' n' c', .int .i64 X', .int .i64 Y']) := Lib.hid (fun _ _ _ _ _ _ _ => rfl)
  clear hZ hn hc hW0 hH0 hW hH hf hX hY hN1 hN2 hBS hSS hA hD hF HFE hN1b hN2b
  unfold grn
  go_enter Tryd.func31, Tryd.ntmps31
  go_upto_region 1 with fail
  obtain ⟨hr2, hr3, hr4, hb2⟩ := three_new w 69 24 69 (boxN W H a n c X Y) (rulP K B S st ra ta tn tc tu) noGrown
  have HG : Hid (Row (((w.alloc (.cells #[.int .i64 W, .int .i64 H, .slice a n c, .int .i64 X, .int .i64 Y] 69)).alloc (.cells #[.int .i64 K, .int .i64 B, .int .i64 S, .int .i64 st, .int .i64 ra, .slice ta tn tc, .string tu] 24)).alloc (.cells #[.int .i64 0, .int .i64 0, .slice none 0 0, .int .i64 0, .int .i64 0] 69)) w.heap.size 69 (boxN W H a n c X Y)) := hr2
  have HU : Hid (Row (((w.alloc (.cells #[.int .i64 W, .int .i64 H, .slice a n c, .int .i64 X, .int .i64 Y] 69)).alloc (.cells #[.int .i64 K, .int .i64 B, .int .i64 S, .int .i64 st, .int .i64 ra, .slice ta tn tc, .string tu] 24)).alloc (.cells #[.int .i64 0, .int .i64 0, .slice none 0 0, .int .i64 0, .int .i64 0] 69)) (w.heap.size + 1) 24 (rulP K B S st ra ta tn tc tu)) := hr3
  have HR : Hid (Row (((w.alloc (.cells #[.int .i64 W, .int .i64 H, .slice a n c, .int .i64 X, .int .i64 Y] 69)).alloc (.cells #[.int .i64 K, .int .i64 B, .int .i64 S, .int .i64 st, .int .i64 ra, .slice ta tn tc, .string tu] 24)).alloc (.cells #[.int .i64 0, .int .i64 0, .slice none 0 0, .int .i64 0, .int .i64 0] 69)) (w.heap.size + 1 + 1) 69 noGrown) := hr4
  have HB : Hid (Below w.heap.size w (((w.alloc (.cells #[.int .i64 W, .int .i64 H, .slice a n c, .int .i64 X, .int .i64 Y] 69)).alloc (.cells #[.int .i64 K, .int .i64 B, .int .i64 S, .int .i64 st, .int .i64 ra, .slice ta tn tc, .string tu] 24)).alloc (.cells #[.int .i64 0, .int .i64 0, .slice none 0 0, .int .i64 0, .int .i64 0] 69))) := hb2
  clear hr2 hr3 hr4 hb2
  generalize ((w.alloc (.cells #[.int .i64 W, .int .i64 H, .slice a n c, .int .i64 X, .int .i64 Y] 69)).alloc (.cells #[.int .i64 K, .int .i64 B, .int .i64 S, .int .i64 st, .int .i64 ra, .slice ta tn tc, .string tu] 24)).alloc (.cells #[.int .i64 0, .int .i64 0, .slice none 0 0, .int .i64 0, .int .i64 0] 69) = w1 at *
  obtain ⟨gb, hgb⟩ : ∃ gb, gb = w.heap.size := ⟨_, rfl⟩
  rw [← hgb] at HG HU HR ⊢
  obtain ⟨ub, hub⟩ : ∃ ub, ub = gb + 1 := ⟨_, rfl⟩
  rw [← hub] at HU HR ⊢
  obtain ⟨rb, hrb⟩ : ∃ rb, rb = ub + 1 := ⟨_, rfl⟩
  rw [← hrb] at HR ⊢
  have HGU : Hid (w.heap.size ≤ gb ∧ w.heap.size ≤ ub ∧ w.heap.size ≤ rb ∧ gb ≠ ub ∧ gb ≠ rb ∧ ub ≠ rb) := Lib.hid (by omega)
  clear hgb hub hrb
  --{make
  have f0 := HG.out.cell 0
  unfold boxN at f0
  dsimp only [List.getElem?_cons_succ, List.getElem?_cons_zero] at f0
  go_upto_region 3 with fail
  clear f0
  go_cut [6] (fun v wx => ∃ qb ob, v = .pointer (some ⟨qb, 0, none⟩) ∧ Row wx qb 26 (boxP A D (some ⟨ob, 0, none⟩) N2 N2) ∧ Vec wx ob N2 (fun k => F (k % A) (k / A)) ∧ qb ≠ ob ∧ w1.heap.size ≤ qb ∧ w1.heap.size ≤ ob ∧ Below w1.heap.size w1 wx)
  case first =>
    have hdr : Below w1.heap.size w1 w1.drew := (Below.refl _ _).drew
    refine wp_region_noPanic ?_
    refine Rt.region_Cn (Sc2 (fun w2 => w2.cell? ⟨gb, 0, none⟩ = some (.int .i64 W) ∧ w2.cell? ⟨gb, 1, none⟩ = some (.int .i64 H) ∧ w2.cell? ⟨gb, 2, none⟩ = some (.slice a n c) ∧ w2.cell? ⟨ub, 0, none⟩ = some (.int .i64 K) ∧ w2.cell? ⟨ub, 1, none⟩ = some (.int .i64 B) ∧ w2.cell? ⟨ub, 2, none⟩ = some (.int .i64 S) ∧ w2.cell? ⟨ub, 3, none⟩ = some (.int .i64 st) ∧ w2.cell? ⟨ub, 4, none⟩ = some (.int .i64 ra) ∧ w2.cell? ⟨ub, 5, none⟩ = some (.slice ta tn tc) ∧ w2.cell? ⟨ub, 6, none⟩ = some (.string tu)) (fun w2 => True) 999) 8 #[false, false, false, false, false, false, false, false] (by kernel_rfl) (by kernel_rfl) (by kernel_rfl) ?_
    have hS1 : ∀ o, Sc2 (fun w2 => w2.cell? ⟨gb, 0, none⟩ = some (.int .i64 W) ∧ w2.cell? ⟨gb, 1, none⟩ = some (.int .i64 H) ∧ w2.cell? ⟨gb, 2, none⟩ = some (.slice a n c) ∧ w2.cell? ⟨ub, 0, none⟩ = some (.int .i64 K) ∧ w2.cell? ⟨ub, 1, none⟩ = some (.int .i64 B) ∧ w2.cell? ⟨ub, 2, none⟩ = some (.int .i64 S) ∧ w2.cell? ⟨ub, 3, none⟩ = some (.int .i64 st) ∧ w2.cell? ⟨ub, 4, none⟩ = some (.int .i64 ra) ∧ w2.cell? ⟨ub, 5, none⟩ = some (.slice ta tn tc) ∧ w2.cell? ⟨ub, 6, none⟩ = some (.string tu)) (fun w2 => True) 999 o w1.drew := Sc2.of ⟨HG.out.cell 0, HG.out.cell 1, HG.out.cell 2, HU.out.cell 0, HU.out.cell 1, HU.out.cell 2, HU.out.cell 3, HU.out.cell 4, HU.out.cell 5, HU.out.cell 6⟩ trivial
    refine Rt.C_take (none) (i := 0) (oi := _) (v := ?_) rfl (by kernel_rfl) (by kernel_rfl) (by kernel_rfl) (by kernel_rfl) (fun _ _ _ h => h) (Sc2.other (by decide)) (Or.inl ⟨by rfl, ?_⟩) (fun o' _ => hS1 o') ?_
    rotate_left
    · intro w2 hSw
      obtain ⟨s0, s1, s2, s3, s4, s5, s6, s7, s8, s9⟩ := hSw
      go_simp
      try with_reducible rfl
    simp only [Act.put, List.getElem_toArray, List.getElem_cons_succ, List.getElem_cons_zero, List.setIfInBounds_toArray, List.set_cons_zero, List.set_cons_succ]
    refine Rt.C_take (none) (i := 1) (oi := _) (v := ?_) rfl (by kernel_rfl) (by kernel_rfl) (by kernel_rfl) (by kernel_rfl) (fun _ _ _ h => h) (Sc2.other (by decide)) (Or.inl ⟨by rfl, ?_⟩) (fun o' _ => hS1 o') ?_
    rotate_left
    · intro w2 hSw
      obtain ⟨s0, s1, s2, s3, s4, s5, s6, s7, s8, s9⟩ := hSw
      go_simp
      try with_reducible rfl
    simp only [Act.put, List.getElem_toArray, List.getElem_cons_succ, List.getElem_cons_zero, List.setIfInBounds_toArray, List.set_cons_zero, List.set_cons_succ]
    refine Rt.C_take (none) (i := 2) (oi := _) (v := ?_) rfl (by kernel_rfl) (by kernel_rfl) (by kernel_rfl) (by kernel_rfl) (fun _ _ _ h => h) (Sc2.other (by decide)) (Or.inl ⟨by rfl, ?_⟩) (fun o' _ => hS1 o') ?_
    rotate_left
    · intro w2 hSw
      obtain ⟨s0, s1, s2, s3, s4, s5, s6, s7, s8, s9⟩ := hSw
      go_simp
      try with_reducible rfl
    simp only [Act.put, List.getElem_toArray, List.getElem_cons_succ, List.getElem_cons_zero, List.setIfInBounds_toArray, List.set_cons_zero, List.set_cons_succ]
    clear hS1
    have HB1 : Hid (Below w1.heap.size w1 w1.drew) := Lib.hid hdr
    have HGc := Lib.hid (HG.out.keep hdr HG.out.lt)
    have HUc := Lib.hid (HU.out.keep hdr HU.out.lt)
    generalize w1.drew = v0 at *
    clear hdr
    refine Rt.C_ready (rs := [3, 6]) (by kernel_rfl) (by simp) ?_
    refine Rt.AllC.cons (i := 3) (o := _) rfl (by rfl) (fun K' hK => ?_) ?_
    · skip
      have hbs := HB1.out.size
      go_simp
      refine (HA1.out _ (HB.out.trans (HB1.out.mono HB.out.size))).mono ?_
      rintro e1 v1 ⟨⟨g1, rfl, hg1, hv1⟩, hb1⟩
      have HG1 : Hid (w1.heap.size ≤ g1) := Lib.hid (Nat.le_trans hbs hg1)
      have HGc := Lib.hid (HGc.out.keep hb1 HGc.out.lt)
      have HUc := Lib.hid (HUc.out.keep hb1 HUc.out.lt)
      have HB1 := Lib.hid (HB1.out.trans (hb1.mono hbs))
      have HV1 := Lib.hid hv1
      clear hbs hg1 hv1 hb1
      go_simp
      refine hK _ _ (fun o _ => Sc2.of ⟨HGc.out.cell 0, HGc.out.cell 1, HGc.out.cell 2, HUc.out.cell 0, HUc.out.cell 1, HUc.out.cell 2, HUc.out.cell 3, HUc.out.cell 4, HUc.out.cell 5, HUc.out.cell 6⟩ trivial o) ?_
      clear hK K'
      simp only [Act.put, List.getElem_toArray, List.getElem_cons_succ, List.getElem_cons_zero, List.setIfInBounds_toArray, List.set_cons_zero, List.set_cons_succ]
      refine Rt.C_ready (rs := [4, 6]) (by kernel_rfl) (by simp) ?_
      refine Rt.AllC.cons (i := 4) (o := _) rfl (by rfl) (fun K' hK => ?_) ?_
      · skip
        have hbs := HB1.out.size
        go_simp
        refine (HA2.out _ _ HV1.out).mono ?_
        rintro e2 v2 ⟨⟨g2, rfl, hg2, hv2⟩, hb2⟩
        have HG2 : Hid (w1.heap.size ≤ g2) := Lib.hid (Nat.le_trans hbs hg2)
        have HGc := Lib.hid (HGc.out.keep hb2 HGc.out.lt)
        have HUc := Lib.hid (HUc.out.keep hb2 HUc.out.lt)
        have HB1 := Lib.hid (HB1.out.trans (hb2.mono hbs))
        have HV2 := Lib.hid hv2
        clear hbs hg2 hv2 hb2
        go_simp
        refine hK _ _ (fun o _ => Sc2.of ⟨HGc.out.cell 0, HGc.out.cell 1, HGc.out.cell 2, HUc.out.cell 0, HUc.out.cell 1, HUc.out.cell 2, HUc.out.cell 3, HUc.out.cell 4, HUc.out.cell 5, HUc.out.cell 6⟩ trivial o) ?_
        clear hK K'
        simp only [Act.put, List.getElem_toArray, List.getElem_cons_succ, List.getElem_cons_zero, List.setIfInBounds_toArray, List.set_cons_zero, List.set_cons_succ]
        refine Rt.C_ready (rs := [5, 6]) (by kernel_rfl) (by simp) ?_
        refine Rt.AllC.cons (i := 5) (o := _) rfl (by rfl) (fun K' hK => ?_) ?_
        · skip
          have hbs := HB1.out.size
          go_simp
          refine (HT.out _ _ HV2.out).mono ?_
          rintro e3 v3 ⟨⟨g3, rfl, hg3, hv3⟩, hb3⟩
          have HG3 : Hid (w1.heap.size ≤ g3) := Lib.hid (Nat.le_trans hbs hg3)
          have HGc := Lib.hid (HGc.out.keep hb3 HGc.out.lt)
          have HUc := Lib.hid (HUc.out.keep hb3 HUc.out.lt)
          have HB1 := Lib.hid (HB1.out.trans (hb3.mono hbs))
          have HV3 := Lib.hid hv3
          clear hbs hg3 hv3 hb3
          go_simp
          refine hK _ _ (fun o _ => Sc2.of ⟨HGc.out.cell 0, HGc.out.cell 1, HGc.out.cell 2, HUc.out.cell 0, HUc.out.cell 1, HUc.out.cell 2, HUc.out.cell 3, HUc.out.cell 4, HUc.out.cell 5, HUc.out.cell 6⟩ trivial o) ?_
          clear hK K'
          simp only [Act.put, List.getElem_toArray, List.getElem_cons_succ, List.getElem_cons_zero, List.setIfInBounds_toArray, List.set_cons_zero, List.set_cons_succ]
          refine Rt.C_ready (rs := [6]) (by kernel_rfl) (by simp) ?_
          refine Rt.AllC.cons (i := 6) (o := _) rfl (by rfl) (fun K' hK => ?_) ?_
          · skip
            have hrq : Row (v3.alloc (.cells #[.int .i64 0, .int .i64 0, .slice none 0 0] 26)) v3.heap.size 26 noPat := row_alloc v3 _ noPat
            have hbq : Below v3.heap.size v3 (v3.alloc (.cells #[.int .i64 0, .int .i64 0, .slice none 0 0] 26)) := (Below.refl _ _).alloc (Nat.le_refl _) _
            obtain ⟨qb, hqb⟩ : ∃ qb, qb = v3.heap.size := ⟨_, rfl⟩
            have hgl := HGc.out.lt
            have hul := HUc.out.lt
            have hbs := HB1.out.size
            have hvl := HV3.out.lt
            have HQ1 : Hid (w1.heap.size ≤ qb ∧ gb ≠ qb ∧ ub ≠ qb) := Lib.hid (by omega)
            go_simp
            rw [← hqb] at hrq ⊢
            have HGc := Lib.hid (HGc.out.keep hbq hgl)
            have HUc := Lib.hid (HUc.out.keep hbq hul)
            have HB1 := Lib.hid (HB1.out.trans (hbq.mono hbs))
            have HQc := Lib.hid hrq
            have HV3 := Lib.hid (HV3.out.keep hbq)
            have HQN : Hid (w1.heap.size ≤ qb ∧ g3 ≠ qb ∧ gb ≠ qb ∧ ub ≠ qb) := Lib.hid (by have := HQ1.out; omega)
            refine hK _ _ (fun o _ => Sc2.of ⟨HGc.out.cell 0, HGc.out.cell 1, HGc.out.cell 2, HUc.out.cell 0, HUc.out.cell 1, HUc.out.cell 2, HUc.out.cell 3, HUc.out.cell 4, HUc.out.cell 5, HUc.out.cell 6⟩ trivial o) ?_
            clear hK K'
            clear hqb hgl hul hbs hrq hbq hvl
            generalize v3.alloc (.cells #[.int .i64 0, .int .i64 0, .slice none 0 0] 26) = v4 at *
            simp only [Act.put, List.getElem_toArray, List.getElem_cons_succ, List.getElem_cons_zero, List.setIfInBounds_toArray, List.set_cons_zero, List.set_cons_succ]
            refine Rt.C_ready (rs := [7]) (by kernel_rfl) (by simp) ?_
            refine Rt.AllC.cons (i := 7) (o := _) rfl (by rfl) (fun K' hK => ?_) ?_
            · skip
              refine wp_store_arr 26 _ _ rfl qb (by rfl) 26 noPat (boxP A D (some ⟨g3, 0, none⟩) N2 N2) (by rfl) HQc.out rfl infoPat (boxP_one _ _ _ _ _) ?_
              intro w7 hr7 ho7
              have HB7 := Lib.hid (HB1.out.trans (ho7.below HQN.out.1))
              have HV7 := Lib.hid (HV3.out.other ho7 HQN.out.2.1)
              have hgn : gb ≠ qb ∧ ub ≠ qb := HQN.out.2.2
              have HGc := Lib.hid (HGc.out.other ho7 hgn.1)
              have HUc := Lib.hid (HUc.out.other ho7 hgn.2)
              refine hK _ _ (fun o _ => Sc2.of ⟨HGc.out.cell 0, HGc.out.cell 1, HGc.out.cell 2, HUc.out.cell 0, HUc.out.cell 1, HUc.out.cell 2, HUc.out.cell 3, HUc.out.cell 4, HUc.out.cell 5, HUc.out.cell 6⟩ trivial o) ?_
              clear hK K'
              simp only [Act.put, List.getElem_toArray, List.getElem_cons_succ, List.getElem_cons_zero, List.setIfInBounds_toArray, List.set_cons_zero, List.set_cons_succ]
              refine Rt.C_done (by kernel_rfl) ?_ _
              refine NoPanic.normal ?_
              go_wp2_with fail
              go_meet
              case rel => exact ⟨qb, g3, rfl, hr7, HV7.out, HQN.out.2.1.symm, HQN.out.1, HG3.out, HB7.out⟩
            exact Rt.AllC.nil
          exact Rt.AllC.nil
        refine Rt.AllC.cons (i := 6) (o := _) rfl (by rfl) (fun K' hK => ?_) ?_
        · skip
          have hrq : Row (v2.alloc (.cells #[.int .i64 0, .int .i64 0, .slice none 0 0] 26)) v2.heap.size 26 noPat := row_alloc v2 _ noPat
          have hbq : Below v2.heap.size v2 (v2.alloc (.cells #[.int .i64 0, .int .i64 0, .slice none 0 0] 26)) := (Below.refl _ _).alloc (Nat.le_refl _) _
          obtain ⟨qb, hqb⟩ : ∃ qb, qb = v2.heap.size := ⟨_, rfl⟩
          have hgl := HGc.out.lt
          have hul := HUc.out.lt
          have hbs := HB1.out.size
          have HQ1 : Hid (w1.heap.size ≤ qb ∧ gb ≠ qb ∧ ub ≠ qb) := Lib.hid (by omega)
          go_simp
          rw [← hqb] at hrq ⊢
          have HGc := Lib.hid (HGc.out.keep hbq hgl)
          have HUc := Lib.hid (HUc.out.keep hbq hul)
          have HB1 := Lib.hid (HB1.out.trans (hbq.mono hbs))
          have HQc := Lib.hid hrq
          have HV2 := Lib.hid (HV2.out.keep hbq)
          refine hK _ _ (fun o _ => Sc2.of ⟨HGc.out.cell 0, HGc.out.cell 1, HGc.out.cell 2, HUc.out.cell 0, HUc.out.cell 1, HUc.out.cell 2, HUc.out.cell 3, HUc.out.cell 4, HUc.out.cell 5, HUc.out.cell 6⟩ trivial o) ?_
          clear hK K'
          clear hqb hgl hul hbs hrq hbq
          generalize v2.alloc (.cells #[.int .i64 0, .int .i64 0, .slice none 0 0] 26) = v5 at *
          simp only [Act.put, List.getElem_toArray, List.getElem_cons_succ, List.getElem_cons_zero, List.setIfInBounds_toArray, List.set_cons_zero, List.set_cons_succ]
          refine Rt.C_ready (rs := [5]) (by kernel_rfl) (by simp) ?_
          refine Rt.AllC.cons (i := 5) (o := _) rfl (by rfl) (fun K' hK => ?_) ?_
          · skip
            have hbs := HB1.out.size
            go_simp
            refine (HT.out _ _ HV2.out).mono ?_
            rintro e3 v6 ⟨⟨g3, rfl, hg3, hv3⟩, hb3⟩
            have HG3 : Hid (w1.heap.size ≤ g3) := Lib.hid (Nat.le_trans hbs hg3)
            have HGc := Lib.hid (HGc.out.keep hb3 HGc.out.lt)
            have HUc := Lib.hid (HUc.out.keep hb3 HUc.out.lt)
            have hql := HQc.out.lt
            have HQc := Lib.hid (HQc.out.keep hb3 HQc.out.lt)
            have HQN : Hid (w1.heap.size ≤ qb ∧ g3 ≠ qb ∧ gb ≠ qb ∧ ub ≠ qb) := Lib.hid (by have := HQ1.out; omega)
            have HB1 := Lib.hid (HB1.out.trans (hb3.mono hbs))
            have HV3 := Lib.hid hv3
            clear hbs hg3 hv3 hb3 hql
            go_simp
            refine hK _ _ (fun o _ => Sc2.of ⟨HGc.out.cell 0, HGc.out.cell 1, HGc.out.cell 2, HUc.out.cell 0, HUc.out.cell 1, HUc.out.cell 2, HUc.out.cell 3, HUc.out.cell 4, HUc.out.cell 5, HUc.out.cell 6⟩ trivial o) ?_
            clear hK K'
            simp only [Act.put, List.getElem_toArray, List.getElem_cons_succ, List.getElem_cons_zero, List.setIfInBounds_toArray, List.set_cons_zero, List.set_cons_succ]
            refine Rt.C_ready (rs := [7]) (by kernel_rfl) (by simp) ?_
            refine Rt.AllC.cons (i := 7) (o := _) rfl (by rfl) (fun K' hK => ?_) ?_
            · skip
              refine wp_store_arr 26 _ _ rfl qb (by rfl) 26 noPat (boxP A D (some ⟨g3, 0, none⟩) N2 N2) (by rfl) HQc.out rfl infoPat (boxP_one _ _ _ _ _) ?_
              intro w7 hr7 ho7
              have HB7 := Lib.hid (HB1.out.trans (ho7.below HQN.out.1))
              have HV7 := Lib.hid (HV3.out.other ho7 HQN.out.2.1)
              have hgn : gb ≠ qb ∧ ub ≠ qb := HQN.out.2.2
              have HGc := Lib.hid (HGc.out.other ho7 hgn.1)
              have HUc := Lib.hid (HUc.out.other ho7 hgn.2)
              refine hK _ _ (fun o _ => Sc2.of ⟨HGc.out.cell 0, HGc.out.cell 1, HGc.out.cell 2, HUc.out.cell 0, HUc.out.cell 1, HUc.out.cell 2, HUc.out.cell 3, HUc.out.cell 4, HUc.out.cell 5, HUc.out.cell 6⟩ trivial o) ?_
              clear hK K'
              simp only [Act.put, List.getElem_toArray, List.getElem_cons_succ, List.getElem_cons_zero, List.setIfInBounds_toArray, List.set_cons_zero, List.set_cons_succ]
              refine Rt.C_done (by kernel_rfl) ?_ _
              refine NoPanic.normal ?_
              go_wp2_with fail
              go_meet
              case rel => exact ⟨qb, g3, rfl, hr7, HV7.out, HQN.out.2.1.symm, HQN.out.1, HG3.out, HB7.out⟩
            exact Rt.AllC.nil
          exact Rt.AllC.nil
        exact Rt.AllC.nil
      refine Rt.AllC.cons (i := 6) (o := _) rfl (by rfl) (fun K' hK => ?_) ?_
      · skip
        have hrq : Row (v1.alloc (.cells #[.int .i64 0, .int .i64 0, .slice none 0 0] 26)) v1.heap.size 26 noPat := row_alloc v1 _ noPat
        have hbq : Below v1.heap.size v1 (v1.alloc (.cells #[.int .i64 0, .int .i64 0, .slice none 0 0] 26)) := (Below.refl _ _).alloc (Nat.le_refl _) _
        obtain ⟨qb, hqb⟩ : ∃ qb, qb = v1.heap.size := ⟨_, rfl⟩
        have hgl := HGc.out.lt
        have hul := HUc.out.lt
        have hbs := HB1.out.size
        have HQ1 : Hid (w1.heap.size ≤ qb ∧ gb ≠ qb ∧ ub ≠ qb) := Lib.hid (by omega)
        go_simp
        rw [← hqb] at hrq ⊢
        have HGc := Lib.hid (HGc.out.keep hbq hgl)
        have HUc := Lib.hid (HUc.out.keep hbq hul)
        have HB1 := Lib.hid (HB1.out.trans (hbq.mono hbs))
        have HQc := Lib.hid hrq
        have HV1 := Lib.hid (HV1.out.keep hbq)
        refine hK _ _ (fun o _ => Sc2.of ⟨HGc.out.cell 0, HGc.out.cell 1, HGc.out.cell 2, HUc.out.cell 0, HUc.out.cell 1, HUc.out.cell 2, HUc.out.cell 3, HUc.out.cell 4, HUc.out.cell 5, HUc.out.cell 6⟩ trivial o) ?_
        clear hK K'
        clear hqb hgl hul hbs hrq hbq
        generalize v1.alloc (.cells #[.int .i64 0, .int .i64 0, .slice none 0 0] 26) = v7 at *
        simp only [Act.put, List.getElem_toArray, List.getElem_cons_succ, List.getElem_cons_zero, List.setIfInBounds_toArray, List.set_cons_zero, List.set_cons_succ]
        refine Rt.C_ready (rs := [4]) (by kernel_rfl) (by simp) ?_
        refine Rt.AllC.cons (i := 4) (o := _) rfl (by rfl) (fun K' hK => ?_) ?_
        · skip
          have hbs := HB1.out.size
          go_simp
          refine (HA2.out _ _ HV1.out).mono ?_
          rintro e2 v8 ⟨⟨g2, rfl, hg2, hv2⟩, hb2⟩
          have HG2 : Hid (w1.heap.size ≤ g2) := Lib.hid (Nat.le_trans hbs hg2)
          have HGc := Lib.hid (HGc.out.keep hb2 HGc.out.lt)
          have HUc := Lib.hid (HUc.out.keep hb2 HUc.out.lt)
          have hql := HQc.out.lt
          have HQc := Lib.hid (HQc.out.keep hb2 HQc.out.lt)
          have HB1 := Lib.hid (HB1.out.trans (hb2.mono hbs))
          have HV2 := Lib.hid hv2
          clear hbs hg2 hv2 hb2 hql
          go_simp
          refine hK _ _ (fun o _ => Sc2.of ⟨HGc.out.cell 0, HGc.out.cell 1, HGc.out.cell 2, HUc.out.cell 0, HUc.out.cell 1, HUc.out.cell 2, HUc.out.cell 3, HUc.out.cell 4, HUc.out.cell 5, HUc.out.cell 6⟩ trivial o) ?_
          clear hK K'
          simp only [Act.put, List.getElem_toArray, List.getElem_cons_succ, List.getElem_cons_zero, List.setIfInBounds_toArray, List.set_cons_zero, List.set_cons_succ]
          refine Rt.C_ready (rs := [5]) (by kernel_rfl) (by simp) ?_
          refine Rt.AllC.cons (i := 5) (o := _) rfl (by rfl) (fun K' hK => ?_) ?_
          · skip
            have hbs := HB1.out.size
            go_simp
            refine (HT.out _ _ HV2.out).mono ?_
            rintro e3 v9 ⟨⟨g3, rfl, hg3, hv3⟩, hb3⟩
            have HG3 : Hid (w1.heap.size ≤ g3) := Lib.hid (Nat.le_trans hbs hg3)
            have HGc := Lib.hid (HGc.out.keep hb3 HGc.out.lt)
            have HUc := Lib.hid (HUc.out.keep hb3 HUc.out.lt)
            have hql := HQc.out.lt
            have HQc := Lib.hid (HQc.out.keep hb3 HQc.out.lt)
            have HQN : Hid (w1.heap.size ≤ qb ∧ g3 ≠ qb ∧ gb ≠ qb ∧ ub ≠ qb) := Lib.hid (by have := HQ1.out; omega)
            have HB1 := Lib.hid (HB1.out.trans (hb3.mono hbs))
            have HV3 := Lib.hid hv3
            clear hbs hg3 hv3 hb3 hql
            go_simp
            refine hK _ _ (fun o _ => Sc2.of ⟨HGc.out.cell 0, HGc.out.cell 1, HGc.out.cell 2, HUc.out.cell 0, HUc.out.cell 1, HUc.out.cell 2, HUc.out.cell 3, HUc.out.cell 4, HUc.out.cell 5, HUc.out.cell 6⟩ trivial o) ?_
            clear hK K'
            simp only [Act.put, List.getElem_toArray, List.getElem_cons_succ, List.getElem_cons_zero, List.setIfInBounds_toArray, List.set_cons_zero, List.set_cons_succ]
            refine Rt.C_ready (rs := [7]) (by kernel_rfl) (by simp) ?_
            refine Rt.AllC.cons (i := 7) (o := _) rfl (by rfl) (fun K' hK => ?_) ?_
            · skip
              refine wp_store_arr 26 _ _ rfl qb (by rfl) 26 noPat (boxP A D (some ⟨g3, 0, none⟩) N2 N2) (by rfl) HQc.out rfl infoPat (boxP_one _ _ _ _ _) ?_
              intro w7 hr7 ho7
              have HB7 := Lib.hid (HB1.out.trans (ho7.below HQN.out.1))
              have HV7 := Lib.hid (HV3.out.other ho7 HQN.out.2.1)
              have hgn : gb ≠ qb ∧ ub ≠ qb := HQN.out.2.2
              have HGc := Lib.hid (HGc.out.other ho7 hgn.1)
              have HUc := Lib.hid (HUc.out.other ho7 hgn.2)
              refine hK _ _ (fun o _ => Sc2.of ⟨HGc.out.cell 0, HGc.out.cell 1, HGc.out.cell 2, HUc.out.cell 0, HUc.out.cell 1, HUc.out.cell 2, HUc.out.cell 3, HUc.out.cell 4, HUc.out.cell 5, HUc.out.cell 6⟩ trivial o) ?_
              clear hK K'
              simp only [Act.put, List.getElem_toArray, List.getElem_cons_succ, List.getElem_cons_zero, List.setIfInBounds_toArray, List.set_cons_zero, List.set_cons_succ]
              refine Rt.C_done (by kernel_rfl) ?_ _
              refine NoPanic.normal ?_
              go_wp2_with fail
              go_meet
              case rel => exact ⟨qb, g3, rfl, hr7, HV7.out, HQN.out.2.1.symm, HQN.out.1, HG3.out, HB7.out⟩
            exact Rt.AllC.nil
          exact Rt.AllC.nil
        exact Rt.AllC.nil
      exact Rt.AllC.nil
    refine Rt.AllC.cons (i := 6) (o := _) rfl (by rfl) (fun K' hK => ?_) ?_
    · skip
      have hrq : Row (v0.alloc (.cells #[.int .i64 0, .int .i64 0, .slice none 0 0] 26)) v0.heap.size 26 noPat := row_alloc v0 _ noPat
      have hbq : Below v0.heap.size v0 (v0.alloc (.cells #[.int .i64 0, .int .i64 0, .slice none 0 0] 26)) := (Below.refl _ _).alloc (Nat.le_refl _) _
      obtain ⟨qb, hqb⟩ : ∃ qb, qb = v0.heap.size := ⟨_, rfl⟩
      have hgl := HGc.out.lt
      have hul := HUc.out.lt
      have hbs := HB1.out.size
      have HQ1 : Hid (w1.heap.size ≤ qb ∧ gb ≠ qb ∧ ub ≠ qb) := Lib.hid (by omega)
      go_simp
      rw [← hqb] at hrq ⊢
      have HGc := Lib.hid (HGc.out.keep hbq hgl)
      have HUc := Lib.hid (HUc.out.keep hbq hul)
      have HB1 := Lib.hid (HB1.out.trans (hbq.mono hbs))
      have HQc := Lib.hid hrq
      refine hK _ _ (fun o _ => Sc2.of ⟨HGc.out.cell 0, HGc.out.cell 1, HGc.out.cell 2, HUc.out.cell 0, HUc.out.cell 1, HUc.out.cell 2, HUc.out.cell 3, HUc.out.cell 4, HUc.out.cell 5, HUc.out.cell 6⟩ trivial o) ?_
      clear hK K'
      clear hqb hgl hul hbs hrq hbq
      generalize v0.alloc (.cells #[.int .i64 0, .int .i64 0, .slice none 0 0] 26) = v10 at *
      simp only [Act.put, List.getElem_toArray, List.getElem_cons_succ, List.getElem_cons_zero, List.setIfInBounds_toArray, List.set_cons_zero, List.set_cons_succ]
      refine Rt.C_ready (rs := [3]) (by kernel_rfl) (by simp) ?_
      refine Rt.AllC.cons (i := 3) (o := _) rfl (by rfl) (fun K' hK => ?_) ?_
      · skip
        have hbs := HB1.out.size
        go_simp
        refine (HA1.out _ (HB.out.trans (HB1.out.mono HB.out.size))).mono ?_
        rintro e1 v11 ⟨⟨g1, rfl, hg1, hv1⟩, hb1⟩
        have HG1 : Hid (w1.heap.size ≤ g1) := Lib.hid (Nat.le_trans hbs hg1)
        have HGc := Lib.hid (HGc.out.keep hb1 HGc.out.lt)
        have HUc := Lib.hid (HUc.out.keep hb1 HUc.out.lt)
        have hql := HQc.out.lt
        have HQc := Lib.hid (HQc.out.keep hb1 HQc.out.lt)
        have HB1 := Lib.hid (HB1.out.trans (hb1.mono hbs))
        have HV1 := Lib.hid hv1
        clear hbs hg1 hv1 hb1 hql
        go_simp
        refine hK _ _ (fun o _ => Sc2.of ⟨HGc.out.cell 0, HGc.out.cell 1, HGc.out.cell 2, HUc.out.cell 0, HUc.out.cell 1, HUc.out.cell 2, HUc.out.cell 3, HUc.out.cell 4, HUc.out.cell 5, HUc.out.cell 6⟩ trivial o) ?_
        clear hK K'
        simp only [Act.put, List.getElem_toArray, List.getElem_cons_succ, List.getElem_cons_zero, List.setIfInBounds_toArray, List.set_cons_zero, List.set_cons_succ]
        refine Rt.C_ready (rs := [4]) (by kernel_rfl) (by simp) ?_
        refine Rt.AllC.cons (i := 4) (o := _) rfl (by rfl) (fun K' hK => ?_) ?_
        · skip
          have hbs := HB1.out.size
          go_simp
          refine (HA2.out _ _ HV1.out).mono ?_
          rintro e2 v12 ⟨⟨g2, rfl, hg2, hv2⟩, hb2⟩
          have HG2 : Hid (w1.heap.size ≤ g2) := Lib.hid (Nat.le_trans hbs hg2)
          have HGc := Lib.hid (HGc.out.keep hb2 HGc.out.lt)
          have HUc := Lib.hid (HUc.out.keep hb2 HUc.out.lt)
          have hql := HQc.out.lt
          have HQc := Lib.hid (HQc.out.keep hb2 HQc.out.lt)
          have HB1 := Lib.hid (HB1.out.trans (hb2.mono hbs))
          have HV2 := Lib.hid hv2
          clear hbs hg2 hv2 hb2 hql
          go_simp
          refine hK _ _ (fun o _ => Sc2.of ⟨HGc.out.cell 0, HGc.out.cell 1, HGc.out.cell 2, HUc.out.cell 0, HUc.out.cell 1, HUc.out.cell 2, HUc.out.cell 3, HUc.out.cell 4, HUc.out.cell 5, HUc.out.cell 6⟩ trivial o) ?_
          clear hK K'
          simp only [Act.put, List.getElem_toArray, List.getElem_cons_succ, List.getElem_cons_zero, List.setIfInBounds_toArray, List.set_cons_zero, List.set_cons_succ]
          refine Rt.C_ready (rs := [5]) (by kernel_rfl) (by simp) ?_
          refine Rt.AllC.cons (i := 5) (o := _) rfl (by rfl) (fun K' hK => ?_) ?_
          · skip
            have hbs := HB1.out.size
            go_simp
            refine (HT.out _ _ HV2.out).mono ?_
            rintro e3 v13 ⟨⟨g3, rfl, hg3, hv3⟩, hb3⟩
            have HG3 : Hid (w1.heap.size ≤ g3) := Lib.hid (Nat.le_trans hbs hg3)
            have HGc := Lib.hid (HGc.out.keep hb3 HGc.out.lt)
            have HUc := Lib.hid (HUc.out.keep hb3 HUc.out.lt)
            have hql := HQc.out.lt
            have HQc := Lib.hid (HQc.out.keep hb3 HQc.out.lt)
            have HQN : Hid (w1.heap.size ≤ qb ∧ g3 ≠ qb ∧ gb ≠ qb ∧ ub ≠ qb) := Lib.hid (by have := HQ1.out; omega)
            have HB1 := Lib.hid (HB1.out.trans (hb3.mono hbs))
            have HV3 := Lib.hid hv3
            clear hbs hg3 hv3 hb3 hql
            go_simp
            refine hK _ _ (fun o _ => Sc2.of ⟨HGc.out.cell 0, HGc.out.cell 1, HGc.out.cell 2, HUc.out.cell 0, HUc.out.cell 1, HUc.out.cell 2, HUc.out.cell 3, HUc.out.cell 4, HUc.out.cell 5, HUc.out.cell 6⟩ trivial o) ?_
            clear hK K'
            simp only [Act.put, List.getElem_toArray, List.getElem_cons_succ, List.getElem_cons_zero, List.setIfInBounds_toArray, List.set_cons_zero, List.set_cons_succ]
            refine Rt.C_ready (rs := [7]) (by kernel_rfl) (by simp) ?_
            refine Rt.AllC.cons (i := 7) (o := _) rfl (by rfl) (fun K' hK => ?_) ?_
            · skip
              refine wp_store_arr 26 _ _ rfl qb (by rfl) 26 noPat (boxP A D (some ⟨g3, 0, none⟩) N2 N2) (by rfl) HQc.out rfl infoPat (boxP_one _ _ _ _ _) ?_
              intro w7 hr7 ho7
              have HB7 := Lib.hid (HB1.out.trans (ho7.below HQN.out.1))
              have HV7 := Lib.hid (HV3.out.other ho7 HQN.out.2.1)
              have hgn : gb ≠ qb ∧ ub ≠ qb := HQN.out.2.2
              have HGc := Lib.hid (HGc.out.other ho7 hgn.1)
              have HUc := Lib.hid (HUc.out.other ho7 hgn.2)
              refine hK _ _ (fun o _ => Sc2.of ⟨HGc.out.cell 0, HGc.out.cell 1, HGc.out.cell 2, HUc.out.cell 0, HUc.out.cell 1, HUc.out.cell 2, HUc.out.cell 3, HUc.out.cell 4, HUc.out.cell 5, HUc.out.cell 6⟩ trivial o) ?_
              clear hK K'
              simp only [Act.put, List.getElem_toArray, List.getElem_cons_succ, List.getElem_cons_zero, List.setIfInBounds_toArray, List.set_cons_zero, List.set_cons_succ]
              refine Rt.C_done (by kernel_rfl) ?_ _
              refine NoPanic.normal ?_
              go_wp2_with fail
              go_meet
              case rel => exact ⟨qb, g3, rfl, hr7, HV7.out, HQN.out.2.1.symm, HQN.out.1, HG3.out, HB7.out⟩
            exact Rt.AllC.nil
          exact Rt.AllC.nil
        exact Rt.AllC.nil
      exact Rt.AllC.nil
    exact Rt.AllC.nil
  case rest =>
  clear HA1 HA2 HT HZ
  obtain ⟨qb, ob, rfl, hq, hv, hqo, hqw, how, hbw⟩ := hcut
  obtain ⟨wb, hwb⟩ : ∃ wb : World, wb = wc := ⟨_, rfl⟩
  rw [← hwb] at hq hv hbw
  have hg0 := HG.out.keep hbw HG.out.lt
  have hr0 := HR.out.keep hbw HR.out.lt
  have FG := Lib.hid (fun w2 (h : Below wb.heap.size wb w2) => hg0.keep h hg0.lt)
  have FR := Lib.hid (fun w2 (h : Below wb.heap.size wb w2) => hr0.keep h hr0.lt)
  have FQ := Lib.hid (fun w2 (h : Below wb.heap.size wb w2) => hq.keep h hq.lt)
  have hvi := hv.flat HAD.out.2.2 (by unfold maxLen; omega)
  have HZ := Lib.hid (fun w2 (h : Below wb.heap.size wb w2) => hvi.keep h)
  have HW := Lib.hid (HB.out.trans (hbw.mono HB.out.size))
  have HLT : Hid (gb < wb.heap.size ∧ rb < wb.heap.size ∧ qb < wb.heap.size ∧ w.heap.size ≤ wb.heap.size) := Lib.hid ⟨hg0.lt, hr0.lt, hq.lt, HW.out.size⟩
  have HB : Hid (Below wb.heap.size wb wb) := Lib.hid (Below.refl _ _)
  rw [← hwb]
  clear hg0 hr0 hq hv hvi hqo hqw how hbw hwb HG HU HR
  --}
  --{arrays
  have hq5 := FQ.out _ HB.out
  have f0 := hq5.cell 0
  have f1 := hq5.cell 1
  unfold boxP at f0 f1
  dsimp only [List.getElem?_cons_succ, List.getElem?_cons_zero] at f0 f1
  go_upto_region 5 with fail
  have ht0 : Row (wb.alloc (.cells #[.int .i64 0, .int .i64 0, .slice none 0 0, .int .i64 0, .int .i64 0] 69)) wb.heap.size 69 noGrown := row_alloc wb _ noGrown
  have hbt : Below wb.heap.size wb (wb.alloc (.cells #[.int .i64 0, .int .i64 0, .slice none 0 0, .int .i64 0, .int .i64 0] 69)) := (Below.refl _ _).alloc (Nat.le_refl _) _
  have HT := Lib.hid ht0
  have HB := Lib.hid hbt
  clear ht0 hbt hq5 f0 f1
  generalize wb.alloc (.cells #[.int .i64 0, .int .i64 0, .slice none 0 0, .int .i64 0, .int .i64 0] 69) = w1' at *
  obtain ⟨tb, htb⟩ : ∃ tb, tb = wb.heap.size := ⟨_, rfl⟩
  rw [← htb] at HT ⊢
  have htl := HT.out.lt
  have hq5 := FQ.out _ HB.out
  have f0 := hq5.cell 0
  have f1 := hq5.cell 1
  unfold boxP at f0 f1
  dsimp only [List.getElem?_cons_succ, List.getElem?_cons_zero] at f0 f1
  obtain ⟨hl0, hh0, hb0⟩ := two_new w1' 90 90 (two 0 0) (two 0 0)
  have hql : qb < w1'.heap.size := hq5.lt
  go_upto_region 6 with (first | (refine Ops.wpList_store_arr rfl 90 _ _ rfl w1'.heap.size rfl 90 (two 0 0) (two A D) rfl hl0 rfl infoArr2 (two_one _ _) ?_; intro w2 hl2 ho2) | (refine Ops.wpList_store_arr rfl 90 _ _ rfl (w1'.heap.size + 1) rfl 90 (two 0 0) (two (-1) (-1)) rfl (hh0.other ho2 (Nat.succ_ne_self _)) rfl infoArr2 (two_one _ _) ?_; intro w3 hh3 ho3))
  clear f0 f1 hq5
  have HL : Hid (Row w3 w1'.heap.size 90 (two A D)) := Lib.hid (hl2.other ho3 (Nat.succ_ne_self _).symm)
  have HH : Hid (Row w3 (w1'.heap.size + 1) 90 (two (-1) (-1))) := Lib.hid hh3
  have hb3 : Below w1'.heap.size w1' w3 := (hb0.trans (ho2.below (Nat.le_refl _))).trans (ho3.below (Nat.le_succ _))
  have HT := Lib.hid (HT.out.keep hb3 HT.out.lt)
  have hsz := HB.out.size
  have HB := Lib.hid (HB.out.trans (hb3.mono HB.out.size))
  obtain ⟨lb, hlb⟩ : ∃ lb, lb = w1'.heap.size := ⟨_, rfl⟩
  rw [← hlb] at HL HH ⊢
  obtain ⟨hb, hhb⟩ : ∃ hb, hb = lb + 1 := ⟨_, rfl⟩
  rw [← hhb] at HH ⊢
  have HLH : Hid ((lb ≠ hb ∧ lb ≠ tb ∧ hb ≠ tb) ∧ wb.heap.size ≤ lb ∧ wb.heap.size ≤ hb ∧ wb.heap.size ≤ tb) := Lib.hid (by omega)
  clear hlb hhb hl0 hh0 hb0 hl2 ho2 hh3 ho3 hb3 htl hsz htb hql
  --}
  have hq5 := FQ.out _ HB.out
  have f2 := hq5.cell 2
  unfold boxP at f2
  dsimp only [List.getElem?_cons_succ, List.getElem?_cons_zero] at f2
  go_wp2_with fail
  clear f2 hq5
  go_loopw [35] (fun v wr => ∃ k : Nat, ∃ l t r b : Int, k ≤ N2 ∧ v = .int .i64 (k : Nat) ∧ Row wr tb 69 noGrown ∧ Row wr lb 90 (two l t) ∧ Row wr hb 90 (two r b) ∧ BB A D F k l t r b ∧ Below wb.heap.size wb wr) (fun v _ => N2 - (RowKit.intOf v).toNat)
  case atStart => exact ⟨0, _, _, _, _, Nat.zero_le _, rfl, HT.out, HL.out, HH.out, BB.zero, HB.out⟩
  case round =>
    clear HT HL HH HB
    obtain ⟨k, l, t, r, b, hk, rfl, ht, hl, hh, hbb, hbw⟩ := hrel
    have HT := Lib.hid ht
    have HL := Lib.hid hl
    have HH := Lib.hid hh
    have HBB := Lib.hid hbb
    have HB := Lib.hid hbw
    clear ht hl hh hbb hbw
    by_cases hkn : k < N2
    · --{cell
      have hk2 : (k : Int) < (N2 : Int) := by omega
      have HKN := Lib.hid hkn
      have hWp : 0 < A := by
        have := HAD.out.2.2
        rcases Nat.eq_zero_or_pos A with h | h
        · rw [h, Nat.zero_mul] at this; omega
        · exact h
      obtain ⟨x, hx⟩ : ∃ x, x = k % A := ⟨_, rfl⟩
      obtain ⟨y, hy⟩ : ∃ y, y = k / A := ⟨_, rfl⟩
      have hxW : x < A := by rw [hx]; exact Nat.mod_lt _ hWp
      have hyH : y < D := by rw [hy]; exact Nat.div_lt_of_lt_mul (by rw [← HAD.out.2.2]; exact hkn)
      obtain ⟨ab, ao, habe, _, cg⟩ := (HZ.out wr HB.out).cells k hkn
      cases habe
      dsimp only at cg
      rw [Nat.zero_add] at cg
      rw [flat_get (by rw [← HAD.out.2.2]; exact hkn), ← hx, ← hy] at cg
      obtain ⟨cv, hcv⟩ : ∃ cv, cv = F x y := ⟨_, rfl⟩
      rw [← hcv] at cg
      have hcv2 : cv < 2 := by rw [hcv]; exact HFL.out x y
      by_cases hc1 : cv = 1
      · subst hc1
        have HBN : Hid (BB A D F (k + 1) (min l x) (min t y) (max r x) (max b y)) := Lib.hid (HBB.out.live (by rw [← hx, ← hy, ← hcv]; decide) hx hy hxW hyH)
        have hxm : (k : Int).tmod (A : Int) = (x : Int) := by rw [hx]; exact Int.ofNat_tmod _ _
        have hyd : (k : Int).tdiv (A : Int) = (y : Int) := by rw [hy]; exact Int.ofNat_tdiv _ _
        have hW0 : ¬ (A : Int) = 0 := by omega
        have hW0b : ((A : Int) == 0) = false := beq_eq_false_iff_ne.2 hW0
        have hWm : ¬ (A : Int) = -1 := by omega
        have hyw : wrap64 (y : Int) = (y : Int) := wr_nat rfl (by have := HAD.out; omega)
        have hyw' := wr_same hyw
        have hq5 := FQ.out _ HB.out
        have f0 := hq5.cell 0
        unfold boxP at f0
        dsimp only [List.getElem?_cons_succ, List.getElem?_cons_zero] at f0
        clear hkn hx hy hxW hyH hcv hcv2 hq5
        go_upto_region 10 with fail
        clear cg
        go_big_quiet (fail)
        clear f0 hxm hyd hW0 hW0b hWm hyw hyw'
        have HL := Lib.hid (HL.out.drewN nq)
        have HH := Lib.hid (HH.out.drewN nq)
        have HT := Lib.hid (HT.out.drewN nq)
        have HB : Hid (Below wb.heap.size wb (wr.drewN nq)) := Lib.hid (HB.out.trans ⟨rfl, rfl, rfl, Nat.le_refl _, fun _ _ => rfl⟩)
        generalize wr.drewN nq = w4 at *
        have l0 := HL.out.cell 0
        have l1 := HL.out.cell 1
        unfold two at l0 l1
        dsimp only [List.getElem?_cons_succ, List.getElem?_cons_zero] at l0 l1
        go_upto_region 11 with fail
        go_cut [] (fun wx => Row wx lb 90 (two (min l x) (min t y)) ∧ Only lb w4 wx)
        case first =>
          go_wp2_with (refine Ops.wpList_store_arr rfl 90 _ _ rfl lb rfl 90 (two l t) _ rfl HL.out rfl infoArr2 (two_one _ _) ?_; intro w5 hl5 ho5)
          all_goals
            go_meet
            case rel => exact ⟨row_two hl5 (by omega) (by omega), ho5⟩
        case rest =>
        obtain ⟨hl5, ho5⟩ := hcut
        have HH := Lib.hid (HH.out.other ho5 HLH.out.1.1.symm)
        have HT := Lib.hid (HT.out.other ho5 HLH.out.1.2.1.symm)
        have HB := Lib.hid (HB.out.trans (ho5.below HLH.out.2.1))
        have HL := Lib.hid hl5
        clear hl5 ho5 l0 l1
        have l0 := HH.out.cell 0
        have l1 := HH.out.cell 1
        unfold two at l0 l1
        dsimp only [List.getElem?_cons_succ, List.getElem?_cons_zero] at l0 l1
        generalize wc = w6 at *
        go_wp2_with (refine Ops.wpList_store_arr rfl 90 _ _ rfl hb rfl 90 (two r b) _ rfl HH.out rfl infoArr2 (two_one _ _) ?_; intro w5 hl5 ho5)
        all_goals
          have HL := Lib.hid (HL.out.other ho5 HLH.out.1.1)
          have HT := Lib.hid (HT.out.other ho5 HLH.out.1.2.2.symm)
          have HB := Lib.hid (HB.out.trans (ho5.below HLH.out.2.2.1))
          have HH : Hid (Row w5 hb 90 (two (max r x) (max b y))) := Lib.hid (row_two hl5 (by omega) (by omega))
          clear hl5 ho5 l0 l1
          go_roundw
          case rel => exact ⟨k + 1, _, _, _, _, HKN.out, by go_num, HT.out, HL.out, HH.out, HBN.out, HB.out⟩
          case measure => have := HKN.out; simp [RowKit.intOf]; omega
      · obtain rfl : cv = 0 := by omega
        have HBN : Hid (BB A D F (k + 1) l t r b) := Lib.hid (HBB.out.dead (by rw [← hx, ← hy, ← hcv]))
        clear hkn hx hy hxW hyH hcv hcv2 hc1
        go_wp2_with fail
        go_roundw
        case rel => exact ⟨k + 1, _, _, _, _, HKN.out, by go_num, HT.out, HL.out, HH.out, HBN.out, HB.out⟩
        case measure => have := HKN.out; simp [RowKit.intOf]; omega
      --}
    · --{done
      obtain rfl : k = N2 := by omega
      have hnl : ¬ (k : Int) < (k : Int) := by omega
      have HE : Hid (BB A D F (A * D) l t r b) := Lib.hid (by rw [← HAD.out.2.2]; exact HBB.out)
      clear HBB
      have l5 : wr.rangeAt hb 0 [.int .i64 r, .int .i64 b] := row_range HH.out
      by_cases hr0 : r < 0
      · have hrb := HE.out.minus hr0
        have HNO := Lib.hid (HE.out.none hr0)
        have heq : ∀ w2, (Op.equalIn 10000 90 (.agg #[.int .i64 r, .int .i64 b]) (.agg #[.int .i64 (-1), .int .i64 (-1)])).run Tryd.prog w2 = .ok true w2 := fun w2 => by
          rw [eqArr, hrb.1, hrb.2]; rfl
        have HR := Lib.hid (FR.out _ HB.out)
        have l6 : wr.rangeAt tb 0 noGrown := row_range HT.out
        clear hrb hr0
        go_wp2_with (first | (refine wpList_load_mid rfl 90 _ rfl hb 0 rfl _ _ l5 Tryd.underlying90 rfl infoArr2 ?_) | (refine wpList_load_mid rfl 69 _ rfl tb 0 rfl _ _ l6 Tryd.underlying69 rfl infoGrown ?_) | (refine Ops.wpList_store_arr rfl 69 _ _ rfl rb rfl 69 _ noGrown rfl HR.out rfl infoGrown (boxN_one _ _ _ _ _ _ _) ?_; intro w5 hrow5 hon5))
        refine bodyPost_ret (results_grown2 (t := 4) (u := 5) (e := .nilIface) rfl _ _ hrow5 rfl rfl rfl) rfl ⟨⟨0, 0, none, 0, 0, 0, 0, .nilIface, rfl, fun _ _ => 0, HNI.out _ _ _ _ _ _ (.inl ⟨rfl, rfl, rfl, rfl, rfl, HNO.out⟩), fun _ => ⟨rfl, Nat.le_refl _, Nat.zero_le _, ⟨by rw [flat_len], fun i hi => absurd hi (Nat.not_lt_zero _), Nat.zero_le _⟩, fun b o e => by cases e⟩⟩, (HW.out.trans (HB.out.mono HLT.out.2.2.2)).trans (hon5.below HGU.out.2.2.1)⟩
      · obtain ⟨l', t', r', b', rfl, rfl, rfl, rfl, hgb⟩ := HE.out.box hr0
        have heq : ∀ w2, (Op.equalIn 10000 90 (.agg #[.int .i64 (r' : Nat), .int .i64 (b' : Nat)]) (.agg #[.int .i64 (-1), .int .i64 (-1)])).run Tryd.prog w2 = .ok false w2 := fun w2 => by
          rw [eqArr, show ((r' : Int) == -1) = false from beq_eq_false_iff_ne.2 (by omega)]; rfl
        have HGX := Lib.hid hgb
        have hlr := hgb.lr
        have htb := hgb.tb
        obtain ⟨w', hw'⟩ : ∃ w', w' = r' - l' + 1 := ⟨_, rfl⟩
        obtain ⟨h', hh'⟩ : ∃ h', h' = b' - t' + 1 := ⟨_, rfl⟩
        have hW3 := HAD.out.1
        have hH3 := HAD.out.2.1
        obtain ⟨p1, hp1⟩ : ∃ p1, p1 = r' - l' := ⟨_, rfl⟩
        obtain ⟨p2, hp2⟩ : ∃ p2, p2 = b' - t' := ⟨_, rfl⟩
        have hp12 : p1 ≤ 104 ∧ p2 ≤ 104 ∧ w' ≤ 104 ∧ h' ≤ 104 := by omega
        have HLR := Lib.hid hlr
        have HTB := Lib.hid htb
        have HP12 := Lib.hid hp12
        have a1 : wrap64 ((r' : Int) - (l' : Int)) = (p1 : Int) := wr_nat (by omega) (by omega)
        have a2 : wrap64 ((b' : Int) - (t' : Int)) = (p2 : Int) := wr_nat (by clear a1; omega) (by clear a1; omega)
        have a3 : wrap64 ((p1 : Int) + 1) = (w' : Int) := wr_nat (by clear a1 a2; omega) (by clear a1 a2; omega)
        have a4 : wrap64 ((p2 : Int) + 1) = (h' : Int) := wr_nat (by clear a1 a2 a3; omega) (by clear a1 a2 a3; omega)
        have HWE := Lib.hid hw'
        have HHE := Lib.hid hh'
        have l0 := HH.out.cell 0
        have l1 := HH.out.cell 1
        have m0 := HL.out.cell 0
        have m1 := HL.out.cell 1
        unfold two at l0 l1 m0 m1
        dsimp only [List.getElem?_cons_succ, List.getElem?_cons_zero] at l0 l1 m0 m1
        clear hgb hlr htb hw' hh' hW3 hH3 hp1 hp2 hp12 hr0 hnl
        go_upto_region 16 with (refine wpList_load_mid rfl 90 _ rfl hb 0 rfl _ _ l5 Tryd.underlying90 rfl infoArr2 ?_)
        clear heq l5
        go_upto_region 17 with (refine wpList_store_part rfl 26 _ _ rfl tb 0 rfl 69 _ (boxP (w' : Nat) (h' : Nat) none 0 0) rfl HT.out (Nat.le_of_ble_eq_true rfl) infoPat (boxP_one _ _ _ _ _) ?_; intro w5 hrow5 hon5)
        clear a1 a2 a3 a4 l0 l1 m0 m1
        have HT : Hid (Row w5 tb 69 (boxN (w' : Nat) (h' : Nat) none 0 0 0 0)) := Lib.hid hrow5
        have HL := Lib.hid (HL.out.other hon5 HLH.out.1.2.1)
        have HH := Lib.hid (HH.out.other hon5 HLH.out.1.2.2)
        have HB := Lib.hid (HB.out.trans (hon5.below HLH.out.2.2.2))
        clear hrow5 hon5
        have t0 := HT.out.cell 0
        have t1 := HT.out.cell 1
        unfold boxN at t0 t1
        dsimp only [List.getElem?_cons_succ, List.getElem?_cons_zero] at t0 t1
        by_cases hbig : 100 < w' ∨ 100 < h'
        · have HBG := Lib.hid hbig
          have HR := Lib.hid (FR.out _ HB.out)
          have l6 : w5.rangeAt tb 0 (boxN (w' : Nat) (h' : Nat) none 0 0 0 0) := row_range HT.out
          rcases (show 100 < w' ∨ (w' ≤ 100 ∧ 100 < h') by omega) with hb1 | ⟨hb1, hb2⟩
          · have hbi : (100 : Int) < (w' : Int) := by omega
            clear hbig hb1
            go_wp2_with (first | (refine wpList_load_mid rfl 69 _ rfl tb 0 rfl _ _ l6 Tryd.underlying69 rfl infoGrown ?_) | (refine Ops.wpList_store_arr rfl 69 _ _ rfl rb rfl 69 _ (boxN (w' : Nat) (h' : Nat) none 0 0 0 0) rfl HR.out rfl infoGrown (boxN_one _ _ _ _ _ _ _) ?_; intro w6 hrow6 hon6))
            refine bodyPost_ret (results_grown2 (t := 4) (u := 5) (e := errV 4) rfl _ _ hrow6 rfl rfl rfl) rfl ⟨⟨w', h', none, 0, 0, 0, 0, errV 4, rfl, fun _ _ => 0, HNI.out _ _ _ _ _ _ (.inr ⟨l', t', r', b', HGX.out, HWE.out, HHE.out, .inl ⟨rfl, HBG.out⟩⟩), fun h => by cases h⟩, (HW.out.trans (HB.out.mono HLT.out.2.2.2)).trans (hon6.below HGU.out.2.2.1)⟩
          · have hbi : ¬ (100 : Int) < (w' : Int) := by omega
            have hbj : (100 : Int) < (h' : Int) := by omega
            clear hbig hb1 hb2
            go_wp2_with (first | (refine wpList_load_mid rfl 69 _ rfl tb 0 rfl _ _ l6 Tryd.underlying69 rfl infoGrown ?_) | (refine Ops.wpList_store_arr rfl 69 _ _ rfl rb rfl 69 _ (boxN (w' : Nat) (h' : Nat) none 0 0 0 0) rfl HR.out rfl infoGrown (boxN_one _ _ _ _ _ _ _) ?_; intro w6 hrow6 hon6))
            refine bodyPost_ret (results_grown2 (t := 4) (u := 5) (e := errV 4) rfl _ _ hrow6 rfl rfl rfl) rfl ⟨⟨w', h', none, 0, 0, 0, 0, errV 4, rfl, fun _ _ => 0, HNI.out _ _ _ _ _ _ (.inr ⟨l', t', r', b', HGX.out, HWE.out, HHE.out, .inl ⟨rfl, HBG.out⟩⟩), fun h => by cases h⟩, (HW.out.trans (HB.out.mono HLT.out.2.2.2)).trans (hon6.below HGU.out.2.2.1)⟩
        · have HSM : Hid (w' ≤ 100 ∧ h' ≤ 100) := Lib.hid (by omega)
          have hbi : ¬ (100 : Int) < (w' : Int) := by omega
          have hbj : ¬ (100 : Int) < (h' : Int) := by omega
          have m1 := HL.out.cell 1
          unfold two at m1
          dsimp only [List.getElem?_cons_succ, List.getElem?_cons_zero] at m1
          clear hbig
          go_wp2_with fail
          clear m1 hbi hbj t0 t1
          --{rows
          have HO0 : Hid (w5.ownsRow wb.heap.size 3 1 (.slice none 0 0) (w' * 0) ((flat w' 0 (fun x y => F (l' + x) (t' + y))).map (Value.int .i64))) := Lib.hid (by rw [flat_none]; exact own_nil _ _)
          go_loopw [14] (fun v wr => ∃ i : Nat, ∃ vs : Value, i ≤ h' ∧ v = .int .i64 ((t' + i : Nat) : Int) ∧ Row wr tb 69 [.int .i64 (w' : Nat), .int .i64 (h' : Nat), vs, .int .i64 0, .int .i64 0] ∧ Row wr lb 90 (two l' t') ∧ Row wr hb 90 (two r' b') ∧ wr.ownsRow wb.heap.size 3 1 vs (w' * i) ((flat w' i (fun x y => F (l' + x) (t' + y))).map (Value.int .i64)) ∧ Below wb.heap.size wb wr) (fun v _ => t' + h' - (RowKit.intOf v).toNat)
          case atStart => exact ⟨0, .slice none 0 0, Nat.zero_le _, rfl, HT.out, HL.out, HH.out, HO0.out, HB.out⟩
          case round =>
            clear HT HL HH HB HO0
            obtain ⟨i, vs, hi, rfl, ht, hl, hh, ho, hbw⟩ := hrel
            have HT := Lib.hid ht
            have HL := Lib.hid hl
            have HH := Lib.hid hh
            have HO := Lib.hid ho
            have HB := Lib.hid hbw
            clear ht hl hh ho hbw
            have l1 := HH.out.cell 1
            unfold two at l1
            dsimp only [List.getElem?_cons_succ, List.getElem?_cons_zero] at l1
            obtain ⟨yy, hyy⟩ : ∃ yy, yy = t' + i := ⟨_, rfl⟩
            rw [← hyy]
            by_cases hih : i < h'
            · have hle : (yy : Int) ≤ (b' : Int) := by have := HHE.out; have := HTB.out; omega
              have HIH := Lib.hid hih
              have HYY := Lib.hid hyy
              have hyH : yy < D := by have := HHE.out; have := HTB.out; omega
              have hyI : (t' : Int) + (i : Int) = (yy : Int) := by omega
              obtain ⟨q, lo, p, hi', hlo, hlh, hhd, hhc, hcl, hln, e1, e2, e3, e4⟩ := trim_nums (c := k) hyH HLR.out.1 HLR.out.2 HAD.out.2.2 hn4 (Nat.le_refl _)
              have HE := Lib.hid (And.intro e1 (And.intro e2 (And.intro e3 e4)))
              clear e1 e2 e3 e4
              rw [← HWE.out] at hhd hln
              have hw0 : 0 < w' := by have := HWE.out; omega
              obtain ⟨ys, hys⟩ : ∃ ys : List Int, ys = (List.range w').map fun x => ((F (l' + x) yy : Nat) : Int) := ⟨_, rfl⟩
              have HYL : Hid (ys.length = w') := Lib.hid (by rw [hys]; simp)
              have HROW : Hid (flat w' (i + 1) (fun x y => F (l' + x) (t' + y)) = flat w' i (fun x y => F (l' + x) (t' + y)) ++ ys) := Lib.hid (by rw [flat_row, hys, hyy])
              have HSRC := Lib.hid (fun w2 (hb2 : Below wr.heap.size wr w2) k' (hk' : k' < w') => show w2.cell? ⟨ob, lo + k', none⟩ = some (.int .i64 (ys.getD k' 0)) by
                have hlx : l' + k' < A := by have := HWE.out; have := HLR.out; omega
                have hln' : yy * A + (l' + k') < k := by rw [HAD.out.2.2]; exact at_lt hlx hyH
                obtain ⟨b0, o0, hbe, _, cg⟩ := (HZ.out w2 (HB.out.trans (hb2.mono HB.out.size))).cells (yy * A + (l' + k')) hln'
                cases hbe
                dsimp only at cg
                rw [Nat.zero_add] at cg
                rw [flat_at hlx hyH] at cg
                rw [show lo + k' = yy * A + (l' + k') by rw [hlo]; omega, cg, hys]
                simp [List.getD_eq_getElem?_getD, List.getElem?_range hk'])
              have hwi : w' * i ≤ 200 * 200 := Nat.mul_le_mul (by have := HP12.out; omega) (by have := HP12.out; omega)
              have HWI := Lib.hid hwi
              have HW0 := Lib.hid hw0
              have HMS : Hid (w' * i + w' = w' * (i + 1)) := Lib.hid (Nat.mul_succ _ _).symm
              obtain ⟨e1, e2, e3, e4⟩ := HE.out
              have e1' := wr_same e1
              have e2' := wr_same e2
              have e3' := wr_same e3
              have e4' := wr_same e4
              have HQ := Lib.hid (FQ.out _ HB.out)
              have f0 := HQ.out.cell 0
              have f2 := HQ.out.cell 2
              have g2 := HT.out.cell 2
              have m0 := HL.out.cell 0
              have n0 := HH.out.cell 0
              unfold boxP at f0 f2
              unfold two at m0 n0
              dsimp only [List.getElem?_cons_succ, List.getElem?_cons_zero] at f0 f2 g2 m0 n0
              have hdr : Below wr.heap.size wr wr.drew := (Below.refl _ _).drew
              clear hyH hyI hlo hln hw0 hys hwi hih hyy
              go_upto_region 22 with fail
              refine wp_region_noPanic ?_
              refine Rt.region_Cn (Sc2 (fun w2 => w2.cell? ⟨qb, 0, none⟩ = some (.int .i64 A) ∧ w2.cell? ⟨qb, 2, none⟩ = some (.slice (some ⟨ob, 0, none⟩) k k) ∧ w2.cell? ⟨lb, 0, none⟩ = some (.int .i64 l') ∧ w2.cell? ⟨hb, 0, none⟩ = some (.int .i64 r')) (fun w2 => w2.cell? ⟨tb, 2, none⟩ = some vs) 24) 25 #[false, false, false, false, false, false, false, false, false, false, false, false, false, false, false, false, false, false, false, false, false, false, false, false, false] (by kernel_rfl) (by kernel_rfl) (by kernel_rfl) ?_
              have hS1 : ∀ o, Sc2 (fun w2 => w2.cell? ⟨qb, 0, none⟩ = some (.int .i64 A) ∧ w2.cell? ⟨qb, 2, none⟩ = some (.slice (some ⟨ob, 0, none⟩) k k) ∧ w2.cell? ⟨lb, 0, none⟩ = some (.int .i64 l') ∧ w2.cell? ⟨hb, 0, none⟩ = some (.int .i64 r')) (fun w2 => w2.cell? ⟨tb, 2, none⟩ = some vs) 24 o wr.drew := Sc2.of ⟨f0, f2, m0, n0⟩ g2
              refine Rt.C_take (none) (i := 0) (oi := _) (v := ?_) rfl (by kernel_rfl) (by kernel_rfl) (by kernel_rfl) (by kernel_rfl) (fun _ _ _ h => h) (Sc2.other (by decide)) (Or.inl ⟨by rfl, ?_⟩) (fun o' _ => hS1 o') ?_
              rotate_left
              · intro w2 hSw
                obtain ⟨s0, s1, s2, s3⟩ := hSw
                go_simp
                try with_reducible rfl
              simp only [Act.put, List.getElem_toArray, List.getElem_cons_succ, List.getElem_cons_zero, List.setIfInBounds_toArray, List.set_cons_zero, List.set_cons_succ]
              refine Rt.C_take (none) (i := 1) (oi := _) (v := ?_) rfl (by kernel_rfl) (by kernel_rfl) (by kernel_rfl) (by kernel_rfl) (fun _ _ _ h => h) (Sc2.other (by decide)) (Or.inl ⟨by rfl, ?_⟩) (fun o' _ => hS1 o') ?_
              rotate_left
              · intro w2 hSw
                obtain ⟨s0, s1, s2, s3⟩ := hSw
                go_simp
                try with_reducible rfl
              simp only [Act.put, List.getElem_toArray, List.getElem_cons_succ, List.getElem_cons_zero, List.setIfInBounds_toArray, List.set_cons_zero, List.set_cons_succ]
              refine Rt.C_take (some 24) (i := 2) (oi := _) (v := ?_) rfl (by kernel_rfl) (by kernel_rfl) (by kernel_rfl) (by kernel_rfl) (fun _ _ _ h => h) (Sc2.other (by decide)) (Or.inl ⟨by rfl, ?_⟩) (fun o' _ => hS1 o') ?_
              rotate_left
              · intro w2 hSw
                have s0 := hSw rfl
                go_simp
                try with_reducible rfl
              simp only [Act.put, List.getElem_toArray, List.getElem_cons_succ, List.getElem_cons_zero, List.setIfInBounds_toArray, List.set_cons_zero, List.set_cons_succ]
              refine Rt.C_take (none) (i := 3) (oi := _) (v := ?_) rfl (by kernel_rfl) (by kernel_rfl) (by kernel_rfl) (by kernel_rfl) (fun _ _ _ h => h) (Sc2.other (by decide)) (Or.inl ⟨by rfl, ?_⟩) (fun o' _ => hS1 o') ?_
              rotate_left
              · intro w2 hSw
                obtain ⟨s0, s1, s2, s3⟩ := hSw
                go_simp
                try with_reducible rfl
              simp only [Act.put, List.getElem_toArray, List.getElem_cons_succ, List.getElem_cons_zero, List.setIfInBounds_toArray, List.set_cons_zero, List.set_cons_succ]
              refine Rt.C_take (none) (i := 4) (oi := _) (v := ?_) rfl (by kernel_rfl) (by kernel_rfl) (by kernel_rfl) (by kernel_rfl) (fun _ _ _ h => h) (Sc2.other (by decide)) (Or.inl ⟨by rfl, ?_⟩) (fun o' _ => hS1 o') ?_
              rotate_left
              · intro w2 hSw
                obtain ⟨s0, s1, s2, s3⟩ := hSw
                go_simp
                try with_reducible rfl
              simp only [Act.put, List.getElem_toArray, List.getElem_cons_succ, List.getElem_cons_zero, List.setIfInBounds_toArray, List.set_cons_zero, List.set_cons_succ]
              refine Rt.C_take (none) (i := 5) (oi := _) (v := ?_) rfl (by kernel_rfl) (by kernel_rfl) (by kernel_rfl) (by kernel_rfl) (fun _ _ _ h => h) (Sc2.other (by decide)) (Or.inl ⟨by rfl, ?_⟩) (fun o' _ => hS1 o') ?_
              rotate_left
              · intro w2 hSw
                obtain ⟨s0, s1, s2, s3⟩ := hSw
                go_simp
                try with_reducible rfl
              simp only [Act.put, List.getElem_toArray, List.getElem_cons_succ, List.getElem_cons_zero, List.setIfInBounds_toArray, List.set_cons_zero, List.set_cons_succ]
              refine Rt.C_take (none) (i := 6) (oi := _) (v := ?_) rfl (by kernel_rfl) (by kernel_rfl) (by kernel_rfl) (by kernel_rfl) (fun _ _ _ h => h) (Sc2.other (by decide)) (Or.inl ⟨by rfl, ?_⟩) (fun o' _ => hS1 o') ?_
              rotate_left
              · intro w2 hSw
                obtain ⟨s0, s1, s2, s3⟩ := hSw
                go_simp
                try with_reducible rfl
              simp only [Act.put, List.getElem_toArray, List.getElem_cons_succ, List.getElem_cons_zero, List.setIfInBounds_toArray, List.set_cons_zero, List.set_cons_succ]
              refine Rt.C_take (none) (i := 7) (oi := _) (v := ?_) rfl (by kernel_rfl) (by kernel_rfl) (by kernel_rfl) (by kernel_rfl) (fun _ _ _ h => h) (Sc2.other (by decide)) (Or.inl ⟨by rfl, ?_⟩) (fun o' _ => hS1 o') ?_
              rotate_left
              · intro w2 hSw
                obtain ⟨s0, s1, s2, s3⟩ := hSw
                go_simp
                try with_reducible rfl
              simp only [Act.put, List.getElem_toArray, List.getElem_cons_succ, List.getElem_cons_zero, List.setIfInBounds_toArray, List.set_cons_zero, List.set_cons_succ]
              refine Rt.C_take (none) (i := 8) (oi := _) (v := ?_) rfl (by kernel_rfl) (by kernel_rfl) (by kernel_rfl) (by kernel_rfl) (fun _ _ _ h => h) (Sc2.other (by decide)) (Or.inl ⟨by rfl, ?_⟩) (fun o' _ => hS1 o') ?_
              rotate_left
              · intro w2 hSw
                obtain ⟨s0, s1, s2, s3⟩ := hSw
                go_simp
                try with_reducible rfl
              simp only [Act.put, List.getElem_toArray, List.getElem_cons_succ, List.getElem_cons_zero, List.setIfInBounds_toArray, List.set_cons_zero, List.set_cons_succ]
              refine Rt.C_take (none) (i := 9) (oi := _) (v := ?_) rfl (by kernel_rfl) (by kernel_rfl) (by kernel_rfl) (by kernel_rfl) (fun _ _ _ h => h) (Sc2.other (by decide)) (Or.inl ⟨by rfl, ?_⟩) (fun o' _ => hS1 o') ?_
              rotate_left
              · intro w2 hSw
                obtain ⟨s0, s1, s2, s3⟩ := hSw
                go_simp
                try with_reducible rfl
              simp only [Act.put, List.getElem_toArray, List.getElem_cons_succ, List.getElem_cons_zero, List.setIfInBounds_toArray, List.set_cons_zero, List.set_cons_succ]
              refine Rt.C_take (none) (i := 10) (oi := _) (v := ?_) rfl (by kernel_rfl) (by kernel_rfl) (by kernel_rfl) (by kernel_rfl) (fun _ _ _ h => h) (Sc2.other (by decide)) (Or.inl ⟨by rfl, ?_⟩) (fun o' _ => hS1 o') ?_
              rotate_left
              · intro w2 hSw
                obtain ⟨s0, s1, s2, s3⟩ := hSw
                go_simp
                try with_reducible rfl
              simp only [Act.put, List.getElem_toArray, List.getElem_cons_succ, List.getElem_cons_zero, List.setIfInBounds_toArray, List.set_cons_zero, List.set_cons_succ]
              refine Rt.C_take (none) (i := 11) (oi := _) (v := ?_) rfl (by kernel_rfl) (by kernel_rfl) (by kernel_rfl) (by kernel_rfl) (fun _ _ _ h => h) (Sc2.other (by decide)) (Or.inl ⟨by rfl, ?_⟩) (fun o' _ => hS1 o') ?_
              rotate_left
              · intro w2 hSw
                obtain ⟨s0, s1, s2, s3⟩ := hSw
                go_simp
                try with_reducible rfl
              simp only [Act.put, List.getElem_toArray, List.getElem_cons_succ, List.getElem_cons_zero, List.setIfInBounds_toArray, List.set_cons_zero, List.set_cons_succ]
              refine Rt.C_take (none) (i := 12) (oi := _) (v := ?_) rfl (by kernel_rfl) (by kernel_rfl) (by kernel_rfl) (by kernel_rfl) (fun _ _ _ h => h) (Sc2.other (by decide)) (Or.inl ⟨by rfl, ?_⟩) (fun o' _ => hS1 o') ?_
              rotate_left
              · intro w2 hSw
                obtain ⟨s0, s1, s2, s3⟩ := hSw
                go_simp
                try with_reducible rfl
              simp only [Act.put, List.getElem_toArray, List.getElem_cons_succ, List.getElem_cons_zero, List.setIfInBounds_toArray, List.set_cons_zero, List.set_cons_succ]
              refine Rt.C_take (none) (i := 13) (oi := _) (v := ?_) rfl (by kernel_rfl) (by kernel_rfl) (by kernel_rfl) (by kernel_rfl) (fun _ _ _ h => h) (Sc2.other (by decide)) (Or.inl ⟨by rfl, ?_⟩) (fun o' _ => hS1 o') ?_
              rotate_left
              · intro w2 hSw
                obtain ⟨s0, s1, s2, s3⟩ := hSw
                go_simp
                try with_reducible rfl
              simp only [Act.put, List.getElem_toArray, List.getElem_cons_succ, List.getElem_cons_zero, List.setIfInBounds_toArray, List.set_cons_zero, List.set_cons_succ]
              refine Rt.C_take (none) (i := 14) (oi := _) (v := ?_) rfl (by kernel_rfl) (by kernel_rfl) (by kernel_rfl) (by kernel_rfl) (fun _ _ _ h => h) (Sc2.other (by decide)) (Or.inl ⟨by rfl, ?_⟩) (fun o' _ => hS1 o') ?_
              rotate_left
              · intro w2 hSw
                obtain ⟨s0, s1, s2, s3⟩ := hSw
                go_simp
                try with_reducible rfl
              simp only [Act.put, List.getElem_toArray, List.getElem_cons_succ, List.getElem_cons_zero, List.setIfInBounds_toArray, List.set_cons_zero, List.set_cons_succ]
              refine Rt.C_take (none) (i := 15) (oi := _) (v := ?_) rfl (by kernel_rfl) (by kernel_rfl) (by kernel_rfl) (by kernel_rfl) (fun _ _ _ h => h) (Sc2.other (by decide)) (Or.inl ⟨by rfl, ?_⟩) (fun o' _ => hS1 o') ?_
              rotate_left
              · intro w2 hSw
                obtain ⟨s0, s1, s2, s3⟩ := hSw
                go_simp
                try with_reducible rfl
              simp only [Act.put, List.getElem_toArray, List.getElem_cons_succ, List.getElem_cons_zero, List.setIfInBounds_toArray, List.set_cons_zero, List.set_cons_succ]
              refine Rt.C_take (none) (i := 16) (oi := _) (v := ?_) rfl (by kernel_rfl) (by kernel_rfl) (by kernel_rfl) (by kernel_rfl) (fun _ _ _ h => h) (Sc2.other (by decide)) (Or.inl ⟨by rfl, ?_⟩) (fun o' _ => hS1 o') ?_
              rotate_left
              · intro w2 hSw
                obtain ⟨s0, s1, s2, s3⟩ := hSw
                go_simp
                try with_reducible rfl
              simp only [Act.put, List.getElem_toArray, List.getElem_cons_succ, List.getElem_cons_zero, List.setIfInBounds_toArray, List.set_cons_zero, List.set_cons_succ]
              refine Rt.C_take (none) (i := 17) (oi := _) (v := ?_) rfl (by kernel_rfl) (by kernel_rfl) (by kernel_rfl) (by kernel_rfl) (fun _ _ _ h => h) (Sc2.other (by decide)) (Or.inl ⟨by rfl, ?_⟩) (fun o' _ => hS1 o') ?_
              rotate_left
              · intro w2 hSw
                obtain ⟨s0, s1, s2, s3⟩ := hSw
                go_simp
                try with_reducible rfl
              simp only [Act.put, List.getElem_toArray, List.getElem_cons_succ, List.getElem_cons_zero, List.setIfInBounds_toArray, List.set_cons_zero, List.set_cons_succ]
              refine Rt.C_take (none) (i := 18) (oi := _) (v := ?_) rfl (by kernel_rfl) (by kernel_rfl) (by kernel_rfl) (by kernel_rfl) (fun _ _ _ h => h) (Sc2.other (by decide)) (Or.inl ⟨by rfl, ?_⟩) (fun o' _ => hS1 o') ?_
              rotate_left
              · intro w2 hSw
                obtain ⟨s0, s1, s2, s3⟩ := hSw
                go_simp
                try with_reducible rfl
              simp only [Act.put, List.getElem_toArray, List.getElem_cons_succ, List.getElem_cons_zero, List.setIfInBounds_toArray, List.set_cons_zero, List.set_cons_succ]
              refine Rt.C_take (none) (i := 19) (oi := _) (v := ?_) rfl (by kernel_rfl) (by kernel_rfl) (by kernel_rfl) (by kernel_rfl) (fun _ _ _ h => h) (Sc2.other (by decide)) (Or.inl ⟨by rfl, ?_⟩) (fun o' _ => hS1 o') ?_
              rotate_left
              · intro w2 hSw
                obtain ⟨s0, s1, s2, s3⟩ := hSw
                go_simp
                try with_reducible rfl
              simp only [Act.put, List.getElem_toArray, List.getElem_cons_succ, List.getElem_cons_zero, List.setIfInBounds_toArray, List.set_cons_zero, List.set_cons_succ]
              refine Rt.C_take (none) (i := 20) (oi := _) (v := (.slice (some ⟨ob, lo, none⟩) w' (k - lo))) rfl (by kernel_rfl) (by kernel_rfl) (by kernel_rfl) (by kernel_rfl) (fun _ _ _ h => h) (Sc2.other (by decide)) (Or.inl ⟨by rfl, ?_⟩) (fun o' _ => hS1 o') ?_
              · intro w2 hSw
                obtain ⟨s0, s1, s2, s3⟩ := hSw
                go_simp
                try with_reducible rfl
              simp only [Act.put, List.getElem_toArray, List.getElem_cons_succ, List.getElem_cons_zero, List.setIfInBounds_toArray, List.set_cons_zero, List.set_cons_succ]
              clear hS1
              refine Rt.C_ready (rs := [21]) (by kernel_rfl) (by simp) ?_
              refine Rt.AllC.cons (i := 21) (o := _) rfl (by rfl) (fun K' hK => ?_) ?_
              · skip
                refine wp_app_ints _ _ rfl wb.heap.size vs (w' * i) (flat w' i (fun x y => F (l' + x) (t' + y))) (by rfl) (own_keep HO.out hdr) ob lo w' (k - lo) ys (by rfl) HYL.out (HSRC.out _ hdr) (Nat.le_trans HWI.out (by decide)) (Nat.le_trans HP12.out.2.2.1 (by decide)) HW0.out (Nat.le_trans HB.out.size hdr.size) ?_
                intro g7 c7 w7 ho7 hg7
                have HB7 := Lib.hid ((HB.out.trans (hdr.mono HB.out.size)).grown hg7 (Nat.le_trans HB.out.size hdr.size) (own_low HO.out))
                have HT7 := Lib.hid (row_grown (own_keep HO.out hdr) hg7 (HT.out.keep hdr HT.out.lt) (by decide))
                have HL7 := Lib.hid (row_grown (own_keep HO.out hdr) hg7 (HL.out.keep hdr HL.out.lt) (by decide))
                have HH7 := Lib.hid (row_grown (own_keep HO.out hdr) hg7 (HH.out.keep hdr HH.out.lt) (by decide))
                have HQ7 := Lib.hid (FQ.out _ HB7.out)
                have HO7 : Hid (w7.ownsRow wb.heap.size 3 1 (.slice (some ⟨g7, 0, none⟩) (w' * (i + 1)) c7) (w' * (i + 1)) ((flat w' (i + 1) (fun x y => F (l' + x) (t' + y))).map (Value.int .i64))) := Lib.hid (by rw [HROW.out, ← HMS.out]; exact ho7)
                rw [HMS.out]
                refine hK _ _ (fun o _ => Sc2.of ⟨HQ7.out.cell 0, HQ7.out.cell 2, HL7.out.cell 0, HH7.out.cell 0⟩ (HT7.out.cell 2) o) ?_
                clear hK K'
                simp only [Act.put, List.getElem_toArray, List.getElem_cons_succ, List.getElem_cons_zero, List.setIfInBounds_toArray, List.set_cons_zero, List.set_cons_succ]
                refine Rt.C_take (none) (i := 22) (oi := _) (v := ?_) rfl (by kernel_rfl) (by kernel_rfl) (by kernel_rfl) (by kernel_rfl) (fun _ _ _ h => h) (Sc2.other (by decide)) (Or.inl ⟨by rfl, ?_⟩) (fun o' _ => Sc2.of ⟨HQ7.out.cell 0, HQ7.out.cell 2, HL7.out.cell 0, HH7.out.cell 0⟩ (HT7.out.cell 2) o') ?_
                rotate_left
                · intro w2 hSw
                  obtain ⟨s0, s1, s2, s3⟩ := hSw
                  go_simp
                  try with_reducible rfl
                simp only [Act.put, List.getElem_toArray, List.getElem_cons_succ, List.getElem_cons_zero, List.setIfInBounds_toArray, List.set_cons_zero, List.set_cons_succ]
                refine Rt.C_take (none) (i := 23) (oi := _) (v := ?_) rfl (by kernel_rfl) (by kernel_rfl) (by kernel_rfl) (by kernel_rfl) (fun _ _ _ h => h) (Sc2.other (by decide)) (Or.inl ⟨by rfl, ?_⟩) (fun o' _ => Sc2.of ⟨HQ7.out.cell 0, HQ7.out.cell 2, HL7.out.cell 0, HH7.out.cell 0⟩ (HT7.out.cell 2) o') ?_
                rotate_left
                · intro w2 hSw
                  obtain ⟨s0, s1, s2, s3⟩ := hSw
                  go_simp
                  try with_reducible rfl
                simp only [Act.put, List.getElem_toArray, List.getElem_cons_succ, List.getElem_cons_zero, List.setIfInBounds_toArray, List.set_cons_zero, List.set_cons_succ]
                refine Rt.C_ready (rs := [24]) (by kernel_rfl) (by simp) ?_
                refine Rt.AllC.cons (i := 24) (o := _) rfl (by rfl) (fun K' hK => ?_) ?_
                · skip
                  have c2 := HT7.out.cell 2
                  have z2 := HT7.out.frozen 2
                  dsimp only [List.getElem?_cons_succ, List.getElem?_cons_zero] at c2
                  have HO9 := only_setCell w7 tb 2 (.slice (some ⟨g7, 0, none⟩) (w' * (i + 1)) c7)
                  have HL9 := Lib.hid (HL7.out.other HO9 HLH.out.1.2.1)
                  have HH9 := Lib.hid (HH7.out.other HO9 HLH.out.1.2.2)
                  have HT9 : Hid (Row (w7.setCell ⟨tb, 2, none⟩ (.slice (some ⟨g7, 0, none⟩) (w' * (i + 1)) c7)) tb 69 [.int .i64 (w' : Nat), .int .i64 (h' : Nat), .slice (some ⟨g7, 0, none⟩) (w' * (i + 1)) c7, .int .i64 0, .int .i64 0]) := Lib.hid (HT7.out.set 2 _)
                  have HB9 := Lib.hid (HB7.out.trans (HO9.below HLH.out.2.2.2))
                  have HQ9 := Lib.hid (FQ.out _ HB9.out)
                  have HO99 := Lib.hid (own_only HO7.out HO9 (own_ne HO7.out HT7.out (by decide)))
                  go_simp
                  refine hK _ _ (fun o hl => Sc2.late ⟨HQ9.out.cell 0, HQ9.out.cell 2, HL9.out.cell 0, HH9.out.cell 0⟩ (by rfl) o hl) ?_
                  clear hK K'
                  simp only [Act.put, List.getElem_toArray, List.getElem_cons_succ, List.getElem_cons_zero, List.setIfInBounds_toArray, List.set_cons_zero, List.set_cons_succ]
                  refine Rt.C_done (by kernel_rfl) ?_ _
                  refine NoPanic.normal ?_
                  clear ho7 hg7 hdr e1 e2 e3 e4 e1' e2' e3' e4' f0 f2 g2 m0 n0 c2 z2 HO9 hlh hhd hhc hcl HT HL HH HO HB HQ HT7 HL7 HH7 HO7 HB7 HQ7 HQ9
                  generalize w7.setCell ⟨tb, 2, none⟩ (.slice (some ⟨g7, 0, none⟩) (w' * (i + 1)) c7) = w9 at *
                  have hi3 := HIH.out
                  have hp3 := HP12.out
                  have hW3 := HAD.out
                  have hy3 := HYY.out
                  have ht3 := HTB.out
                  go_wp2_with fail
                  go_roundw
                  case rel => exact ⟨i + 1, _, HIH.out, by go_num, HT9.out, HL9.out, HH9.out, HO99.out, HB9.out⟩
                  case measure => simp [RowKit.intOf]; omega
                exact Rt.AllC.nil
              exact Rt.AllC.nil
            · obtain rfl : i = h' := by omega
              have hle : ¬ (yy : Int) ≤ (b' : Int) := by have := HHE.out; have := HTB.out; omega
              obtain ⟨sx, hsx⟩ : ∃ sx, sx = X + (l' : Int) := ⟨_, rfl⟩
              obtain ⟨sy, hsy⟩ : ∃ sy, sy = Y + (t' : Int) := ⟨_, rfl⟩
              obtain ⟨zx, hzx⟩ : ∃ zx, zx = X + (l' : Int) - 2 := ⟨_, rfl⟩
              obtain ⟨zy, hzy⟩ : ∃ zy, zy = Y + (t' : Int) - 2 := ⟨_, rfl⟩
              have hxb := HX.out
              have hyb := HY.out
              have hlb := HLR.out
              have htb := HTB.out
              have hab := HAD.out
              have b1 : -1000000 ≤ X + (l' : Int) ∧ X + (l' : Int) ≤ 1000000 := by omega
              have b2 : -1000000 ≤ Y + (t' : Int) ∧ Y + (t' : Int) ≤ 1000000 := by omega
              have b3 : -1000000 ≤ sx - 2 ∧ sx - 2 ≤ 1000000 := by omega
              have b4 : -1000000 ≤ sy - 2 ∧ sy - 2 ≤ 1000000 := by omega
              have b5 : sx - 2 = zx := by omega
              have b6 : sy - 2 = zy := by omega
              have e1 : wrap64 (X + (l' : Int)) = sx := (wr_in b1.1 b1.2).trans hsx.symm
              have e2 : wrap64 (Y + (t' : Int)) = sy := (wr_in b2.1 b2.2).trans hsy.symm
              have e3 : wrap64 (sx - 2) = zx := (wr_in b3.1 b3.2).trans b5
              have e4 : wrap64 (sy - 2) = zy := (wr_in b4.1 b4.2).trans b6
              have e1' := wr_same e1
              have e2' := wr_same e2
              have e3' := wr_same e3
              have e4' := wr_same e4
              have HZX := Lib.hid hzx
              have HZY := Lib.hid hzy
              have HG := Lib.hid (FG.out _ HB.out)
              have f3 := HG.out.cell 3
              have f4 := HG.out.cell 4
              have m0 := HL.out.cell 0
              have m1 := HL.out.cell 1
              unfold boxN at f3 f4
              unfold two at m0 m1
              dsimp only [List.getElem?_cons_succ, List.getElem?_cons_zero] at f3 f4 m0 m1
              have hdr : Below wr.heap.size wr wr.drew := (Below.refl _ _).drew
              clear hih hi hyy hsx hsy hzx hzy hxb hyb hlb htb hab b1 b2 b3 b4 b5 b6
              go_upto_region 23 with fail
              clear l1
              refine wp_region_noPanic ?_
              refine Rt.region_Cn (Sc2 (fun w2 => w2.cell? ⟨gb, 3, none⟩ = some (.int .i64 X) ∧ w2.cell? ⟨gb, 4, none⟩ = some (.int .i64 Y) ∧ w2.cell? ⟨lb, 0, none⟩ = some (.int .i64 l') ∧ w2.cell? ⟨lb, 1, none⟩ = some (.int .i64 t')) (fun w2 => True) 999) 16 #[false, false, false, false, false, false, false, false, false, false, false, false, false, false, false, false] (by kernel_rfl) (by kernel_rfl) (by kernel_rfl) ?_
              have hS1 : ∀ o, Sc2 (fun w2 => w2.cell? ⟨gb, 3, none⟩ = some (.int .i64 X) ∧ w2.cell? ⟨gb, 4, none⟩ = some (.int .i64 Y) ∧ w2.cell? ⟨lb, 0, none⟩ = some (.int .i64 l') ∧ w2.cell? ⟨lb, 1, none⟩ = some (.int .i64 t')) (fun w2 => True) 999 o wr.drew := Sc2.of ⟨f3, f4, m0, m1⟩ trivial
              refine Rt.C_take (none) (i := 0) (oi := _) (v := ?_) rfl (by kernel_rfl) (by kernel_rfl) (by kernel_rfl) (by kernel_rfl) (fun _ _ _ h => h) (Sc2.other (by decide)) (Or.inl ⟨by rfl, ?_⟩) (fun o' _ => hS1 o') ?_
              rotate_left
              · intro w2 hSw
                obtain ⟨s0, s1, s2, s3⟩ := hSw
                go_simp
                try with_reducible rfl
              simp only [Act.put, List.getElem_toArray, List.getElem_cons_succ, List.getElem_cons_zero, List.setIfInBounds_toArray, List.set_cons_zero, List.set_cons_succ]
              refine Rt.C_take (none) (i := 1) (oi := _) (v := ?_) rfl (by kernel_rfl) (by kernel_rfl) (by kernel_rfl) (by kernel_rfl) (fun _ _ _ h => h) (Sc2.other (by decide)) (Or.inl ⟨by rfl, ?_⟩) (fun o' _ => hS1 o') ?_
              rotate_left
              · intro w2 hSw
                obtain ⟨s0, s1, s2, s3⟩ := hSw
                go_simp
                try with_reducible rfl
              simp only [Act.put, List.getElem_toArray, List.getElem_cons_succ, List.getElem_cons_zero, List.setIfInBounds_toArray, List.set_cons_zero, List.set_cons_succ]
              refine Rt.C_take (none) (i := 2) (oi := _) (v := ?_) rfl (by kernel_rfl) (by kernel_rfl) (by kernel_rfl) (by kernel_rfl) (fun _ _ _ h => h) (Sc2.other (by decide)) (Or.inl ⟨by rfl, ?_⟩) (fun o' _ => hS1 o') ?_
              rotate_left
              · intro w2 hSw
                obtain ⟨s0, s1, s2, s3⟩ := hSw
                go_simp
                try with_reducible rfl
              simp only [Act.put, List.getElem_toArray, List.getElem_cons_succ, List.getElem_cons_zero, List.setIfInBounds_toArray, List.set_cons_zero, List.set_cons_succ]
              refine Rt.C_take (none) (i := 3) (oi := _) (v := ?_) rfl (by kernel_rfl) (by kernel_rfl) (by kernel_rfl) (by kernel_rfl) (fun _ _ _ h => h) (Sc2.other (by decide)) (Or.inl ⟨by rfl, ?_⟩) (fun o' _ => hS1 o') ?_
              rotate_left
              · intro w2 hSw
                obtain ⟨s0, s1, s2, s3⟩ := hSw
                go_simp
                try with_reducible rfl
              simp only [Act.put, List.getElem_toArray, List.getElem_cons_succ, List.getElem_cons_zero, List.setIfInBounds_toArray, List.set_cons_zero, List.set_cons_succ]
              refine Rt.C_take (none) (i := 4) (oi := _) (v := ?_) rfl (by kernel_rfl) (by kernel_rfl) (by kernel_rfl) (by kernel_rfl) (fun _ _ _ h => h) (Sc2.other (by decide)) (Or.inl ⟨by rfl, ?_⟩) (fun o' _ => hS1 o') ?_
              rotate_left
              · intro w2 hSw
                obtain ⟨s0, s1, s2, s3⟩ := hSw
                go_simp
                try with_reducible rfl
              simp only [Act.put, List.getElem_toArray, List.getElem_cons_succ, List.getElem_cons_zero, List.setIfInBounds_toArray, List.set_cons_zero, List.set_cons_succ]
              refine Rt.C_take (none) (i := 5) (oi := _) (v := ?_) rfl (by kernel_rfl) (by kernel_rfl) (by kernel_rfl) (by kernel_rfl) (fun _ _ _ h => h) (Sc2.other (by decide)) (Or.inl ⟨by rfl, ?_⟩) (fun o' _ => hS1 o') ?_
              rotate_left
              · intro w2 hSw
                obtain ⟨s0, s1, s2, s3⟩ := hSw
                go_simp
                try with_reducible rfl
              simp only [Act.put, List.getElem_toArray, List.getElem_cons_succ, List.getElem_cons_zero, List.setIfInBounds_toArray, List.set_cons_zero, List.set_cons_succ]
              refine Rt.C_take (none) (i := 6) (oi := _) (v := ?_) rfl (by kernel_rfl) (by kernel_rfl) (by kernel_rfl) (by kernel_rfl) (fun _ _ _ h => h) (Sc2.other (by decide)) (Or.inl ⟨by rfl, ?_⟩) (fun o' _ => hS1 o') ?_
              rotate_left
              · intro w2 hSw
                obtain ⟨s0, s1, s2, s3⟩ := hSw
                go_simp
                try with_reducible rfl
              simp only [Act.put, List.getElem_toArray, List.getElem_cons_succ, List.getElem_cons_zero, List.setIfInBounds_toArray, List.set_cons_zero, List.set_cons_succ]
              refine Rt.C_take (none) (i := 7) (oi := _) (v := ?_) rfl (by kernel_rfl) (by kernel_rfl) (by kernel_rfl) (by kernel_rfl) (fun _ _ _ h => h) (Sc2.other (by decide)) (Or.inl ⟨by rfl, ?_⟩) (fun o' _ => hS1 o') ?_
              rotate_left
              · intro w2 hSw
                obtain ⟨s0, s1, s2, s3⟩ := hSw
                go_simp
                try with_reducible rfl
              simp only [Act.put, List.getElem_toArray, List.getElem_cons_succ, List.getElem_cons_zero, List.setIfInBounds_toArray, List.set_cons_zero, List.set_cons_succ]
              refine Rt.C_take (none) (i := 8) (oi := _) (v := ?_) rfl (by kernel_rfl) (by kernel_rfl) (by kernel_rfl) (by kernel_rfl) (fun _ _ _ h => h) (Sc2.other (by decide)) (Or.inl ⟨by rfl, ?_⟩) (fun o' _ => hS1 o') ?_
              rotate_left
              · intro w2 hSw
                obtain ⟨s0, s1, s2, s3⟩ := hSw
                go_simp
                try with_reducible rfl
              simp only [Act.put, List.getElem_toArray, List.getElem_cons_succ, List.getElem_cons_zero, List.setIfInBounds_toArray, List.set_cons_zero, List.set_cons_succ]
              refine Rt.C_take (none) (i := 9) (oi := _) (v := ?_) rfl (by kernel_rfl) (by kernel_rfl) (by kernel_rfl) (by kernel_rfl) (fun _ _ _ h => h) (Sc2.other (by decide)) (Or.inl ⟨by rfl, ?_⟩) (fun o' _ => hS1 o') ?_
              rotate_left
              · intro w2 hSw
                obtain ⟨s0, s1, s2, s3⟩ := hSw
                go_simp
                try with_reducible rfl
              simp only [Act.put, List.getElem_toArray, List.getElem_cons_succ, List.getElem_cons_zero, List.setIfInBounds_toArray, List.set_cons_zero, List.set_cons_succ]
              refine Rt.C_take (none) (i := 10) (oi := _) (v := ?_) rfl (by kernel_rfl) (by kernel_rfl) (by kernel_rfl) (by kernel_rfl) (fun _ _ _ h => h) (Sc2.other (by decide)) (Or.inl ⟨by rfl, ?_⟩) (fun o' _ => hS1 o') ?_
              rotate_left
              · intro w2 hSw
                obtain ⟨s0, s1, s2, s3⟩ := hSw
                go_simp
                try with_reducible rfl
              simp only [Act.put, List.getElem_toArray, List.getElem_cons_succ, List.getElem_cons_zero, List.setIfInBounds_toArray, List.set_cons_zero, List.set_cons_succ]
              refine Rt.C_take (none) (i := 11) (oi := _) (v := ?_) rfl (by kernel_rfl) (by kernel_rfl) (by kernel_rfl) (by kernel_rfl) (fun _ _ _ h => h) (Sc2.other (by decide)) (Or.inl ⟨by rfl, ?_⟩) (fun o' _ => hS1 o') ?_
              rotate_left
              · intro w2 hSw
                obtain ⟨s0, s1, s2, s3⟩ := hSw
                go_simp
                try with_reducible rfl
              simp only [Act.put, List.getElem_toArray, List.getElem_cons_succ, List.getElem_cons_zero, List.setIfInBounds_toArray, List.set_cons_zero, List.set_cons_succ]
              refine Rt.C_take (none) (i := 12) (oi := _) (v := ?_) rfl (by kernel_rfl) (by kernel_rfl) (by kernel_rfl) (by kernel_rfl) (fun _ _ _ h => h) (Sc2.other (by decide)) (Or.inl ⟨by rfl, ?_⟩) (fun o' _ => hS1 o') ?_
              rotate_left
              · intro w2 hSw
                obtain ⟨s0, s1, s2, s3⟩ := hSw
                go_simp
                try with_reducible rfl
              simp only [Act.put, List.getElem_toArray, List.getElem_cons_succ, List.getElem_cons_zero, List.setIfInBounds_toArray, List.set_cons_zero, List.set_cons_succ]
              clear hS1
              have HTd := Lib.hid (HT.out.keep hdr HT.out.lt)
              have HLd := Lib.hid (HL.out.keep hdr HL.out.lt)
              have HBd := Lib.hid (HB.out.trans (hdr.mono HB.out.size))
              have HOd := Lib.hid (own_keep HO.out hdr)
              clear hdr
              generalize wr.drew = wd at *
              refine Rt.C_ready (rs := [13]) (by kernel_rfl) (by simp) ?_
              refine Rt.AllC.cons (i := 13) (o := _) rfl (by rfl) (fun K' hK => ?_) ?_
              · skip
                have c3 := HTd.out.cell 3
                have z3 := HTd.out.frozen 3
                dsimp only [List.getElem?_cons_succ, List.getElem?_cons_zero] at c3
                have HO9 := only_setCell wd tb 3 (.int .i64 zx)
                have HL9 := Lib.hid (HLd.out.other HO9 HLH.out.1.2.1)
                have HT9 : Hid (Row (wd.setCell ⟨tb, 3, none⟩ (.int .i64 zx)) tb 69 [.int .i64 (w' : Nat), .int .i64 (i : Nat), vs, .int .i64 zx, .int .i64 0]) := Lib.hid (HTd.out.set 3 _)
                have HB9 := Lib.hid (HBd.out.trans (HO9.below HLH.out.2.2.2))
                have HG9 := Lib.hid (FG.out _ HB9.out)
                have HO99 := Lib.hid (own_only HOd.out HO9 (own_ne HOd.out HTd.out (by decide)))
                go_simp
                refine hK _ _ (fun o _ => Sc2.of ⟨HG9.out.cell 3, HG9.out.cell 4, HL9.out.cell 0, HL9.out.cell 1⟩ trivial o) ?_
                clear hK K' c3 z3 HO9
                generalize wd.setCell ⟨tb, 3, none⟩ (.int .i64 zx) = w9 at *
                simp only [Act.put, List.getElem_toArray, List.getElem_cons_succ, List.getElem_cons_zero, List.setIfInBounds_toArray, List.set_cons_zero, List.set_cons_succ]
                refine Rt.C_take (none) (i := 14) (oi := _) (v := ?_) rfl (by kernel_rfl) (by kernel_rfl) (by kernel_rfl) (by kernel_rfl) (fun _ _ _ h => h) (Sc2.other (by decide)) (Or.inl ⟨by rfl, ?_⟩) (fun o' _ => Sc2.of ⟨HG9.out.cell 3, HG9.out.cell 4, HL9.out.cell 0, HL9.out.cell 1⟩ trivial o') ?_
                rotate_left
                · intro w2 hSw
                  obtain ⟨s0, s1, s2, s3⟩ := hSw
                  go_simp
                  try with_reducible rfl
                simp only [Act.put, List.getElem_toArray, List.getElem_cons_succ, List.getElem_cons_zero, List.setIfInBounds_toArray, List.set_cons_zero, List.set_cons_succ]
                refine Rt.C_ready (rs := [15]) (by kernel_rfl) (by simp) ?_
                refine Rt.AllC.cons (i := 15) (o := _) rfl (by rfl) (fun K' hK => ?_) ?_
                · skip
                  have c3 := HT9.out.cell 4
                  have z3 := HT9.out.frozen 4
                  dsimp only [List.getElem?_cons_succ, List.getElem?_cons_zero] at c3
                  have HOa := only_setCell w9 tb 4 (.int .i64 zy)
                  have HLa := Lib.hid (HL9.out.other HOa HLH.out.1.2.1)
                  have HTa : Hid (Row (w9.setCell ⟨tb, 4, none⟩ (.int .i64 zy)) tb 69 [.int .i64 (w' : Nat), .int .i64 (i : Nat), vs, .int .i64 zx, .int .i64 zy]) := Lib.hid (HT9.out.set 4 _)
                  have HBa := Lib.hid (HB9.out.trans (HOa.below HLH.out.2.2.2))
                  have HGa := Lib.hid (FG.out _ HBa.out)
                  have HOo := Lib.hid (own_only HO99.out HOa (own_ne HO99.out HT9.out (by decide)))
                  go_simp
                  refine hK _ _ (fun o hl => Sc2.late ⟨HGa.out.cell 3, HGa.out.cell 4, HLa.out.cell 0, HLa.out.cell 1⟩ (by rfl) o hl) ?_
                  clear hK K'
                  simp only [Act.put, List.getElem_toArray, List.getElem_cons_succ, List.getElem_cons_zero, List.setIfInBounds_toArray, List.set_cons_zero, List.set_cons_succ]
                  refine Rt.C_done (by kernel_rfl) ?_ _
                  refine NoPanic.normal ?_
                  clear c3 z3 HOa e1 e2 e3 e4 e1' e2' e3' e4' f3 f4 m0 m1 HT HL HH HO HB HG HTd HLd HBd HOd HL9 HT9 HB9 HG9 HO99 HLa HGa
                  generalize w9.setCell ⟨tb, 4, none⟩ (.int .i64 zy) = w10 at *
                  obtain ⟨av, cv, hve, hvn, hvm, hvi, hvb⟩ := own_is HOo.out
                  subst hve
                  have HVI := Lib.hid hvi
                  have HVB : Hid (∀ b o, av = some ⟨b, o, none⟩ → wb.heap.size ≤ b) := Lib.hid hvb
                  have HR := Lib.hid (FR.out _ HBa.out)
                  have l6 : w10.rangeAt tb 0 (boxN (w' : Nat) (i : Nat) av (w' * i) cv zx zy) := row_range HTa.out
                  have HVN : Hid (w' * i ≤ cv ∧ cv ≤ maxLen) := Lib.hid ⟨hvn, hvm⟩
                  clear hvi hvb hvn hvm
                  go_wp2_with (first | (refine wpList_load_mid rfl 69 _ rfl tb 0 rfl _ _ l6 Tryd.underlying69 rfl infoGrown ?_) | (refine Ops.wpList_store_arr rfl 69 _ _ rfl rb rfl 69 _ (boxN (w' : Nat) (i : Nat) av (w' * i) cv zx zy) rfl HR.out rfl infoGrown (boxN_one _ _ _ _ _ _ _) ?_; intro w11 hrow11 hon11))
                  refine bodyPost_ret (results_grown2 (t := 4) (u := 5) (e := .nilIface) rfl _ _ hrow11 rfl rfl rfl) rfl ⟨⟨w', i, av, w' * i, cv, zx, zy, .nilIface, rfl, _, HNI.out _ _ _ _ _ _ (.inr ⟨l', t', r', b', HGX.out, HWE.out, HHE.out, .inr ⟨rfl, HSM.out.1, HSM.out.2, rfl, HZX.out, HZY.out⟩⟩), fun _ => ⟨rfl, HVN.out.1, HVN.out.2, is_other HVI.out hon11 (fun b o e => by have := HVB.out b o e; have := HLT.out; omega), fun b o e => Nat.le_trans HLT.out.2.2.2 (HVB.out b o e)⟩⟩, (HW.out.trans (HBa.out.mono HLT.out.2.2.2)).trans (hon11.below HGU.out.2.2.1)⟩
                exact Rt.AllC.nil
              exact Rt.AllC.nil
          --}
      --}
end Pn
end Go.Proofs.YthipeeagpllfeaaDoor
