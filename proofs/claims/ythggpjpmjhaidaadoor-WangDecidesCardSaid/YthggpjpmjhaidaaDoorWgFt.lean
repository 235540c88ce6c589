/- WALK: wang.Fits, and slices.ContainsFunc by what its test answers. -/
import Derived.Test.YthggpjpmjhaidaaDoorWgW
import Derived.Deep.DeepCutAuto
import Derived.Deep.RegionHeld3
namespace Go.Proofs.YthggpjpmjhaidaaDoor
set_option linter.unusedSimpArgs false
set_option linter.unusedVariables false
open Go.RowKit Go.Lib
namespace Wg
open Tld Mem

/-! ### Fits -/
set_option maxHeartbeats 2000000 in
theorem fits1_any (bT : Nat) (ta : Option Addr) (n tc : Nat) (c : Int) (w : World) (hw : w.cell? ⟨bT, 0, none⟩ = some (.slice ta n tc)) :
    Calls Tryd.prog 47 #[.int .i64 c, .pointer (some ⟨bT, 0, none⟩)] w fun e w' => e = .returned (.bool (decide (¬ (0 ≤ c ∧ c < (n : Int))))) ∧ w = w' := by
  go_enter Tryd.func47, Tryd.ntmps47
  by_cases h0 : c < 0
  · have : decide (¬ (0 ≤ c ∧ c < (n : Int))) = true := by simp; omega
    rw [this]
    go_wp2
    go_ret
    exact ⟨rfl, rfl⟩
  · by_cases h1 : (n : Int) ≤ c
    · have : decide (¬ (0 ≤ c ∧ c < (n : Int))) = true := by simp; omega
      rw [this]
      go_wp2
      go_ret
      exact ⟨rfl, rfl⟩
    · have : decide (¬ (0 ≤ c ∧ c < (n : Int))) = false := by simp; omega
      rw [this]
      go_wp2
      go_ret
      exact ⟨rfl, rfl⟩
/-- slices.ContainsFunc over numbers, by what its test answers. -/
theorem any_no {zs : List Int} {p : Int → Bool} (h : ∀ k, k < zs.length → p (zs.getD k 0) = false) : zs.any p = false := by
  rw [List.any_eq_false]
  intro z hz
  obtain ⟨k, hk, rfl⟩ := List.getElem_of_mem hz
  have := h k hk
  rw [List.getD_eq_getElem?_getD, List.getElem?_eq_getElem hk] at this
  exact Bool.eq_false_iff.1 this
theorem any_yes {zs : List Int} {p : Int → Bool} {k : Nat} (hk : k < zs.length) (h : p (zs.getD k 0) = true) : zs.any p = true :=
  List.any_eq_true.2 ⟨_, int_mem hk, h⟩
/-- Is it none of n tiles? -/
def off (n : Nat) (z : Int) : Bool := decide (¬ (0 ≤ z ∧ z < (n : Int)))
set_option maxHeartbeats 2000000 in
theorem index_any (sa : Option Addr) (sn sc : Nat) (zs : List Int) (bT : Nat) (ta : Option Addr) (n tc : Nat) (w : World) (hz : zs.length = sn) (hs : sn ≤ 1000000) (hZ : Cells w sa sn (fun i => .int .i64 (zs.getD i 0))) (hw : w.cell? ⟨bT, 0, none⟩ = some (.slice ta n tc)) :
    Calls Tryd.prog 60 #[.slice sa sn sc, .func (.func 47) #[] #[.pointer (some ⟨bT, 0, none⟩)]] w fun e w' => (∃ k : Int, e = .returned (.int .i64 k) ∧ decide (0 ≤ k) = zs.any (off n)) ∧ w = w' := by
  have HZ := Lib.hid hZ
  have HG := Lib.hid (fun z => fits1_any bT ta n tc z w hw)
  have HZL := Lib.hid hz
  clear hZ hz
  go_enter Tryd.func60, Tryd.ntmps60
  go_wp2
  go_loop [8] (fun v => ∃ i : Nat, i ≤ sn ∧ v = .int .i64 i ∧ (∀ k, k < i → off n (zs.getD k 0) = false)) (fun v => sn - (intOf v).toNat)
  case atStart => exact ⟨0, Nat.zero_le _, rfl, fun k hk => absurd hk (Nat.not_lt_zero _)⟩
  case round =>
    obtain ⟨i, hi, rfl, hok⟩ := hrel
    have HOK := Lib.hid hok
    clear hok
    by_cases hlt : i < sn
    · obtain ⟨b, off', rfl, hbl, hc⟩ := HZ.out i hlt
      dsimp only at hc
      have HY := Lib.hid (fun h => any_yes (zs := zs) (p := off n) (k := i) (by rw [HZL.out]; exact hlt) h)
      have HOK2 : Hid (off n (zs.getD i 0) = false → ∀ k, k < i + 1 → off n (zs.getD k 0) = false) := fun h k hk => by
        by_cases hki : k = i
        · subst hki; exact h
        · exact HOK.out k (by omega)
      have HG2 : Hid (Calls Tryd.prog 47 #[.int .i64 (zs.getD i 0), .pointer (some ⟨bT, 0, none⟩)] w fun e w' => e = .returned (.bool (off n (zs.getD i 0))) ∧ w = w') := HG.out _
      generalize hz : zs.getD i 0 = z at *
      clear hz
      generalize hp : off n z = q at *
      clear hp
      go_wp2_with fail
      refine HG2.out.mono ?_
      rintro e1 w1 ⟨rfl, rfl⟩
      cases q
      · go_wp2_with fail
        go_round
        case rel => exact ⟨i + 1, by omega, by go_num, HOK2.out (by first | rfl | trivial)⟩
        case measure => simp [intOf]; omega
      · go_wp2_with fail
        go_ret
        exact ⟨⟨i, rfl, by rw [HY.out (by first | rfl | trivial)]; simp⟩, rfl⟩
    · have HN := Lib.hid (any_no (zs := zs) (p := off n) fun k hk => HOK.out k (by rw [HZL.out] at hk; omega))
      go_wp2
      go_ret
      exact ⟨⟨-1, rfl, by rw [HN.out]; rfl⟩, rfl⟩
theorem contains_any (sa : Option Addr) (sn sc : Nat) (zs : List Int) (bT : Nat) (ta : Option Addr) (n tc : Nat) (w : World) (hz : zs.length = sn) (hs : sn ≤ 1000000) (hZ : Cells w sa sn (fun i => .int .i64 (zs.getD i 0))) (hw : w.cell? ⟨bT, 0, none⟩ = some (.slice ta n tc)) :
    Calls Tryd.prog 46 #[.slice sa sn sc, .func (.func 47) #[] #[.pointer (some ⟨bT, 0, none⟩)]] w fun e w' => e = .returned (.bool (zs.any (off n))) ∧ w = w' := by
  have HI := Lib.hid (index_any sa sn sc zs bT ta n tc w hz hs hZ hw)
  clear hZ hw
  go_enter Tryd.func46, Tryd.ntmps46
  go_wp2_with fail
  refine HI.out.mono ?_
  rintro e1 w1 ⟨⟨k, rfl, hk⟩, rfl⟩
  have HK := Lib.hid hk
  clear hk
  go_wp2
  go_ret
  exact ⟨congrArg (fun b => Ending.returned (.bool b)) HK.out, rfl⟩

/-- The tile at each place. -/
def zt (ts : List Tl) (zs : List Int) (k : Nat) : Tl := ts.getD (zs.getD k 0).toNat noTile
theorem any_off {n : Nat} {zs : List Int} : zs.any (off n) = false ↔ ∀ z ∈ zs, 0 ≤ z ∧ z < (n : Int) := by
  rw [List.any_eq_false]
  constructor
  · intro h z hz
    have := h z hz
    unfold off at this
    simpa using this
  · intro h z hz
    have := h z hz
    unfold off
    simpa using this
theorem zfault_two {ts : List Tl} {W H : Int} (h : zfault ts [W, H] = 0) : tfault ts = 0 ∧ side W ∧ side H := by
  unfold zfault at h
  split at h
  · rename_i h1
    exact absurd h h1
  split at h
  · rename_i h1 h2
    exact ⟨Decidable.of_not_not h1, h2 W (by simp), h2 H (by simp)⟩
  · cases h
theorem place {W y x sn : Nat} (h : y * W + x < sn) (h25 : sn ≤ 25) : ((0 : Int) ≤ (y : Int) * (W : Int) ∧ (y : Int) * (W : Int) ≤ 25) ∧ ((0 : Int) ≤ (y : Int) * (W : Int) + (x : Int) ∧ (y : Int) * (W : Int) + (x : Int) ≤ 25) ∧ ((y : Int) * (W : Int) + (x : Int)).toNat = y * W + x ∧ (y : Int) * (W : Int) + (x : Int) < (sn : Int) := by
  have e : ((y * W : Nat) : Int) = (y : Int) * (W : Int) := by push_cast; rfl
  omega
theorem wrap_ok {n : Int} (h : -9223372036854775808 ≤ n) (h' : n ≤ 9223372036854775807) : IntKind.i64.wrap n = n := by rw [IntKind.wrap_i64]; omega
theorem two_new (w : World) (T : TypeId) (c1 c2 : List Value) : Row ((w.alloc (.cells c1.toArray T)).alloc (.cells c2.toArray T)) w.heap.size T c1 ∧ Row ((w.alloc (.cells c1.toArray T)).alloc (.cells c2.toArray T)) (w.heap.size + 1) T c2 ∧ Below w.heap.size w ((w.alloc (.cells c1.toArray T)).alloc (.cells c2.toArray T)) := by
  refine ⟨?_, ?_, ((Below.refl _ _).alloc (Nat.le_refl _) _).alloc (by simp) _⟩
  · exact (row_alloc w T c1).keep ((Below.refl _ _).alloc (Nat.le_refl _) (.cells c2.toArray T)) (by simp)
  · have := row_alloc (w.alloc (.cells c1.toArray T)) T c2
    rwa [World.size_alloc] at this
theorem wrap_mod {W x : Nat} : ((x : Int) + 1).tmod (W : Int) = ((x + 1) % W : Nat) := by
  rw [show ((x : Int) + 1) = ((x + 1 : Nat) : Int) from by push_cast; rfl]
  exact Int.ofNat_tmod _ _
set_option maxHeartbeats 4000000 in
set_option maxRecDepth 1000000 in
theorem fits_ok (a : Option Addr) (n c : Nat) (ts : List Tl) (W H : Nat) (sa : Option Addr) (sn sc : Nat) (zs : List Int) (ring : Bool) (w : World) (hT : Tiles w a n ts) (hf : zfault ts [(W : Int), (H : Int)] = 0)
    (hsn : zs.length = sn) (hwh : sn = W * H) (hlt : ∀ z ∈ zs, 0 ≤ z ∧ z < (n : Int)) (hZ : Cells w sa sn (fun i => .int .i64 (zs.getD i 0))) :
    Calls Tryd.prog 25 #[.slice a n c, .int .i64 W, .int .i64 H, .slice sa sn sc, .bool ring] w fun e w' => (∃ b, e = .returned (.tuple #[.bool b, .nilIface]) ∧ (b = true ↔ Good W H ring (zt ts zs))) ∧ Below w.heap.size w w' := by
  obtain ⟨ht0, ⟨hW1, hW5⟩, hH1, hH5⟩ := zfault_two hf
  have hn := tfault_zero ht0
  have hnl := hT.len
  have hsn25 : sn ≤ 25 := by
    have : W * H ≤ 5 * 5 := Nat.mul_le_mul (by omega) (by omega)
    omega
  have hoff : zs.any (off n) = false := any_off.2 hlt
  have hwh' : (W : Int) * (H : Int) = (sn : Int) := by rw [hwh]; push_cast; rfl
  have HCK : Hid (∀ w2 : World, Tiles w2 a n ts → ∀ (b sc2 : Nat), Row w2 b 3 [.int .i64 W, .int .i64 H] → Calls Tryd.prog 35 #[.slice a n c, .slice (some ⟨b, 0, none⟩) 2 sc2] w2 fun e w' => e = .returned .nilIface ∧ Below w2.heap.size w2 w') := fun w2 h2 b sc2 hR => by
    have := check_any a n c ts (some ⟨b, 0, none⟩) 2 sc2 [(W : Int), (H : Int)] w2 h2 rfl (by omega) (fun i hi => ⟨b, 0, rfl, hR.lt, by
      rw [Nat.zero_add, hR.cell]
      match i, hi with
      | 0, _ => rfl
      | 1, _ => rfl⟩)
    rw [hf, errV_zero rfl] at this
    exact this
  have HT := Lib.hid hT
  have HZ := Lib.hid hZ
  have HLT := Lib.hid hlt
  have HOFF := Lib.hid hoff
  have HWH := Lib.hid hwh
  clear hT hZ hlt hf hoff ht0 hwh
  go_enter Tryd.func25, Tryd.ntmps25
  go_wp2_with fail
  have hT0 : Row (w.alloc (.cells #[.slice a n c] 22)) w.heap.size 22 [.slice a n c] := row_alloc w _ _
  have hB0 : Below w.heap.size w ((w.alloc (.cells #[.slice a n c] 22)).alloc (.cells #[.int .i64 W, .int .i64 H] 3)) := ((Below.refl _ _).alloc (Nat.le_refl _) _).alloc (by simp) _
  have hR0 := row_alloc (w.alloc (.cells #[.slice a n c] 22)) 3 [.int .i64 W, .int .i64 H]
  rw [World.size_alloc] at hR0
  have hT1 := hT0.keep (B := (w.alloc (.cells #[.slice a n c] 22)).heap.size) ((Below.refl _ _).alloc (Nat.le_refl _) (.cells #[.int .i64 W, .int .i64 H] 3)) (by simp)
  refine (HCK.out _ (HT.out.keep hB0) _ _ hR0).mono ?_
  rintro e1 w1 ⟨rfl, hb1⟩
  have hlt1 := hT1.lt
  have HRT := Lib.hid (hT1.keep hb1 hT1.lt)
  have hb1 := hB0.trans (hb1.mono hB0.size)
  have hct := HRT.out.cell 0
  dsimp only [List.getElem?_cons_zero] at hct
  clear hT0 hB0 hR0 hT1 hlt1
  go_wp2_with fail
  refine (contains_any sa sn sc zs w.heap.size a n c _ hsn (by omega) (HZ.out.keep hb1) hct).mono ?_
  rintro e2 w2 ⟨rfl, rfl⟩
  rw [HOFF.out]
  go_wp2_with fail
  have HRT2 := Lib.hid HRT.out
  go_loopw [40] (fun v wr => ∃ y : Nat, y ≤ H ∧ v = .int .i64 y ∧ (∀ y', y' < y → ∀ x', x' < W → Looks W H ring (zt ts zs) y' x') ∧ Row wr w.heap.size 22 [.slice a n c] ∧ Below w.heap.size w wr) (fun v _ => H - (intOf v).toNat)
  case atStart => exact ⟨0, Nat.zero_le _, rfl, fun k hk => absurd hk (Nat.not_lt_zero _), HRT2.out, hb1⟩
  case round =>
    clear hct HRT
    obtain ⟨y, hy, rfl, hok, hR, hbel⟩ := hrel
    have HOK := Lib.hid hok
    have HR := Lib.hid hR
    clear hok hR
    by_cases hlt : y < H
    · go_wp2_with fail
      obtain ⟨wo, rfl⟩ : ∃ wo : World, wo = wr := ⟨_, rfl⟩
      go_loopw [44] (fun v wr => ∃ x : Nat, x ≤ W ∧ v = .int .i64 x ∧ (∀ x', x' < x → Looks W H ring (zt ts zs) y x') ∧ Row wr w.heap.size 22 [.slice a n c] ∧ Below w.heap.size w wr) (fun v _ => W - (intOf v).toNat)
      case atStart => exact ⟨0, Nat.zero_le _, rfl, fun k hk => absurd hk (Nat.not_lt_zero _), HR.out, hbel⟩
      case round =>
        clear HR hbel
        obtain ⟨x, hx, rfl, hok, hR, hbel⟩ := hrel
        have HOKX := Lib.hid hok
        have HR := Lib.hid hR
        have hct := hR.cell 0
        dsimp only [List.getElem?_cons_zero] at hct
        have hwlt : w.heap.size < wr.heap.size := hR.lt
        clear hok hR
        by_cases hxl : x < W
        · have h0 : y * W + x < sn := by rw [HWH.out]; exact at_lt hxl hlt
          obtain ⟨bz, oz, rfl, hbz, hc0⟩ := (HZ.out.keep hbel) (y * W + x) h0
          dsimp only at hc0
          obtain ⟨hyW, hyx, hk0, hk0'⟩ := place h0 hsn25
          obtain ⟨hz0, hz1⟩ := HLT.out _ (int_mem (k := y * W + x) (by omega))
          obtain ⟨bt, ot, rfl, hbt, hcc⟩ := (HT.out.keep hbel).at (i := (zs.getD (y * W + x) 0).toNat) (by omega)
          generalize hzz : zs.getD (y * W + x) 0 = z0 at *
          generalize htt : ts.getD z0.toNat noTile = t0 at *
          obtain ⟨tu, tr, td, tl⟩ := t0
          have hd0 := hcc.c0
          have hd1 := hcc.c1
          have hd2 := hcc.c2
          have hd3 := hcc.c3
          dsimp only at hd0 hd1 hd2 hd3
          clear hcc
          go_wp2_with fail
          go_region
          have hbel4 : Below w.heap.size w (wr.alloc (.cells #[.int .i64 tu, .int .i64 tr, .int .i64 td, .int .i64 tl] 89)).drew := (hbel.alloc hbel.size _).drew
          have hrow4 : Row (wr.alloc (.cells #[.int .i64 tu, .int .i64 tr, .int .i64 td, .int .i64 tl] 89)).drew wr.heap.size 89 [.int .i64 tu, .int .i64 tr, .int .i64 td, .int .i64 tl] := (row_alloc wr 89 [.int .i64 tu, .int .i64 tr, .int .i64 td, .int .i64 tl]).drew
          have hR4 := HR.out.keep (B := wr.heap.size) ((Below.refl _ wr).alloc (Nat.le_refl _) (.cells #[.int .i64 tu, .int .i64 tr, .int .i64 td, .int .i64 tl] 89)).drew HR.out.lt
          have HB4 := Lib.hid hbel4
          have HR4 := Lib.hid hR4
          have hct4 := hR4.cell 0
          dsimp only [List.getElem?_cons_zero] at hct4
          have hlt4 := hR4.lt
          have hlt5 := hrow4.lt
          have hf1 := hrow4.cell 1
          have hf2 := hrow4.cell 2
          clear hct hd0 hd1 hd2 hd3 hc0 hk0 hk0' hyW hyx hbel4 hR4
          generalize (wr.alloc (.cells #[.int .i64 tu, .int .i64 tr, .int .i64 td, .int .i64 tl] 89)).drew = w4 at *
          generalize wr.heap.size = b0 at *
          obtain ⟨x1, hx1⟩ : ∃ x1, x1 = (x + 1) % W := ⟨_, rfl⟩
          obtain ⟨y1, hy1⟩ : ∃ y1, y1 = (y + 1) % H := ⟨_, rfl⟩
          have hx1W : x1 < W := by rw [hx1]; exact Nat.mod_lt _ (by omega)
          have hy1H : y1 < H := by rw [hy1]; exact Nat.mod_lt _ (by omega)
          have htx : ((x : Int) + 1).tmod (W : Int) = (x1 : Int) := by rw [hx1]; exact wrap_mod
          have hty : ((y : Int) + 1).tmod (H : Int) = (y1 : Int) := by rw [hy1]; exact wrap_mod
          have hW0 : ((W : Int) == 0) = false := by rw [beq_eq_false_iff_ne]; omega
          have hH0 : ((H : Int) == 0) = false := by rw [beq_eq_false_iff_ne]; omega
          have hW00 : ¬ W = 0 := by omega
          have hH00 : ¬ H = 0 := by omega
          have h1 : y * W + x1 < sn := by rw [HWH.out]; exact at_lt hx1W hlt
          have h2 : y1 * W + x < sn := by rw [HWH.out]; exact at_lt hxl hy1H
          obtain ⟨bz', oz', ez, hbz, hc1⟩ := (HZ.out.keep HB4.out) (y * W + x1) h1
          cases ez
          obtain ⟨bz', oz', ez, _, hc2⟩ := (HZ.out.keep HB4.out) (y1 * W + x) h2
          cases ez
          dsimp only at hc1 hc2
          obtain ⟨⟨hyWa, hyWb⟩, ⟨hyxa, hyxb⟩, hk1, hk1'⟩ := place h1 hsn25
          obtain ⟨⟨hyW2a, hyW2b⟩, ⟨hyx2a, hyx2b⟩, hk2, hk2'⟩ := place h2 hsn25
          have T0 : 0 ≤ ((x : Int) + 1).tmod (W : Int) ∧ ((x : Int) + 1).tmod (W : Int) ≤ 25 := by rw [htx]; omega
          have T1 : 0 ≤ (y : Int) * (W : Int) + ((x : Int) + 1).tmod (W : Int) ∧ (y : Int) * (W : Int) + ((x : Int) + 1).tmod (W : Int) ≤ 25 := by rw [htx]; exact ⟨hyxa, hyxb⟩
          have T2 : (y : Int) * (W : Int) + ((x : Int) + 1).tmod (W : Int) < (sn : Int) := by rw [htx]; exact hk1'
          have T3 : ((y : Int) * (W : Int) + ((x : Int) + 1).tmod (W : Int)).toNat = y * W + x1 := by rw [htx]; exact hk1
          have V0 : 0 ≤ ((y : Int) + 1).tmod (H : Int) ∧ ((y : Int) + 1).tmod (H : Int) ≤ 25 := by rw [hty]; omega
          have V4 : 0 ≤ ((y : Int) + 1).tmod (H : Int) * (W : Int) ∧ ((y : Int) + 1).tmod (H : Int) * (W : Int) ≤ 25 := by rw [hty]; exact ⟨hyW2a, hyW2b⟩
          have V1 : 0 ≤ ((y : Int) + 1).tmod (H : Int) * (W : Int) + (x : Int) ∧ ((y : Int) + 1).tmod (H : Int) * (W : Int) + (x : Int) ≤ 25 := by rw [hty]; exact ⟨hyx2a, hyx2b⟩
          have V2 : ((y : Int) + 1).tmod (H : Int) * (W : Int) + (x : Int) < (sn : Int) := by rw [hty]; exact hk2'
          have V3 : (((y : Int) + 1).tmod (H : Int) * (W : Int) + (x : Int)).toNat = y1 * W + x := by rw [hty]; exact hk2
          clear T0 T1 T2 T3 V0 V1 V2 V3 V4
          have U0 : IntKind.i64.wrap ((y : Int) * (W : Int)) = (y : Int) * (W : Int) := wrap_ok (by omega) (by omega)
          have U1 : IntKind.i64.wrap ((x : Int) + 1) = (x : Int) + 1 := wrap_ok (by omega) (by omega)
          have U2 : IntKind.i64.wrap ((y : Int) + 1) = (y : Int) + 1 := wrap_ok (by omega) (by omega)
          have U3 : IntKind.i64.wrap ((y : Int) * (W : Int) + (x1 : Int)) = (y : Int) * (W : Int) + (x1 : Int) := wrap_ok (by omega) (by omega)
          have U4 : IntKind.i64.wrap ((y1 : Int) * (W : Int)) = (y1 : Int) * (W : Int) := wrap_ok (by omega) (by omega)
          have U5 : IntKind.i64.wrap ((y1 : Int) * (W : Int) + (x : Int)) = (y1 : Int) * (W : Int) + (x : Int) := wrap_ok (by omega) (by omega)
          have U6 : IntKind.i64.wrap (x1 : Int) = (x1 : Int) := wrap_ok (by omega) (by omega)
          have U7 : IntKind.i64.wrap (y1 : Int) = (y1 : Int) := wrap_ok (by omega) (by omega)
          obtain ⟨hp0, hp1⟩ := HLT.out _ (int_mem (k := y * W + x1) (by omega))
          obtain ⟨hq0, hq1⟩ := HLT.out _ (int_mem (k := y1 * W + x) (by omega))
          obtain ⟨bt', ot', et, hbt, hcp⟩ := (HT.out.keep HB4.out).at (i := (zs.getD (y * W + x1) 0).toNat) (by omega)
          cases et
          obtain ⟨bt', ot', et, _, hcq⟩ := (HT.out.keep HB4.out).at (i := (zs.getD (y1 * W + x) 0).toNat) (by omega)
          cases et
          have HG : Hid (Looks W H ring (zt ts zs) y x ↔ ((ring = true ∨ x + 1 < W → tr = (ts.getD (zs.getD (y * W + x1) 0).toNat noTile).l) ∧ (ring = true ∨ y + 1 < H → td = (ts.getD (zs.getD (y1 * W + x) 0).toNat noTile).u))) := by
            have e0 : zt ts zs (y * W + x) = ⟨tu, tr, td, tl⟩ := by unfold zt; rw [hzz, htt]
            rw [hx1, hy1]
            constructor
            · intro h
              have g1 := h.right
              have g2 := h.down
              rw [e0] at g1 g2
              exact ⟨g1, g2⟩
            · intro h
              refine ⟨?_, ?_⟩
              · rw [e0]; exact h.1
              · rw [e0]; exact h.2
          clear hx1 hy1 hzz htt
          generalize zs.getD (y * W + x1) 0 = z1 at *
          generalize zs.getD (y1 * W + x) 0 = z2 at *
          generalize ts.getD z1.toNat noTile = t1 at *
          generalize ts.getD z2.toNat noTile = t2 at *
          obtain ⟨au, ar, ad, al⟩ := t1
          obtain ⟨bu, br, bd, bl⟩ := t2
          have hd0 := hcp.c0
          have hd1 := hcp.c1
          have hd2 := hcp.c2
          have hd3 := hcp.c3
          have he0 := hcq.c0
          have he1 := hcq.c1
          have he2 := hcq.c2
          have he3 := hcq.c3
          dsimp only at hd0 hd1 hd2 hd3 he0 he1 he2 he3 HG
          clear hcp hcq
          go_upto_region 15 with fail
          go_cut [16, 17] (fun p q wx => ∃ b1 b2 : Nat, p = .pointer (some ⟨b1, 0, none⟩) ∧ q = .pointer (some ⟨b2, 0, none⟩) ∧ Row wx b1 89 [.int .i64 au, .int .i64 ar, .int .i64 ad, .int .i64 al] ∧ Row wx b2 89 [.int .i64 bu, .int .i64 br, .int .i64 bd, .int .i64 bl] ∧ Below w4.heap.size w4 wx)
          case first =>
            go_region_held3 (fun w' => w'.cell? ⟨w.heap.size, 0, none⟩ = some (.slice (some ⟨bt, ot, none⟩) n c) ∧ w'.cell? ⟨bz, oz + (y * W + x1), none⟩ = some (.int .i64 z1) ∧ w'.cell? ⟨bz, oz + (y1 * W + x), none⟩ = some (.int .i64 z2) ∧
              w'.cell? ⟨bt, ot + z1.toNat * 4, none⟩ = some (.int .i64 au) ∧ w'.cell? ⟨bt, ot + z1.toNat * 4 + 1, none⟩ = some (.int .i64 ar) ∧ w'.cell? ⟨bt, ot + z1.toNat * 4 + 2, none⟩ = some (.int .i64 ad) ∧ w'.cell? ⟨bt, ot + z1.toNat * 4 + 3, none⟩ = some (.int .i64 al) ∧
              w'.cell? ⟨bt, ot + z2.toNat * 4, none⟩ = some (.int .i64 bu) ∧ w'.cell? ⟨bt, ot + z2.toNat * 4 + 1, none⟩ = some (.int .i64 br) ∧ w'.cell? ⟨bt, ot + z2.toNat * 4 + 2, none⟩ = some (.int .i64 bd) ∧ w'.cell? ⟨bt, ot + z2.toNat * 4 + 3, none⟩ = some (.int .i64 bl)) (go_keep) (first | fail)
            all_goals
              go_wp2_with fail
              go_meet
              case rel =>
                first
                | exact ⟨w4.heap.size, w4.heap.size + 1, rfl, rfl, (two_new w4 89 [.int .i64 au, .int .i64 ar, .int .i64 ad, .int .i64 al] [.int .i64 bu, .int .i64 br, .int .i64 bd, .int .i64 bl]).1.drew, (two_new w4 89 [.int .i64 au, .int .i64 ar, .int .i64 ad, .int .i64 al] [.int .i64 bu, .int .i64 br, .int .i64 bd, .int .i64 bl]).2.1.drew, (two_new w4 89 [.int .i64 au, .int .i64 ar, .int .i64 ad, .int .i64 al] [.int .i64 bu, .int .i64 br, .int .i64 bd, .int .i64 bl]).2.2.drew⟩
                | exact ⟨w4.heap.size + 1, w4.heap.size, rfl, rfl, (two_new w4 89 [.int .i64 bu, .int .i64 br, .int .i64 bd, .int .i64 bl] [.int .i64 au, .int .i64 ar, .int .i64 ad, .int .i64 al]).2.1.drew, (two_new w4 89 [.int .i64 bu, .int .i64 br, .int .i64 bd, .int .i64 bl] [.int .i64 au, .int .i64 ar, .int .i64 ad, .int .i64 al]).1.drew, (two_new w4 89 [.int .i64 bu, .int .i64 br, .int .i64 bd, .int .i64 bl] [.int .i64 au, .int .i64 ar, .int .i64 ad, .int .i64 al]).2.2.drew⟩
          case rest =>
          obtain ⟨b1, b2, rfl, rfl, hr1, hr2, hbc⟩ := hcut
          have HBX := Lib.hid (HB4.out.trans (hbc.mono HB4.out.size))
          have HRX := Lib.hid (HR4.out.keep hbc HR4.out.lt)
          have hr0 := hrow4.keep hbc hrow4.lt
          have k1 := hr0.cell 1
          have k2 := hr0.cell 2
          have k3 := hr1.cell 3
          have k0 := hr2.cell 0
          clear hf1 hf2 hd0 hd1 hd2 hd3 he0 he1 he2 he3 hct4 hlt4 hlt5 hr1 hr2 hr0 hbc U0 U1 U2 U3 U4 U5 U6 U7 hc1 hc2 hk1 hk1' hk2 hk2' hyWa hyWb hyxa hyxb hyW2a hyW2b hyx2a hyx2b hp0 hp1 hq0 hq1 hW0 hH0 hW00 hH00 h1 h2 h0
          go_upto_region 16 with fail
          go_cut [115] (fun s wx => (∃ bb, s = .bool bb ∧ (bb = false ↔ Looks W H ring (zt ts zs) y x)) ∧ wx = wc)
          case first =>
            clear HWH HBX HRX HOKX HOK HT HZ HLT HOFF HB4 HR4 hbel
            cases ring
            case' true => skip
            case' false =>
              by_cases g1 : x + 1 < W
              case' pos => have g1' : (x : Int) + 1 < (W : Int) := by omega
              case' neg => have g1' : (W : Int) ≤ (x : Int) + 1 := by omega
              all_goals
                by_cases g3 : y + 1 < H
              case' pos => have g3' : (y : Int) + 1 < (H : Int) := by omega
              case' neg => have g3' : (H : Int) ≤ (y : Int) + 1 := by omega
            all_goals
              by_cases g2 : tr = al
            all_goals
              by_cases g4 : td = bu
            all_goals
              go_wp2_with fail
              go_meet
              case rel =>
                refine ⟨⟨_, rfl, ?_⟩, rfl⟩
                rw [HG.out]
                simp [*]
          case rest =>
          obtain ⟨⟨bb, rfl, hbb⟩, rfl⟩ := hcut
          have HBB := Lib.hid hbb
          clear hbb
          cases bb
          · go_wp2_with fail
            go_roundw
            case rel => exact ⟨x + 1, by omega, by go_num, fun x' hx' => (by
              by_cases hxx : x' = x
              · subst hxx; exact HBB.out.1 rfl
              · exact HOKX.out x' (by omega)), HRX.out, HBX.out⟩
            case measure => simp [intOf]; omega
          · go_wp2_with fail
            go_ret2
            exact ⟨⟨false, rfl, ⟨fun h => absurd h (by decide), fun h => absurd (HBB.out.2 (good_looks h hlt hxl)) (by decide)⟩⟩, HBX.out⟩
        · have hxe : x = W := by omega
          go_wp2
          go_roundw
          case rel => exact ⟨y + 1, by omega, by go_num, fun y' hy' x' hx' => (by
            by_cases hyy : y' = y
            · subst hyy; exact HOKX.out x' (by omega)
            · exact HOK.out y' (by omega) x' hx'), HR.out, hbel⟩
          case measure => simp [intOf]; omega
    · go_wp2
      go_ret2
      exact ⟨⟨true, rfl, fun _ => looks_good (by omega) (by omega) fun y' hy' x' hx' => HOK.out y' (by omega) x' hx', fun _ => rfl⟩, hbel⟩

set_option maxHeartbeats 4000000 in
set_option maxRecDepth 1000000 in
/-- What is wrong is told. -/
theorem fits_bad (a : Option Addr) (n c : Nat) (ts : List Tl) (W H : Int) (sa : Option Addr) (sn sc : Nat) (zs : List Int) (ring : Bool) (w : World) (hT : Tiles w a n ts)
    (hsn : zs.length = sn) (hs : sn ≤ 1000000) (hZ : Cells w sa sn (fun i => .int .i64 (zs.getD i 0))) (f : Int) (hf : f = if zfault ts [W, H] ≠ 0 then zfault ts [W, H] else cfault n (W * H) zs) (hf0 : f ≠ 0) :
    Calls Tryd.prog 25 #[.slice a n c, .int .i64 W, .int .i64 H, .slice sa sn sc, .bool ring] w fun e w' => e = .returned (.tuple #[.bool false, .iface 68 (.int .i64 f)]) ∧ Below w.heap.size w w' := by
  have HCK : Hid (∀ w2 : World, Tiles w2 a n ts → ∀ (b sc2 : Nat), Row w2 b 3 [.int .i64 W, .int .i64 H] → Calls Tryd.prog 35 #[.slice a n c, .slice (some ⟨b, 0, none⟩) 2 sc2] w2 fun e w' => e = .returned (errV (zfault ts [W, H])) ∧ Below w2.heap.size w2 w') := fun w2 h2 b sc2 hR =>
    check_any a n c ts (some ⟨b, 0, none⟩) 2 sc2 [W, H] w2 h2 rfl (by omega) (fun i hi => ⟨b, 0, rfl, hR.lt, by
      rw [Nat.zero_add, hR.cell]
      match i, hi with
      | 0, _ => rfl
      | 1, _ => rfl⟩)
  have HT := Lib.hid hT
  have HZ := Lib.hid hZ
  clear hT hZ
  go_enter Tryd.func25, Tryd.ntmps25
  go_wp2_with fail
  have hT0 : Row (w.alloc (.cells #[.slice a n c] 22)) w.heap.size 22 [.slice a n c] := row_alloc w _ _
  have hB0 : Below w.heap.size w ((w.alloc (.cells #[.slice a n c] 22)).alloc (.cells #[.int .i64 W, .int .i64 H] 3)) := ((Below.refl _ _).alloc (Nat.le_refl _) _).alloc (by simp) _
  have hR0 := row_alloc (w.alloc (.cells #[.slice a n c] 22)) 3 [.int .i64 W, .int .i64 H]
  rw [World.size_alloc] at hR0
  have hT1 := hT0.keep (B := (w.alloc (.cells #[.slice a n c] 22)).heap.size) ((Below.refl _ _).alloc (Nat.le_refl _) (.cells #[.int .i64 W, .int .i64 H] 3)) (by simp)
  refine (HCK.out _ (HT.out.keep hB0) _ _ hR0).mono ?_
  rintro e1 w1 ⟨rfl, hb1⟩
  have HRT := Lib.hid (hT1.keep hb1 hT1.lt)
  have hb1 := hB0.trans (hb1.mono hB0.size)
  have hct := HRT.out.cell 0
  dsimp only [List.getElem?_cons_zero] at hct
  clear hT0 hB0 hR0 hT1
  by_cases hz : zfault ts [W, H] = 0
  · rw [if_neg (fun h => h hz)] at hf
    rw [errV_zero hz]
    obtain ⟨_, ⟨hW1, hW5⟩, hH1, hH5⟩ := zfault_two hz
    have hwh : 0 ≤ W * H ∧ W * H ≤ 25 := by
      obtain ⟨a, rfl⟩ := Int.eq_ofNat_of_zero_le (show 0 ≤ W by omega)
      obtain ⟨b, rfl⟩ := Int.eq_ofNat_of_zero_le (show 0 ≤ H by omega)
      have : a * b ≤ 5 * 5 := Nat.mul_le_mul (by omega) (by omega)
      have e : ((a * b : Nat) : Int) = (a : Int) * (b : Int) := by push_cast; rfl
      omega
    obtain ⟨hwh1, hwh2⟩ := hwh
    unfold cfault at hf
    by_cases hl : (zs.length : Int) ≠ W * H
    · rw [if_pos hl] at hf
      rw [hsn] at hl
      subst hf
      have hl' : ((sn : Int) == W * H) = false := by rw [beq_eq_false_iff_ne]; exact hl
      go_wp2_with fail
      go_ret2
      exact ⟨rfl, hb1⟩
    · rw [if_neg hl] at hf
      have hl' : W * H = (sn : Int) := by omega
      have hoff : zs.any (off n) = true := by
        by_cases ha : ∀ z ∈ zs, 0 ≤ z ∧ z < (n : Int)
        · rw [if_pos ha] at hf; exact absurd hf hf0
        · by_cases hb : zs.any (off n) = true
          · exact hb
          · exact absurd (any_off.1 (Bool.eq_false_iff.2 hb)) ha
      have hf1 : f = 1 := by
        rw [hf, if_neg]
        intro ha
        rw [any_off.2 ha] at hoff
        cases hoff
      subst hf1
      have HOFF := Lib.hid hoff
      clear hoff hf
      go_wp2_with fail
      refine (contains_any sa sn sc zs w.heap.size a n c _ hsn hs (HZ.out.keep hb1) hct).mono ?_
      rintro e2 w2 ⟨rfl, rfl⟩
      rw [HOFF.out]
      go_wp2_with fail
      go_ret2
      exact ⟨rfl, hb1⟩
  · rw [if_pos hz] at hf
    subst hf
    rw [errV_some hz]
    go_wp2_with fail
    go_ret2
    exact ⟨rfl, hb1⟩
end Wg
end Go.Proofs.YthggpjpmjhaidaaDoor
