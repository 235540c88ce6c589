/- WALK: slices.Clone at []int; one step of blocks. -/
import Derived.Test.YtmnefdcgknmnjaaDoorBlCk
import Derived.Test.YtmnefdcgknmnjaaDoorBlG
import Derived.Maps.AppendAt
import Derived.BigRegion
import Derived.Lib.SliceRun
namespace Go.Proofs.YtmnefdcgknmnjaaDoor
set_option linter.unusedSimpArgs false
set_option linter.unusedVariables false
open Go.RowKit Go.Lib
namespace Bl
open Tld Mem

theorem infoIntB : (Tryd.prog.info? 3).map (fun i => (i.zero, i.size, i.bytes)) = some (some (.int .i64 0), 1, 8) := by kernel_rfl
theorem Cells.get {w : World} {a : Option Addr} {n : Nat} {f : Nat → Value} (h : Cells w a n f) {x : Addr} (hx : a = some x) {j : Nat} (hj : j < n) : w.cell? (x.add j) = some (f j) := by
  obtain ⟨b, off, e, _, hc⟩ := h j hj
  rw [hx] at e
  cases e
  rw [Addr.add_mid]
  exact hc
set_option maxHeartbeats 2000000 in
set_option maxRecDepth 100000 in
/-- slices.Clone: the same numbers, in memory of the call's own. -/
theorem clone_any (a : Option Addr) (n c : Nat) (zs : List Int) (w : World) (hz : zs.length = n) (hs : n ≤ 1000000) (hZ : Cells w a n (fun i => .int .i64 (zs.getD i 0))) (hnil : a = none → n = 0) :
    Calls Tryd.prog 21 #[.slice a n c] w fun e w' => ∃ v', e = .returned v' ∧ w'.ownsRow w.heap.size 3 1 v' n (zs.map (Value.int .i64)) ∧ Below w.heap.size w w' := by
  have qT : ∀ (w : World) (a : Option Addr) (n c n' c' : Nat), (binOp .eql 22 (.slice a n c) (.slice none n' c')).run Tryd.prog w = .ok (.bool a.isNone) w := fun w a n c n' c' => Lib.run_eql_slice_nil w _ _ a n c n' c' Tryd.underlying22
  obtain ⟨i0, hI0, hz0, hz1, hz2⟩ := info_parts infoIntB
  have HZ := Lib.hid hZ
  have HL := Lib.hid hz
  clear hZ hz
  cases a with
  | none =>
    obtain rfl := hnil rfl
    obtain rfl : zs = [] := List.eq_nil_of_length_eq_zero HL.out
    go_enter Tryd.func21, Tryd.ntmps21
    go_wp2
    go_ret
    exact ⟨_, rfl, ⟨rfl, .inl ⟨rfl, rfl⟩⟩, Below.refl _ _⟩
  | some x =>
    go_enter Tryd.func21, Tryd.ntmps21
    go_wp2_with (at_builtin; refine wpList_append_own _ rfl _ _ 22 rfl w.heap.size 3 i0 (.int .i64 0) 1 8 Tryd.underlying22 hI0 hz0 hz1 hz2 rfl (by decide) _ _ _ rfl (World.ownsRow_made w #[] 0 (Nat.le_refl _) (Nat.zero_le _) rfl) x n c (zs.map (Value.int .i64)) rfl ?qc1 ?qc2 ?qc3 ?qc4 ?qc5 ?qc6 ?_)
    case qc1 => simp [HL.out]
    case qc2 =>
      intro j u hj
      have hjn : j < n := by
        have := (List.getElem?_eq_some_iff.1 hj).1
        rw [List.length_map, HL.out] at this
        exact this
      have h1 := Cells.get HZ.out rfl hjn
      refine Lib.cell?_alloc_some _ ?_
      rw [h1]
      have e : (zs.map (Value.int .i64))[j]? = some (Value.int .i64 (zs.getD j 0)) := by simp [List.getD_eq_getElem?_getD, List.getElem?_eq_getElem (show j < zs.length from by rw [HL.out]; exact hjn)]
      rw [e] at hj
      exact hj
    case qc3 => intro u hu; obtain ⟨x, _, rfl⟩ := List.mem_map.1 hu; rfl
    case qc4 => unfold maxLen; omega
    case qc5 => omega
    case qc6 => simp
    intro v' w1 hown hgrow hnil'
    go_wp2
    go_ret
    refine ⟨v', rfl, by simpa using hown, ?_⟩
    exact ((Below.refl _ w).alloc (Nat.le_refl _) _).grown hgrow (by simp) (by intro k hk; simp [Value.ownBlock] at hk; omega)

/-- A slice in block g that holds a grid. -/
def Holds (w : World) (g : Nat) (a : Option Addr) (W H : Nat) (c : Nat → Nat → Nat) : Prop := 0 < W → 0 < H → a = some ⟨g, 0, none⟩ ∧ ∃ cs, Row w g 3 cs ∧ Grd cs W H c
theorem Holds.congr {w : World} {g : Nat} {a : Option Addr} {W H : Nat} {c d : Nat → Nat → Nat} (h : Holds w g a W H c) (e : ∀ x y, x < W → y < H → c x y = d x y) : Holds w g a W H d := fun h1 h2 => by
  obtain ⟨e1, cs, hR, hG⟩ := h h1 h2
  exact ⟨e1, cs, hR, hG.congr e⟩
theorem Holds.keep {w w' : World} {g : Nat} {a : Option Addr} {W H : Nat} {c : Nat → Nat → Nat} (h : Holds w g a W H c) (hb : Below w.heap.size w w') : Holds w' g a W H c := fun h1 h2 => by
  obtain ⟨e1, cs, hR, hG⟩ := h h1 h2
  exact ⟨e1, cs, hR.keep hb hR.lt, hG⟩
theorem grown_of_below {w w' : World} {r : Option Nat} (h : Below w.heap.size w w') : w.grownBy w' r := ⟨h.os, h.tape, h.output, h.size, fun k hk _ => h.block k hk⟩
theorem grown_only {w w' : World} {g : Nat} (h : Only g w w') : w.grownBy w' (some g) := h.grown
/-- The places of a block's first i cells; the others are 0. -/
def atL (K : Nat → Nat) (i : Nat) : List Value := (List.range 4).map fun j => if j < i then .int .i64 ((K j : Nat) : Int) else .int .i64 0
theorem atL_next (K : Nat → Nat) {i : Nat} (h : i < 4) : (atL K i).set i (.int .i64 ((K i : Nat) : Int)) = atL K (i + 1) := by
  match i, h with
  | 0, _ => rfl
  | 1, _ => rfl
  | 2, _ => rfl
  | 3, _ => rfl
theorem atL_get (K : Nat → Nat) {i j : Nat} (h : j < 4) (hi : j < i) : (atL K i)[j]? = some (.int .i64 ((K j : Nat) : Int)) := by
  unfold atL
  rw [List.getElem?_map, List.getElem?_range h]
  simp [hi]
theorem atL_zero (K : Nat → Nat) {i : Nat} (h : i < 4) : (atL K i)[i]? = some (.int .i64 0) := by
  unfold atL
  rw [List.getElem?_map, List.getElem?_range h]
  simp
theorem nxt_tmod {W x e : Nat} (hx : x < W) (he : e ≤ 1) : ((x : Int) + (e : Int)).tmod (W : Int) = (nxt W x e : Nat) := by
  rw [← nxt_mod hx he, show ((x : Int) + (e : Int)) = ((x + e : Nat) : Int) from by push_cast; rfl]
  exact Int.ofNat_tmod _ _
theorem grown_after {w w1 w2 : World} {g q : Nat} (h : w.grownBy w1 (some g)) (ho : Only q w1 w2) (hq : w.heap.size ≤ q) : w.grownBy w2 (some g) :=
  ⟨ho.os.trans h.os, ho.tape.trans h.tape, ho.output.trans h.output, by rw [ho.size]; exact h.size, fun k hk hne => (ho.block k (by omega)).trans (h.block k hk hne)⟩
theorem grown_drewN {w w1 : World} {r : Option Nat} {n : Nat} (h : w.grownBy w1 r) : w.grownBy (w1.drewN n) r := ⟨h.os, h.tape, h.output, h.size, h.block⟩
theorem grown_drew {w w1 : World} {r : Option Nat} (h : w.grownBy w1 r) : w.grownBy w1.drew r := ⟨h.os, h.tape, h.output, h.size, h.block⟩
theorem or_fin : ∀ i : Fin 4, ∀ b : Fin 8, ∀ c : Fin 2, b.val < 2 ^ i.val → bits .or .i64 (b.val : Int) (wrap64 ((c.val : Int) * 2 ^ i.val)) = ((b.val + c.val * 2 ^ i.val : Nat) : Int) := by decide +kernel
theorem or_part {b c i : Nat} (hi : i < 4) (hb : b < 2 ^ i) (hc : c < 2) : bits .or .i64 (b : Int) (wrap64 ((c : Int) * 2 ^ i)) = ((b + c * 2 ^ i : Nat) : Int) := by
  have h8 : (2 : Nat) ^ i ≤ 2 ^ 3 := Nat.pow_le_pow_right (by omega) (by omega)
  exact or_fin ⟨i, hi⟩ ⟨b, by omega⟩ ⟨c, hc⟩ hb
theorem infoArrB {K : Nat → Nat} {i : Nat} : (Tryd.prog.info? 56).map (·.size) = some (atL K i).length := by
  have h : (Tryd.prog.info? 56).map (·.size) = some 4 := by kernel_rfl
  rw [h]
  simp [atL]
theorem index_arr (w : World) (K : Nat → Nat) {i : Nat} (h : i < 4) : (Instr.index 56 (.agg (atL K 4).toArray) (.int .i64 (i : Int))).run Tryd.prog w = .ok (.int .i64 ((K i : Nat) : Int)) w := by
  have hc : (0 : Int) ≤ (i : Int) ∧ (i : Int) < ((4 : Nat) : Int) := by omega
  have hg : (atL K 4).toArray[i]? = some (.int .i64 ((K i : Nat) : Int)) := by rw [List.getElem?_toArray]; exact atL_get K h h
  have hs : (sizeOf 3).run Tryd.prog w = .ok 1 w := Tryd.sizeOf3 w
  have hp := run_part_plain (P := Tryd.prog) (e := 3) (w := w) (by kernel_rfl) hg
  simp [Instr.index, run_underlying Tryd.underlying56, asIntOf, hc, hs, hp, go_sem, Result.andThen]
  rw [if_pos h, atL_get K h h]
  rfl
theorem bit_fin : ∀ i : Fin 4, ∀ v : Fin 16, bits .and .i64 ((v.val : Int) / 2 ^ i.val) 1 = ((bitN v.val i.val : Nat) : Int) := by decide +kernel
theorem bit_of {v i : Nat} (hi : i < 4) (hv : v < 16) : bits .and .i64 ((v : Int) / 2 ^ i) 1 = ((bitN v i : Nat) : Int) := bit_fin ⟨i, hi⟩ ⟨v, hv⟩
/-- A table's numbers. -/
def tN (tz : List Int) (b : Nat) : Nat := (tz.getD b 0).toNat

theorem Cells.grown {w w' : World} {a : Option Addr} {n g : Nat} {f : Nat → Value} (h : Cells w a n f) (hg : w.grownBy w' (some g)) (hne : ∀ b off, a = some ⟨b, off, none⟩ → b ≠ g) : Cells w' a n f := fun i hi => by
  obtain ⟨b, off, e, hlt, hc⟩ := h i hi
  refine ⟨b, off, e, Nat.lt_of_lt_of_le hlt hg.size, ?_⟩
  rw [World.cell?_of_block (hg.block b hlt (fun x => hne b off e (Option.some.inj x)))]
  exact hc
/-- A pattern's box. -/
def boxP (W H : Int) (a : Option Addr) (n c : Nat) : List Value := [.int .i64 W, .int .i64 H, .slice a n c]

set_option maxHeartbeats 4000000 in
set_option maxRecDepth 1000000 in
theorem step_any (ta : Option Addr) (tc : Nat) (tz : List Int) (W H : Nat) (a : Option Addr) (n c g ph : Nat) (cf : Nat → Nat → Nat) (w : World) (hT : Cells w ta 16 (fun i => .int .i64 (tz.getD i 0))) (hTg : ∀ b off, ta = some ⟨b, off, none⟩ → b ≠ g)
    (ht : ∀ b, b < 16 → 0 ≤ tz.getD b 0 ∧ tz.getD b 0 ≤ 15) (hW : W % 2 = 0) (hH : H % 2 = 0) (hW1 : W ≤ 100) (hH1 : H ≤ 100) (hn : n = W * H) (hph : ph ≤ 1) (hc : ∀ x y, cf x y < 2) (hG : Holds w g a W H cf) :
    Calls Tryd.prog 22 #[.slice ta 16 tc, pat W H a n c, .int .i64 ph] w fun e w' => e = .returned (.tuple #[]) ∧ Holds w' g a W H (cellN (tN tz) W H ph cf) ∧ w.grownBy w' (some g) := by
  have HT := Lib.hid hT
  have HTG := Lib.hid hTg
  have HTB := Lib.hid ht
  have HW := Lib.hid hW
  have HH := Lib.hid hH
  have HN := Lib.hid hn
  have HC := Lib.hid hc
  have HG := Lib.hid hG
  clear hT hTg ht hc hG hn hW hH
  unfold pat
  go_enter Tryd.func22, Tryd.ntmps22
  go_wp2
  have hP0 : Row (w.alloc (.cells #[.int .i64 W, .int .i64 H, .slice a n c] 24)) w.heap.size 24 (boxP W H a n c) := row_alloc w _ _
  have hB0 : Below w.heap.size w (w.alloc (.cells #[.int .i64 W, .int .i64 H, .slice a n c] 24)) := (Below.refl _ _).alloc (Nat.le_refl _) _
  have HP := Lib.hid hP0
  have HB := Lib.hid hB0
  have HPG : Hid (0 < W → 0 < H → w.heap.size ≠ g) := fun h1 h2 e => by
    obtain ⟨_, cs, hR, _⟩ := HG.out h1 h2
    have := hR.lt
    omega
  clear hP0 hB0
  generalize w.alloc (.cells #[.int .i64 W, .int .i64 H, .slice a n c] 24) = w1 at *
  obtain ⟨p, hp⟩ : ∃ p, p = w.heap.size := ⟨_, rfl⟩
  rw [← hp] at HP HPG ⊢
  have HQ := Lib.hid hp
  clear hp
  go_loopw [6] (fun v wr => ∃ y : Nat, v = .int .i64 y ∧ ph ≤ y ∧ y ≤ H + 1 ∧ (y + ph) % 2 = 0 ∧ Row wr p 24 (boxP W H a n c) ∧ Holds wr g a W H (mix (tN tz) W H ph cf y ph) ∧ w.grownBy wr (some g)) (fun v _ => H + 2 - (intOf v).toNat)
  case atStart => exact ⟨ph, rfl, Nat.le_refl _, by omega, by omega, HP.out, (HG.out.keep HB.out).congr (fun x y hx hy => (mix_start HW.out HH.out hph hx hy).symm), grown_of_below HB.out⟩
  case round =>
    clear HP HB
    obtain ⟨y, rfl, hy0, hy1, hy2, hP, hG, hU⟩ := hrel
    have f0 := hP.cell 0
    have f1 := hP.cell 1
    unfold boxP at f0 f1
    dsimp only [List.getElem?_cons_succ, List.getElem?_cons_zero] at f0 f1
    have HP := Lib.hid hP
    have HG := Lib.hid hG
    have HU := Lib.hid hU
    have HY := Lib.hid hy2
    clear hP hG hU hy2
    by_cases hyl : y < H
    · go_wp2_with fail
      obtain ⟨wo, rfl⟩ : ∃ wo : World, wo = wr := ⟨_, rfl⟩
      clear f0 f1
      go_loopw [7] (fun v wr => ∃ x : Nat, v = .int .i64 x ∧ ph ≤ x ∧ x ≤ W + 1 ∧ (x + ph) % 2 = 0 ∧ Row wr p 24 (boxP W H a n c) ∧ Holds wr g a W H (mix (tN tz) W H ph cf y x) ∧ w.grownBy wr (some g)) (fun v _ => W + 2 - (intOf v).toNat)
      case atStart => exact ⟨ph, rfl, Nat.le_refl _, by omega, by omega, HP.out, HG.out, HU.out⟩
      case round =>
        clear HP HG HU
        obtain ⟨x, rfl, hx0, hx1, hx2, hP, hG, hU⟩ := hrel
        have f0 := hP.cell 0
        unfold boxP at f0
        dsimp only [List.getElem?_cons_succ, List.getElem?_cons_zero] at f0
        have HP := Lib.hid hP
        have HG := Lib.hid hG
        have HU := Lib.hid hU
        have HX := Lib.hid hx2
        clear hP hG hU hx2
        by_cases hxl : x < W
        · obtain ⟨rfl, cs, hR, hGr⟩ := HG.out (by omega) (by omega)
          have HR := Lib.hid hR
          have HGR := Lib.hid hGr
          clear HG hR hGr
          go_wp2_with fail
          have hA0 : Row (wr.alloc (.cells #[.int .i64 0, .int .i64 0, .int .i64 0, .int .i64 0] 56)) wr.heap.size 56 (atL (spot W H x y) 0) := row_alloc wr _ _
          have hB0 : Below wr.heap.size wr (wr.alloc (.cells #[.int .i64 0, .int .i64 0, .int .i64 0, .int .i64 0] 56)) := (Below.refl _ _).alloc (Nat.le_refl _) _
          have hP0 := HP.out.keep hB0 HP.out.lt
          have hR0 := HR.out.keep hB0 HR.out.lt
          have hU0 : w.grownBy _ (some g) := HU.out.trans (grown_of_below hB0)
          have hpq : p ≠ wr.heap.size := fun e => by have := HP.out.lt; omega
          have hgq : g ≠ wr.heap.size := fun e => by have := HR.out.lt; omega
          have hpg : p ≠ g := HPG.out (by omega) (by omega)
          have hwp : w.heap.size ≤ wr.heap.size := HU.out.size
          clear HP HR HU f0
          generalize wr.alloc (.cells #[.int .i64 0, .int .i64 0, .int .i64 0, .int .i64 0] 56) = w2 at *
          generalize wr.heap.size = q at *
          have HA := Lib.hid hA0
          have HP := Lib.hid hP0
          have HR := Lib.hid hR0
          have HU := Lib.hid hU0
          clear hA0 hB0 hP0 hR0 hU0
          obtain ⟨wi, rfl⟩ : ∃ wi : World, wi = wr := ⟨_, rfl⟩
          go_loopw [9, 27] (fun u v wr => ∃ i : Nat, i ≤ 4 ∧ v = .int .i64 i ∧ u = .int .i64 (part cf W H x y i : Nat) ∧ Row wr q 56 (atL (spot W H x y) i) ∧ Row wr p 24 (boxP W H (some ⟨g, 0, none⟩) n c) ∧ Row wr g 3 cs ∧ w.grownBy wr (some g)) (fun _ v _ => 4 - (intOf v).toNat)
          case atStart => exact ⟨0, by omega, rfl, rfl, HA.out, HP.out, HR.out, HU.out⟩
          case round =>
            clear HA HP HR HU
            obtain ⟨i, hi, rfl, rfl, hA, hP, hR, hU⟩ := hrel
            have HA := Lib.hid hA
            have HP := Lib.hid hP
            have HR := Lib.hid hR
            have HU := Lib.hid hU
            clear hA hP hR hU
            by_cases hi4 : i < 4
            · obtain ⟨e, he⟩ : ∃ e, e = i % 2 := ⟨_, rfl⟩
              obtain ⟨f, hf⟩ : ∃ f, f = i / 2 := ⟨_, rfl⟩
              have hi2 : i = f * 2 + e := by omega
              have he1 : e ≤ 1 := by omega
              have hf1 : f ≤ 1 := by omega
              have htm : (i : Int).tmod 2 = (e : Int) := by rw [he]; exact Int.ofNat_tmod _ _
              have htd : (i : Int).tdiv 2 = (f : Int) := by rw [hf]; exact Int.ofNat_tdiv _ _
              have hmx : ((x : Int) + (e : Int)).tmod (W : Int) = (nxt W x e : Nat) := nxt_tmod hxl he1
              have hmy : ((y : Int) + (f : Int)).tmod (H : Int) = (nxt H y f : Nat) := nxt_tmod hyl hf1
              have hnx := nxt_lt hxl he1
              have hny := nxt_lt hyl hf1
              have hK : spot W H x y i = nxt H y f * W + nxt W x e := by rw [hf, he]; rfl
              have hKl : spot W H x y i < W * H := spot_lt hxl hyl hi4
              have hWH : W * H ≤ 100 * 100 := Nat.mul_le_mul hW1 hH1
              have hWn : ((W : Int) == 0) = false := by rw [beq_eq_false_iff_ne]; omega
              have hHn : ((H : Int) == 0) = false := by rw [beq_eq_false_iff_ne]; omega
              have hcell : Grd cs W H (mix (tN tz) W H ph cf y x) := HGR.out
              have hcc := hcell _ _ hnx hny
              rw [mix_same HW.out HH.out hph hxl hyl HX.out HY.out he1 hf1, ← hK] at hcc
              have hcg := (HR.out.cell (spot W H x y i)).trans hcc
              have hcv := HC.out (nxt W x e) (nxt H y f)
              have HPT : Hid (part cf W H x y (i + 1) = part cf W H x y i + cf (nxt W x e) (nxt H y f) * 2 ^ i) := by
                show part cf W H x y (i + 1) = _
                rw [hf, he]; rfl
              have hpl := part_lt (W := W) (H := H) (x0 := x) (y0 := y) HC.out i
              have hmw : ((nxt H y f : Nat) : Int) * (W : Int) = ((nxt H y f * W : Nat) : Int) := by push_cast; rfl
              have hkk : ((nxt H y f * W : Nat) : Int) + ((nxt W x e : Nat) : Int) = ((spot W H x y i : Nat) : Int) := by rw [hK]; push_cast; rfl
              have f0 := HP.out.cell 0
              have f1 := HP.out.cell 1
              have f2 := HP.out.cell 2
              unfold boxP at f0 f1 f2
              dsimp only [List.getElem?_cons_succ, List.getElem?_cons_zero] at f0 f1 f2
              have hqi : wr.cell? ⟨q, i, none⟩ = some (.int .i64 0) := (HA.out.cell i).trans (atL_zero _ hi4)
              have hqf := HA.out.frozen i
              have HAS := Lib.hid (HA.out.set i (.int .i64 ((spot W H x y i : Nat) : Int)))
              rw [atL_next _ hi4] at HAS
              have HO := Lib.hid (only_setCell wr q i (.int .i64 ((spot W H x y i : Nat) : Int)))
              have HCS := Lib.hid hcc
              have HAG := Lib.hid (atL_get (spot W H x y) (i := i + 1) hi4 (Nat.lt_succ_self i))
              clear hcell hcc
              generalize cf (nxt W x e) (nxt H y f) = cv at *
              generalize nxt H y f * W = m at *
              generalize nxt W x e = xx at *
              generalize nxt H y f = yy at *
              generalize spot W H x y i = k at *
              generalize part cf W H x y i = bv at *
              generalize hbv : part cf W H x y (i + 1) = bv' at *
              have HBV := Lib.hid hbv
              clear hbv
              have hm1 : m ≤ 10000 := by omega
              have hkn : k < n := by rw [HN.out]; exact hKl
              clear hK he hf hi2 hKl hWH
              have hw1 : IntKind.i64.wrap ((yy : Int) * (W : Int)) = (m : Int) := by rw [hmw, IntKind.wrap_i64]; omega
              go_wp2_with fail
              go_region
              have HA3 := Lib.hid HAS.out.drew
              have hO3 := only_drew HO.out
              have HP3 := Lib.hid (HP.out.other hO3 hpq)
              have HR3 := Lib.hid (HR.out.other hO3 hgq)
              have HU3 := Lib.hid (grown_after HU.out hO3 hwp)
              have f2 := HP3.out.cell 2
              unfold boxP at f2
              dsimp only [List.getElem?_cons_succ, List.getElem?_cons_zero] at f2
              have hqk := (HA3.out.cell i).trans (HAG.out)
              have hgk := (HR3.out.cell k).trans HCS.out
              clear HA HP HR HU HAS HO hO3 hqi hqf hcg f0 f1 HCS HAG hmx hmy htm htd hmw hw1 hkk
              generalize (wr.setCell ⟨q, i, none⟩ (.int .i64 ((k : Nat) : Int))).drew = w3 at *
              have hor := or_part hi4 hpl hcv
              rw [← HPT.out] at hor
              clear HPT
              go_wp2_with fail
              go_big_quiet (fail)
              go_wp2
              go_roundw
              case rel => exact ⟨i + 1, by omega, by go_num, by rw [HBV.out], HA3.out.drewN _, HP3.out.drewN _, HR3.out.drewN _, grown_drewN HU3.out⟩
              case measure => simp [intOf]; omega
            · have e4 : i = 4 := by omega
              subst e4
              have hb4 : part cf W H x y 4 = blk cf W H x y := part_four hxl hyl
              rw [hb4]
              clear hb4 hi hi4
              go_wp2_with (refine Ops.wpList_load_arr rfl 56 _ rfl 4 3 Tryd.underlying56 q rfl _ _ HA.out infoArrB ?_)
              have hb16 : blk cf W H x y < 16 := by
                have h1 := HC.out x y
                have h2 := HC.out (nxt W x 1) y
                have h3 := HC.out x (nxt H y 1)
                have h4 := HC.out (nxt W x 1) (nxt H y 1)
                unfold blk
                omega
              obtain ⟨wj, rfl⟩ : ∃ wj : World, wj = wr := ⟨_, rfl⟩
              go_loopw [63] (fun v wr => ∃ i : Nat, i ≤ 4 ∧ v = .int .i64 i ∧ Row wr p 24 (boxP W H (some ⟨g, 0, none⟩) n c) ∧ Row wr g 3 (puts cs (spot W H x y) (bitN (tN tz (blk cf W H x y))) i) ∧ w.grownBy wr (some g)) (fun v _ => 4 - (intOf v).toNat)
              case atStart => exact ⟨0, by omega, rfl, HP.out, HR.out, HU.out⟩
              case round =>
                clear HP HR HU HA
                obtain ⟨i, hi, rfl, hP, hR, hU⟩ := hrel
                have HP := Lib.hid hP
                have HR := Lib.hid hR
                have HU := Lib.hid hU
                clear hP hR hU
                by_cases hi4 : i < 4
                · have hKl : spot W H x y i < W * H := spot_lt hxl hyl hi4
                  have hkn : spot W H x y i < n := by rw [HN.out]; exact hKl
                  obtain ⟨bt, ot, rfl, _, htc⟩ := (Cells.grown HT.out HU.out HTG.out) (blk cf W H x y) hb16
                  have hne : bt ≠ g := HTG.out bt ot rfl
                  dsimp only at htc
                  obtain ⟨htb0, htb1⟩ := HTB.out _ hb16
                  have HTV : Hid (((tN tz (blk cf W H x y) : Nat) : Int) = tz.getD (blk cf W H x y) 0) := by
                    show ((tN tz (blk cf W H x y) : Nat) : Int) = _
                    unfold tN; omega
                  rw [← HTV.out] at htc htb0 htb1
                  have HIX := index_arr wr (spot W H x y) hi4
                  clear hKl HTV
                  have hRl := HR.out
                  have hKc : (puts cs (spot W H x y) (bitN (tN tz (blk cf W H x y))) i)[spot W H x y i]? ≠ none := by
                    have hh := HGR.out _ _ (nxt_lt hxl (show i % 2 ≤ 1 by omega)) (nxt_lt hyl (show i / 2 ≤ 1 by omega))
                    have hlen := (List.getElem?_eq_some_iff.1 hh).1
                    rw [Ne, List.getElem?_eq_none_iff, puts_len]
                    exact Nat.not_le.2 hlen
                  obtain ⟨old, hold⟩ := Option.ne_none_iff_exists'.1 hKc
                  have hgk := (hRl.cell (spot W H x y i)).trans hold
                  have hgf := hRl.frozen (spot W H x y i)
                  have HRS := Lib.hid (hRl.set (spot W H x y i) (.int .i64 ((bitN (tN tz (blk cf W H x y)) i : Nat) : Int)))
                  have HO := Lib.hid (only_setCell wr g (spot W H x y i) (.int .i64 ((bitN (tN tz (blk cf W H x y)) i : Nat) : Int)))
                  have f2 := HP.out.cell 2
                  unfold boxP at f2
                  dsimp only [List.getElem?_cons_succ, List.getElem?_cons_zero] at f2
                  have hbt := bit_of (v := tN tz (blk cf W H x y)) hi4 (by omega)
                  clear hRl hKc hold
                  generalize tN tz (blk cf W H x y) = tv at *
                  generalize hbv : blk cf W H x y = bv at *
                  have HBV := Lib.hid hbv
                  clear hbv
                  have HRS2 : Hid (Row (wr.setCell ⟨g, spot W H x y i, none⟩ (.int .i64 ((bitN tv i : Nat) : Int))) g 3 (puts cs (spot W H x y) (bitN tv) (i + 1))) := HRS.out
                  clear HRS
                  generalize spot W H x y i = k at *
                  generalize bitN tv i = bt' at *
                  go_wp2_with fail
                  go_region
                  have HR3 := Lib.hid HRS2.out.drew
                  have hO3 := only_drew HO.out
                  have HP3 := Lib.hid (HP.out.other hO3 hpg)
                  have HU3 := Lib.hid (HU.out.trans (grown_only hO3))
                  clear HP HR HU HRS2 HO hO3 hgk hgf htc f2 hbt HIX
                  generalize (wr.setCell ⟨g, k, none⟩ (.int .i64 ((bt' : Nat) : Int))).drew = w3 at *
                  go_wp2
                  go_roundw
                  case rel => exact ⟨i + 1, by omega, by go_num, HP3.out, HR3.out, HU3.out⟩
                  case measure => simp [intOf]; omega
                · have e4 : i = 4 := by omega
                  subst e4
                  have HGN := Lib.hid (grd_block HW.out HH.out hph hxl hyl HX.out HY.out HGR.out)
                  go_wp2
                  go_roundw
                  case rel => exact ⟨x + 2, by go_num, by omega, by omega, by have := HX.out; omega, HP.out, fun _ _ => ⟨rfl, _, HR.out, HGN.out⟩, HU.out⟩
                  case measure => simp [intOf]; omega
        · have HGN : Hid (Holds wr g a W H (mix (tN tz) W H ph cf (y + 2) ph)) := HG.out.congr fun x' y' hx' hy' => mix_row HW.out HH.out hph hx' hy' (by omega) HY.out
          go_wp2
          go_roundw
          case rel => exact ⟨y + 2, by go_num, by omega, by omega, by have := HY.out; omega, HP.out, HGN.out, HU.out⟩
          case measure => simp [intOf]; omega
    · have HGN : Hid (Holds wr g a W H (cellN (tN tz) W H ph cf)) := HG.out.congr fun x' y' hx' hy' => mix_end HH.out hph hy' (by omega)
      go_wp2
      go_end0
      exact ⟨rfl, HGN.out, HU.out⟩
end Bl
end Go.Proofs.YtmnefdcgknmnjaaDoor
