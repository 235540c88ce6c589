/- WALK: wang's search (filler.fill), its end and its rounds. -/
import Derived.Test.YthggpjpmjhaidaaDoorWgM
import Derived.Deep.DeepCutAuto
import Derived.Deep.RegionHeld3
import Derived.WalkSmall
namespace Go.Proofs.YthggpjpmjhaidaaDoor
set_option linter.unusedSimpArgs false
set_option linter.unusedVariables false
open Go.RowKit Go.Lib
namespace Wg
open Tld Mem

theorem rimL_pos (r : Rm) : (rimL r)[0]? = some (.int .i64 r.pos) := rfl
theorem ints_get {l : List Int} {i : Nat} (h : i < l.length) : (ints l)[i]? = some (.int .i64 (l.getD i 0)) := by
  unfold ints
  rw [List.getElem?_map, List.getD_eq_getElem?_getD, List.getElem?_eq_getElem h]
  rfl
theorem rimL_over {r : Rm} (h : Fine r) {x : Nat} (hx : x < 5) : (rimL r)[1 + x]? = some (.int .i64 (r.over.getD x 0)) := by
  unfold rimL
  rw [Nat.add_comm, List.getElem?_cons_succ, List.getElem?_append_left (by simp [ints, h.lover]; exact hx), ints_get (by rw [h.lover]; exact hx)]
theorem rimL_left {r : Rm} (h : Fine r) : (rimL r)[6]? = some (.int .i64 r.left) := by
  unfold rimL
  rw [show 6 = 5 + 1 from rfl, List.getElem?_cons_succ, List.getElem?_append_right (by simp [ints, h.lover])]
  simp [ints, h.lover]
theorem rimL_first {r : Rm} (h : Fine r) {x : Nat} (hx : x < 5) : (rimL r)[7 + x]? = some (.int .i64 (r.first.getD x 0)) := by
  unfold rimL
  rw [show 7 + x = (6 + x) + 1 from by omega, List.getElem?_cons_succ, List.getElem?_append_right (by simp [ints, h.lover]; omega)]
  rw [show 6 + x - (ints r.over).length = x + 1 from by simp [ints, h.lover]; omega, List.getElem?_cons_succ, List.getElem?_append_left (by simp [ints, h.lfirst]; exact hx), ints_get (by rw [h.lfirst]; exact hx)]
theorem rimL_top {r : Rm} (h : Fine r) {x : Nat} (hx : x < 5) : (rimL r)[12 + x]? = some (.int .i64 (r.top.getD x 0)) := by
  unfold rimL
  rw [show 12 + x = (11 + x) + 1 from by omega, List.getElem?_cons_succ, List.getElem?_append_right (by simp [ints, h.lover]; omega)]
  rw [show 11 + x - (ints r.over).length = (5 + x) + 1 from by simp [ints, h.lover]; omega, List.getElem?_cons_succ, List.getElem?_append_right (by simp [ints, h.lfirst])]
  rw [show 5 + x - (ints r.first).length = x from by simp [ints, h.lfirst], ints_get (by rw [h.ltop]; exact hx)]
theorem rimL_length {r : Rm} (h : Fine r) : (rimL r).length = 17 := by
  simp [rimL, ints, h.lover, h.lfirst, h.ltop]
/-- The search's own struct. -/
def flL (ta : Option Addr) (n tc W H : Nat) (ring : Bool) (M : Nat) (v : Value) : List Value := [.slice ta n tc, .int .i64 W, .int .i64 H, .bool ring, .map (some M), v]

open Classical in
noncomputable def endB (W : Nat) (ring : Bool) (r : Rm) : Bool := decide (ring = true → ∀ x, x < W → r.over.getD x 0 = r.top.getD x 0)
open Classical in
theorem endB_yes {W : Nat} {ring : Bool} {r : Rm} (h : ring = true → ∀ x, x < W → r.over.getD x 0 = r.top.getD x 0) : Ending.returned (.bool true) = .returned (.bool (endB W ring r)) := by
  unfold endB; rw [decide_eq_true h]
open Classical in
theorem endB_no {W : Nat} {ring : Bool} {r : Rm} (h : ¬ (ring = true → ∀ x, x < W → r.over.getD x 0 = r.top.getD x 0)) : Ending.returned (.bool false) = .returned (.bool (endB W ring r)) := by
  unfold endB; rw [decide_eq_false h]
open Classical in
theorem comp_end {T : Nat → Tl} {n W : Nat} {ring : Bool} {r : Rm} : comp T n W ring 0 r = if endB W ring r = true then some [] else none := by
  unfold comp endB
  by_cases h : ring = true → ∀ x, x < W → r.over.getD x 0 = r.top.getD x 0
  · rw [if_pos h, decide_eq_true h]; rfl
  · rw [if_neg h, decide_eq_false h]; rfl

set_option maxHeartbeats 4000000 in
set_option maxRecDepth 1000000 in
theorem dfill_end (F M : Nat) (ta : Option Addr) (n tc W H : Nat) (ring : Bool) (v : Value) (r : Rm) (w : World) (hF : Row w F 105 (flL ta n tc W H ring M v)) (hr : Fine r)
    (hW1 : 1 ≤ W) (hW5 : W ≤ 5) (hwh : W * H ≤ 25) (hpos : r.pos = W * H) :
    Calls Tryd.prog 57 #[.pointer (some ⟨F, 0, none⟩), rimV r] w fun e w' => e = .returned (.bool (endB W ring r)) ∧ Below w.heap.size w w' := by
  unfold rimV
  have HR := Lib.hid hr
  have hwh' : (W : Int) * (H : Int) = (r.pos : Int) := by rw [hpos]; push_cast; rfl
  have hp25 : (r.pos : Int) ≤ 25 := by omega
  have hU : IntKind.i64.wrap (r.pos : Int) = (r.pos : Int) := by rw [IntKind.wrap_i64]; omega
  have hFlt := hF.lt
  have HF := Lib.hid hF
  clear hr hpos hF
  go_enter Tryd.func57, Tryd.ntmps57
  go_upto_region 1 with fail
  have hrow : Row (w.alloc (.cells (rimL r).toArray 108)) w.heap.size 108 (rimL r) := row_alloc w _ _
  have hB : Below w.heap.size w (w.alloc (.cells (rimL r).toArray 108)) := (Below.refl _ _).alloc (Nat.le_refl _) _
  have hFk := HF.out.keep (B := w.heap.size) hB hFlt
  have g0 := hrow.cell 0
  rw [rimL_pos] at g0
  have f1 := hFk.cell 1
  have f2 := hFk.cell 2
  have f3 := hFk.cell 3
  unfold flL at f1 f2 f3
  dsimp only [List.getElem?_cons_succ, List.getElem?_cons_zero] at f1 f2 f3
  have HROW := Lib.hid hrow
  have HB := Lib.hid hB
  have hlt0 := hrow.lt
  have HFK := Lib.hid hFk
  clear hrow hB hFk
  generalize w.alloc (.cells (rimL r).toArray 108) = w1 at *
  obtain ⟨b3, hb3⟩ : ∃ b3, b3 = w.heap.size := ⟨_, rfl⟩
  have HB3 := Lib.hid hb3
  rw [← hb3] at HROW g0 hlt0 hFlt ⊢
  rw [← hb3] at HB
  clear hb3
  go_region
  have HRD := Lib.hid HROW.out.drew
  have HBD := Lib.hid HB.out.drew
  have HFD := Lib.hid HFK.out.drew
  have d1 := HFD.out.cell 1
  have d3 := HFD.out.cell 3
  unfold flL at d1 d3
  dsimp only [List.getElem?_cons_succ, List.getElem?_cons_zero] at d1 d3
  clear HROW HB HFK f1 f2 f3 g0 hwh' hU hlt0 HF
  generalize w1.drew = w2 at *
  cases ring
  · go_wp2
    go_ret
    exact ⟨endB_yes fun h => absurd h (by decide), by rw [← HB3.out]; exact HBD.out⟩
  · go_wp2_with fail
    go_loopw [31] (fun u wr => ∃ x : Nat, x ≤ W ∧ u = .int .i64 x ∧ (∀ x', x' < x → r.over.getD x' 0 = r.top.getD x' 0) ∧ Row wr b3 108 (rimL r) ∧ Below b3 w wr) (fun u _ => W - (intOf u).toNat)
    case atStart => exact ⟨0, Nat.zero_le _, rfl, fun x' hx' => absurd hx' (Nat.not_lt_zero _), HRD.out, HBD.out⟩
    case round =>
      obtain ⟨x, hx, rfl, hall, hrow, hbel⟩ := hrel
      have HALL := Lib.hid hall
      have HRW := Lib.hid hrow
      have hlt0 := hrow.lt
      clear hall hrow
      by_cases hlt : x < W
      · have o1 := (HRW.out.cell (1 + x)).trans (rimL_over HR.out (by omega))
        have o2 := (HRW.out.cell (12 + x)).trans (rimL_top HR.out (by omega))
        have hx5 : (x : Int) < 5 := by omega
        have hB2 := Lib.hid hbel.drew
        have HRW2 := Lib.hid HRW.out.drew
        by_cases he : r.over.getD x 0 = r.top.getD x 0
        · have HE := Lib.hid he
          rw [he] at o1
          clear he
          generalize r.top.getD x 0 = z at o1 o2
          go_wp2_with fail
          go_region
          go_wp2_with fail
          go_roundw
          case rel => exact ⟨x + 1, by omega, by go_num, fun x' hx' => (by
            by_cases hxx : x' = x
            · subst hxx; exact HE.out
            · exact HALL.out x' (by omega)), HRW2.out, hB2.out⟩
          case measure => simp [intOf]; omega
        · have HE := Lib.hid he
          have hbo : (r.over.getD x 0 == r.top.getD x 0) = false := by rw [beq_eq_false_iff_ne]; exact he
          clear he
          generalize r.over.getD x 0 = z1 at o1 hbo
          generalize r.top.getD x 0 = z2 at o2 hbo
          go_wp2_with fail
          go_region
          go_wp2_with fail
          go_ret
          exact ⟨endB_no fun h => HE.out (h rfl x hlt), by rw [← HB3.out]; exact hB2.out⟩
      · go_wp2
        go_ret
        exact ⟨endB_yes fun _ x' hx' => HALL.out x' (by omega), by rw [← HB3.out]; exact hbel⟩

/-! ### the rounds -/
def nats (l : List Nat) : List Value := l.map fun k => .int .i64 (k : Nat)
/-- What the search has found, or left behind. -/
structure Found (B F M : Nat) (ta : Option Addr) (n tc W H : Nat) (ring : Bool) (l : List Nat) (w : World) : Prop where
  ex : ∃ v, Row w F 105 (flL ta n tc W H ring M v) ∧ w.ownsRow B 3 1 v l.length (nats l)
/-- What the memo says is so. -/
def Sound (T : Nat → Tl) (n W H : Nat) (ring : Bool) (ks : List Rm) : Prop := ∀ s ∈ ks, comp T n W ring (W * H - s.pos) s = none
structure Left (B F M : Nat) (ta : Option Addr) (n tc W H : Nat) (ring : Bool) (T : Nat → Tl) (l : List Nat) (ks : List Rm) (p : Nat) (w : World) : Prop where
  found : Found B F M ta n tc W H ring l w
  memo : ∃ ks', Memo w M ks' ∧ Sound T n W H ring ks' ∧ ∀ s ∈ ks', s ∈ ks ∨ p ≤ s.pos
/-- How the search ends. -/
def Done (B F M : Nat) (ta : Option Addr) (n tc W H : Nat) (ring : Bool) (T : Nat → Tl) (o : Option (List Nat)) (pre : List Nat) (ks : List Rm) (p : Nat) (e : Ending) (w : World) : Prop :=
  match o with
  | some suf => e = .returned (.bool true) ∧ Found B F M ta n tc W H ring (pre ++ suf) w
  | none => e = .returned (.bool false) ∧ Left B F M ta n tc W H ring T pre ks p w
theorem done_some {B F M : Nat} {ta : Option Addr} {n tc W H : Nat} {ring : Bool} {T : Nat → Tl} {o : Option (List Nat)} {suf pre : List Nat} {ks : List Rm} {p : Nat} {w : World} (h : o = some suf) (hf : Found B F M ta n tc W H ring (pre ++ suf) w) : Done B F M ta n tc W H ring T o pre ks p (.returned (.bool true)) w := by
  subst h; exact ⟨rfl, hf⟩
theorem done_none {B F M : Nat} {ta : Option Addr} {n tc W H : Nat} {ring : Bool} {T : Nat → Tl} {o : Option (List Nat)} {pre : List Nat} {ks : List Rm} {p : Nat} {w : World} (h : o = none) (hf : Left B F M ta n tc W H ring T pre ks p w) : Done B F M ta n tc W H ring T o pre ks p (.returned (.bool false)) w := by
  subst h; exact ⟨rfl, hf⟩

theorem Tiles.low {w w' : World} {b off n B : Nat} {ts : List Tl} (h : Tiles w (Option.some ⟨b, off, none⟩) n ts) (hb : Below B w w') (hlt : b < B) : Tiles w' (Option.some ⟨b, off, none⟩) n ts :=
  ⟨h.len, fun i hi => by
    obtain ⟨b', off', e, h1, hc⟩ := h.rows i hi
    cases e
    exact ⟨b, off, rfl, Nat.lt_of_lt_of_le h1 hb.size, fun j hj => by rw [hb.cell (p := ⟨b, off + i * 4 + j, none⟩) hlt]; exact hc j hj⟩, h.le⟩
theorem row_range {w : World} {b : Nat} {T : TypeId} {cs : List Value} (h : Row w b T cs) : w.rangeAt b 0 cs := fun j v hv => by
  rw [Nat.zero_add, h.cell, hv]
theorem wp_map {P : Program} {o : Oper} {a : Act} {w w' : World} {K : Act → World → Prop} {Q : Exit → Act → World → Prop} (t : TypeId) (m x v : Operand) (ho : o.op = .mapUpdate t m x v) (mv xv vv : Value) (hm : a.eval m = mv) (hx : a.eval x = xv) (hv : a.eval v = vv)
    (hrun : (Instr.mapUpdate t mv xv vv).run P w = .ok () w') (h : K (a.put o.dst undef) w') : o.wp P a w K Q := by
  unfold Oper.wp
  simp [execOp, ho, hm, hx, hv, hrun, Result.andThen]
  exact h
theorem Memo.ne {w : World} {M b : Nat} {ks : List Rm} {T : TypeId} {cs : List Value} (h : Memo w M ks) (hR : Row w b T cs) : b ≠ M := fun e => by
  subst e
  obtain ⟨es, clock, hb, _⟩ := h.own
  unfold Row at hR
  rw [hR] at hb
  cases hb
theorem Memo.ne_own {w : World} {M B n : Nat} {ks : List Rm} {e : TypeId} {v : Value} {xs : List Value} (h : Memo w M ks) (ho : w.ownsRow B e 1 v n xs) : v.ownBlock ≠ some M := fun hb => by
  obtain ⟨es, clock, hm, _⟩ := h.own
  rcases ho.2 with ⟨rfl, _⟩ | ⟨g, cap, cur, rfl, _, hg, _⟩
  · simp [Value.ownBlock] at hb
  · simp only [Value.ownBlock, Option.some.injEq] at hb
    subst hb
    rw [hg] at hm
    cases hm
open Classical in
/-- What the search does with tile k. -/
noncomputable def stepF (T : Nat → Tl) (n W : Nat) (ring : Bool) (m : Nat) (r : Rm) (k : Nat) : Option (List Nat) := if r.May W ring (T k) then (comp T n W ring m (r.next W ring (T k))).map (k :: ·) else none
theorem tr_step {f : Nat → Option (List Nat)} {n i : Nat} (hi : i < n) : tr f (n - i) i = match f i with | some x => some x | none => tr f (n - (i + 1)) (i + 1) := by
  rw [show n - i = (n - (i + 1)) + 1 from by omega, tr]
  cases f i <;> rfl
theorem step_no {T : Nat → Tl} {n W m i : Nat} {ring : Bool} {r : Rm} (hi : i < n) (h : ¬ r.May W ring (T i)) : tr (stepF T n W ring m r) (n - i) i = tr (stepF T n W ring m r) (n - (i + 1)) (i + 1) := by
  rw [tr_step hi]
  unfold stepF
  rw [if_neg h]
theorem step_none {T : Nat → Tl} {n W m i : Nat} {ring : Bool} {r : Rm} (hi : i < n) (h : comp T n W ring m (r.next W ring (T i)) = none) : tr (stepF T n W ring m r) (n - i) i = tr (stepF T n W ring m r) (n - (i + 1)) (i + 1) := by
  rw [tr_step hi]
  have : stepF T n W ring m r i = none := by
    unfold stepF
    split
    · rw [h]; rfl
    · rfl
  rw [this]
theorem step_some {T : Nat → Tl} {n W m i : Nat} {ring : Bool} {r : Rm} {suf : List Nat} (hi : i < n) (hm : r.May W ring (T i)) (h : comp T n W ring m (r.next W ring (T i)) = some suf) : tr (stepF T n W ring m r) (n - i) i = some (i :: suf) := by
  rw [tr_step hi]
  have : stepF T n W ring m r i = some (i :: suf) := by
    unfold stepF
    rw [if_pos hm, h]; rfl
  rw [this]
theorem infoRim : (Tryd.prog.info? 108).map (·.size) = some 17 := by kernel_rfl
/-! ### what a round keeps -/
/-- All blocks that are no rows of ints, F aside, stand as they stood. -/
def Others (F : Nat) (w w' : World) : Prop := ∀ b T cs, T ≠ 3 → b ≠ F → Row w b T cs → Row w' b T cs
theorem Others.trans {F : Nat} {u v w : World} (h : Others F u v) (k : Others F v w) : Others F u w := fun b T cs h1 h2 h3 => k b T cs h1 h2 (h b T cs h1 h2 h3)
theorem Others.refl (F : Nat) (w : World) : Others F w w := fun _ _ _ _ _ h => h
theorem Others.of_below {F : Nat} {w w' : World} (h : Below w.heap.size w w') : Others F w w' := fun _ _ _ _ _ h3 => h3.keep h h3.lt
theorem Others.of_only {F : Nat} {w w' : World} (h : Only F w w') : Others F w w' := fun _ _ _ _ h2 h3 => h3.other h h2
theorem Others.of_grown {F B n : Nat} {w w' : World} {v : Value} {xs : List Value} (ho : w.ownsRow B 3 1 v n xs) (h : w.grownBy w' v.ownBlock) : Others F w w' := fun _ _ _ h1 _ h3 => row_grown ho h h3 h1
theorem Others.of_map {F M : Nat} {w w' : World} {ks : List Rm} (hm : Memo w M ks) (h : w.grownBy w' (some M)) : Others F w w' := fun b T cs _ _ h3 => (h.block b h3.lt (fun e => hm.ne h3 (Option.some.inj e))).trans h3
theorem own_low {w : World} {B : Nat} {e : TypeId} {v : Value} {n : Nat} {xs : List Value} (h : w.ownsRow B e 1 v n xs) : ∀ j, v.ownBlock = some j → B ≤ j := fun j hj => by
  rcases h.2 with ⟨rfl, _⟩ | ⟨g, cap, cur, rfl, hB, _⟩
  · cases hj
  · cases hj; exact hB
theorem Memo.lt {w : World} {M : Nat} {ks : List Rm} (h : Memo w M ks) : M < w.heap.size := by
  obtain ⟨es, clock, hbk, _⟩ := h.own
  exact (Array.getElem?_eq_some_iff.1 hbk).1
theorem Found.keep {B F M : Nat} {ta : Option Addr} {n tc W H : Nat} {ring : Bool} {l : List Nat} {w w' : World} (h : Found B F M ta n tc W H ring l w) (hb : Below w.heap.size w w') : Found B F M ta n tc W H ring l w' := by
  obtain ⟨v, h1, h2⟩ := h.ex
  exact ⟨v, h1.keep hb h1.lt, own_keep h2 hb⟩
theorem Left.keep {B F M : Nat} {ta : Option Addr} {n tc W H : Nat} {ring : Bool} {T : Nat → Tl} {l : List Nat} {ks : List Rm} {p : Nat} {w w' : World} (h : Left B F M ta n tc W H ring T l ks p w) (hb : Below w.heap.size w w') : Left B F M ta n tc W H ring T l ks p w' := by
  obtain ⟨ks', h1, h2, h3⟩ := h.memo
  exact ⟨h.found.keep hb, ks', h1.kept (hb.block M h1.lt), h2, h3⟩
theorem below_drewN {B : Nat} {w w' : World} (h : Below B w w') (n : Nat) : Below B w (w'.drewN n) := ⟨h.os, h.tape, h.output, h.size, h.block⟩

theorem ints_set (l : List Int) (i : Nat) (v : Int) : (ints l).set i (.int .i64 v) = ints (l.set i v) := by
  unfold ints; rw [List.map_set]
theorem rimL_set_pos (r : Rm) (p : Nat) : (rimL r).set 0 (.int .i64 p) = rimL { r with pos := p } := rfl
theorem rimL_set_over {r : Rm} (h : r.over.length = 5) {x : Nat} (hx : x < 5) (v : Int) : (rimL r).set (1 + x) (.int .i64 v) = rimL { r with over := r.over.set x v } := by
  obtain ⟨a0, a1, a2, a3, a4, e⟩ := five h
  unfold rimL
  simp only [e]
  have : x = 0 ∨ x = 1 ∨ x = 2 ∨ x = 3 ∨ x = 4 := by omega
  rcases this with rfl | rfl | rfl | rfl | rfl <;> rfl
theorem rimL_set_left {r : Rm} (h : r.over.length = 5) (v : Int) : (rimL r).set 6 (.int .i64 v) = rimL { r with left := v } := by
  obtain ⟨a0, a1, a2, a3, a4, e⟩ := five h
  unfold rimL
  simp only [e]
  rfl
theorem rimL_set_first {r : Rm} (h : r.over.length = 5) (h1 : r.first.length = 5) (v : Int) : (rimL r).set 7 (.int .i64 v) = rimL { r with first := r.first.set 0 v } := by
  obtain ⟨a0, a1, a2, a3, a4, e⟩ := five h
  obtain ⟨b0, b1, b2, b3, b4, e1⟩ := five h1
  unfold rimL
  simp only [e, e1]
  rfl
theorem rimL_set_top {r : Rm} (h : r.over.length = 5) (h1 : r.first.length = 5) (h2 : r.top.length = 5) {x : Nat} (hx : x < 5) (v : Int) : (rimL r).set (12 + x) (.int .i64 v) = rimL { r with top := r.top.set x v } := by
  obtain ⟨a0, a1, a2, a3, a4, e⟩ := five h
  obtain ⟨b0, b1, b2, b3, b4, e1⟩ := five h1
  obtain ⟨c0, c1, c2, c3, c4, e2⟩ := five h2
  unfold rimL
  simp only [e, e1, e2]
  have : x = 0 ∨ x = 1 ∨ x = 2 ∨ x = 3 ∨ x = 4 := by omega
  rcases this with rfl | rfl | rfl | rfl | rfl <;> rfl
/-- A rim behind a tile, ahead of what a ring asks. -/
def Rm.step (r : Rm) (W : Nat) (t : Tl) : Rm := { r with pos := r.pos + 1, over := r.over.set (r.x W) t.d, left := t.r }
def Rm.step2 (r : Rm) (W : Nat) (t : Tl) : Rm := { r.step W t with top := if r.pos < W then r.top.set (r.x W) t.u else r.top }
theorem step_next {r : Rm} {W : Nat} {t : Tl} : r.step W t = r.next W false t := by
  unfold Rm.step Rm.next; simp
theorem step2_next {r : Rm} {W : Nat} {t : Tl} : { r.step2 W t with first := if r.x W = 0 then r.first.set 0 t.l else r.first } = r.next W true t := by
  unfold Rm.step2 Rm.step Rm.next; simp
theorem rimL_oneCell (r : Rm) : ∀ v ∈ rimL r, v.oneCell' = true := by
  intro v hv
  unfold rimL ints at hv
  simp only [List.mem_cons, List.mem_append, List.mem_map] at hv
  rcases hv with rfl | ⟨_, _, rfl⟩ | rfl | ⟨_, _, rfl⟩ | ⟨_, _, rfl⟩ <;> rfl
theorem colI {c : Int} : col c = true ↔ 0 ≤ c ∧ c ≤ 7 := by unfold col; simp
theorem mem_set {l : List Int} {i : Nat} {v z : Int} (h : z ∈ l.set i v) : z ∈ l ∨ z = v := List.mem_or_eq_of_mem_set h
theorem Fine.next {r : Rm} {W : Nat} {ring : Bool} {t : Tl} (h : Fine r) (hp : r.pos + 1 ≤ 25) (ht : t.ok = true) : Fine (r.next W ring t) := by
  obtain ⟨h0, h1, h2, h3, h4, h5, h6, h7⟩ := h
  unfold Tl.ok at ht
  simp only [Bool.and_eq_true, colI] at ht
  obtain ⟨⟨⟨⟨tu0, tu1⟩, tr0, tr1⟩, td0, td1⟩, tl0, tl1⟩ := ht
  refine ⟨hp, by unfold Rm.next; simp [h1], ?_, ?_, fun z hz => ?_, ⟨tr0, tr1⟩, fun z hz => ?_, fun z hz => ?_⟩
  · unfold Rm.next; simp only; split <;> simp [h2]
  · unfold Rm.next; simp only; split <;> simp [h3]
  · rcases mem_set hz with hz | rfl
    · exact h4 z hz
    · omega
  · unfold Rm.next at hz; simp only at hz; split at hz
    · rcases mem_set hz with hz | rfl
      · exact h6 z hz
      · omega
    · exact h6 z hz
  · unfold Rm.next at hz; simp only at hz; split at hz
    · rcases mem_set hz with hz | rfl
      · exact h7 z hz
      · omega
    · exact h7 z hz
theorem Sound.join {T : Nat → Tl} {n W H : Nat} {ring : Bool} {ks : List Rm} (h : Sound T n W H ring ks) {s : Rm} (hs : s ∈ ks) : comp T n W ring (W * H - s.pos) s = none := h s hs
theorem nats_snoc (l : List Nat) (i : Nat) : nats (l ++ [i]) = nats l ++ [.int .i64 i] := by unfold nats; simp
theorem nats_length (l : List Nat) : (nats l).length = l.length := by unfold nats; simp
theorem row_at {w : World} {b : Nat} {T : TypeId} {cs : List Value} (h : Row w b T cs) {i : Nat} (hi : i < cs.length) : ∃ v, w.cell? ⟨b, i, none⟩ = some v := ⟨cs[i], (h.cell i).trans (List.getElem?_eq_getElem hi)⟩
theorem rimL_len5 {r : Rm} (h1 : r.over.length = 5) (h2 : r.first.length = 5) (h3 : r.top.length = 5) : (rimL r).length = 17 := by
  simp [rimL, ints, h1, h2, h3]
theorem infoInt : (Tryd.prog.info? 3).map (fun i => (i.zero, i.size, i.bytes)) = some (some (.int .i64 0), 1, 8) := by kernel_rfl
end Wg
end Go.Proofs.YthggpjpmjhaidaaDoor
