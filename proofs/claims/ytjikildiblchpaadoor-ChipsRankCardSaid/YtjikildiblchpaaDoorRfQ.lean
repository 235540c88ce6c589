/- SMALL LAWS: a whole row of numbers appended to nil; a chip on its way, told plainly. -/
import Derived.Test.YtjikildiblchpaaDoorRfO
import Derived.Test.YtjikildiblchpaaDoorRtS
namespace Go.Proofs.YtjikildiblchpaaDoor
set_option linter.unusedSimpArgs false
set_option linter.unusedVariables false
open Go.RowKit Go.Lib
namespace Rt
open Tld Mem

/-- 'append(nil, zs...)'. -/
theorem wpList_app_all {ops : Array Oper} {rest : List Oper} {o : Oper} {a : Act} {w : World} {Q : Exit → Act → World → Prop} (hgd : o.guard = none) (x y : Operand) (ho : o.op = .call { callee := .builtin .append, args := #[x, y], argTypes := #[25, 25] })
    (ad : Option Addr) (n c : Nat) (zs : List Int) (hx : a.eval x = .slice none 0 0) (hy : a.eval y = .slice ad n c) (hI : Ints.Is w ad n zs) (h0 : 0 < n) (hn : n ≤ 1000)
    (hK : ∀ b c' w', w.heap.size ≤ b → Vec w' b n (fun k => zs.getD k 0) → Below w.heap.size w w' → wpList Tryd.prog ops Q rest (a.put o.dst (.slice (some ⟨b, 0, none⟩) n c')) w') :
    wpList Tryd.prog ops Q (o :: rest) a w := by
  obtain ⟨i0, hI0, hz0, hz1, hz2⟩ := info_parts infoIntN
  have hl := hI.len
  obtain ⟨b0, off, rfl, _, _⟩ := hI.cells 0 h0
  refine wpList_append_own w hgd x y 25 ho w.heap.size 3 i0 (.int .i64 0) 1 8 Tryd.underlying25 hI0 hz0 hz1 hz2 rfl (by decide) (.slice none 0 0) 0 [] hx (own_nil w w.heap.size) ⟨b0, off, none⟩ n c (zs.map (Value.int .i64)) hy (by simp [hl]) (fun j u hj => ?_) (fun u hu => by obtain ⟨x, _, rfl⟩ := List.mem_map.1 hu; rfl) (by unfold maxLen; omega) (by omega) (Nat.le_refl _) fun v' w' ho' hg _ => ?_
  · have hjn : j < n := by
      have := (List.getElem?_eq_some_iff.1 hj).1
      rw [List.length_map, hl] at this
      exact this
    have h1 := cells_get hI.cells rfl hjn
    rw [h1]
    have e : (zs.map (Value.int .i64))[j]? = some (Value.int .i64 (zs.getD j 0)) := by simp [List.getD_eq_getElem?_getD, List.getElem?_eq_getElem (show j < zs.length from by rw [hl]; exact hjn)]
    rw [e] at hj
    exact hj
  · rw [Nat.zero_add, List.nil_append] at ho'
    obtain ⟨g, cap, rfl⟩ : ∃ g cap, v' = .slice (some ⟨g, 0, none⟩) n cap := by
      rcases ho'.2 with ⟨_, h1⟩ | ⟨g, cap, cur, h1, _⟩
      · omega
      · exact ⟨g, cap, h1⟩
    refine hK g cap w' (own_low ho' g rfl) (vec_own ho' hl) ?_
    exact (Below.refl _ w).grown hg (Nat.le_refl _) (fun k hk => by cases hk)
/-- One walker is on its way, all below a place have gone. -/
structure Wk (D : Bd) (sg c u : Nat → Nat) (k a : Nat) : Prop where
  leg : Leg D sg c u
  lt : a < D.P
  pos : a ≠ D.sink → 0 < chU D sg c u a
  low : ∀ j, j < k → chU D sg c u j = if j = a ∧ j ≠ D.sink then 1 else 0
theorem Wk.step {D : Bd} (hD : D.Ok) {sg c u : Nat → Nat} {k a : Nat} (h : Wk D sg c u k a) (hk : k ≤ D.P) (ha : a ≠ D.sink) : Wk D sg c (bump u a 1) k (toU D sg u a) := by
  have hp := h.pos ha
  obtain ⟨t1, t2⟩ := to_lt hD (sg := sg) (u := u) h.lt ha
  have hst : ∀ p, p < D.P → _ := fun p hp' => ch_step hD h.leg h.lt ha hp (p := p) hp'
  refine ⟨ch_leg hD h.leg h.lt ha hp, t1, fun hs => ?_, fun j hj => ?_⟩
  · rw [hst _ t1, if_pos (show toU D sg u a = toU D sg u a ∧ toU D sg u a ≠ D.sink from ⟨rfl, hs⟩)]
    omega
  · rw [hst j (by omega)]
    have hl := h.low j hj
    by_cases e : j = a
    · rw [if_pos e, if_neg (fun h => t2 (h.1.symm.trans e)), ← e, hl, if_pos ⟨e, by rw [e]; exact ha⟩]
    · rw [if_neg e, hl, if_neg (fun h => e h.1), Nat.zero_add]
theorem to_way {D : Bd} {sg u : Nat → Nat} {a : Nat} : toU D sg u a = D.way a (sgU D sg (bump u a 1) a) := by
  unfold toU
  rw [sg_step, if_pos rfl]
theorem Wk.start {D : Bd} {sg c u : Nat → Nat} {k : Nat} (hl : Leg D sg c u) (hk : k < D.P) (hp : 0 < chU D sg c u k) (h : ∀ j, j < k → chU D sg c u j = 0) : Wk D sg c u k k :=
  ⟨hl, hk, fun _ => hp, fun j hj => by rw [h j hj, if_neg (fun h => by omega)]⟩
theorem Wk.stop {D : Bd} {sg c u : Nat → Nat} {k : Nat} (h : Wk D sg c u k D.sink) : ∀ j, j < k → chU D sg c u j = 0 := fun j hj => by
  rw [h.low j hj, if_neg (fun h => h.2 h.1)]
theorem ways_to {w : World} {B P m s g cap : Nat} {f : Nat → Nat → Int} {LV : List Value} (h : WaysAt w B P m f (.slice (some ⟨g, 0, none⟩) P cap) LV) (hok : GOk P m f) {k : Nat} (hk : k < P) {j : Nat} (hj : j < deg f k m) :
    ∃ bw ow uc, w.cell? ⟨g, k, none⟩ = some (.slice (some ⟨bw, ow, none⟩) (deg f k m) uc) ∧ w.cell? ⟨bw, ow + j, none⟩ = some (.int .i64 ((bdG P m s f).way k j : Int)) := by
  obtain ⟨g', cap', ua, uc, hv, gc, hI⟩ := ways_cell h hok.p10 hok.edge hok.m40 hk
  cases hv
  obtain ⟨bw, ow, rfl, _, ic⟩ := hI.cells j hj
  dsimp only at ic
  refine ⟨bw, ow, uc, gc, ?_⟩
  rw [ic]
  have hl : j < (wayL f k m).length := by rw [wayL_len (P := P)]; exact hj
  show _ = some (Value.int .i64 (((wayL f k m).getD j 0 : Nat) : Int))
  rw [List.getD_eq_getElem?_getD, List.getD_eq_getElem?_getD, List.getElem?_map, List.getElem?_eq_getElem hl]
  rfl
/-- How the document's board lies: ways, signs, chips. -/
structure RSt (w : World) (B bs bc P s m : Nat) (f : Nat → Nat → Int) (sg c u : Nat → Nat) (v : Value) (LV : List Value) : Prop where
  ways : WaysAt w B P m f v LV
  sgv : Vec w bs P fun k => (sgU (bdG P m s f) sg u k : Int)
  chv : Vec w bc P fun k => (chU (bdG P m s f) sg c u k : Int)
theorem RSt.keep {w w' : World} {B bs bc P s m : Nat} {f : Nat → Nat → Int} {sg c u : Nat → Nat} {v : Value} {LV : List Value} (h : RSt w B bs bc P s m f sg c u v LV) (hb : Below w.heap.size w w') : RSt w' B bs bc P s m f sg c u v LV :=
  ⟨h.ways.keep hb, h.sgv.keep hb h.sgv.lt, h.chv.keep hb h.chv.lt⟩
theorem RSt.only {w w' : World} {B bs bc bt P s m : Nat} {f : Nat → Nat → Int} {sg c u : Nat → Nat} {v : Value} {LV : List Value} (h : RSt w B bs bc P s m f sg c u v LV) (ho : Only bt w w') (h1 : bs ≠ bt) (h2 : bc ≠ bt) (h3 : bt < B) : RSt w' B bs bc P s m f sg c u v LV :=
  ⟨h.ways.chg (Chg.only ho) fun b hb => by omega, h.sgv.other ho h1, h.chv.other ho h2⟩
/-- One goes. -/
theorem RSt.goes {w : World} {B bs bc P s m : Nat} {f : Nat → Nat → Int} {sg c u : Nat → Nat} {v : Value} {LV : List Value} (h : RSt w B bs bc P s m f sg c u v LV) (cs cc k : Nat) (hne : bs ≠ bc) (hbs : bs < B) (hbc : bc < B) (hL : Leg (bdG P m s f) sg c u) (hok : GOk P m f) (hs : s < P) (hk : k < P) (hks : k ≠ s) (ht : 0 < chU (bdG P m s f) sg c u k) (hN : sumN c P ≤ 100000) :
    Calls Tryd.prog 35 #[v, .int .i64 (s : Int), .slice (some ⟨bs, 0, none⟩) P cs, .slice (some ⟨bc, 0, none⟩) P cc, .int .i64 (k : Int)] w fun e w' => (∃ v, e = .returned v) ∧ RSt w' B bs bc P s m f sg c (bump u k 1) v LV ∧ Chg (fun b => b = bs ∨ b = bc) w w' := by
  refine (goes_any P s m f sg c u bs bc cs cc B k v LV w h.ways h.sgv h.chv hne hbs hbc hL hok hs hk hks ht hN).mono ?_
  rintro e w' ⟨hv, h1, h2, h3⟩
  exact ⟨hv, ⟨h.ways.chg h3 fun b hb => by omega, h1, h2⟩, h3⟩
theorem chg_low {w w' : World} {B0 bs bc : Nat} {w0 : World} (h : Chg (fun b => b = bs ∨ b = bc) w w') (hb : Below B0 w0 w) (hB : w0.heap.size ≤ w.heap.size) (h1 : B0 ≤ bs) (h2 : B0 ≤ bc) (h3 : B0 ≤ w.heap.size) : Below B0 w0 w' :=
  ⟨h.os.trans hb.os, h.tape.trans hb.tape, h.output.trans hb.output, Nat.le_trans hb.size h.size, fun k hk => (h.block k (by omega) (by omega)).trans (hb.block k hk)⟩
end Rt
end Go.Proofs.YtjikildiblchpaaDoor
