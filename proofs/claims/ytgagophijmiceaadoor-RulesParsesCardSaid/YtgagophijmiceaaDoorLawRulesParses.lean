/- Several texts laid together: RuP RuV RuD LawRulesParses. -/
import Derived.Test.YtgagophijmiceaaDoorRuR
import Derived.Recover
import Derived.Defers
import Derived.Test.YtgagophijmiceaaDoorRuPl
import Derived.Test.YtgagophijmiceaaDoorPnV
import Derived.Test.YtgagophijmiceaaDoorInts
import Derived.Test.YtgagophijmiceaaDoorSame
import Derived.Test.YtgagophijmiceaaDoorRuT
/- WALK: rules.Parse: what recovers, and the door. -/
namespace Go.Proofs.YtgagophijmiceaaDoor
set_option linter.unusedSimpArgs false
set_option linter.unusedVariables false
open Go.RowKit
namespace Pr
open Tld Mem Bl Pn Pw Rd

theorem catch_idle (x y z : Value) (w : World) :
    CallsD Tryd.prog 29 #[x, y, z] .returning w fun e u' w' => e = .returned (.tuple #[]) ∧ u' = .returning ∧ w' = w := by
  refine callsD_of_wpS Tryd.func29 rfl fun c₀ cs hu => ?_
  apply wpS_seq
  apply wpS_region
  simp [wpOpsS, go_sem, recoverD, hu, Tryd.ntmps29, Exit.thenS]
  apply wpS_seq
  apply wpS_region
  simp [wpOpsS, go_sem]
  refine wpS_cond (t := false) (by simp [Act.eval, Array.replicate]) ?_
  simp only [Bool.false_eq_true, if_false]
  refine wpS_of_wp (wp_skip ?_)
  cases c₀
  simp_all [bodyPostS, results, Tryd.results29]
set_option maxRecDepth 100000 in
theorem assert_fault (v : Value) (w : World) : (Instr.typeAssert (.iface 57 v) 20 57 true).run Tryd.prog w = .ok (.tuple #[v, .bool true]) w := by
  rfl
/-- The boxes of what recovers. -/
structure CSt (w0 wr : World) (B ob ab eb fb p : Nat) (a e : Value) : Prop where
  q : Row wr ob 24 (rbox 0 0 0 0 0 (.slice none 0 0) ⟨#[]⟩)
  r : Row wr ab 3 [a]
  t : Row wr eb 26 [e]
  f : Row wr fb 57 [.int .i64 ((p : Nat) : Int)]
  bl : Below B w0 wr
  ne : B ≤ ob ∧ B ≤ ab ∧ B ≤ eb ∧ ob ≠ ab ∧ ob ≠ eb ∧ ab ≠ eb ∧ fb ≠ ob ∧ fb ≠ ab ∧ fb ≠ eb ∧ B ≤ fb
section
variable {w0 wr w2 : World} {B ob ab eb fb p : Nat} {a e : Value}
theorem CSt.drew (h : CSt w0 wr B ob ab eb fb p a e) : CSt w0 wr.drew B ob ab eb fb p a e :=
  ⟨h.q.keep (Below.refl _ _).drew h.q.lt, h.r.keep (Below.refl _ _).drew h.r.lt, h.t.keep (Below.refl _ _).drew h.t.lt, h.f.keep (Below.refl _ _).drew h.f.lt, h.bl.trans (Below.mono (show Below wr.heap.size wr wr.drew from (Below.refl _ _).drew) (Nat.le_trans h.ne.1 (Nat.le_of_lt h.q.lt))), h.ne⟩
theorem CSt.s4 (h : CSt w0 wr B ob ab eb fb p a e) (ho : Only ob wr w2) (hr : Row w2 ob 24 (rbox 0 0 0 0 0 (.slice none 0 0) ⟨#[]⟩)) : CSt w0 w2 B ob ab eb fb p a e :=
  ⟨hr, h.r.other ho (by have := h.ne; omega), h.t.other ho (by have := h.ne; omega), h.f.other ho (by have := h.ne; omega), h.bl.trans (ho.below h.ne.1), h.ne⟩
theorem CSt.s5 (h : CSt w0 wr B ob ab eb fb p a e) (a' : Value) : CSt w0 (wr.setCell ⟨ab, 0, none⟩ a') B ob ab eb fb p a' e := by
  have ho := only_setCell wr ab 0 a'
  exact ⟨h.q.other ho (by have := h.ne; omega), h.r.set 0 a', h.t.other ho (by have := h.ne; omega), h.f.other ho (by have := h.ne; omega), h.bl.trans (ho.below h.ne.2.1), h.ne⟩
theorem CSt.s6 (h : CSt w0 wr B ob ab eb fb p a e) (e' : Value) : CSt w0 (wr.setCell ⟨eb, 0, none⟩ e') B ob ab eb fb p a e' := by
  have ho := only_setCell wr eb 0 e'
  exact ⟨h.q.other ho (by have := h.ne; omega), h.r.other ho (by have := h.ne; omega), h.t.set 0 e', h.f.other ho (by have := h.ne; omega), h.bl.trans (ho.below h.ne.2.2.1), h.ne⟩
end
set_option maxRecDepth 100000 in
set_option maxHeartbeats 4000000 in
theorem catch_fault (B ob ab eb p : Nat) (older : List PanicEntry) (w : World) (h1 : Row w ob 24 (rbox 0 0 0 0 0 (.slice none 0 0) ⟨#[]⟩)) (h2 : Row w ab 3 [.int .i64 0]) (h3 : Row w eb 26 [.nilIface]) (hne : B ≤ ob ∧ B ≤ ab ∧ B ≤ eb ∧ ob ≠ ab ∧ ob ≠ eb ∧ ab ≠ eb) :
    CallsD Tryd.prog 29 #[.pointer (some ⟨ob, 0, none⟩), .pointer (some ⟨ab, 0, none⟩), .pointer (some ⟨eb, 0, none⟩)] (.panicking ({ v := .iface 57 (.agg #[.int .i64 ((p : Nat) : Int)]), recovered := false } :: older)) w fun e u' w' =>
      e = .returned (.tuple #[]) ∧ u' = .panicking ({ v := .iface 57 (.agg #[.int .i64 ((p : Nat) : Int)]), recovered := true } :: older) ∧ Row w' ob 24 (rbox 0 0 0 0 0 (.slice none 0 0) ⟨#[]⟩) ∧ Row w' ab 3 [.int .i64 ((p : Nat) : Int)] ∧ Row w' eb 26 [.iface 59 (.int .i64 2)] ∧ Below B w w' := by
  have HC : Hid (∀ fb, fb = w.heap.size → ∀ w2, w2 = w.alloc (.cells #[.int .i64 ((p : Nat) : Int)] 57) → CSt w w2 B ob ab eb fb p (.int .i64 0) .nilIface) := Lib.hid (by
    rintro fb rfl w2 rfl
    have hn := row_alloc w 57 [.int .i64 ((p : Nat) : Int)]
    have hb : Below w.heap.size w (w.alloc (.cells #[.int .i64 ((p : Nat) : Int)] 57)) := (Below.refl _ _).alloc (Nat.le_refl _) _
    have l1 := h1.lt
    have l2 := h2.lt
    have l3 := h3.lt
    exact ⟨h1.keep hb l1, h2.keep hb l2, h3.keep hb l3, hn, hb.mono (by omega), by omega⟩)
  clear h1 h2 h3 hne
  refine callsD_of_wpS Tryd.func29 rfl fun c₀ cs hu => ?_
  apply wpS_seq
  apply wpS_region
  simp [wpOpsS, go_sem, recoverD, hu, Tryd.ntmps29, Exit.thenS]
  apply wpS_seq
  apply wpS_region
  simp [wpOpsS, go_sem]
  refine wpS_cond (t := true) (by simp [Act.eval, Array.replicate]) ?_
  simp only [if_true]
  have hta := assert_fault
  apply wpS_seq
  apply wpS_region
  simp [wpOpsS, go_sem, hta, assert_fault]
  simp only [Exit.thenS]
  apply wpS_seq
  apply wpS_seq
  apply wpS_region
  simp [wpOpsS, go_sem]
  simp only [Exit.thenS]
  refine wpS_cond (t := false) (by simp [Act.eval, Array.replicate]) ?_
  simp only [Bool.false_eq_true, if_false]
  refine wpS_of_wp (wp_skip ?_)
  simp only [Exit.thenS]
  refine wpS_of_wp ?_
  obtain ⟨fb, hfb⟩ : ∃ fb, fb = w.heap.size := ⟨_, rfl⟩
  rw [← hfb]
  obtain ⟨w2, hw2⟩ : ∃ w2, w2 = w.alloc (.cells #[.int .i64 ((p : Nat) : Int)] 57) := ⟨_, rfl⟩
  rw [← hw2]
  have HC0 := Lib.hid (HC.out fb hfb w2 hw2).drew
  clear HC hfb hw2
  have hend : ∀ (a' : Act) (w' : World), a'.defers = [] → CSt w w' B ob ab eb fb p (.int .i64 ((p : Nat) : Int)) (.iface 59 (.int .i64 2)) → bodyPostS Tryd.prog Tryd.f29 c₀ cs (fun e u' w' => e = .returned (.tuple #[]) ∧ u' = .panicking ({ v := .iface 57 (.agg #[.int .i64 ((p : Nat) : Int)]), recovered := true } :: older) ∧ Row w' ob 24 (rbox 0 0 0 0 0 (.slice none 0 0) ⟨#[]⟩) ∧ Row w' ab 3 [.int .i64 ((p : Nat) : Int)] ∧ Row w' eb 26 [.iface 59 (.int .i64 2)] ∧ Below B w w') .normal a' ({ c₀ with mode := .panicking ({ v := .iface 57 (.agg #[.int .i64 ((p : Nat) : Int)]), recovered := true } :: older) } :: cs) w' := by
    intro a' w' hd h
    exact ⟨hd, _, rfl, .tuple #[], by simp [results, Tryd.results29], rfl, rfl, h.q, h.r, h.t, h.bl⟩
  have hrep : Array.replicate 18 undef = #[undef, undef, undef, undef, undef, undef, undef, undef, undef, undef, undef, undef, undef, undef, undef, undef, undef, undef] := rfl
  simp only [hrep, List.setIfInBounds_toArray, List.set_cons_zero, List.set_cons_succ, List.append_toArray, List.cons_append, List.nil_append]
  refine Rt.region_Cn (Sc2 (fun w2 => w2.cell? ⟨fb, 0, none⟩ = some (.int .i64 ((p : Nat) : Int)) ∧ True) (fun w2 => True) 999) 7 #[false, false, false, false, false, false, false] (by kernel_rfl) (by kernel_rfl) (by kernel_rfl) ?_
  have hS1 : ∀ o, Sc2 (fun w2 => w2.cell? ⟨fb, 0, none⟩ = some (.int .i64 ((p : Nat) : Int)) ∧ True) (fun w2 => True) 999 o w2.drew := Sc2.of ⟨HC0.out.f.cell 0, trivial⟩ trivial
  refine Rt.C_take (none) (i := 0) (oi := _) (v := ?_) rfl (by kernel_rfl) (by kernel_rfl) (by kernel_rfl) (by kernel_rfl) (fun _ _ _ h => h) (Sc2.other (by decide)) (Or.inl ⟨by rfl, ?_⟩) (fun o' _ => hS1 o') ?_
  rotate_left
  · intro w2 hSw
    obtain ⟨s0, s1⟩ := hSw
    go_simp
    try with_reducible rfl
  simp only [Act.put, List.getElem_toArray, List.getElem_cons_succ, List.getElem_cons_zero, List.setIfInBounds_toArray, List.set_cons_zero, List.set_cons_succ]
  refine Rt.C_take (none) (i := 1) (oi := _) (v := ?_) rfl (by kernel_rfl) (by kernel_rfl) (by kernel_rfl) (by kernel_rfl) (fun _ _ _ h => h) (Sc2.other (by decide)) (Or.inl ⟨by rfl, ?_⟩) (fun o' _ => hS1 o') ?_
  rotate_left
  · intro w2 hSw
    obtain ⟨s0, s1⟩ := hSw
    go_simp
    try with_reducible rfl
  simp only [Act.put, List.getElem_toArray, List.getElem_cons_succ, List.getElem_cons_zero, List.setIfInBounds_toArray, List.set_cons_zero, List.set_cons_succ]
  refine Rt.C_take (none) (i := 2) (oi := _) (v := (.int .i64 ((p : Nat) : Int))) rfl (by kernel_rfl) (by kernel_rfl) (by kernel_rfl) (by kernel_rfl) (fun _ _ _ h => h) (Sc2.other (by decide)) (Or.inl ⟨by rfl, ?_⟩) (fun o' _ => hS1 o') ?_
  · intro w2 hSw
    obtain ⟨s0, s1⟩ := hSw
    go_simp
    try with_reducible rfl
  simp only [Act.put, List.getElem_toArray, List.getElem_cons_succ, List.getElem_cons_zero, List.setIfInBounds_toArray, List.set_cons_zero, List.set_cons_succ]
  refine Rt.C_take (none) (i := 3) (oi := _) (v := ?_) rfl (by kernel_rfl) (by kernel_rfl) (by kernel_rfl) (by kernel_rfl) (fun _ _ _ h => h) (Sc2.other (by decide)) (Or.inl ⟨by rfl, ?_⟩) (fun o' _ => hS1 o') ?_
  rotate_left
  · intro w2 hSw
    obtain ⟨s0, s1⟩ := hSw
    go_simp
    try with_reducible rfl
  simp only [Act.put, List.getElem_toArray, List.getElem_cons_succ, List.getElem_cons_zero, List.setIfInBounds_toArray, List.set_cons_zero, List.set_cons_succ]
  clear hS1
  refine Rt.C_ready (rs := [4]) (by kernel_rfl) (by simp) ?_
  refine Rt.AllC.cons (i := 4) (o := _) rfl (by rfl) (fun K' hK => ?_) ?_
  · skip
    refine wp_store_arr 24 _ _ rfl ob rfl 24 _ (rbox 0 0 0 0 0 (.slice none 0 0) ⟨#[]⟩) rfl HC0.out.q rfl infoRul (rbox_one _ _ _ _ _ _ _ _ _) ?_
    intro w11 hr1 ho1
    have HC1 := Lib.hid (HC0.out.s4 ho1 hr1)
    clear hr1 ho1
    refine hK _ _ (fun o _ => Sc2.of ⟨HC1.out.f.cell 0, trivial⟩ trivial o) ?_
    clear hK K'
    simp only [Act.put, List.getElem_toArray, List.getElem_cons_succ, List.getElem_cons_zero, List.setIfInBounds_toArray, List.set_cons_zero, List.set_cons_succ]
    refine Rt.C_ready (rs := [5]) (by kernel_rfl) (by simp) ?_
    refine Rt.AllC.cons (i := 5) (o := _) rfl (by rfl) (fun K' hK => ?_) ?_
    · skip
      have c5 := HC1.out.r.cell 0
      have z5 := HC1.out.r.frozen 0
      go_simp
      clear c5 z5
      have HC2 := Lib.hid (HC1.out.s5 (.int .i64 ((p : Nat) : Int)))
      refine hK _ _ (fun o _ => Sc2.of ⟨HC2.out.f.cell 0, trivial⟩ trivial o) ?_
      clear hK K'
      simp only [Act.put, List.getElem_toArray, List.getElem_cons_succ, List.getElem_cons_zero, List.setIfInBounds_toArray, List.set_cons_zero, List.set_cons_succ]
      refine Rt.C_ready (rs := [6]) (by kernel_rfl) (by simp) ?_
      refine Rt.AllC.cons (i := 6) (o := _) rfl (by rfl) (fun K' hK => ?_) ?_
      · skip
        have c6 := HC2.out.t.cell 0
        have z6 := HC2.out.t.frozen 0
        go_simp
        clear c6 z6
        have HC3 := Lib.hid (HC2.out.s6 (.iface 59 (.int .i64 2)))
        refine hK _ _ (fun o _ => Sc2.of ⟨HC3.out.f.cell 0, trivial⟩ trivial o) ?_
        clear hK K'
        simp only [Act.put, List.getElem_toArray, List.getElem_cons_succ, List.getElem_cons_zero, List.setIfInBounds_toArray, List.set_cons_zero, List.set_cons_succ]
        refine Rt.C_done (by kernel_rfl) ?_ _
        exact hend _ _ rfl HC3.out
      exact Rt.AllC.nil
    exact Rt.AllC.nil
  exact Rt.AllC.nil
end Pr
end Go.Proofs.YtgagophijmiceaaDoor

/- WALK: edenref1.Same of two rules that are the same. -/
namespace Go.Proofs.YtgagophijmiceaaDoor
set_option linter.unusedSimpArgs false
set_option linter.unusedVariables false
open Go.RowKit
namespace Pr
open Tld Mem Bl Pn

def rL (K B S st ra : Int) (a : Option Addr) (n c : Nat) (tu : ByteArray) : List Value := [.int .i64 K, .int .i64 B, .int .i64 S, .int .i64 st, .int .i64 ra, .slice a n c, .string tu]
set_option maxHeartbeats 4000000 in
set_option maxRecDepth 1000000 in
theorem rsame_any (K B S st ra : Int) (tu : ByteArray) (a1 : Option Addr) (n1 c1 : Nat) (a2 : Option Addr) (n2 c2 : Nat) (zs : List Int) (w : World) (h1 : Ints.Is w a1 n1 zs) (h2 : Ints.Is w a2 n2 zs) :
    Calls Tryd.prog 9 #[.agg #[.int .i64 K, .int .i64 B, .int .i64 S, .int .i64 st, .int .i64 ra, .slice a1 n1 c1, .string tu], .agg #[.int .i64 K, .int .i64 B, .int .i64 S, .int .i64 st, .int .i64 ra, .slice a2 n2 c2, .string tu]] w fun e w' => e = .returned (.bool true) ∧ Below w.heap.size w w' := by
  have HI := Lib.hid (fun w2 : World => fun hb : Below w.heap.size w w2 => Ints.ints_any a1 a2 n1 n2 c1 c2 zs zs w2 (h1.keep hb) (h2.keep hb))
  clear h1 h2
  rw [decide_eq_true (rfl : zs = zs)] at HI
  go_enter Tryd.func9, Tryd.ntmps9
  go_upto_region 1 with fail
  obtain ⟨hR2, hR3, hB⟩ := two_new w 24 24 (rL K B S st ra a1 n1 c1 tu) (rL K B S st ra a2 n2 c2 tu)
  have HR2 := Lib.hid hR2
  have HR3 := Lib.hid hR3
  have HB := Lib.hid hB
  clear hR2 hR3 hB
  unfold rL at HR2 HR3 HB
  have f0 := HR2.out.cell 0
  have f1 := HR2.out.cell 1
  have f2 := HR2.out.cell 2
  have f3 := HR2.out.cell 3
  have f4 := HR2.out.cell 4
  have f5 := HR2.out.cell 5
  have f6 := HR2.out.cell 6
  have g0 := HR3.out.cell 0
  have g1 := HR3.out.cell 1
  have g2 := HR3.out.cell 2
  have g3 := HR3.out.cell 3
  have g4 := HR3.out.cell 4
  have g5 := HR3.out.cell 5
  have g6 := HR3.out.cell 6
  dsimp only [List.getElem?_cons_succ, List.getElem?_cons_zero] at f0 f1 f2 f3 f4 f5 f6 g0 g1 g2 g3 g4 g5 g6
  go_wp2_with fail
  refine (HI.out _ HB.out).mono ?_
  rintro e1 w1 ⟨rfl, hb1⟩
  have HBE := Lib.hid (HB.out.trans (hb1.mono HB.out.size))
  clear hb1
  go_wp2_with fail
  go_ret
  exact ⟨rfl, HBE.out⟩
theorem same_both (ev : Int) (w : World) (hL : Tld.Laid w) (hb : -1000 ≤ ev ∧ ev ≤ 1000) : Calls Tryd.prog 10 #[errV ev, .int .i64 ev] w fun e w' => e = .returned (.bool true) ∧ Below w.heap.size w w' := by
  by_cases h : ev = 0
  · subst h
    rw [errV_zero rfl]
    exact same_nil w hL
  · exact same_self ev w hL hb
end Pr
end Go.Proofs.YtgagophijmiceaaDoor

/- WALK: rules.Parse, whole. -/
namespace Go.Proofs.YtgagophijmiceaaDoor
set_option linter.unusedSimpArgs false
set_option linter.unusedVariables false
open Go.RowKit
namespace Pr
open Tld Mem Bl Pn Pw Rd

/-- What Parse hands back. -/
def RpP (l : List UInt8) (e : Ending) (w' : World) : Prop := match ruleO l with
  | .bad p => e = .returned (.tuple #[.agg #[.int .i64 0, .int .i64 0, .int .i64 0, .int .i64 0, .int .i64 0, .slice none 0 0, .string ⟨#[]⟩], .int .i64 (p : Nat), .iface 59 (.int .i64 2)])
  | .ok K B S st ra zs tu => ∃ a n c, e = .returned (.tuple #[.agg #[.int .i64 (K : Nat), .int .i64 (B : Nat), .int .i64 (S : Nat), .int .i64 (st : Nat), .int .i64 (ra : Nat), .slice a n c, .string ⟨tu.toArray⟩], .int .i64 0, .nilIface]) ∧ Ints.Is w' a n zs
theorem three_new (w : World) (T U V : TypeId) (c1 c2 c3 : List Value) : Row (((w.alloc (.cells c1.toArray T)).alloc (.cells c2.toArray U)).alloc (.cells c3.toArray V)) w.heap.size T c1 ∧ Row (((w.alloc (.cells c1.toArray T)).alloc (.cells c2.toArray U)).alloc (.cells c3.toArray V)) (w.heap.size + 1) U c2 ∧ Row (((w.alloc (.cells c1.toArray T)).alloc (.cells c2.toArray U)).alloc (.cells c3.toArray V)) (w.heap.size + 1 + 1) V c3 ∧ Below w.heap.size w (((w.alloc (.cells c1.toArray T)).alloc (.cells c2.toArray U)).alloc (.cells c3.toArray V)) := by
  obtain ⟨h1, h2, hb⟩ := two_new w T U c1 c2
  have h3 := row_alloc ((w.alloc (.cells c1.toArray T)).alloc (.cells c2.toArray U)) V c3
  have hb3 : Below ((w.alloc (.cells c1.toArray T)).alloc (.cells c2.toArray U)).heap.size ((w.alloc (.cells c1.toArray T)).alloc (.cells c2.toArray U)) (((w.alloc (.cells c1.toArray T)).alloc (.cells c2.toArray U)).alloc (.cells c3.toArray V)) := (Below.refl _ _).alloc (Nat.le_refl _) _
  refine ⟨h1.keep hb3 h1.lt, h2.keep hb3 h2.lt, ?_, hb.trans (hb3.mono hb.size)⟩
  rwa [World.size_alloc, World.size_alloc] at h3
theorem is_other4 {w w' : World} {a : Option Addr} {n c : Nat} {zs : List Int} (h : Ints.Is w a n zs) (o : Only c w w') (hne : ∀ b off, a = some ⟨b, off, none⟩ → b ≠ c) : Ints.Is w' a n zs :=
  ⟨h.len, fun i hi => by
    obtain ⟨b, off, e, hlt, hc⟩ := h.cells i hi
    refine ⟨b, off, e, by rw [o.size]; exact hlt, ?_⟩
    rw [← hc]
    unfold World.cell?
    rw [show (⟨b, off + i, none⟩ : Addr).block = b from rfl, o.block b (hne b off e)], h.le⟩
theorem infoI1 : (Tryd.prog.info? 3).map (·.size) = some 1 := by kernel_rfl
theorem infoE1 : (Tryd.prog.info? 26).map (·.size) = some 1 := by kernel_rfl
theorem results_three_cells {fn : Func} {t u v : Tmp} (hr : fn.results = #[.cell t 24, .cell u 3, .cell v 26]) (tmps : Array Value) (w : World) {q r s : Nat} {V : List Value} {e f : Value} (h : Row w q 24 V) (hV : V.length = 7) (h2 : Row w r 3 [e]) (h3 : Row w s 26 [f]) (h8 : tmps.getD t undef = .pointer (some ⟨q, 0, none⟩)) (h9 : tmps.getD u undef = .pointer (some ⟨r, 0, none⟩)) (h10 : tmps.getD v undef = .pointer (some ⟨s, 0, none⟩)) :
    (results fn tmps).run Tryd.prog w = .ok (.tuple #[.agg V.toArray, e, f]) w := by
  have hl := run_loadVar_row (P := Tryd.prog) w q 24 24 V.toArray (0, 0) _ h Tryd.underlying24 rfl (by rw [List.size_toArray, hV]; exact infoRul)
  have c2 := h2.cell 0
  have c3 := h3.cell 0
  dsimp only [List.getElem?_cons_zero] at c2 c3
  have h8' : tmps[t]?.getD undef = .pointer (some ⟨q, 0, none⟩) := by simpa using h8
  have h9' : tmps[u]?.getD undef = .pointer (some ⟨r, 0, none⟩) := by simpa using h9
  have h10' : tmps[v]?.getD undef = .pointer (some ⟨s, 0, none⟩) := by simpa using h10
  have hl2 : (loadVar 3 ⟨r, 0, none⟩).run Tryd.prog w = .ok e w := by simp [go_sem, c2]
  have hl3 : (loadVar 26 ⟨s, 0, none⟩).run Tryd.prog w = .ok f w := by simp [go_sem, c3]
  simp [results, hr, h8', h9', h10', asAddr, hl, hl2, hl3]
set_option maxHeartbeats 4000000 in
set_option maxRecDepth 1000000 in
theorem parse_rule (s : ByteArray) (w : World) (hs : s.size ≤ 9223372036854775807) : Calls Tryd.prog 7 #[.string s] w fun e w' => RpP s.data.toList e w' ∧ Below w.heap.size w w' := by
  have hmf : ∀ (fn : Go.Fn) (first cap : Array Value) (w : World), (Instr.makeFunc fn first cap).run Tryd.prog w = .ok (.func fn first cap) w := fun _ _ _ _ => rfl
  go_enter_defers Tryd.func7, Tryd.ntmps7
  go_wp2_with fail
  obtain ⟨h1, h2, h3, hb⟩ := three_new w 24 3 26 (rbox 0 0 0 0 0 (.slice none 0 0) ⟨#[]⟩) [.int .i64 0] [.nilIface]
  have h4 := row_alloc (((w.alloc (.cells #[.int .i64 0, .int .i64 0, .int .i64 0, .int .i64 0, .int .i64 0, .slice none 0 0, .string ⟨#[]⟩] 24)).alloc (.cells #[.int .i64 0] 3)).alloc (.cells #[.nilIface] 26)) 62 (rdr s 0)
  have hb4 : Below (((w.alloc (.cells #[.int .i64 0, .int .i64 0, .int .i64 0, .int .i64 0, .int .i64 0, .slice none 0 0, .string ⟨#[]⟩] 24)).alloc (.cells #[.int .i64 0] 3)).alloc (.cells #[.nilIface] 26)).heap.size (((w.alloc (.cells #[.int .i64 0, .int .i64 0, .int .i64 0, .int .i64 0, .int .i64 0, .slice none 0 0, .string ⟨#[]⟩] 24)).alloc (.cells #[.int .i64 0] 3)).alloc (.cells #[.nilIface] 26)) ((((w.alloc (.cells #[.int .i64 0, .int .i64 0, .int .i64 0, .int .i64 0, .int .i64 0, .slice none 0 0, .string ⟨#[]⟩] 24)).alloc (.cells #[.int .i64 0] 3)).alloc (.cells #[.nilIface] 26)).alloc (.cells #[.string s, .int .i64 0] 62)) := (Below.refl _ _).alloc (Nat.le_refl _) _
  have H1 : Hid (Row ((((w.alloc (.cells #[.int .i64 0, .int .i64 0, .int .i64 0, .int .i64 0, .int .i64 0, .slice none 0 0, .string ⟨#[]⟩] 24)).alloc (.cells #[.int .i64 0] 3)).alloc (.cells #[.nilIface] 26)).alloc (.cells #[.string s, .int .i64 0] 62)) w.heap.size 24 (rbox 0 0 0 0 0 (.slice none 0 0) ⟨#[]⟩)) := Lib.hid (h1.keep hb4 h1.lt)
  have H2 : Hid (Row ((((w.alloc (.cells #[.int .i64 0, .int .i64 0, .int .i64 0, .int .i64 0, .int .i64 0, .slice none 0 0, .string ⟨#[]⟩] 24)).alloc (.cells #[.int .i64 0] 3)).alloc (.cells #[.nilIface] 26)).alloc (.cells #[.string s, .int .i64 0] 62)) (w.heap.size + 1) 3 [.int .i64 0]) := Lib.hid (h2.keep hb4 h2.lt)
  have H3 : Hid (Row ((((w.alloc (.cells #[.int .i64 0, .int .i64 0, .int .i64 0, .int .i64 0, .int .i64 0, .slice none 0 0, .string ⟨#[]⟩] 24)).alloc (.cells #[.int .i64 0] 3)).alloc (.cells #[.nilIface] 26)).alloc (.cells #[.string s, .int .i64 0] 62)) (w.heap.size + 1 + 1) 26 [.nilIface]) := Lib.hid (h3.keep hb4 h3.lt)
  rw [World.size_alloc, World.size_alloc, World.size_alloc] at h4
  have H4 : Hid (Row ((((w.alloc (.cells #[.int .i64 0, .int .i64 0, .int .i64 0, .int .i64 0, .int .i64 0, .slice none 0 0, .string ⟨#[]⟩] 24)).alloc (.cells #[.int .i64 0] 3)).alloc (.cells #[.nilIface] 26)).alloc (.cells #[.string s, .int .i64 0] 62)) (w.heap.size + 1 + 1 + 1) 62 (rdr s 0)) := Lib.hid h4
  have HB : Hid (Below w.heap.size w ((((w.alloc (.cells #[.int .i64 0, .int .i64 0, .int .i64 0, .int .i64 0, .int .i64 0, .slice none 0 0, .string ⟨#[]⟩] 24)).alloc (.cells #[.int .i64 0] 3)).alloc (.cells #[.nilIface] 26)).alloc (.cells #[.string s, .int .i64 0] 62))) := Lib.hid (hb.trans (hb4.mono hb.size))
  clear h1 h2 h3 h4 hb hb4
  generalize (((w.alloc (.cells #[.int .i64 0, .int .i64 0, .int .i64 0, .int .i64 0, .int .i64 0, .slice none 0 0, .string ⟨#[]⟩] 24)).alloc (.cells #[.int .i64 0] 3)).alloc (.cells #[.nilIface] 26)).alloc (.cells #[.string s, .int .i64 0] 62) = w4 at *
  obtain ⟨ob, hob⟩ : ∃ ob, ob = w.heap.size := ⟨_, rfl⟩
  obtain ⟨ab, hab⟩ : ∃ ab, ab = w.heap.size + 1 := ⟨_, rfl⟩
  obtain ⟨eb, heb⟩ : ∃ eb, eb = w.heap.size + 1 + 1 := ⟨_, rfl⟩
  obtain ⟨b, hbb⟩ : ∃ b, b = w.heap.size + 1 + 1 + 1 := ⟨_, rfl⟩
  rw [← hbb, ← heb, ← hab, ← hob]
  rw [← hob] at H1
  rw [← hab] at H2
  rw [← heb] at H3
  rw [← hbb] at H4
  have HNE : Hid (w.heap.size ≤ ob ∧ w.heap.size ≤ ab ∧ w.heap.size ≤ eb ∧ ob ≠ ab ∧ ob ≠ eb ∧ ab ≠ eb) := Lib.hid (by omega)
  have HLT : Hid (ob < b ∧ ab < b ∧ eb < b ∧ w.heap.size ≤ b) := Lib.hid (by omega)
  clear hob hab heb hbb
  refine (rule_any s b w4 hs H4.out).mono ?_
  rintro e1 w1 ⟨hru, hb1⟩
  have H1 := Lib.hid (H1.out.keep hb1 HLT.out.1)
  have H2 := Lib.hid (H2.out.keep hb1 HLT.out.2.1)
  have H3 := Lib.hid (H3.out.keep hb1 HLT.out.2.2.1)
  have HB := Lib.hid (HB.out.trans (hb1.mono HLT.out.2.2.2))
  have H4L := Lib.hid H4.out.lt
  clear hb1 H4 hs
  unfold RuP at hru
  cases hq : ruleO s.data.toList with
  | bad p =>
    rw [hq] at hru
    dsimp only at hru
    subst hru
    go_wp2_with fail
    refine leaves_cons (f := 29) (args := #[.pointer (some ⟨ob, 0, none⟩), .pointer (some ⟨ab, 0, none⟩), .pointer (some ⟨eb, 0, none⟩)]) (by simp) (by simp [go_sem]) ?_
    refine (catch_fault w.heap.size ob ab eb p [] w1 H1.out H2.out H3.out HNE.out).mono ?_
    rintro e u' w'' ⟨rfl, rfl, hq1, hq2, hq3, hbl⟩
    have HRP : Hid (RpP s.data.toList (.returned (.tuple #[.agg (rbox 0 0 0 0 0 (.slice none 0 0) ⟨#[]⟩).toArray, .int .i64 ((p : Nat) : Int), .iface 59 (.int .i64 2)])) w'') := Lib.hid (by unfold RpP; rw [hq]; rfl)
    have HBE := Lib.hid (HB.out.trans hbl)
    simp [Leaves, settle]
    exact ⟨_, results_three_cells rfl _ _ hq1 rfl hq2 hq3 rfl rfl rfl, HRP.out, HBE.out⟩
  | ok K B S st ra zs tu =>
    rw [hq] at hru
    obtain ⟨a, n, c, rfl, hi, hlo⟩ := hru
    have HAB : Hid (∀ b' o, a = some ⟨b', o, none⟩ → b < b') := Lib.hid (fun b' o e => by have := hlo b' o e; have := H4L.out; omega)
    clear hlo
    have HRP : Hid (∀ w'', Ints.Is w'' a n zs → RpP s.data.toList (.returned (.tuple #[.agg (rbox (K : Nat) (B : Nat) (S : Nat) (st : Nat) (ra : Nat) (.slice a n c) ⟨tu.toArray⟩).toArray, .int .i64 0, .nilIface])) w'') := Lib.hid (fun w'' h => by unfold RpP; rw [hq]; exact ⟨a, n, c, rfl, h⟩)
    have HIS := Lib.hid hi
    clear hi hq
    have c2 := H2.out.cell 0
    have z2 := H2.out.frozen 0
    have c3 := H3.out.cell 0
    have z3 := H3.out.frozen 0
    dsimp only [List.getElem?_cons_zero] at c2 c3
    go_wp2_with (refine Ops.wpList_store_arr rfl 24 _ _ rfl ob rfl 24 _ (rbox (K : Nat) (B : Nat) (S : Nat) (st : Nat) (ra : Nat) (.slice a n c) ⟨tu.toArray⟩) rfl H1.out rfl infoRul (rbox_one _ _ _ _ _ _ _ _ _) ?_; intro w2 hr2 ho2; have c2 := (H2.out.other ho2 (Ne.symm HNE.out.2.2.2.1)).cell 0; have z2 := (H2.out.other ho2 (Ne.symm HNE.out.2.2.2.1)).frozen 0; have c3 := ((H3.out.other ho2 (Ne.symm HNE.out.2.2.2.2.1)).other (only_setCell w2 ab 0 (.int .i64 0)) (Ne.symm HNE.out.2.2.2.2.2)).cell 0; have z3 := ((H3.out.other ho2 (Ne.symm HNE.out.2.2.2.2.1)).other (only_setCell w2 ab 0 (.int .i64 0)) (Ne.symm HNE.out.2.2.2.2.2)).frozen 0; dsimp only [List.getElem?_cons_zero] at c2 c3)
    have HI2 := Lib.hid (is_other4 HIS.out ho2 (fun b' o e => by have := HAB.out b' o e; have := HLT.out; omega))
    have hon3 := only_setCell w2 ab 0 (.int .i64 0)
    have HI3 := Lib.hid (is_other4 HI2.out hon3 (fun b' o e => by have := HAB.out b' o e; have := HLT.out; omega))
    have hon4 := only_setCell (w2.setCell ⟨ab, 0, none⟩ (.int .i64 0)) eb 0 .nilIface
    have HI4 := Lib.hid (is_other4 HI3.out hon4 (fun b' o e => by have := HAB.out b' o e; have := HLT.out; omega))
    have HR1 := Lib.hid ((hr2.other hon3 HNE.out.2.2.2.1).other hon4 HNE.out.2.2.2.2.1)
    have HR2 : Hid (Row ((w2.setCell ⟨ab, 0, none⟩ (.int .i64 0)).setCell ⟨eb, 0, none⟩ .nilIface) ab 3 [.int .i64 0]) := Lib.hid (((H2.out.other ho2 (Ne.symm HNE.out.2.2.2.1)).set 0 (.int .i64 0)).other hon4 HNE.out.2.2.2.2.2)
    have HR3 : Hid (Row ((w2.setCell ⟨ab, 0, none⟩ (.int .i64 0)).setCell ⟨eb, 0, none⟩ .nilIface) eb 26 [.nilIface]) := Lib.hid (((H3.out.other ho2 (Ne.symm HNE.out.2.2.2.2.1)).other hon3 (Ne.symm HNE.out.2.2.2.2.2)).set 0 .nilIface)
    have HBE := Lib.hid (HB.out.trans ((ho2.below HNE.out.1).trans ((hon3.below HNE.out.2.1).trans (hon4.below HNE.out.2.2.1))))
    clear hr2 ho2 hon3 hon4 HI2 HI3 H1 H2 H3 HB c2 z2 c3 z3
    generalize (w2.setCell ⟨ab, 0, none⟩ (.int .i64 0)).setCell ⟨eb, 0, none⟩ .nilIface = w5 at *
    refine leaves_cons (f := 29) (args := #[.pointer (some ⟨ob, 0, none⟩), .pointer (some ⟨ab, 0, none⟩), .pointer (some ⟨eb, 0, none⟩)]) (by simp) (by simp [go_sem]) ?_
    refine (catch_idle _ _ _ w5).mono ?_
    rintro e u' w'' ⟨rfl, rfl, rfl⟩
    simp [Leaves, settle]
    exact ⟨_, results_three_cells rfl _ _ HR1.out rfl HR2.out HR3.out rfl rfl rfl, HRP.out _ HI4.out, HBE.out⟩
end Pr
end Go.Proofs.YtgagophijmiceaaDoor

/- THE LAW RulesParses: its walk, out of its callees' contracts. -/
namespace Go.Proofs.YtgagophijmiceaaDoor
set_option linter.unusedSimpArgs false
set_option linter.unusedVariables false
open Go.RowKit
namespace Pr
open Tld Mem Bl Pn Pw Rd

/-- Both sides come to one outcome. -/
theorem rules_two (s : ByteArray) (hs : s.size ≤ 9223372036854775807) : ∃ (K B S st ra : Int) (zs : List Int) (tu : ByteArray) (p : Int) (ok : Bool) (ev : Int), ((ok = true ∧ ev = 0) ∨ (ok = false ∧ ev = 2)) ∧
    (∀ w2, Calls Tryd.prog 7 #[.string s] w2 fun e w' => (∃ a1 n1 c1, e = .returned (.tuple #[.agg #[.int .i64 K, .int .i64 B, .int .i64 S, .int .i64 st, .int .i64 ra, .slice a1 n1 c1, .string tu], .int .i64 p, errV ev]) ∧ Ints.Is w' a1 n1 zs) ∧ Below w2.heap.size w2 w') ∧
    (∀ w2, Calls Tryd.prog 8 #[.string s] w2 fun e w' => (∃ a1 n1 c1, e = .returned (.tuple #[.agg #[.int .i64 K, .int .i64 B, .int .i64 S, .int .i64 st, .int .i64 ra, .slice a1 n1 c1, .string tu], .int .i64 p, .bool ok]) ∧ Ints.Is w' a1 n1 zs) ∧ Below w2.heap.size w2 w') := by
  cases hq : ruleO s.data.toList with
  | bad p =>
    refine ⟨0, 0, 0, 0, 0, [], ⟨#[]⟩, p, false, 2, .inr ⟨rfl, rfl⟩, fun w2 => (parse_rule s w2 hs).mono ?_, fun w2 => (rparse_any s w2 hs).mono ?_⟩
    · rintro e w' ⟨h, hb⟩
      unfold RpP at h
      rw [hq] at h
      exact ⟨⟨none, 0, 0, h, Ints.Is.nil _⟩, hb⟩
    · rintro e w' ⟨h, hb⟩
      unfold PaQ at h
      rw [hq] at h
      exact ⟨⟨none, 0, 0, h, Ints.Is.nil _⟩, hb⟩
  | ok K B S st ra zs tu =>
    refine ⟨K, B, S, st, ra, zs, ⟨tu.toArray⟩, 0, true, 0, .inl ⟨rfl, rfl⟩, fun w2 => (parse_rule s w2 hs).mono ?_, fun w2 => (rparse_any s w2 hs).mono ?_⟩
    · rintro e w' ⟨h, hb⟩
      unfold RpP at h
      rw [hq] at h
      obtain ⟨a, n, c, he, hi⟩ := h
      exact ⟨⟨a, n, c, he, hi⟩, hb⟩
    · rintro e w' ⟨h, hb⟩
      unfold PaQ at h
      rw [hq] at h
      obtain ⟨a, n, c, he, hi⟩ := h
      exact ⟨⟨a, n, c, he, hi⟩, hb⟩
set_option maxHeartbeats 16000000 in
set_option maxRecDepth 1000000 in
theorem rparses_any (s : ByteArray) (w : World) (hs : s.size ≤ 9223372036854775807) (hL : Tld.Laid w) :
    Calls Tryd.prog 3 #[.string s] w fun e w' => e = .returned (.bool true) ∧ Below w.heap.size w w' := by
  obtain ⟨K, B, S, st, ra, zs, tu, p, ok, ev, hcase, k1, k2⟩ := rules_two s hs
  have hbd : -1000 ≤ ev ∧ ev ≤ 1000 := by omega
  have T1 := Lib.hid (fun w2 (h : Below w.heap.size w w2) => same_both ev w2 (hL.keep h) hbd)
  have K1 := Lib.hid k1
  have K2 := Lib.hid k2
  have A1 := Lib.hid (fun (a1 : Option Addr) (n1 c1 : Nat) (a2 : Option Addr) (n2 c2 : Nat) w2 h1 h2 => rsame_any K B S st ra tu a1 n1 c1 a2 n2 c2 zs w2 h1 h2)
  have HCASE := Lib.hid hcase
  clear k1 k2 hL hbd hcase hs
  generalize errV ev = fe at *
  go_enter Tryd.func3, Tryd.ntmps3
  go_wp2_with fail
  refine (K1.out w).mono ?_
  rintro e1 w1 ⟨⟨a1, n1, c1, rfl, hi1⟩, hb1⟩
  have HB := Lib.hid hb1
  have HI1 := Lib.hid hi1
  clear hb1 hi1
  go_upto_region 2 with fail
  have hra : Row (w1.alloc (.cells #[.int .i64 K, .int .i64 B, .int .i64 S, .int .i64 st, .int .i64 ra, .slice a1 n1 c1, .string tu] 24)) w1.heap.size 24 (rL K B S st ra a1 n1 c1 tu) := row_alloc w1 24 (rL K B S st ra a1 n1 c1 tu)
  have hba : Below w1.heap.size w1 (w1.alloc (.cells #[.int .i64 K, .int .i64 B, .int .i64 S, .int .i64 st, .int .i64 ra, .slice a1 n1 c1, .string tu] 24)) := (Below.refl _ _).alloc (Nat.le_refl _) _
  have HA := Lib.hid hra
  have HI1 := Lib.hid (HI1.out.keep hba)
  have HB := Lib.hid (HB.out.trans (hba.mono HB.out.size))
  clear hra hba
  generalize w1.alloc (.cells #[.int .i64 K, .int .i64 B, .int .i64 S, .int .i64 st, .int .i64 ra, .slice a1 n1 c1, .string tu] 24) = w2 at *
  obtain ⟨ab, hab⟩ : ∃ ab, ab = w1.heap.size := ⟨_, rfl⟩
  rw [← hab] at HA ⊢
  clear hab
  go_wp2_with fail
  refine (K2.out w2).mono ?_
  rintro e3 w3 ⟨⟨a2, n2, c2, rfl, hi2⟩, hb3⟩
  have HA := Lib.hid (HA.out.keep hb3 HA.out.lt)
  have HI1 := Lib.hid (HI1.out.keep hb3)
  have HB := Lib.hid (HB.out.trans (hb3.mono HB.out.size))
  have HI2 := Lib.hid hi2
  clear hb3 hi2
  go_upto_region 3 with fail
  have hra : Row (w3.alloc (.cells #[.int .i64 K, .int .i64 B, .int .i64 S, .int .i64 st, .int .i64 ra, .slice a2 n2 c2, .string tu] 24)) w3.heap.size 24 (rL K B S st ra a2 n2 c2 tu) := row_alloc w3 24 (rL K B S st ra a2 n2 c2 tu)
  have hba : Below w3.heap.size w3 (w3.alloc (.cells #[.int .i64 K, .int .i64 B, .int .i64 S, .int .i64 st, .int .i64 ra, .slice a2 n2 c2, .string tu] 24)) := (Below.refl _ _).alloc (Nat.le_refl _) _
  have HC := Lib.hid hra
  have HI1 := Lib.hid (HI1.out.keep hba)
  have HI2 := Lib.hid (HI2.out.keep hba)
  have HA := Lib.hid (HA.out.keep hba HA.out.lt)
  have HB := Lib.hid (HB.out.trans (hba.mono HB.out.size))
  clear hra hba
  generalize w3.alloc (.cells #[.int .i64 K, .int .i64 B, .int .i64 S, .int .i64 st, .int .i64 ra, .slice a2 n2 c2, .string tu] 24) = w4 at *
  obtain ⟨cb, hcb⟩ : ∃ cb, cb = w3.heap.size := ⟨_, rfl⟩
  rw [← hcb] at HC ⊢
  clear hcb
  have l0 := row_range HA.out
  have l1 := row_range HC.out
  unfold rL at l0 l1
  go_wp2_with (first | (refine wpList_load_mid rfl 24 _ rfl ab 0 rfl _ _ l0 Tryd.underlying24 rfl infoRul ?_) | (refine wpList_load_mid rfl 24 _ rfl cb 0 rfl _ _ l1 Tryd.underlying24 rfl infoRul ?_))
  refine (A1.out a1 n1 c1 a2 n2 c2 w4 HI1.out HI2.out).mono ?_
  rintro e5 w5 ⟨rfl, hb5⟩
  have HB := Lib.hid (HB.out.trans (hb5.mono HB.out.size))
  clear hb5 l0 l1 HA HC HI1 HI2
  rcases HCASE.out with ⟨rfl, rfl⟩ | ⟨rfl, rfl⟩
  · skip
    go_wp2_with fail
    refine (T1.out w5 HB.out).mono ?_
    rintro e6 w6 ⟨rfl, hb6⟩
    have HB := Lib.hid (HB.out.trans (hb6.mono HB.out.size))
    clear hb6
    go_wp2_with fail
    go_ret
    exact ⟨by simp, HB.out⟩
  · skip
    go_wp2_with fail
    refine (T1.out w5 HB.out).mono ?_
    rintro e6 w6 ⟨rfl, hb6⟩
    have HB := Lib.hid (HB.out.trans (hb6.mono HB.out.size))
    clear hb6
    go_wp2_with fail
    go_ret
    exact ⟨by simp, HB.out⟩

end Pr
end Go.Proofs.YtgagophijmiceaaDoor
