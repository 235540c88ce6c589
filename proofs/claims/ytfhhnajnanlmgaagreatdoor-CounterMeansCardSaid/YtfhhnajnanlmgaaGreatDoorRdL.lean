/- WALK: edenref5.line: one line as an instruction. -/
import Derived.Test.YtfhhnajnanlmgaaGreatDoorRdM
import Derived.BigRegion
namespace Go.Proofs.YtfhhnajnanlmgaaGreatDoor
set_option linter.unusedSimpArgs false
set_option linter.unusedVariables false
open Go.RowKit
namespace Rd
open Tld Mem Cr

structure In where
  op : Int
  a : Int
  t : Int
  e : Int
  deriving DecidableEq
def In.v (q : In) : Value := .agg #[.int .i64 q.op, .int .i64 q.a, .int .i64 q.t, .int .i64 q.e]
def In.l (q : In) : List Value := [.int .i64 q.op, .int .i64 q.a, .int .i64 q.t, .int .i64 q.e]
def lineR (l : List UInt8) : Option In :=
  if l = [104, 97, 108, 116] then some ⟨3, 0, 0, 0⟩
  else if l.length < 3 then none
  else match numsR (l.drop 3) with
  | none => none
  | some vs =>
    if l.take 3 = [105, 110, 99] ∧ vs.length = 2 then some ⟨1, vs.getD 0 0, vs.getD 1 0, 0⟩
    else if l.take 3 = [100, 101, 99] ∧ vs.length = 3 then some ⟨2, vs.getD 0 0, vs.getD 1 0, vs.getD 2 0⟩
    else none
/-- What a line's reading answers. -/
def inQ (o : Option In) : Value := .tuple #[(o.getD ⟨0, 0, 0, 0⟩).v, .bool o.isSome]

theorem eqL (s : ByteArray) (l : List UInt8) : (s.toList == l) = decide (s.data.toList = l) := by
  rw [Lib.toList_data]
  by_cases h : s.data.toList = l
  · rw [decide_eq_true h, beq_iff_eq, h]
  · rw [decide_eq_false h, beq_eq_false_iff_ne]
    exact h
theorem ext_l (s : ByteArray) (a b : Nat) : (s.extract a b).data.toList = (s.data.toList.take b).drop a := by
  rw [ByteArray.data_extract, Array.toList_extract, List.extract_eq_take_drop, List.drop_take]
theorem below_d {B : Nat} {w w' : World} (h : Below B w w') : Below B w w'.drew := ⟨h.os, h.tape, h.output, h.size, h.block⟩
theorem row_set4 {w : World} {b : Nat} {T : TypeId} {x y z u : Value} (h : Row w b T [x, y, z, u]) (x' y' z' u' : Value) : Row ((((w.setCell ⟨b, 0, none⟩ x').setCell ⟨b, 1, none⟩ y').setCell ⟨b, 2, none⟩ z').setCell ⟨b, 3, none⟩ u') b T [x', y', z', u'] := (((h.set 0 x').set 1 y').set 2 z').set 3 u'
theorem below_set4 {w w1 : World} {b : Nat} (h : Below w.heap.size w w1) (hb : b = w.heap.size) (x y z u : Value) : Below w.heap.size w ((((w1.setCell ⟨b, 0, none⟩ x).setCell ⟨b, 1, none⟩ y).setCell ⟨b, 2, none⟩ z).setCell ⟨b, 3, none⟩ u) :=
  (((h.setCell (by rw [hb]; exact Nat.le_refl _) _).setCell (by rw [hb]; exact Nat.le_refl _) _).setCell (by rw [hb]; exact Nat.le_refl _) _).setCell (by rw [hb]; exact Nat.le_refl _) _
theorem line_ret {a : Act} {w w2 : World} {b : Nat} {q : In} {ok : Bool} {o : Option In} (h : Row w2 b 34 q.l) (ha : a.tmps.getD 2 undef = .pointer (some ⟨b, 0, none⟩)) (hq : a.tmps.getD 3 undef = .bool ok) (hd : a.defers = []) (hb : Below w.heap.size w w2) (hs : o.getD ⟨0, 0, 0, 0⟩ = q) (hs2 : o.isSome = ok) :
    bodyPost Tryz.prog Tryz.f19 (fun e w' => e = .returned (inQ o) ∧ Below w.heap.size w w') Exit.ret a w2 := by
  subst hs hs2
  have f0 := h.cell 0
  have f1 := h.cell 1
  have f2 := h.cell 2
  have f3 := h.cell 3
  unfold In.l at f0 f1 f2 f3
  dsimp only [List.getElem?_cons_succ, List.getElem?_cons_zero] at f0 f1 f2 f3
  refine bodyPost_ret (v := inQ o) ?_ hd ⟨rfl, hb⟩
  rw [results_cell_tmp rfl, ha, hq]
  unfold inQ In.v
  generalize o.getD ⟨0, 0, 0, 0⟩ = q at *
  go_simp

set_option maxHeartbeats 8000000 in
set_option maxRecDepth 1000000 in
theorem line_any (s : ByteArray) (w : World) (hs : s.size ≤ 1048576) : Calls Tryz.prog 19 #[.string s] w fun e w' => e = .returned (inQ (lineR s.data.toList)) ∧ Below w.heap.size w w' := by
  obtain ⟨o, ho⟩ : ∃ o, o = lineR s.data.toList := ⟨_, rfl⟩
  rw [← ho]
  have HO := Lib.hid ho
  clear ho
  go_enter Tryz.func19, Tryz.ntmps19
  go_upto_region 1 with fail
  have hB0 : Below w.heap.size w (w.alloc (.cells #[.int .i64 0, .int .i64 0, .int .i64 0, .int .i64 0] 34)) := (Below.refl _ _).alloc (Nat.le_refl _) _
  have hR0 : Row (w.alloc (.cells #[.int .i64 0, .int .i64 0, .int .i64 0, .int .i64 0] 34)) w.heap.size 34 [.int .i64 0, .int .i64 0, .int .i64 0, .int .i64 0] := row_alloc w _ _
  obtain ⟨b0, hb0⟩ : ∃ b0, b0 = w.heap.size := ⟨_, rfl⟩
  rw [← hb0] at hR0 ⊢
  have HB := Lib.hid hB0
  have HR := Lib.hid hR0
  have HB0 := Lib.hid hb0
  clear hb0 hR0 hB0
  generalize w.alloc (.cells #[.int .i64 0, .int .i64 0, .int .i64 0, .int .i64 0] 34) = w1 at *
  have hh0 : ∀ k : Nat, k < 4 → w1.frozen? ⟨b0, k, none⟩ = false := fun k _ => HR.out.frozen k
  by_cases hh : s = ⟨#[104, 97, 108, 116]⟩
  · have hO : o = some ⟨3, 0, 0, 0⟩ := by rw [HO.out, hh]; rfl
    have HOO := Lib.hid hO
    have fr0 := hh0 0 (by omega)
    have fr1 := hh0 1 (by omega)
    have fr2 := hh0 2 (by omega)
    have fr3 := hh0 3 (by omega)
    have f0 := HR.out.cell 0
    have f1 := HR.out.cell 1
    have f2 := HR.out.cell 2
    have f3 := HR.out.cell 3
    dsimp only [List.getElem?_cons_succ, List.getElem?_cons_zero] at f0 f1 f2 f3
    clear hO hh0
    go_wp2_with fail
    exact line_ret (q := ⟨3, 0, 0, 0⟩) (row_set4 HR.out _ _ _ _) rfl rfl rfl (below_set4 HB.out HB0.out _ _ _ _) (by rw [HOO.out]; rfl) (by rw [HOO.out]; rfl)
  · have hl1 : s.data.toList ≠ [104, 97, 108, 116] := fun h => hh (by
      apply ByteArray.ext
      apply Array.toList_inj.1
      exact h)
    have hne : (s.toList == [104, 97, 108, 116]) = false := (eqL s _).trans (decide_eq_false hl1)
    have hO : lineR s.data.toList = _ := if_neg hl1
    by_cases hl : s.size < 3
    · have hO2 : o = none := by rw [HO.out, hO]; exact if_pos (by rw [← Lib.size_eq]; exact hl)
      have HOO := Lib.hid hO2
      have hl2 : (s.size : Int) < 3 := by omega
      have fr0 := hh0 0 (by omega)
      have fr1 := hh0 1 (by omega)
      have fr2 := hh0 2 (by omega)
      have fr3 := hh0 3 (by omega)
      have f0 := HR.out.cell 0
      have f1 := HR.out.cell 1
      have f2 := HR.out.cell 2
      have f3 := HR.out.cell 3
      dsimp only [List.getElem?_cons_succ, List.getElem?_cons_zero] at f0 f1 f2 f3
      clear hO hh0 hO2 hl1 hh
      go_wp2_with fail
      exact line_ret (q := ⟨0, 0, 0, 0⟩) (row_set4 HR.out _ _ _ _) rfl rfl rfl (below_set4 HB.out HB0.out _ _ _ _) (by rw [HOO.out]; rfl) (by rw [HOO.out]; rfl)
    · have HO := Lib.hid (HO.out.trans (hO.trans (if_neg (by rw [← Lib.size_eq]; exact hl))))
      have hl2 : ¬ (s.size : Int) < 3 := by omega
      have HL := Lib.hid hl
      have HNM := Lib.hid (numbers_any s 3 w1 hs (by omega))
      have HRX := HR
      clear hO hh0 hl1 hh hl
      have hnm : Calls Tryz.prog 40 #[.string s, .int .i64 3] w1 (NumsP w1 (numsR (s.data.toList.drop 3))) := HNM.out
      clear HNM
      cases hN : numsR (s.data.toList.drop 3) with
      | none =>
        have HOO : Hid (o = none) := by
          show _ = _
          rw [HO.out, hN]
        rw [hN] at hnm
        have HNM := Lib.hid hnm
        clear hN hnm HO
        go_wp2_with fail
        refine HNM.out.mono ?_
        rintro e1 w2 ⟨rfl, hb⟩
        have HR := Lib.hid (HR.out.keep hb HR.out.lt)
        have HB := Lib.hid (HB.out.trans (hb.mono HB.out.size))
        have hh0 : ∀ k : Nat, k < 4 → w2.frozen? ⟨b0, k, none⟩ = false := fun k _ => HR.out.frozen k
        have fr0 := hh0 0 (by omega)
        have fr1 := hh0 1 (by omega)
        have fr2 := hh0 2 (by omega)
        have fr3 := hh0 3 (by omega)
        have f0 := HR.out.cell 0
        have f1 := HR.out.cell 1
        have f2 := HR.out.cell 2
        have f3 := HR.out.cell 3
        dsimp only [List.getElem?_cons_succ, List.getElem?_cons_zero] at f0 f1 f2 f3
        clear hb hh0
        go_wp2_with fail
        exact line_ret (q := ⟨0, 0, 0, 0⟩) (row_set4 HR.out _ _ _ _) rfl rfl rfl (below_set4 HB.out HB0.out _ _ _ _) (by rw [HOO.out]; rfl) (by rw [HOO.out]; rfl)
      | some vs =>
        have HO : Hid (o = if s.data.toList.take 3 = [105, 110, 99] ∧ vs.length = 2 then some ⟨1, vs.getD 0 0, vs.getD 1 0, 0⟩
          else if s.data.toList.take 3 = [100, 101, 99] ∧ vs.length = 3 then some ⟨2, vs.getD 0 0, vs.getD 1 0, vs.getD 2 0⟩
          else none) := by
          show _ = _
          rw [HO.out, hN]
        rw [hN] at hnm
        have HNM := Lib.hid hnm
        clear hN hnm
        go_wp2_with fail
        refine HNM.out.mono ?_
        rintro e1 w2 ⟨⟨v, rfl, how⟩, hb⟩
        have HR := Lib.hid (HR.out.keep hb HR.out.lt)
        have HB := Lib.hid (HB.out.trans (hb.mono HB.out.size))
        have hh0 : ∀ k : Nat, k < 4 → w2.frozen? ⟨b0, k, none⟩ = false := fun k _ => HR.out.frozen k
        obtain ⟨va, vc, rfl⟩ := own_slice how
        have fr0 := hh0 0 (by omega)
        have fr1 := hh0 1 (by omega)
        have fr2 := hh0 2 (by omega)
        have fr3 := hh0 3 (by omega)
        have f0 := HR.out.cell 0
        have f1 := HR.out.cell 1
        have f2 := HR.out.cell 2
        have f3 := HR.out.cell 3
        dsimp only [List.getElem?_cons_succ, List.getElem?_cons_zero] at f0 f1 f2 f3
        clear hb hh0
        obtain ⟨n, hn⟩ : ∃ n, n = vs.length := ⟨_, rfl⟩
        rw [← hn] at HO how ⊢
        have HIS : n ≤ 3 → Ints.Is w2 va n vs := fun h => own_is how hn.symm (by unfold maxLen; omega)
        clear how hn HNM
        have he := ext_l s 0 3
        rw [List.drop_zero] at he
        have HE := Lib.hid he
        clear he
        by_cases hi : s.data.toList.take 3 = [105, 110, 99]
        · have q1 : ((s.extract 0 3).toList == [105, 110, 99]) = true := (eqL _ _).trans (decide_eq_true (HE.out.trans hi))
          have q2 : ((s.extract 0 3).toList == [100, 101, 99]) = false := (eqL _ _).trans (decide_eq_false (fun h => by rw [HE.out, hi] at h; revert h; decide))
          by_cases h2 : n = 2
          · subst h2
            have HOO : Hid (o = some ⟨1, vs.getD 0 0, vs.getD 1 0, 0⟩) := by show _ = _; rw [HO.out, if_pos ⟨hi, rfl⟩]
            obtain ⟨p, off, rfl, _, c0⟩ := (HIS (by omega)).cells 0 (by omega)
            obtain ⟨p2, off2, hp2, _, c1⟩ := (HIS (by omega)).cells 1 (by omega)
            cases hp2
            dsimp only at c0 c1
            rw [Nat.add_zero] at c0
            generalize vs.getD 0 0 = x0 at *
            generalize vs.getD 1 0 = x1 at *
            clear HIS HO hi
            go_upto_block 9 with fail
            refine wp_region_noPanic ?_
            go_region
            refine NoPanic.normal ?_
            go_wp2_with fail
            exact line_ret (q := ⟨1, x0, x1, 0⟩) (row_set4 HR.out _ _ _ _) rfl rfl rfl (below_d (below_set4 HB.out HB0.out _ _ _ _)) (by rw [HOO.out]; rfl) (by rw [HOO.out]; rfl)
          · have h2z : (n : Int) ≠ 2 := by omega
            have HOO : Hid (o = none) := by show _ = _; rw [HO.out, if_neg (fun h => h2 h.2), if_neg (fun h => by rw [hi] at h; exact absurd h.1 (by decide))]
            clear HIS HO hi
            go_wp2_with fail
            exact line_ret (q := ⟨0, 0, 0, 0⟩) (row_set4 HR.out _ _ _ _) rfl rfl rfl (below_set4 HB.out HB0.out _ _ _ _) (by rw [HOO.out]; rfl) (by rw [HOO.out]; rfl)
        · have q1 : ((s.extract 0 3).toList == [105, 110, 99]) = false := (eqL _ _).trans (decide_eq_false (fun h => hi (HE.out.symm.trans h)))
          by_cases hd : s.data.toList.take 3 = [100, 101, 99]
          · have q2 : ((s.extract 0 3).toList == [100, 101, 99]) = true := (eqL _ _).trans (decide_eq_true (HE.out.trans hd))
            by_cases h2 : n = 3
            · subst h2
              have HOO : Hid (o = some ⟨2, vs.getD 0 0, vs.getD 1 0, vs.getD 2 0⟩) := by show _ = _; rw [HO.out, if_neg (fun h => hi h.1), if_pos ⟨hd, rfl⟩]
              obtain ⟨p, off, rfl, _, c0⟩ := (HIS (by omega)).cells 0 (by omega)
              obtain ⟨p2, off2, hp2, _, c1⟩ := (HIS (by omega)).cells 1 (by omega)
              cases hp2
              obtain ⟨p2, off2, hp2, _, c2⟩ := (HIS (by omega)).cells 2 (by omega)
              cases hp2
              dsimp only at c0 c1 c2
              rw [Nat.add_zero] at c0
              generalize vs.getD 0 0 = x0 at *
              generalize vs.getD 1 0 = x1 at *
              generalize vs.getD 2 0 = x2 at *
              clear HIS HO hi hd
              go_upto_block 11 with fail
              refine wp_region_noPanic ?_
              go_region
              refine NoPanic.normal ?_
              go_wp2_with fail
              exact line_ret (q := ⟨2, x0, x1, x2⟩) (row_set4 HR.out _ _ _ _) rfl rfl rfl (below_d (below_set4 HB.out HB0.out _ _ _ _)) (by rw [HOO.out]; rfl) (by rw [HOO.out]; rfl)
            · have h2z : (n : Int) ≠ 3 := by omega
              have HOO : Hid (o = none) := by show _ = _; rw [HO.out, if_neg (fun h => hi h.1), if_neg (fun h => h2 h.2)]
              clear HIS HO hi hd
              go_wp2_with fail
              exact line_ret (q := ⟨0, 0, 0, 0⟩) (row_set4 HR.out _ _ _ _) rfl rfl rfl (below_set4 HB.out HB0.out _ _ _ _) (by rw [HOO.out]; rfl) (by rw [HOO.out]; rfl)
          · have q2 : ((s.extract 0 3).toList == [100, 101, 99]) = false := (eqL _ _).trans (decide_eq_false (fun h => hd (HE.out.symm.trans h)))
            have HOO : Hid (o = none) := by show _ = _; rw [HO.out, if_neg (fun h => hi h.1), if_neg (fun h => hd h.1)]
            clear HIS HO hi hd
            go_wp2_with fail
            exact line_ret (q := ⟨0, 0, 0, 0⟩) (row_set4 HR.out _ _ _ _) rfl rfl rfl (below_set4 HB.out HB0.out _ _ _ _) (by rw [HOO.out]; rfl) (by rw [HOO.out]; rfl)
end Rd
end Go.Proofs.YtfhhnajnanlmgaaGreatDoor
