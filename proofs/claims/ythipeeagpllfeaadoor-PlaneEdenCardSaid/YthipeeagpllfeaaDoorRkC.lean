/- WALK: slices.ContainsFunc with the tests of rules.Check and line.Check; rules.Check; . -/
import Derived.Test.YthipeeagpllfeaaDoorRkB
namespace Go.Proofs.YthipeeagpllfeaaDoor
set_option linter.unusedSimpArgs false
set_option linter.unusedVariables false
open Go.RowKit
namespace Ln
open Tld Mem

theorem int_mem {zs : List Int} {k : Nat} (h : k < zs.length) : zs.getD k 0 ∈ zs := by
  rw [List.getD_eq_getElem?_getD, List.getElem?_eq_getElem h]
  exact List.getElem_mem h
theorem any_no {zs : List Int} {p : Int → Bool} (h : ∀ k, k < zs.length → p (zs.getD k 0) = false) : zs.any p = false := by
  rw [List.any_eq_false]
  intro z hz
  obtain ⟨k, hk, rfl⟩ := List.getElem_of_mem hz
  have := h k hk
  rw [List.getD_eq_getElem?_getD, List.getElem?_eq_getElem hk] at this
  exact Bool.eq_false_iff.1 this
theorem any_yes {zs : List Int} {p : Int → Bool} {k : Nat} (hk : k < zs.length) (h : p (zs.getD k 0) = true) : zs.any p = true :=
  List.any_eq_true.2 ⟨_, int_mem hk, h⟩
set_option maxHeartbeats 2000000 in
theorem offindex_any (sa : Option Addr) (sn sc : Nat) (zs : List Int) (bT : Nat) (st : Int) (w : World) (hz : zs.length = sn) (hs : sn ≤ 9223372036854775807) (hZ : Cells w sa sn (fun i => .int .i64 (zs.getD i 0))) (hw : w.cell? ⟨bT, 3, none⟩ = some (.int .i64 st)) :
    Calls Tryd.prog 48 #[.slice sa sn sc, .func (.func 37) #[] #[.pointer (some ⟨bT, 0, none⟩)]] w fun e w' => (∃ k : Int, e = .returned (.int .i64 k) ∧ decide (0 ≤ k) = zs.any (offS st)) ∧ w = w' := by
  have HZ := Lib.hid hZ
  have HG := Lib.hid (fun z => offtest_any bT st z w hw)
  have HZL := Lib.hid hz
  clear hZ hz
  go_enter Tryd.func48, Tryd.ntmps48
  go_wp2
  go_loop [8] (fun v => ∃ i : Nat, i ≤ sn ∧ v = .int .i64 i ∧ (∀ k, k < i → offS st (zs.getD k 0) = false)) (fun v => sn - (intOf v).toNat)
  case atStart => exact ⟨0, Nat.zero_le _, rfl, fun k hk => absurd hk (Nat.not_lt_zero _)⟩
  case round =>
    obtain ⟨i, hi, rfl, hok⟩ := hrel
    have HOK := Lib.hid hok
    clear hok
    by_cases hlt : i < sn
    · obtain ⟨b, off', rfl, hbl, hc⟩ := HZ.out i hlt
      dsimp only at hc
      have HY := Lib.hid (fun h => any_yes (zs := zs) (p := offS st) (k := i) (by rw [HZL.out]; exact hlt) h)
      have HOK2 : Hid (offS st (zs.getD i 0) = false → ∀ k, k < i + 1 → offS st (zs.getD k 0) = false) := fun h k hk => by
        by_cases hki : k = i
        · subst hki; exact h
        · exact HOK.out k (by omega)
      have HG2 := Lib.hid (HG.out (zs.getD i 0))
      generalize hz : zs.getD i 0 = z at *
      clear hz
      generalize hp : offS st z = q at *
      clear hp
      go_wp2_with fail
      refine HG2.out.mono ?_
      rintro e1 w1 ⟨rfl, rfl⟩
      cases q
      · go_wp2_with fail
        go_round
        case rel => exact ⟨i + 1, by omega, by go_num, HOK2.out (by first | rfl | trivial)⟩
        case measure => simp [intOf]; omega
      · go_wp2_with fail
        go_ret
        exact ⟨⟨i, rfl, by rw [HY.out (by first | rfl | trivial)]; simp⟩, rfl⟩
    · have HN := Lib.hid (any_no (zs := zs) (p := offS st) fun k hk => HOK.out k (by rw [HZL.out] at hk; omega))
      go_wp2
      go_ret
      exact ⟨⟨-1, rfl, by rw [HN.out]; rfl⟩, rfl⟩
theorem offcontains_any (sa : Option Addr) (sn sc : Nat) (zs : List Int) (bT : Nat) (st : Int) (w : World) (hz : zs.length = sn) (hs : sn ≤ 9223372036854775807) (hZ : Cells w sa sn (fun i => .int .i64 (zs.getD i 0))) (hw : w.cell? ⟨bT, 3, none⟩ = some (.int .i64 st)) :
    Calls Tryd.prog 36 #[.slice sa sn sc, .func (.func 37) #[] #[.pointer (some ⟨bT, 0, none⟩)]] w fun e w' => e = .returned (.bool (zs.any (offS st))) ∧ w = w' := by
  have HI := Lib.hid (offindex_any sa sn sc zs bT st w hz hs hZ hw)
  clear hZ hw
  go_enter Tryd.func36, Tryd.ntmps36
  go_wp2_with fail
  refine HI.out.mono ?_
  rintro e1 w1 ⟨⟨k, rfl, hk⟩, rfl⟩
  have HK := Lib.hid hk
  clear hk
  go_wp2
  go_ret
  exact ⟨congrArg (fun b => Ending.returned (.bool b)) HK.out, rfl⟩

theorem infoRule : (Tryd.prog.info? 24).map (·.size) = some 7 := by kernel_rfl
theorem row_range {w : World} {b : Nat} {T : TypeId} {cs : List Value} (h : Row w b T cs) : w.rangeAt b 0 cs := fun j v hv => by
  rw [Nat.zero_add, h.cell, hv]
theorem two_new (w : World) (T U : TypeId) (c1 c2 : List Value) : Row ((w.alloc (.cells c1.toArray T)).alloc (.cells c2.toArray U)) w.heap.size T c1 ∧ Row ((w.alloc (.cells c1.toArray T)).alloc (.cells c2.toArray U)) (w.heap.size + 1) U c2 ∧ Below w.heap.size w ((w.alloc (.cells c1.toArray T)).alloc (.cells c2.toArray U)) := by
  refine ⟨?_, ?_, ((Below.refl _ _).alloc (Nat.le_refl _) _).alloc (by simp) _⟩
  · exact (row_alloc w T c1).keep ((Below.refl _ _).alloc (Nat.le_refl _) (.cells c2.toArray U)) (by simp)
  · have := row_alloc (w.alloc (.cells c1.toArray T)) U c2
    rwa [World.size_alloc] at this
/-- An error that is 0 or 1. -/
def Is01 (e : Ending) : Prop := ∃ c : Int, e = .returned (errV c) ∧ (c = 0 ∨ c = 1)
theorem size_nil {s : ByteArray} (h : s.size = 0) : s = ⟨#[]⟩ := by
  obtain ⟨⟨l⟩⟩ := s
  cases l with
  | nil => rfl
  | cons _ _ => simp [ByteArray.size] at h
theorem any_off {st : Int} {zs : List Int} : zs.any (offS st) = false ↔ ∀ z ∈ zs, 0 ≤ z ∧ z < st := by
  rw [List.any_eq_false]
  constructor
  · intro h z hz
    have := h z hz
    unfold offS at this
    simp at this
    omega
  · intro h z hz
    have := h z hz
    unfold offS
    simp
    omega
theorem str_ne {s : ByteArray} (h : ¬ s.size = 0) : s.toList.isEmpty = false := by
  rw [Lib.toList_data]
  obtain ⟨⟨l⟩⟩ := s
  cases l with
  | nil => exact absurd rfl h
  | cons _ _ => rfl
theorem str_ne2 {s : ByteArray} (h : ¬ s.size = 0) : (!s.toList.isEmpty) = true := by rw [str_ne h]; rfl
set_option maxHeartbeats 8000000 in
set_option maxRecDepth 1000000 in
/-- Where the kind is none of a line's. -/
theorem rcheck_other (K B S st ra : Int) (ta : Option Addr) (tn tc : Nat) (tz : List Int) (tu : ByteArray) (w : World) (hT : Ints.Is w ta tn tz) (hu : tu.size ≤ 9223372036854775807) (hK : K ≠ 2) :
    Calls Tryd.prog 25 #[.agg (rulL K B S st ra ta tn tc tu).toArray] w fun e w' => e = .returned (errV (ofault K B S st ra tn tu)) ∧ Below w.heap.size w w' := by
  have HTU := Lib.hid (fun w2 => turns_is tu w2 hu)
  have HBI := Lib.hid (fun z w2 => bits_is z w2)
  have hle := hT.le
  unfold maxLen at hle
  clear hT
  unfold rulL
  have hk2 : (K == 2) = false := by rw [beq_eq_false_iff_ne]; exact hK
  by_cases h1 : K = 1
  · subst h1
    go_enter Tryd.func25, Tryd.ntmps25
    go_upto_region 3 with fail
    obtain ⟨h1, h3, hB⟩ := two_new w 24 24 (rulL 1 B S st ra ta tn tc tu) (rulL 1 B S st ra ta tn tc tu)
    have H1 : Hid (Row ((w.alloc (.cells #[.int .i64 1, .int .i64 B, .int .i64 S, .int .i64 st, .int .i64 ra, .slice ta tn tc, .string tu] 24)).alloc (.cells #[.int .i64 1, .int .i64 B, .int .i64 S, .int .i64 st, .int .i64 ra, .slice ta tn tc, .string tu] 24)) w.heap.size 24 (rulL 1 B S st ra ta tn tc tu)) := h1
    have H3 : Hid (Row ((w.alloc (.cells #[.int .i64 1, .int .i64 B, .int .i64 S, .int .i64 st, .int .i64 ra, .slice ta tn tc, .string tu] 24)).alloc (.cells #[.int .i64 1, .int .i64 B, .int .i64 S, .int .i64 st, .int .i64 ra, .slice ta tn tc, .string tu] 24)) (w.heap.size + 1) 24 (rulL 1 B S st ra ta tn tc tu)) := h3
    have HB : Hid (Below w.heap.size w ((w.alloc (.cells #[.int .i64 1, .int .i64 B, .int .i64 S, .int .i64 st, .int .i64 ra, .slice ta tn tc, .string tu] 24)).alloc (.cells #[.int .i64 1, .int .i64 B, .int .i64 S, .int .i64 st, .int .i64 ra, .slice ta tn tc, .string tu] 24))) := hB
    clear h1 h3 hB
    generalize (w.alloc (.cells #[.int .i64 1, .int .i64 B, .int .i64 S, .int .i64 st, .int .i64 ra, .slice ta tn tc, .string tu] 24)).alloc (.cells #[.int .i64 1, .int .i64 B, .int .i64 S, .int .i64 st, .int .i64 ra, .slice ta tn tc, .string tu] 24) = w1 at *
    obtain ⟨b1, hb1⟩ : ∃ b1, b1 = w.heap.size := ⟨_, rfl⟩
    rw [← hb1] at H1 H3 ⊢
    have HB1 := Lib.hid hb1
    clear hb1
    have HBW := Lib.hid HB1.out
    have g1 := H1.out.cell 1
    have g2 := H1.out.cell 2
    have g0 := H1.out.cell 0
    unfold rulL at g0 g1 g2
    dsimp only [List.getElem?_cons_succ, List.getElem?_cons_zero] at g0 g1 g2
    have f1 := H3.out.cell 1
    have f2 := H3.out.cell 2
    unfold rulL at f1 f2
    dsimp only [List.getElem?_cons_succ, List.getElem?_cons_zero] at f1 f2
    have z1 := H3.out.frozen 1
    have z2 := H3.out.frozen 2
    have o1 := only_setCell w1 (b1 + 1) 1 (.int .i64 0)
    have h3a := H3.out.set 1 (.int .i64 0)
    have o2 := only_setCell (w1.setCell ⟨b1 + 1, 1, none⟩ (.int .i64 0)) (b1 + 1) 2 (.int .i64 0)
    have H3b : Hid (Row ((w1.setCell ⟨b1 + 1, 1, none⟩ (.int .i64 0)).setCell ⟨b1 + 1, 2, none⟩ (.int .i64 0)) (b1 + 1) 24 (rulL 1 0 0 st ra ta tn tc tu)) := h3a.set 2 (.int .i64 0)
    have HBb := Lib.hid (HB.out.trans ((o1.trans o2).below (show w.heap.size ≤ b1 + 1 by rw [← HB1.out]; omega)))
    clear o1 o2 h3a
    go_wp2_with fail
    refine (HBI.out B _).mono ?_
    rintro e1 w2 ⟨rfl, rfl⟩
    obtain ⟨p, hp⟩ : ∃ p, p = bitsB B := ⟨_, rfl⟩
    rw [← hp]
    have HPB := Lib.hid hp
    clear hp
    cases p
    · skip
      go_upto_region 14 with fail
      clear f1 f2 z1 z2 g0 g1 g2 H1 H3 HB
      generalize (w1.setCell ⟨b1 + 1, 1, none⟩ (.int .i64 0)).setCell ⟨b1 + 1, 2, none⟩ (.int .i64 0) = w3 at *
      have HB := Lib.hid HBb.out
      clear HBb
      have f1 := H3b.out.cell 1
      have f2 := H3b.out.cell 2
      have f3 := H3b.out.cell 3
      have f4 := H3b.out.cell 4
      have f5 := H3b.out.cell 5
      have f6 := H3b.out.cell 6
      unfold rulL at f1 f2 f3 f4 f5 f6
      dsimp only [List.getElem?_cons_succ, List.getElem?_cons_zero] at f1 f2 f3 f4 f5 f6
      go_wp2_with fail
      go_ret
      exact ⟨congrArg Ending.returned (errV_mk (ofault_no1 fun h => by have h2 := h.b; rw [← HPB.out] at h2; cases h2) (by decide)), HB.out⟩
    · go_wp2_with fail
      refine (HBI.out S _).mono ?_
      rintro e1 w2 ⟨rfl, rfl⟩
      obtain ⟨q, hq⟩ : ∃ q, q = bitsB S := ⟨_, rfl⟩
      rw [← hq]
      have HPS := Lib.hid hq
      clear hq
      cases q
      · skip
        go_upto_region 14 with fail
        clear f1 f2 z1 z2 g0 g1 g2 H1 H3 HB
        generalize (w1.setCell ⟨b1 + 1, 1, none⟩ (.int .i64 0)).setCell ⟨b1 + 1, 2, none⟩ (.int .i64 0) = w3 at *
        have HB := Lib.hid HBb.out
        clear HBb
        have f1 := H3b.out.cell 1
        have f2 := H3b.out.cell 2
        have f3 := H3b.out.cell 3
        have f4 := H3b.out.cell 4
        have f5 := H3b.out.cell 5
        have f6 := H3b.out.cell 6
        unfold rulL at f1 f2 f3 f4 f5 f6
        dsimp only [List.getElem?_cons_succ, List.getElem?_cons_zero] at f1 f2 f3 f4 f5 f6
        go_wp2_with fail
        go_ret
        exact ⟨congrArg Ending.returned (errV_mk (ofault_no1 fun h => by have h2 := h.s; rw [← HPS.out] at h2; cases h2) (by decide)), HB.out⟩
      · skip
        go_upto_region 14 with fail
        clear f1 f2 z1 z2 g0 g1 g2 H1 H3 HB
        generalize (w1.setCell ⟨b1 + 1, 1, none⟩ (.int .i64 0)).setCell ⟨b1 + 1, 2, none⟩ (.int .i64 0) = w3 at *
        have HB := Lib.hid HBb.out
        clear HBb
        have f1 := H3b.out.cell 1
        have f2 := H3b.out.cell 2
        have f3 := H3b.out.cell 3
        have f4 := H3b.out.cell 4
        have f5 := H3b.out.cell 5
        have f6 := H3b.out.cell 6
        unfold rulL at f1 f2 f3 f4 f5 f6
        dsimp only [List.getElem?_cons_succ, List.getElem?_cons_zero] at f1 f2 f3 f4 f5 f6
        go_upto_region 14 with fail
        by_cases hx_st : st = 0
        · have hy_st : (st != 0) = false := by rw [hx_st]; rfl
          by_cases hx_ra : ra = 0
          · have hy_ra : (ra != 0) = false := by rw [hx_ra]; rfl
            by_cases hx_tn : 0 < tn
            · skip
              go_wp2_with fail
              go_ret
              exact ⟨congrArg Ending.returned (errV_mk (ofault_no1 fun h => by have := h.tn; omega) (by decide)), HB.out⟩
            · have hy_tn : tn = 0 := by omega
              have hz_tn : ¬ 0 < tn := hx_tn
              by_cases hx_tu : tu.size = 0
              · obtain rfl : tu = ⟨#[]⟩ := size_nil hx_tu
                go_wp2_with fail
                go_ret
                exact ⟨congrArg Ending.returned (errV_nil (ofault_ok1 ⟨HPB.out.symm, HPS.out.symm, hx_st, hx_ra, hy_tn, rfl⟩)), HB.out⟩
              · have hy_tu := str_ne hx_tu
                have hz_tu := str_ne2 hx_tu
                go_wp2_with fail
                go_ret
                exact ⟨congrArg Ending.returned (errV_mk (ofault_no1 fun h => hx_tu h.tu) (by decide)), HB.out⟩
          · have hy_ra : (ra != 0) = true := by rw [bne_iff_ne]; exact hx_ra
            go_wp2_with fail
            go_ret
            exact ⟨congrArg Ending.returned (errV_mk (ofault_no1 fun h => hx_ra h.ra) (by decide)), HB.out⟩
        · have hy_st : (st != 0) = true := by rw [bne_iff_ne]; exact hx_st
          go_wp2_with fail
          go_ret
          exact ⟨congrArg Ending.returned (errV_mk (ofault_no1 fun h => hx_st h.st) (by decide)), HB.out⟩
  · have hk1 : (K == 1) = false := by rw [beq_eq_false_iff_ne]; exact h1
    by_cases h3 : K = 3
    · subst h3
      go_enter Tryd.func25, Tryd.ntmps25
      go_upto_region 3 with fail
      obtain ⟨h1, h3, hB⟩ := two_new w 24 24 (rulL 3 B S st ra ta tn tc tu) (rulL 3 B S st ra ta tn tc tu)
      have H1 : Hid (Row ((w.alloc (.cells #[.int .i64 3, .int .i64 B, .int .i64 S, .int .i64 st, .int .i64 ra, .slice ta tn tc, .string tu] 24)).alloc (.cells #[.int .i64 3, .int .i64 B, .int .i64 S, .int .i64 st, .int .i64 ra, .slice ta tn tc, .string tu] 24)) w.heap.size 24 (rulL 3 B S st ra ta tn tc tu)) := h1
      have H3 : Hid (Row ((w.alloc (.cells #[.int .i64 3, .int .i64 B, .int .i64 S, .int .i64 st, .int .i64 ra, .slice ta tn tc, .string tu] 24)).alloc (.cells #[.int .i64 3, .int .i64 B, .int .i64 S, .int .i64 st, .int .i64 ra, .slice ta tn tc, .string tu] 24)) (w.heap.size + 1) 24 (rulL 3 B S st ra ta tn tc tu)) := h3
      have HB : Hid (Below w.heap.size w ((w.alloc (.cells #[.int .i64 3, .int .i64 B, .int .i64 S, .int .i64 st, .int .i64 ra, .slice ta tn tc, .string tu] 24)).alloc (.cells #[.int .i64 3, .int .i64 B, .int .i64 S, .int .i64 st, .int .i64 ra, .slice ta tn tc, .string tu] 24))) := hB
      clear h1 h3 hB
      generalize (w.alloc (.cells #[.int .i64 3, .int .i64 B, .int .i64 S, .int .i64 st, .int .i64 ra, .slice ta tn tc, .string tu] 24)).alloc (.cells #[.int .i64 3, .int .i64 B, .int .i64 S, .int .i64 st, .int .i64 ra, .slice ta tn tc, .string tu] 24) = w1 at *
      obtain ⟨b1, hb1⟩ : ∃ b1, b1 = w.heap.size := ⟨_, rfl⟩
      rw [← hb1] at H1 H3 ⊢
      have HB1 := Lib.hid hb1
      clear hb1
      have g0 := H1.out.cell 0
      have g6 := H1.out.cell 6
      unfold rulL at g0 g6
      dsimp only [List.getElem?_cons_succ, List.getElem?_cons_zero] at g0 g6
      go_wp2_with fail
      refine (HTU.out _).mono ?_
      rintro e1 w2 ⟨rfl, hb2⟩
      obtain ⟨p, hp⟩ : ∃ p, p = turnsB tu := ⟨_, rfl⟩
      rw [← hp]
      have HPT := Lib.hid hp
      have H3 := Lib.hid (H3.out.keep hb2 H3.out.lt)
      have HB := Lib.hid (HB.out.trans (hb2.mono HB.out.size))
      clear hb2 g0 g6 H1 hp
      have f6 := H3.out.cell 6
      unfold rulL at f6
      dsimp only [List.getElem?_cons_succ, List.getElem?_cons_zero] at f6
      have z6 := H3.out.frozen 6
      have H3b : Hid (Row (w2.setCell ⟨b1 + 1, 6, none⟩ (.string ⟨#[]⟩)) (b1 + 1) 24 (rulL 3 B S st ra ta tn tc ⟨#[]⟩)) := H3.out.set 6 (.string ⟨#[]⟩)
      have HBb := Lib.hid (HB.out.trans ((only_setCell w2 (b1 + 1) 6 (.string ⟨#[]⟩)).below (show w.heap.size ≤ b1 + 1 by rw [← HB1.out]; omega)))
      cases p
      · skip
        go_upto_region 14 with fail
        clear f6 z6 H3 HB
        generalize w2.setCell ⟨b1 + 1, 6, none⟩ (.string ⟨#[]⟩) = w3 at *
        have HB := Lib.hid HBb.out
        clear HBb
        have f1 := H3b.out.cell 1
        have f2 := H3b.out.cell 2
        have f3 := H3b.out.cell 3
        have f4 := H3b.out.cell 4
        have f5 := H3b.out.cell 5
        have f6 := H3b.out.cell 6
        unfold rulL at f1 f2 f3 f4 f5 f6
        dsimp only [List.getElem?_cons_succ, List.getElem?_cons_zero] at f1 f2 f3 f4 f5 f6
        go_wp2_with fail
        go_ret
        exact ⟨congrArg Ending.returned (errV_mk (ofault_no3 fun h => by have h2 := h.tu; rw [← HPT.out] at h2; cases h2) (by decide)), HB.out⟩
      · skip
        go_upto_region 14 with fail
        clear f6 z6 H3 HB
        generalize w2.setCell ⟨b1 + 1, 6, none⟩ (.string ⟨#[]⟩) = w3 at *
        have HB := Lib.hid HBb.out
        clear HBb
        have f1 := H3b.out.cell 1
        have f2 := H3b.out.cell 2
        have f3 := H3b.out.cell 3
        have f4 := H3b.out.cell 4
        have f5 := H3b.out.cell 5
        have f6 := H3b.out.cell 6
        unfold rulL at f1 f2 f3 f4 f5 f6
        dsimp only [List.getElem?_cons_succ, List.getElem?_cons_zero] at f1 f2 f3 f4 f5 f6
        go_upto_region 14 with fail
        by_cases hx_B : B = 0
        · have hy_B : (B != 0) = false := by rw [hx_B]; rfl
          by_cases hx_S : S = 0
          · have hy_S : (S != 0) = false := by rw [hx_S]; rfl
            by_cases hx_st : st = 0
            · have hy_st : (st != 0) = false := by rw [hx_st]; rfl
              by_cases hx_ra : ra = 0
              · have hy_ra : (ra != 0) = false := by rw [hx_ra]; rfl
                by_cases hx_tn : 0 < tn
                · skip
                  go_wp2_with fail
                  go_ret
                  exact ⟨congrArg Ending.returned (errV_mk (ofault_no3 fun h => by have := h.tn; omega) (by decide)), HB.out⟩
                · have hy_tn : tn = 0 := by omega
                  have hz_tn : ¬ 0 < tn := hx_tn
                  go_wp2_with fail
                  go_ret
                  exact ⟨congrArg Ending.returned (errV_nil (ofault_ok3 ⟨hx_B, hx_S, hx_st, hx_ra, hy_tn, HPT.out.symm⟩)), HB.out⟩
              · have hy_ra : (ra != 0) = true := by rw [bne_iff_ne]; exact hx_ra
                go_wp2_with fail
                go_ret
                exact ⟨congrArg Ending.returned (errV_mk (ofault_no3 fun h => hx_ra h.ra) (by decide)), HB.out⟩
            · have hy_st : (st != 0) = true := by rw [bne_iff_ne]; exact hx_st
              go_wp2_with fail
              go_ret
              exact ⟨congrArg Ending.returned (errV_mk (ofault_no3 fun h => hx_st h.st) (by decide)), HB.out⟩
          · have hy_S : (S != 0) = true := by rw [bne_iff_ne]; exact hx_S
            go_wp2_with fail
            go_ret
            exact ⟨congrArg Ending.returned (errV_mk (ofault_no3 fun h => hx_S h.s) (by decide)), HB.out⟩
        · have hy_B : (B != 0) = true := by rw [bne_iff_ne]; exact hx_B
          go_wp2_with fail
          go_ret
          exact ⟨congrArg Ending.returned (errV_mk (ofault_no3 fun h => hx_B h.b) (by decide)), HB.out⟩
    · have hk3 : (K == 3) = false := by rw [beq_eq_false_iff_ne]; exact h3
      go_enter Tryd.func25, Tryd.ntmps25
      go_upto_region 3 with fail
      obtain ⟨h1, h3, hB⟩ := two_new w 24 24 (rulL K B S st ra ta tn tc tu) (rulL K B S st ra ta tn tc tu)
      have H1 : Hid (Row ((w.alloc (.cells #[.int .i64 K, .int .i64 B, .int .i64 S, .int .i64 st, .int .i64 ra, .slice ta tn tc, .string tu] 24)).alloc (.cells #[.int .i64 K, .int .i64 B, .int .i64 S, .int .i64 st, .int .i64 ra, .slice ta tn tc, .string tu] 24)) w.heap.size 24 (rulL K B S st ra ta tn tc tu)) := h1
      have H3 : Hid (Row ((w.alloc (.cells #[.int .i64 K, .int .i64 B, .int .i64 S, .int .i64 st, .int .i64 ra, .slice ta tn tc, .string tu] 24)).alloc (.cells #[.int .i64 K, .int .i64 B, .int .i64 S, .int .i64 st, .int .i64 ra, .slice ta tn tc, .string tu] 24)) (w.heap.size + 1) 24 (rulL K B S st ra ta tn tc tu)) := h3
      have HB : Hid (Below w.heap.size w ((w.alloc (.cells #[.int .i64 K, .int .i64 B, .int .i64 S, .int .i64 st, .int .i64 ra, .slice ta tn tc, .string tu] 24)).alloc (.cells #[.int .i64 K, .int .i64 B, .int .i64 S, .int .i64 st, .int .i64 ra, .slice ta tn tc, .string tu] 24))) := hB
      clear h1 h3 hB
      generalize (w.alloc (.cells #[.int .i64 K, .int .i64 B, .int .i64 S, .int .i64 st, .int .i64 ra, .slice ta tn tc, .string tu] 24)).alloc (.cells #[.int .i64 K, .int .i64 B, .int .i64 S, .int .i64 st, .int .i64 ra, .slice ta tn tc, .string tu] 24) = w1 at *
      obtain ⟨b1, hb1⟩ : ∃ b1, b1 = w.heap.size := ⟨_, rfl⟩
      rw [← hb1] at H1 H3 ⊢
      have HB1 := Lib.hid hb1
      clear hb1
      have g0 := H1.out.cell 0
      unfold rulL at g0
      dsimp only [List.getElem?_cons_zero] at g0
      go_wp2_with fail
      go_ret
      exact ⟨congrArg Ending.returned (errV_mk (ofault_no h1 h3) (by decide)), HB.out⟩
set_option maxHeartbeats 8000000 in
set_option maxRecDepth 1000000 in
/-- Where the kind is a line's. -/
theorem rcheck_line (B S st ra : Int) (ta : Option Addr) (tn tc : Nat) (tz : List Int) (tu : ByteArray) (w : World) (hT : Ints.Is w ta tn tz) (hu : tu.size ≤ 9223372036854775807) :
    Calls Tryd.prog 25 #[.agg (rulL 2 B S st ra ta tn tc tu).toArray] w fun e w' => e = .returned (errV (lfault 2 B S st ra tz tu)) ∧ Below w.heap.size w w' := by
  have hle := hT.le
  unfold maxLen at hle
  have HT := Lib.hid hT
  clear hT
  unfold rulL
  by_cases hc : (2 ≤ st ∧ st ≤ 4) ∧ (0 ≤ ra ∧ ra ≤ 4096) ∧ tn ≤ 4096
  · obtain ⟨⟨hs2, hs4⟩, ⟨hr0, hr1⟩, ht⟩ := hc
    obtain ⟨st, rfl⟩ := Int.eq_ofNat_of_zero_le (show 0 ≤ st by omega)
    obtain ⟨ra, rfl⟩ := Int.eq_ofNat_of_zero_le hr0
    have hti : (tn : Int) ≤ 4096 := by omega
    have htd : decide ((tn : Int) ≤ 4096) = true := decide_eq_true hti
    have hp := pw_len (n := 2 * ra + 1) (len := tn) (show 1 ≤ st by omega) ht
    have HPW := Lib.hid (fun w2 => power_any (a := st) (n := 2 * ra + 1) (by omega) (by omega) (by omega) w2)
    have hn2 : 2 * (ra : Int) + 1 = ((2 * ra + 1 : Nat) : Int) := by push_cast; rfl
    have hple := pw_le (a := st) (by omega) (2 * ra + 1)
    have HP := Lib.hid hp
    clear hp
    obtain ⟨nn, hnn⟩ : ∃ nn, nn = 2 * ra + 1 := ⟨_, rfl⟩
    rw [← hnn] at hn2 HPW hple HP
    have HNN := Lib.hid hnn
    clear hnn
    generalize hpp : pw st nn = pp at *
    clear hpp
    by_cases htp : tn = pp
    · subst htp
      have HLEN : Hid (tz.length = st ^ nn) := by
        show tz.length = _
        rw [HT.out.len]; exact HP.out.1 rfl
      obtain ⟨q, hq⟩ : ∃ q, q = tz.any (offS st) := ⟨_, rfl⟩
      have HOC := Lib.hid (fun (w2 : World) (h2 : Below w.heap.size w w2) (b : Nat) (hw : w2.cell? ⟨b, 3, none⟩ = some (.int .i64 (st : Int))) => offcontains_any ta tn tc tz b st w2 HT.out.len (by omega) (HT.out.keep h2).cells hw)
      rw [← hq] at HOC
      have HQ := Lib.hid hq
      clear hq
      go_enter Tryd.func25, Tryd.ntmps25
      go_upto_region 3 with fail
      obtain ⟨h1, h3, hB⟩ := two_new w 24 24 (rulL 2 B S st ra ta tn tc tu) (rulL 2 B S st ra ta tn tc tu)
      have H1 : Hid (Row ((w.alloc (.cells #[.int .i64 2, .int .i64 B, .int .i64 S, .int .i64 st, .int .i64 ra, .slice ta tn tc, .string tu] 24)).alloc (.cells #[.int .i64 2, .int .i64 B, .int .i64 S, .int .i64 st, .int .i64 ra, .slice ta tn tc, .string tu] 24)) w.heap.size 24 (rulL 2 B S st ra ta tn tc tu)) := h1
      have H3 : Hid (Row ((w.alloc (.cells #[.int .i64 2, .int .i64 B, .int .i64 S, .int .i64 st, .int .i64 ra, .slice ta tn tc, .string tu] 24)).alloc (.cells #[.int .i64 2, .int .i64 B, .int .i64 S, .int .i64 st, .int .i64 ra, .slice ta tn tc, .string tu] 24)) (w.heap.size + 1) 24 (rulL 2 B S st ra ta tn tc tu)) := h3
      have HB : Hid (Below w.heap.size w ((w.alloc (.cells #[.int .i64 2, .int .i64 B, .int .i64 S, .int .i64 st, .int .i64 ra, .slice ta tn tc, .string tu] 24)).alloc (.cells #[.int .i64 2, .int .i64 B, .int .i64 S, .int .i64 st, .int .i64 ra, .slice ta tn tc, .string tu] 24))) := hB
      clear h1 h3 hB
      generalize (w.alloc (.cells #[.int .i64 2, .int .i64 B, .int .i64 S, .int .i64 st, .int .i64 ra, .slice ta tn tc, .string tu] 24)).alloc (.cells #[.int .i64 2, .int .i64 B, .int .i64 S, .int .i64 st, .int .i64 ra, .slice ta tn tc, .string tu] 24) = w1 at *
      obtain ⟨b1, hb1⟩ : ∃ b1, b1 = w.heap.size := ⟨_, rfl⟩
      rw [← hb1] at H1 H3 ⊢
      have HB1 := Lib.hid hb1
      clear hb1
      have g0 := H1.out.cell 0
      have g3 := H1.out.cell 3
      have g4 := H1.out.cell 4
      have g5 := H1.out.cell 5
      have f3 := H3.out.cell 3
      have f4 := H3.out.cell 4
      have f5 := H3.out.cell 5
      unfold rulL at g0 g3 g4 g5 f3 f4 f5
      dsimp only [List.getElem?_cons_succ, List.getElem?_cons_zero] at g0 g3 g4 g5 f3 f4 f5
      have z3 := H3.out.frozen 3
      have z4 := H3.out.frozen 4
      have z5 := H3.out.frozen 5
      go_wp2_with fail
      go_big_quiet (first | (go_at_call 35; refine Calls.quiet_of_same (HPW.out _)))
      have H3 := Lib.hid (H3.out.drewN nq)
      have g3 : (w1.drewN nq).cell? ⟨b1, 3, none⟩ = some (.int .i64 (st : Int)) := g3
      have g5 : (w1.drewN nq).cell? ⟨b1, 5, none⟩ = some (.slice ta tn tc) := g5
      have f3 : (w1.drewN nq).cell? ⟨b1 + 1, 3, none⟩ = some (.int .i64 (st : Int)) := f3
      have f4 : (w1.drewN nq).cell? ⟨b1 + 1, 4, none⟩ = some (.int .i64 (ra : Int)) := f4
      have f5 : (w1.drewN nq).cell? ⟨b1 + 1, 5, none⟩ = some (.slice ta tn tc) := f5
      have z3 := H3.out.frozen 3
      have z4 := H3.out.frozen 4
      have z5 := H3.out.frozen 5
      have HB := Lib.hid (below_drewN HB.out nq)
      clear g4 H1 g0
      generalize w1.drewN nq = w2 at *
      go_wp2_with fail
      refine (HOC.out _ HB.out _ g3).mono ?_
      rintro e1 w3 ⟨rfl, rfl⟩
      have H3b : Hid (Row (((w2.setCell ⟨b1 + 1, 3, none⟩ (.int .i64 0)).setCell ⟨b1 + 1, 4, none⟩ (.int .i64 0)).setCell ⟨b1 + 1, 5, none⟩ (.slice none 0 0)) (b1 + 1) 24 (rulL 2 B S 0 0 none 0 0 tu)) := ((H3.out.set 3 (.int .i64 0)).set 4 (.int .i64 0)).set 5 (.slice none 0 0)
      have HBb := Lib.hid (HB.out.trans (((only_setCell w2 (b1 + 1) 3 (.int .i64 0)).trans ((only_setCell _ (b1 + 1) 4 (.int .i64 0)).trans (only_setCell _ (b1 + 1) 5 (.slice none 0 0)))).below (show w.heap.size ≤ b1 + 1 by rw [← HB1.out]; omega)))
      cases q
      · skip
        go_upto_region 14 with fail
        clear f3 f4 f5 z3 z4 z5 g3 g5 H3 HB
        generalize ((w2.setCell ⟨b1 + 1, 3, none⟩ (.int .i64 0)).setCell ⟨b1 + 1, 4, none⟩ (.int .i64 0)).setCell ⟨b1 + 1, 5, none⟩ (.slice none 0 0) = w4 at *
        have HB := Lib.hid HBb.out
        clear HBb
        have f1 := H3b.out.cell 1
        have f2 := H3b.out.cell 2
        have f3 := H3b.out.cell 3
        have f4 := H3b.out.cell 4
        have f5 := H3b.out.cell 5
        have f6 := H3b.out.cell 6
        unfold rulL at f1 f2 f3 f4 f5 f6
        dsimp only [List.getElem?_cons_succ, List.getElem?_cons_zero] at f1 f2 f3 f4 f5 f6
        go_upto_region 14 with fail
        by_cases hx_B : B = 0
        · have hy_B : (B != 0) = false := by rw [hx_B]; rfl
          by_cases hx_S : S = 0
          · have hy_S : (S != 0) = false := by rw [hx_S]; rfl
            by_cases hx_tu : tu.size = 0
            · obtain rfl : tu = ⟨#[]⟩ := size_nil hx_tu
              go_wp2_with fail
              go_ret
              exact ⟨congrArg Ending.returned (errV_nil (lfault_ok ⟨rfl, hx_B, hx_S, hs2, hs4, hr0, by rw [HLEN.out, HNN.out]; rfl, by rw [HT.out.len]; exact ht, any_off.1 HQ.out.symm, rfl⟩)), HB.out⟩
            · have hy_tu := str_ne hx_tu
              have hz_tu := str_ne2 hx_tu
              go_wp2_with fail
              go_ret
              exact ⟨congrArg Ending.returned (errV_mk (lfault_no fun h => hx_tu h.tu) (by decide)), HB.out⟩
          · have hy_S : (S != 0) = true := by rw [bne_iff_ne]; exact hx_S
            go_wp2_with fail
            go_ret
            exact ⟨congrArg Ending.returned (errV_mk (lfault_no fun h => hx_S h.s) (by decide)), HB.out⟩
        · have hy_B : (B != 0) = true := by rw [bne_iff_ne]; exact hx_B
          go_wp2_with fail
          go_ret
          exact ⟨congrArg Ending.returned (errV_mk (lfault_no fun h => hx_B h.b) (by decide)), HB.out⟩
      · skip
        go_upto_region 14 with fail
        clear f3 f4 f5 z3 z4 z5 g3 g5 H3 HB
        generalize ((w2.setCell ⟨b1 + 1, 3, none⟩ (.int .i64 0)).setCell ⟨b1 + 1, 4, none⟩ (.int .i64 0)).setCell ⟨b1 + 1, 5, none⟩ (.slice none 0 0) = w4 at *
        have HB := Lib.hid HBb.out
        clear HBb
        have f1 := H3b.out.cell 1
        have f2 := H3b.out.cell 2
        have f3 := H3b.out.cell 3
        have f4 := H3b.out.cell 4
        have f5 := H3b.out.cell 5
        have f6 := H3b.out.cell 6
        unfold rulL at f1 f2 f3 f4 f5 f6
        dsimp only [List.getElem?_cons_succ, List.getElem?_cons_zero] at f1 f2 f3 f4 f5 f6
        go_wp2_with fail
        go_ret
        exact ⟨congrArg Ending.returned (errV_mk (lfault_no fun h => by have h2 := any_off.2 h.tz; rw [← HQ.out] at h2; cases h2) (by decide)), HB.out⟩
    · have HNL : Hid (¬ tz.length = st ^ nn) := fun h => htp (HP.out.2 (by rw [← HT.out.len]; exact h))
      have hne : ((tn : Int) == (pp : Int)) = false := by rw [beq_eq_false_iff_ne]; omega
      have hne2 : (tn == pp) = false := by rw [beq_eq_false_iff_ne]; exact htp
      have HNO : Hid (lfault 2 B S st ra tz tu = 1) := lfault_no fun h => HNL.out (by rw [h.len, HNN.out]; rfl)
      go_enter Tryd.func25, Tryd.ntmps25
      go_upto_region 3 with fail
      obtain ⟨h1, h3, hB⟩ := two_new w 24 24 (rulL 2 B S st ra ta tn tc tu) (rulL 2 B S st ra ta tn tc tu)
      have H1 : Hid (Row ((w.alloc (.cells #[.int .i64 2, .int .i64 B, .int .i64 S, .int .i64 st, .int .i64 ra, .slice ta tn tc, .string tu] 24)).alloc (.cells #[.int .i64 2, .int .i64 B, .int .i64 S, .int .i64 st, .int .i64 ra, .slice ta tn tc, .string tu] 24)) w.heap.size 24 (rulL 2 B S st ra ta tn tc tu)) := h1
      have H3 : Hid (Row ((w.alloc (.cells #[.int .i64 2, .int .i64 B, .int .i64 S, .int .i64 st, .int .i64 ra, .slice ta tn tc, .string tu] 24)).alloc (.cells #[.int .i64 2, .int .i64 B, .int .i64 S, .int .i64 st, .int .i64 ra, .slice ta tn tc, .string tu] 24)) (w.heap.size + 1) 24 (rulL 2 B S st ra ta tn tc tu)) := h3
      have HB : Hid (Below w.heap.size w ((w.alloc (.cells #[.int .i64 2, .int .i64 B, .int .i64 S, .int .i64 st, .int .i64 ra, .slice ta tn tc, .string tu] 24)).alloc (.cells #[.int .i64 2, .int .i64 B, .int .i64 S, .int .i64 st, .int .i64 ra, .slice ta tn tc, .string tu] 24))) := hB
      clear h1 h3 hB
      generalize (w.alloc (.cells #[.int .i64 2, .int .i64 B, .int .i64 S, .int .i64 st, .int .i64 ra, .slice ta tn tc, .string tu] 24)).alloc (.cells #[.int .i64 2, .int .i64 B, .int .i64 S, .int .i64 st, .int .i64 ra, .slice ta tn tc, .string tu] 24) = w1 at *
      obtain ⟨b1, hb1⟩ : ∃ b1, b1 = w.heap.size := ⟨_, rfl⟩
      rw [← hb1] at H1 H3 ⊢
      have HB1 := Lib.hid hb1
      clear hb1
      have g0 := H1.out.cell 0
      have g3 := H1.out.cell 3
      have g4 := H1.out.cell 4
      have g5 := H1.out.cell 5
      have f3 := H3.out.cell 3
      have f4 := H3.out.cell 4
      have f5 := H3.out.cell 5
      unfold rulL at g0 g3 g4 g5 f3 f4 f5
      dsimp only [List.getElem?_cons_succ, List.getElem?_cons_zero] at g0 g3 g4 g5 f3 f4 f5
      have z3 := H3.out.frozen 3
      have z4 := H3.out.frozen 4
      have z5 := H3.out.frozen 5
      go_wp2_with fail
      go_quiet (first | (go_at_call 35; refine Calls.quiet_of_same (HPW.out _)))
      have HB := Lib.hid (below_drewN HB.out nq)
      have H3 := Lib.hid (H3.out.drewN nq)
      have f3 : (w1.drewN nq).cell? ⟨b1 + 1, 3, none⟩ = some (.int .i64 st) := f3
      have f4 : (w1.drewN nq).cell? ⟨b1 + 1, 4, none⟩ = some (.int .i64 ra) := f4
      have f5 : (w1.drewN nq).cell? ⟨b1 + 1, 5, none⟩ = some (.slice ta tn tc) := f5
      have z3 := H3.out.frozen 3
      have z4 := H3.out.frozen 4
      have z5 := H3.out.frozen 5
      clear g3 g4 g5 H1 g0
      generalize w1.drewN nq = w2 at *
      have HBb := Lib.hid (HB.out.trans (((only_setCell w2 (b1 + 1) 3 (.int .i64 0)).trans ((only_setCell _ (b1 + 1) 4 (.int .i64 0)).trans (only_setCell _ (b1 + 1) 5 (.slice none 0 0)))).below (show w.heap.size ≤ b1 + 1 by rw [← HB1.out]; omega)))
      go_upto_region 14 with fail
      clear f3 f4 f5 z3 z4 z5 H3 HB
      generalize ((w2.setCell ⟨b1 + 1, 3, none⟩ (.int .i64 0)).setCell ⟨b1 + 1, 4, none⟩ (.int .i64 0)).setCell ⟨b1 + 1, 5, none⟩ (.slice none 0 0) = w4 at *
      have HB := Lib.hid HBb.out
      clear HBb
      go_wp2_with fail
      go_ret
      exact ⟨congrArg Ending.returned (errV_mk HNO.out (by decide)), HB.out⟩
  · have HNO : Hid (lfault 2 B S st ra tz tu = 1) := lfault_no fun h => hc ⟨⟨h.st2, h.st4⟩, ⟨h.ra0, by have := h.ra5; omega⟩, by have h1 := h.le; rw [HT.out.len] at h1; exact h1⟩
    have hd : st < 2 ∨ (2 ≤ st ∧ 4 < st) ∨ ((2 ≤ st ∧ st ≤ 4) ∧ ra < 0) ∨ ((2 ≤ st ∧ st ≤ 4) ∧ 0 ≤ ra ∧ 4096 < ra) ∨ ((2 ≤ st ∧ st ≤ 4) ∧ (0 ≤ ra ∧ ra ≤ 4096) ∧ decide ((tn : Int) ≤ 4096) = false) := by
      rw [decide_eq_false_iff_not]; omega
    rcases hd with h1 | ⟨h1, h2⟩ | ⟨⟨h1, h2⟩, h3⟩ | ⟨⟨h1, h2⟩, h3, h4⟩ | ⟨⟨h1, h2⟩, ⟨h3, h4⟩, h5⟩
    all_goals
      first | (have e1 : decide (2 ≤ st) = true := decide_eq_true (by omega)) | (have e1 : decide (2 ≤ st) = false := decide_eq_false (by omega))
      first | (have e2 : decide (st ≤ 4) = true := decide_eq_true (by omega)) | (have e2 : decide (st ≤ 4) = false := decide_eq_false (by omega))
      first | (have e3 : decide (0 ≤ ra) = true := decide_eq_true (by omega)) | (have e3 : decide (0 ≤ ra) = false := decide_eq_false (by omega)) | skip
      first | (have e4 : decide (ra ≤ 4096) = true := decide_eq_true (by omega)) | (have e4 : decide (ra ≤ 4096) = false := decide_eq_false (by omega)) | skip
      go_enter Tryd.func25, Tryd.ntmps25
      go_upto_region 3 with fail
      obtain ⟨h1, h3, hB⟩ := two_new w 24 24 (rulL 2 B S st ra ta tn tc tu) (rulL 2 B S st ra ta tn tc tu)
      have H1 : Hid (Row ((w.alloc (.cells #[.int .i64 2, .int .i64 B, .int .i64 S, .int .i64 st, .int .i64 ra, .slice ta tn tc, .string tu] 24)).alloc (.cells #[.int .i64 2, .int .i64 B, .int .i64 S, .int .i64 st, .int .i64 ra, .slice ta tn tc, .string tu] 24)) w.heap.size 24 (rulL 2 B S st ra ta tn tc tu)) := h1
      have H3 : Hid (Row ((w.alloc (.cells #[.int .i64 2, .int .i64 B, .int .i64 S, .int .i64 st, .int .i64 ra, .slice ta tn tc, .string tu] 24)).alloc (.cells #[.int .i64 2, .int .i64 B, .int .i64 S, .int .i64 st, .int .i64 ra, .slice ta tn tc, .string tu] 24)) (w.heap.size + 1) 24 (rulL 2 B S st ra ta tn tc tu)) := h3
      have HB : Hid (Below w.heap.size w ((w.alloc (.cells #[.int .i64 2, .int .i64 B, .int .i64 S, .int .i64 st, .int .i64 ra, .slice ta tn tc, .string tu] 24)).alloc (.cells #[.int .i64 2, .int .i64 B, .int .i64 S, .int .i64 st, .int .i64 ra, .slice ta tn tc, .string tu] 24))) := hB
      clear h1 h3 hB
      generalize (w.alloc (.cells #[.int .i64 2, .int .i64 B, .int .i64 S, .int .i64 st, .int .i64 ra, .slice ta tn tc, .string tu] 24)).alloc (.cells #[.int .i64 2, .int .i64 B, .int .i64 S, .int .i64 st, .int .i64 ra, .slice ta tn tc, .string tu] 24) = w1 at *
      obtain ⟨b1, hb1⟩ : ∃ b1, b1 = w.heap.size := ⟨_, rfl⟩
      rw [← hb1] at H1 H3 ⊢
      have HB1 := Lib.hid hb1
      clear hb1
      have g0 := H1.out.cell 0
      have g3 := H1.out.cell 3
      have g4 := H1.out.cell 4
      have g5 := H1.out.cell 5
      have f3 := H3.out.cell 3
      have f4 := H3.out.cell 4
      have f5 := H3.out.cell 5
      unfold rulL at g0 g3 g4 g5 f3 f4 f5
      dsimp only [List.getElem?_cons_succ, List.getElem?_cons_zero] at g0 g3 g4 g5 f3 f4 f5
      have z3 := H3.out.frozen 3
      have z4 := H3.out.frozen 4
      have z5 := H3.out.frozen 5
      go_wp2_with fail
      go_quiet (fail)
      have HB := Lib.hid (below_drewN HB.out nq)
      have H3 := Lib.hid (H3.out.drewN nq)
      have f3 : (w1.drewN nq).cell? ⟨b1 + 1, 3, none⟩ = some (.int .i64 st) := f3
      have f4 : (w1.drewN nq).cell? ⟨b1 + 1, 4, none⟩ = some (.int .i64 ra) := f4
      have f5 : (w1.drewN nq).cell? ⟨b1 + 1, 5, none⟩ = some (.slice ta tn tc) := f5
      have z3 := H3.out.frozen 3
      have z4 := H3.out.frozen 4
      have z5 := H3.out.frozen 5
      clear g3 g4 g5 H1 g0
      generalize w1.drewN nq = w2 at *
      have HBb := Lib.hid (HB.out.trans (((only_setCell w2 (b1 + 1) 3 (.int .i64 0)).trans ((only_setCell _ (b1 + 1) 4 (.int .i64 0)).trans (only_setCell _ (b1 + 1) 5 (.slice none 0 0)))).below (show w.heap.size ≤ b1 + 1 by rw [← HB1.out]; omega)))
      go_upto_region 14 with fail
      clear f3 f4 f5 z3 z4 z5 H3 HB
      generalize ((w2.setCell ⟨b1 + 1, 3, none⟩ (.int .i64 0)).setCell ⟨b1 + 1, 4, none⟩ (.int .i64 0)).setCell ⟨b1 + 1, 5, none⟩ (.slice none 0 0) = w4 at *
      have HB := Lib.hid HBb.out
      clear HBb
      go_wp2_with fail
      go_ret
      exact ⟨congrArg Ending.returned (errV_mk HNO.out (by decide)), HB.out⟩
end Ln
end Go.Proofs.YthipeeagpllfeaaDoor
