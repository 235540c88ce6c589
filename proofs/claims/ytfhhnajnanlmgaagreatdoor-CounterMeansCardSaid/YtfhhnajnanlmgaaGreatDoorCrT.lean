/- WALK: edenref5.Play. -/
import Derived.Test.YtfhhnajnanlmgaaGreatDoorCrS
namespace Go.Proofs.YtfhhnajnanlmgaaGreatDoor
set_option linter.unusedSimpArgs false
set_option linter.unusedVariables false
open Go.RowKit
namespace Cr
open Tld Mem

theorem wpList_copy4 {ops : Array Oper} {rest : List Oper} {o : Oper} {a : Act} {w : World} {Q : Exit → Act → World → Prop} (hgd : o.guard = none) (x y : Operand) (ho : o.op = .call { callee := .builtin .append, args := #[x, y], argTypes := #[32, 32] })
    (ad : Option Addr) (c : Nat) (zs : List Int) (hx : a.eval x = .slice none 0 0) (hy : a.eval y = .slice ad 4 c) (hI : Ints.Is w ad 4 zs)
    (hK : ∀ b c' w', w.heap.size ≤ b → CRow w' b zs → Below w.heap.size w w' → wpList Tryz.prog ops Q rest (a.put o.dst (.slice (some ⟨b, 0, none⟩) 4 c')) w') :
    wpList Tryz.prog ops Q (o :: rest) a w := by
  obtain ⟨i0, hI0, hz0, hz1, hz2⟩ := info_parts infoIntN
  have hl := hI.len
  obtain ⟨b0, off, rfl, _, _⟩ := hI.cells 0 (by omega)
  refine wpList_append_own w hgd x y 32 ho w.heap.size 3 i0 (.int .i64 0) 1 8 Tryz.underlying32 hI0 hz0 hz1 hz2 rfl (by decide) (.slice none 0 0) 0 [] hx (own_nil w w.heap.size _ _) ⟨b0, off, none⟩ 4 c (zs.map (Value.int .i64)) hy (by simp [hl]) (fun j u hj => ?_) (fun u hu => by obtain ⟨x, _, rfl⟩ := List.mem_map.1 hu; rfl) (by unfold maxLen; omega) (by omega) (Nat.le_refl _) fun v' w' ho' hg _ => ?_
  · have hjn : j < 4 := by
      have := (List.getElem?_eq_some_iff.1 hj).1
      rw [List.length_map, hl] at this
      exact this
    obtain ⟨b', o', e', _, h1⟩ := hI.cells j hjn
    cases e'
    rw [Addr.add_mid, h1]
    have e : (zs.map (Value.int .i64))[j]? = some (Value.int .i64 (zs.getD j 0)) := by simp [List.getD_eq_getElem?_getD, List.getElem?_eq_getElem (show j < zs.length from by rw [hl]; exact hjn)]
    rw [e] at hj
    exact hj
  · rw [Nat.zero_add, List.nil_append] at ho'
    obtain ⟨g, cap, rfl, hB, hc⟩ := CRow.of ho' hl
    exact hK g cap w' hB hc ((Below.refl _ w).grown hg (Nat.le_refl _) (fun k hk => by cases hk))

theorem results_tmp4 {fn : Func} {t u v x : Tmp} (h : fn.results = #[.tmp t, .tmp u, .tmp v, .tmp x]) (tmps : Array Value) (P : Program) (w : World) :
    (results fn tmps).run P w = .ok (.tuple #[tmps.getD t undef, tmps.getD u undef, tmps.getD v undef, tmps.getD x undef]) w := by
  simp [results, h]
/-- What Play hands back. -/
def PlayP (o : List Int × Nat × Nat × Int) (e : Ending) (w' : World) : Prop := ∃ a n' c', e = .returned (.tuple #[.slice a n' c', .int .i64 (o.2.1 : Nat), .int .i64 (o.2.2.1 : Nat), .int .i64 o.2.2.2]) ∧ Ints.Is w' a n' o.1

set_option maxHeartbeats 4000000 in
set_option maxRecDepth 1000000 in
theorem Play_len (sa : Option Addr) (m c : Nat) (ca : Option Addr) (cn cc : Nat) (F : Int) (w : World) (h4 : cn ≠ 4) :
    Calls Tryz.prog 11 #[.slice sa m c, .slice ca cn cc, .int .i64 F] w fun e w' => PlayP ([], 0, 0, 3) e w' ∧ Below w.heap.size w w' := by
  have e4 : ((cn : Int) == 4) = false := beq_eq_false_iff_ne.2 (by omega)
  have e4' : ((cn : Int) != 4) = true := by rw [bne, e4]; rfl
  have e4'' := @decide_eq_false (cn = 4) _ h4
  clear h4
  go_enter Tryz.func11, Tryz.ntmps11
  go_wp2_with fail
  (try simp only [Exit.inBlock, Exit.then])
  refine bodyPost_ret (results_tmp4 rfl _ _ _) rfl ?_
  exact ⟨⟨_, _, _, rfl, Ints.Is.nil _⟩, Below.refl _ _⟩

/-- .. with its own test of the numbers. -/
def PlayQ (F : Int) (f : Nat → Nat → Int) (zs : List Int) (e : Ending) (w' : World) : Prop := (RBad F zs → PlayP ([], 0, 0, 1) e w') ∧ (¬ RBad F zs → PlayP (runM f F.toNat zs 0 0) e w')
theorem PlayQ.bad {F : Int} {f : Nat → Nat → Int} {zs : List Int} {e : Ending} {w' : World} (h : RBad F zs) (hp : PlayP ([], 0, 0, 1) e w') : PlayQ F f zs e w' := ⟨fun _ => hp, fun hn => absurd h hn⟩
theorem PlayQ.good {F : Int} {f : Nat → Nat → Int} {zs : List Int} {e : Ending} {w' : World} (h : ¬ RBad F zs) (hp : PlayP (runM f F.toNat zs 0 0) e w') : PlayQ F f zs e w' := ⟨fun hb => absurd hb h, fun _ => hp⟩
set_option maxHeartbeats 8000000 in
set_option maxRecDepth 1000000 in
theorem Play_any (sa : Option Addr) (m c : Nat) (f : Nat → Nat → Int) (ca : Option Addr) (cc : Nat) (zs : List Int) (F : Int) (w : World) (hF : Mem.Rows w sa m 4 (fun i j => .int .i64 (f i j))) (hok : CodeOk f m) (hZ : Ints.Is w ca 4 zs) :
    Calls Tryz.prog 11 #[.slice sa m c, .slice ca 4 cc, .int .i64 F] w fun e w' => PlayQ F f zs e w' ∧ Below w.heap.size w w' := by
  have hm12 := hok.2.1
  have hm1 := hok.1
  have HZ := Lib.hid hZ
  have HF := Lib.hid hF
  have HOK := Lib.hid hok.2.2
  have hzl := hZ.len
  clear hF hok hZ
  go_enter Tryz.func11, Tryz.ntmps11
  go_upto_region 5 with (at_builtin; refine wpList_copy4 rfl _ _ rfl ca cc zs rfl rfl HZ.out ?_)
  intro g gc w1 hgB hcr hb1
  have HB := Lib.hid hb1
  have HR := Lib.hid hcr
  clear hb1 hcr
  go_wp2_with fail
  go_loop [11] (fun v => ∃ i : Nat, i ≤ 4 ∧ v = .int .i64 i ∧ ∀ k, k < i → cbad (zs.getD k 0) = false) (fun v => 4 - (RowKit.intOf v).toNat)
  case atStart => exact ⟨0, Nat.zero_le _, rfl, fun k hk => absurd hk (Nat.not_lt_zero _)⟩
  case round =>
    obtain ⟨i, hi, rfl, hcb⟩ := hrel
    have HCB := Lib.hid hcb
    clear hcb
    by_cases hlt : i < 4
    · have cA := HR.out.cell hlt
      have hi9 : (i : Int) < 4 := by omega
      have HI := Lib.hid hlt
      have HY : Hid (cbad (zs.getD i 0) = true → RBad F zs) := fun h => .inr (.inr (any_yes (by omega) h))
      have HNN : Hid (cbad (zs.getD i 0) = false → ∀ k, k < i + 1 → cbad (zs.getD k 0) = false) := fun h k hk => by
        by_cases hki : k = i
        · subst hki; exact h
        · exact HCB.out k (by omega)
      generalize zs.getD i 0 = z at *
      by_cases h0 : z < 0
      · have d0 := decide_eq_true h0
        have HBB := Lib.hid (HY.out (by unfold cbad; rw [decide_eq_true_iff]; exact .inl h0))
        clear h0
        go_wp2_with fail
        (try simp only [Exit.inBlock, Exit.then])
        refine bodyPost_ret (results_tmp4 rfl _ _ _) rfl ?_
        exact ⟨PlayQ.bad HBB.out ⟨_, _, _, rfl, Ints.Is.nil _⟩, HB.out⟩
      · have d0 := decide_eq_false h0
        by_cases h1 : 1000000 < z
        · have d1 := decide_eq_true h1
          have HBB := Lib.hid (HY.out (by unfold cbad; rw [decide_eq_true_iff]; exact .inr h1))
          clear h0 h1
          go_wp2_with fail
          (try simp only [Exit.inBlock, Exit.then])
          refine bodyPost_ret (results_tmp4 rfl _ _ _) rfl ?_
          exact ⟨PlayQ.bad HBB.out ⟨_, _, _, rfl, Ints.Is.nil _⟩, HB.out⟩
        · have d1 := decide_eq_false h1
          have HBB := Lib.hid (HNN.out (by unfold cbad; rw [decide_eq_false_iff_not]; omega))
          clear h0 h1
          go_wp2_with fail
          go_round
          case rel => exact ⟨i + 1, HI.out, by go_num, HBB.out⟩
          case measure => have := HI.out; simp [RowKit.intOf]; omega
    · have e : i = 4 := by omega
      subst e
      have hz : zs.any cbad = false := any_no fun k hk => HCB.out k (by omega)
      have HZA := Lib.hid hz
      clear hlt
      by_cases h1 : F < 0
      · have d1 := decide_eq_true h1
        have HBB : Hid (RBad F zs) := Lib.hid (.inl h1)
        clear h1 hz
        go_wp2_with fail
        (try simp only [Exit.inBlock, Exit.then])
        refine bodyPost_ret (results_tmp4 rfl _ _ _) rfl ?_
        exact ⟨PlayQ.bad HBB.out ⟨_, _, _, rfl, Ints.Is.nil _⟩, HB.out⟩
      have d1 := decide_eq_false h1
      by_cases h2 : 100000 < F
      · have d2 := decide_eq_true h2
        have HBB : Hid (RBad F zs) := Lib.hid (.inr (.inl h2))
        clear h1 h2 hz
        go_wp2_with fail
        (try simp only [Exit.inBlock, Exit.then])
        refine bodyPost_ret (results_tmp4 rfl _ _ _) rfl ?_
        exact ⟨PlayQ.bad HBB.out ⟨_, _, _, rfl, Ints.Is.nil _⟩, HB.out⟩
      have d2 := decide_eq_false h2
      have HBB : Hid (¬ RBad F zs) := Lib.hid (fun h => by rcases h with h | h | h <;> first | omega | (rw [hz] at h; cases h))
      have HIR := Lib.hid (inR_of hzl hz)
      obtain ⟨F, rfl⟩ : ∃ F' : Nat, F = F' := ⟨F.toNat, by omega⟩
      obtain ⟨o, ho⟩ : ∃ o, o = runM f F zs 0 0 := ⟨_, rfl⟩
      have HO := Lib.hid ho
      have HF1 : Hid (¬ 100000 < (F : Int)) := Lib.hid h2
      have HPO : Hid (∀ e w', PlayP o e w' → PlayQ F f zs e w') := Lib.hid (fun e w' h => PlayQ.good HBB.out (by rw [Int.toNat_natCast, ← ho]; exact h))
      clear ho h1 h2
      have hgB2 : w.heap.size ≤ g := hgB
      go_wp2_with fail
      go_loopw [12, 13] (fun u v wr => ∃ (at' n : Nat) (cz : List Int), u = .int .i64 at' ∧ v = .int .i64 n ∧ at' < m ∧ n ≤ F ∧ CRow wr g cz ∧ InR cz ∧ o = runM f (F - n) cz at' n ∧ Below w.heap.size w wr) (fun _ v _ => F - (RowKit.intOf v).toNat)
      case atStart => exact ⟨0, 0, zs, rfl, rfl, hm1, Nat.zero_le _, HR.out, HIR.out, HO.out, HB.out⟩
      case round =>
        clear HR HIR HO HB hzl
        obtain ⟨k, n, cz, rfl, rfl, hk, hn, hr, hir, ho, hb⟩ := hrel
        have HR := Lib.hid hr
        have HIR := Lib.hid hir
        have HO := Lib.hid ho
        have HB := Lib.hid hb
        have hcl := hr.1
        obtain ⟨b, off, rfl, hbl, hrest⟩ := HF.out k hk
        have k0 := hrest 0 (by omega)
        dsimp only at k0
        rw [Nat.add_zero] at k0
        have k0 : wr.cell? ⟨b, off + k * 4, none⟩ = some (.int .i64 (f k 0)) := (hb.cell (p := ⟨b, off + k * 4, none⟩) hbl).trans k0
        clear hrest hr hir ho
        have l1 := ins_range ((HF.out).below hb (Nat.le_refl _)) hk
        have hk2 : (k : Int) < (m : Int) := by omega
        have hio : okI m (f k 0) (f k 1) (f k 2) (f k 3) := HOK.out k hk
        have hrb := hb.size
        clear hb
        have G3 : Hid (f k 0 = 3 → ∀ d c n', runM f d c k n' = (c, n', k, 0)) := fun h d c n' => runM_halt h d c n'
        have G6 : Hid (f k 0 ≠ 3 → ∀ c n', runM f 0 c k n' = ([], 0, 0, 6)) := fun h c n' => runM_fuel h c n'
        have G1 : Hid (f k 0 = 1 → cz.getD (f k 1).toNat 0 ≠ 1000000 → 0 < F - n → ∀ n', runM f (F - n) cz k n' = runM f (F - n - 1) (cz.set (f k 1).toNat (cz.getD (f k 1).toNat 0 + 1)) (f k 2).toNat (n' + 1)) := fun h hc hd n' => runM_inc h hc hd n'
        have G2 : Hid (f k 0 = 2 → 0 < cz.getD (f k 1).toNat 0 → 0 < F - n → ∀ n', runM f (F - n) cz k n' = runM f (F - n - 1) (cz.set (f k 1).toNat (cz.getD (f k 1).toNat 0 - 1)) (f k 2).toNat (n' + 1)) := fun h hc hd n' => runM_dec h hc hd n'
        have G5 : Hid (f k 0 = 2 → ¬ 0 < cz.getD (f k 1).toNat 0 → 0 < F - n → ∀ n', runM f (F - n) cz k n' = runM f (F - n - 1) cz (f k 3).toNat (n' + 1)) := fun h hc hd n' => runM_else h hc hd n'
        have G4 : Hid (f k 0 = 1 → cz.getD (f k 1).toNat 0 = 1000000 → 0 < F - n → ∀ n', runM f (F - n) cz k n' = ([], 0, 0, 4)) := fun h hc hd n' => runM_full h hc hd n'
        obtain ⟨x0, hx0⟩ : ∃ x, x = f k 0 := ⟨_, rfl⟩
        obtain ⟨x1, hx1⟩ : ∃ x, x = f k 1 := ⟨_, rfl⟩
        obtain ⟨x2, hx2⟩ : ∃ x, x = f k 2 := ⟨_, rfl⟩
        obtain ⟨x3, hx3⟩ : ∃ x, x = f k 3 := ⟨_, rfl⟩
        rw [← hx0, ← hx1, ← hx2, ← hx3] at hio l1
        rw [← hx0] at G3 G6 k0
        rw [← hx0, ← hx1] at G4
        rw [← hx0, ← hx1, ← hx2] at G1 G2
        rw [← hx0, ← hx1, ← hx3] at G5
        clear hx0 hx1 hx2 hx3
        obtain ⟨a0, a3, t0, tm, e0, em, hops⟩ := okI_any2 hio hk
        obtain ⟨a, rfl⟩ : ∃ a : Nat, x1 = a := ⟨x1.toNat, by omega⟩
        obtain ⟨t, rfl⟩ : ∃ t : Nat, x2 = t := ⟨x2.toNat, by omega⟩
        obtain ⟨e, rfl⟩ : ∃ e : Nat, x3 = e := ⟨x3.toNat, by omega⟩
        simp only [Int.toNat_natCast] at G1 G2 G4 G5
        have HTM : Hid (t < m) := Lib.hid (by omega)
        have HEM : Hid (e < m) := Lib.hid (by omega)
        have ha4 : a < 4 := by omega
        have ha9 : (a : Int) < 4 := by omega
        have cA := HR.out.cell ha4
        have hzr := HIR.out a ha4
        have HCL := Lib.hid hcl
        clear a0 a3 t0 tm e0 em hio hcl
        obtain ⟨z, hz⟩ : ∃ z, z = cz.getD a 0 := ⟨_, rfl⟩
        rw [← hz] at cA hzr G1 G2 G4 G5
        clear hz
        have HNL := Lib.hid hn
        have hF5 : F ≤ 100000 := by have := HF1.out; omega
        have H3G := HPO
        by_cases h3 : x0 = 3
        · subst h3
          clear hops
          go_wp2_with fail
          (try simp only [Exit.inBlock, Exit.then])
          refine bodyPost_ret (results_tmp4 rfl _ _ _) rfl ?_
          refine ⟨HPO.out _ _ ?_, HB.out⟩
          rw [HO.out, G3.out (by first | rfl | trivial)]
          exact ⟨_, _, _, rfl, HR.out.is⟩
        have q3 : (x0 == 3) = false := beq_eq_false_iff_ne.2 h3
        have q3' : (x0 != 3) = true := by rw [bne, q3]; rfl
        have H3 := Lib.hid h3
        by_cases hnF : n = F
        · subst hnF
          clear hops h3
          have e9 : decide ((n : Int) ≤ (n : Int)) = true := decide_eq_true (Int.le_refl _)
          go_wp2_with fail
          (try simp only [Exit.inBlock, Exit.then])
          refine bodyPost_ret (results_tmp4 rfl _ _ _) rfl ?_
          refine ⟨HPO.out _ _ ?_, HB.out⟩
          rw [HO.out, Nat.sub_self, G6.out H3.out]
          exact ⟨_, _, _, rfl, Ints.Is.nil _⟩
        have dk := @decide_eq_false ((F : Int) ≤ (n : Int)) _ (by omega)
        have dk2 := @decide_eq_false (F ≤ n) _ (by omega)
        have HNF : Hid (n < F) := Lib.hid (by omega)
        have hrow : Row (wr.alloc (.cells #[.int .i64 x0, .int .i64 (a : Nat), .int .i64 (t : Nat), .int .i64 (e : Nat)] 34)) wr.heap.size 34 [.int .i64 x0, .int .i64 (a : Nat), .int .i64 (t : Nat), .int .i64 (e : Nat)] := row_alloc wr _ _
        have hbn2 : Below wr.heap.size wr (wr.alloc (.cells #[.int .i64 x0, .int .i64 (a : Nat), .int .i64 (t : Nat), .int .i64 (e : Nat)] 34)) := (Below.refl _ _).alloc (Nat.le_refl _) _
        have h7g : wr.heap.size ≠ g := by have := HR.out.lt; omega
        have HB := Lib.hid (HB.out.trans (hbn2.mono HB.out.size))
        have HR := Lib.hid (HR.out.keep hbn2)
        have cA : (wr.alloc (.cells #[.int .i64 x0, .int .i64 (a : Nat), .int .i64 (t : Nat), .int .i64 (e : Nat)] 34)).cell? ⟨g, a, none⟩ = some (.int .i64 z) := (hbn2.cell (p := ⟨g, a, none⟩) (by have := ‹Hid (CRow wr g cz)›.out.lt; exact this)).trans cA
        have HE : Hid (Row (wr.alloc (.cells #[.int .i64 x0, .int .i64 (a : Nat), .int .i64 (t : Nat), .int .i64 (e : Nat)] 34)) wr.heap.size 34 [.int .i64 x0, .int .i64 (a : Nat), .int .i64 (t : Nat), .int .i64 (e : Nat)]) := Lib.hid hrow
        have HNE := Lib.hid hnF
        clear hnF
        go_upto_region 18 with (refine wpList_load_mid rfl 34 _ rfl b (off + k * 4) rfl _ _ l1 Tryz.underlying34 rfl infoIns ?_; clear l1)
        obtain ⟨b7, hb7⟩ : ∃ b7, b7 = wr.heap.size := ⟨_, rfl⟩
        rw [← hb7] at HE h7g ⊢
        clear hb7 hbn2 hrow hrb k0 dk dk2 q3'
        generalize wr.alloc (.cells #[.int .i64 x0, .int .i64 (a : Nat), .int .i64 (t : Nat), .int .i64 (e : Nat)] 34) = w4 at *
        have c0 := HE.out.cell 0
        have c1 := HE.out.cell 1
        have c2 := HE.out.cell 2
        have c3 := HE.out.cell 3
        dsimp only [List.getElem?_cons_succ, List.getElem?_cons_zero] at c0 c1 c2 c3
        have fA := HR.out.frozen a
        by_cases h1 : x0 = 1
        · subst h1
          clear hops h3 q3
          have hw : IntKind.i64.wrap (z + 1) = z + 1 := by rw [IntKind.wrap_i64]; omega
          have hst := HR.out.set a (z + 1)
          have hon := only_setCell w4 g a (.int .i64 (z + 1))
          have HES := Lib.hid (HE.out.other hon h7g)
          have HBS := Lib.hid (HB.out.setCell (p := ⟨g, a, none⟩) hgB2 (.int .i64 (z + 1)))
          have HRS := Lib.hid hst
          clear hst hon
          go_upto_region 21 with fail
          generalize w4.setCell ⟨g, a, none⟩ (.int .i64 (z + 1)) = w5 at *
          have e1 := HES.out.cell 1
          dsimp only [List.getElem?_cons_succ, List.getElem?_cons_zero] at e1
          have eA := HRS.out.cell ha4
          rw [show (cz.set a (z + 1)).getD a 0 = z + 1 by rw [List.getD_eq_getElem?_getD, List.getElem?_set_self (by rw [HCL.out]; exact ha4)]; rfl] at eA
          by_cases hz6 : z = 1000000
          · have d9 : decide (1000000 < z + 1) = true := decide_eq_true (by omega)
            have G := Lib.hid (G4.out (by first | rfl | trivial) hz6 (by have := HNF.out; omega) n)
            clear hz6
            go_wp2_with fail
            (try simp only [Exit.inBlock, Exit.then])
            refine bodyPost_ret (results_tmp4 rfl _ _ _) rfl ?_
            refine ⟨HPO.out _ _ ?_, HBS.out⟩
            rw [HO.out, G.out]
            exact ⟨_, _, _, rfl, Ints.Is.nil _⟩
          · have d9 : decide (1000000 < z + 1) = false := decide_eq_false (by omega)
            have HGO := Lib.hid (G1.out (by first | rfl | trivial) hz6 (by have := HNF.out; omega) n)
            have HIR2 := Lib.hid (HIR.out.set HCL.out (a := a) (z := z + 1) (by omega))
            clear hz6
            go_wp2_with fail
            go_roundw
            case rel => exact ⟨t, n + 1, _, rfl, by go_num, by have := HTM.out; omega, by have := HNF.out; omega, HRS.out, HIR2.out, by rw [HO.out, HGO.out, Nat.sub_sub], HBS.out⟩
            case measure => have := HNF.out; simp [RowKit.intOf]; omega
        have q1 : (x0 == 1) = false := beq_eq_false_iff_ne.2 h1
        have h2 : x0 = 2 := by omega
        subst h2
        clear hops h3 q3 h1 q1
        by_cases hz0 : 0 < z
        · have qz := decide_eq_true hz0
          have HGO := Lib.hid (G2.out (by first | rfl | trivial) hz0 (by have := HNF.out; omega) n)
          have HIR2 := Lib.hid (HIR.out.set HCL.out (a := a) (z := z - 1) (by omega))
          clear hz0
          have hst := HR.out.set a (z - 1)
          have hon := only_setCell w4 g a (.int .i64 (z - 1))
          have HES := Lib.hid (HE.out.other hon h7g)
          have HBS := Lib.hid (HB.out.setCell (p := ⟨g, a, none⟩) hgB2 (.int .i64 (z - 1)))
          have HRS := Lib.hid hst
          clear hst hon
          go_upto_region 26 with fail
          generalize w4.setCell ⟨g, a, none⟩ (.int .i64 (z - 1)) = w5 at *
          go_wp2_with fail
          go_roundw
          case rel => exact ⟨t, n + 1, _, rfl, by go_num, by have := HTM.out; omega, by have := HNF.out; omega, HRS.out, HIR2.out, by rw [HO.out, HGO.out, Nat.sub_sub], HBS.out⟩
          case measure => have := HNF.out; simp [RowKit.intOf]; omega
        · have qz := decide_eq_false hz0
          have HGO := Lib.hid (G5.out (by first | rfl | trivial) hz0 (by have := HNF.out; omega) n)
          clear hz0
          go_wp2_with fail
          go_roundw
          case rel => exact ⟨e, n + 1, _, rfl, by go_num, by have := HEM.out; omega, by have := HNF.out; omega, HR.out, HIR.out, by rw [HO.out, HGO.out, Nat.sub_sub], HB.out⟩
          case measure => have := HNF.out; simp [RowKit.intOf]; omega
end Cr
end Go.Proofs.YtfhhnajnanlmgaaGreatDoor
