/- WALK: chips.Reduced, chips.Same, chips.Fire. -/
import Derived.Test.YtjikildiblchpaaChR3
import Derived.Test.YtjikildiblchpaaChC
namespace Go.Proofs.Ytjikildiblchpaa
set_option linter.unusedSimpArgs false
set_option linter.unusedVariables false
open Go.RowKit Go.Lib
namespace Ch
open Tld Mem Rt

theorem btw_sum {P : Nat} {f : Nat → Nat → Int} {k : Nat} : ∀ {m : Nat}, (∀ i, i < m → EdgeN P f i) → sumN (fun o => btw f k o m) P ≤ deg f k m
  | 0, _ => by
    have : sumN (fun o => btw f k o 0) P = 0 := by
      rw [sumN_congr (F := fun o => btw f k o 0) (G := fun _ => 0) fun _ _ => rfl]
      exact sumN_zero
    omega
  | m + 1, h => by
    have ih := btw_sum (k := k) (m := m) fun i hi => h i (by omega)
    have hm := h m (by omega)
    have e : sumN (fun o => btw f k o (m + 1)) P = sumN (fun o => btw f k o m) P + sumN (fun o => if Btw f m k o then eT f m else 0) P := by
      rw [← sumN_add]
      exact sumN_congr fun o _ => btw_succ
    rw [e, deg_succ]
    refine Nat.add_le_add ih ?_
    by_cases ha : eA f m = k
    · rw [if_pos (.inl ha)]
      have h1 : sumN (fun o => if Btw f m k o then eT f m else 0) P ≤ sumN (fun o => if eB f m = o then eT f m else 0) P := sumN_le fun o _ => by
        by_cases hb : Btw f m k o
        · rcases hb with ⟨_, hb2⟩ | ⟨_, hb2⟩
          · rw [if_pos hb2]; split <;> omega
          · exact absurd (ha.trans hb2.symm) hm.ne
        · rw [if_neg hb]; exact Nat.zero_le _
      have h2 := sumN_pickF (a := eB f m) (F := fun _ => eT f m) (n := P)
      rw [h2] at h1
      split at h1 <;> omega
    · by_cases hb : eB f m = k
      · rw [if_pos (.inr hb)]
        have h1 : sumN (fun o => if Btw f m k o then eT f m else 0) P ≤ sumN (fun o => if eA f m = o then eT f m else 0) P := sumN_le fun o _ => by
          by_cases hb2 : Btw f m k o
          · rcases hb2 with ⟨h3, _⟩ | ⟨h3, _⟩
            · exact absurd h3 ha
            · rw [if_pos h3]; split <;> omega
          · rw [if_neg hb2]; exact Nat.zero_le _
        have h2 := sumN_pickF (a := eA f m) (F := fun _ => eT f m) (n := P)
        rw [h2] at h1
        split at h1 <;> omega
      · have h1 : sumN (fun o => if Btw f m k o then eT f m else 0) P = 0 := by
          rw [sumN_congr (G := fun _ => 0) fun o _ => if_neg fun h => h.elim (fun h => ha h.1) (fun h => hb h.2), sumN_zero]
        rw [h1]; exact Nat.zero_le _
theorem btw_sym {f : Nat → Nat → Int} {a b : Nat} : ∀ {m : Nat}, btw f a b m = btw f b a m
  | 0 => rfl
  | m + 1 => by
    rw [btw_succ, btw_succ, btw_sym]
    congr 1
    by_cases h : Btw f m a b
    · rw [if_pos h, if_pos h.swap]
    · rw [if_neg h, if_neg fun x => h x.swap]
theorem gr_of {p m : Nat} {f : Nat → Nat → Int} (h : GOk p m f) : Gr p (fun a b => btw f a b m) where
  sym := fun a b => btw_sym
  own := fun a => by
    refine Nat.eq_zero_of_not_pos fun hp => ?_
    obtain ⟨i, hi, hb⟩ := (btw_pos h.edge).1 hp
    have hn := (h.edge i hi).ne
    rcases hb with ⟨h1, h2⟩ | ⟨h1, h2⟩ <;> exact hn (h1.trans h2.symm)
  conn := fun s hs S h0 hS k hk => h.conn.any (by omega) hs h0 (S := S) (fun i a b hi hb ha => by
    have he := h.edge i hi
    have := he.al
    have := he.bl
    have hab : a < p ∧ b < p := by
      rcases hb with ⟨h1, h2⟩ | ⟨h1, h2⟩ <;> omega
    exact hS a b hab.1 hab.2 ((btw_pos h.edge).2 ⟨i, hi, hb⟩) ha) hk
  few := fun k _ => Nat.le_trans (btw_sum h.edge) (Nat.le_trans (deg_le h.edge) (by have := h.m40; omega))
  p10 := h.p10
theorem dfault_zero {p : Nat} {zs : List Int} (h : dfault p zs = 0) : zs.length = p ∧ ∀ k, k < p → -1000 ≤ zs.getD k 0 ∧ zs.getD k 0 ≤ 1000 := by
  unfold dfault at h
  by_cases h1 : zs.length ≠ p
  · rw [if_pos h1] at h; cases h
  rw [if_neg h1] at h
  have h1 : zs.length = p := Classical.byContradiction h1
  refine ⟨h1, fun k hk => ?_⟩
  by_cases h2 : zs.any dbad = true
  · rw [if_pos h2] at h; cases h
  have h3 : dbad (zs.getD k 0) = false := by
    cases hb : dbad (zs.getD k 0)
    · rfl
    · exact absurd (any_yes (by omega) hb) h2
  unfold dbad at h3
  have := of_decide_eq_false h3
  omega
theorem lst_one {w : World} {b : Nat} {da : Option Addr} {dn dc : Nat} {zs : List Int} (hr : Row w b 25 [.slice da dn dc]) (hD : Ints.Is w da dn zs) : Lst w (some ⟨b, 0, none⟩) [zs] (fun _ => da) (fun _ => dc) := fun j hj => by
  have hj0 : j = 0 := Nat.lt_one_iff.1 hj
  subst hj0
  refine ⟨b, 0, rfl, ?_, ?_⟩
  · rw [hr.cell]
    show some (Value.slice da dn dc) = some (Value.slice da zs.length dc)
    rw [hD.len]
  · show Ints.Is w da zs.length zs
    rw [hD.len]; exact hD
theorem lst_two {w : World} {b : Nat} {da ea : Option Addr} {dn dc en ec : Nat} {zs ys : List Int} (hr : Row w b 25 [.slice da dn dc, .slice ea en ec]) (hD : Ints.Is w da dn zs) (hE : Ints.Is w ea en ys) : Lst w (some ⟨b, 0, none⟩) [zs, ys] (fun j => if j = 0 then da else ea) (fun j => if j = 0 then dc else ec) := fun j hj => by
  have hj2 : j < 2 := hj
  match j, hj2 with
  | 0, _ =>
    refine ⟨b, 0, rfl, ?_, ?_⟩
    · rw [hr.cell]
      show some (Value.slice da dn dc) = some (Value.slice da zs.length dc)
      rw [hD.len]
    · show Ints.Is w da zs.length zs
      rw [hD.len]; exact hD
  | 1, _ =>
    refine ⟨b, 0, rfl, ?_, ?_⟩
    · rw [hr.cell]
      show some (Value.slice ea en ec) = some (Value.slice ea ys.length ec)
      rw [hE.len]
    · show Ints.Is w ea ys.length ys
      rw [hE.len]; exact hE
theorem chfault_one {P : Int} {m : Nat} {f : Nat → Nat → Int} {zs : List Int} (h : chfault P m f [zs] = 0) : ∃ p : Nat, P = (p : Int) ∧ GOk p m f ∧ zs.length = p ∧ ∀ k, k < p → -1000 ≤ zs.getD k 0 ∧ zs.getD k 0 ≤ 1000 := by
  by_cases hg : gfault P m f = 0
  · obtain ⟨p, rfl, hok⟩ := gfault_zero hg
    rw [chfault_l hg, Int.toNat_natCast] at h
    unfold lchk at h
    by_cases h1 : dfault p zs ≠ 0
    · rw [if_pos h1] at h; exact absurd h h1
    · obtain ⟨h2, h3⟩ := dfault_zero (Classical.byContradiction h1)
      exact ⟨p, rfl, hok, h2, h3⟩
  · rw [chfault_g hg] at h; exact absurd h hg
theorem chfault_two {P : Int} {m : Nat} {f : Nat → Nat → Int} {zs ys : List Int} (h : chfault P m f [zs, ys] = 0) : ∃ p : Nat, P = (p : Int) ∧ GOk p m f ∧ zs.length = p ∧ (∀ k, k < p → -1000 ≤ zs.getD k 0 ∧ zs.getD k 0 ≤ 1000) ∧ ys.length = p ∧ ∀ k, k < p → -1000 ≤ ys.getD k 0 ∧ ys.getD k 0 ≤ 1000 := by
  by_cases hg : gfault P m f = 0
  · obtain ⟨p, rfl, hok⟩ := gfault_zero hg
    rw [chfault_l hg, Int.toNat_natCast] at h
    unfold lchk at h
    by_cases h1 : dfault p zs ≠ 0
    · rw [if_pos h1] at h; exact absurd h h1
    · rw [if_neg h1] at h
      unfold lchk at h
      by_cases h4 : dfault p ys ≠ 0
      · rw [if_pos h4] at h; exact absurd h h4
      · obtain ⟨h2, h3⟩ := dfault_zero (Classical.byContradiction h1)
        obtain ⟨h5, h6⟩ := dfault_zero (Classical.byContradiction h4)
        exact ⟨p, rfl, hok, h2, h3, h5, h6⟩
  · rw [chfault_g hg] at h; exact absurd h hg
/-- What Reduced gives. -/
def RedPost (P : Int) (m : Nat) (f : Nat → Nat → Int) (at' : Int) (zs : List Int) (w : World) (e : Ending) (w' : World) : Prop :=
  ((chfault P m f [zs] ≠ 0 ∧ e = .returned (.tuple #[.slice none 0 0, errV (chfault P m f [zs])])) ∨
   (chfault P m f [zs] = 0 ∧ (at' < 0 ∨ P ≤ at') ∧ e = .returned (.tuple #[.slice none 0 0, errV 1])) ∨
   (chfault P m f [zs] = 0 ∧ ∃ (p a b c : Nat) (R : Nat → Int), P = (p : Int) ∧ at' = (a : Int) ∧ a < p ∧ e = .returned (.tuple #[.slice (some ⟨b, 0, none⟩) p c, .nilIface]) ∧ Vec w' b p R ∧ Eqv p (fun a b => btw f a b m) (fun k => zs.getD k 0) R ∧ Reduced p (fun a b => btw f a b m) R a ∧ (∀ k, k < p → -9000000000000000000 ≤ R k ∧ R k ≤ 9000000000000000000))) ∧ Below w.heap.size w w'

set_option maxHeartbeats 8000000 in
set_option maxRecDepth 1000000 in
theorem reducedP_any (P at' : Int) (ea : Option Addr) (m ec : Nat) (f : Nat → Nat → Int) (da : Option Addr) (dn dc : Nat) (zs : List Int) (w : World) (hE : Mem.Rows w ea m 3 (fun i j => .int .i64 (f i j))) (hm : m ≤ 9223372036854775807) (hD : Ints.Is w da dn zs) :
    Calls Try.prog 11 #[.agg #[.int .i64 P, .slice ea m ec], .slice da dn dc, .int .i64 at'] w (RedPost P m f at' zs w) := by
  have HE := Lib.hid hE
  have HD := Lib.hid hD
  have HDL := Lib.hid hD.len
  clear hE hD
  go_enter Try.func11, Try.ntmps11
  go_upto_region 1 with fail
  have hR : Row (w.alloc (.cells #[.int .i64 P, .slice ea m ec] 24)) w.heap.size 24 [.int .i64 P, .slice ea m ec] := row_alloc w _ _
  have hB : Below w.heap.size w (w.alloc (.cells #[.int .i64 P, .slice ea m ec] 24)) := (Below.refl _ _).alloc (Nat.le_refl _) _
  have HG := Lib.hid hR
  have HB := Lib.hid hB
  clear hR hB
  generalize w.alloc (.cells #[.int .i64 P, .slice ea m ec] 24) = w1 at *
  have hr := row_alloc w1 25 [.slice da dn dc]
  have hbn : Below w1.heap.size w1 (w1.alloc (.cells [.slice da dn dc].toArray 25)) := (Below.refl _ _).alloc (Nat.le_refl _) _
  have HB2 := Lib.hid (HB.out.trans (hbn.mono HB.out.size))
  have HG2 := Lib.hid (HG.out.keep hbn HG.out.lt)
  have HL := Lib.hid (lst_one hr (HD.out.keep HB2.out))
  have l1 := row_range HG.out
  clear hr hbn
  go_wp2_with (refine wpList_load_mid rfl 24 _ rfl w.heap.size 0 rfl _ _ l1 Try.underlying24 rfl infoGraph ?_)
  clear l1 HG HB
  refine (chk_any P ea m ec f _ 1 1 [zs] _ _ _ (rows_keep HE.out HB2.out) hm HL.out rfl (by omega)).mono ?_
  clear HL
  generalize w1.alloc (.cells [.slice da dn dc].toArray 25) = w2 at *
  rintro e1 w3 ⟨⟨hf, rfl⟩ | ⟨hf, bn, rfl, hnet⟩, hb3⟩
  · have HX : Hid (RedPost P m f at' zs w (.returned (.tuple #[.slice none 0 0, errV (chfault P m f [zs])])) w3) := ⟨.inl ⟨hf, rfl⟩, HB2.out.trans (hb3.mono HB2.out.size)⟩
    rw [errV_some hf] at HX ⊢
    clear hf hb3
    go_wp2_with fail
    go_ret2
    exact HX.out
  · obtain ⟨p, rfl, hok, hzl, hz⟩ := chfault_one hf
    have HF := Lib.hid hf
    have HOK := Lib.hid hok
    have HZ := Lib.hid hz
    have HG3 := Lib.hid (HG2.out.keep hb3 HG2.out.lt)
    have HB3 := Lib.hid (HB2.out.trans (hb3.mono HB2.out.size))
    have HD3 := Lib.hid (HD.out.keep HB3.out)
    rw [Int.toNat_natCast] at hnet
    have HN := Lib.hid hnet
    have hdp : dn = p := by rw [← HDL.out]; exact hzl
    subst hdp
    have g0 := HG3.out.cell 0
    dsimp only [List.getElem?_cons_zero] at g0
    clear hf hok hz hnet hb3 hzl HG2 HB2
    by_cases h0 : at' < 0
    · have HX : Hid (RedPost (dn : Int) m f at' zs w (.returned (.tuple #[.slice none 0 0, .iface 59 (.int .i64 1)])) w3) := ⟨.inr (.inl ⟨HF.out, .inl h0, rfl⟩), HB3.out⟩
      go_wp2_with fail
      go_ret2
      exact HX.out
    by_cases h1 : (dn : Int) ≤ at'
    · have HX : Hid (RedPost (dn : Int) m f at' zs w (.returned (.tuple #[.slice none 0 0, .iface 59 (.int .i64 1)])) w3) := ⟨.inr (.inl ⟨HF.out, .inr h1, rfl⟩), HB3.out⟩
      go_wp2_with fail
      go_ret2
      exact HX.out
    obtain ⟨a, rfl⟩ : ∃ a : Nat, at' = (a : Int) := ⟨at'.toNat, by omega⟩
    have ha : a < dn := by omega
    have HRD := Lib.hid (reduced_any dn a (fun a b => btw f a b m) (fun a => deg f a m) bn da dc zs w3 w3 (gr_of HOK.out) ha HN.out (Below.refl _ _) HD3.out (wide HZ.out))
    go_wp2_with fail
    refine HRD.out.mono ?_
    rintro e1 w4 ⟨b, c, R, rfl, _, hv, heq, hrd, hbd, hb4⟩
    have HX : Hid (RedPost (dn : Int) m f (a : Int) zs w (.returned (.tuple #[.slice (some ⟨b, 0, none⟩) dn c, .nilIface])) w4) := ⟨.inr (.inr ⟨HF.out, dn, a, b, c, R, rfl, rfl, ha, rfl, hv, heq, hrd, hbd⟩), HB3.out.trans (hb4.mono HB3.out.size)⟩
    clear hv heq hrd hbd hb4 HRD g0 h0 h1
    go_wp2_with fail
    go_ret2
    exact HX.out

/-- What Same gives. -/
def SamePost (P : Int) (m : Nat) (f : Nat → Nat → Int) (zs ys : List Int) (w : World) (e : Ending) (w' : World) : Prop :=
  ((chfault P m f [zs, ys] ≠ 0 ∧ e = .returned (.tuple #[.bool false, errV (chfault P m f [zs, ys])])) ∨
   (chfault P m f [zs, ys] = 0 ∧ ∃ (p : Nat) (q : Bool), P = (p : Int) ∧ (q = true ↔ Eqv p (fun a b => btw f a b m) (fun k => zs.getD k 0) (fun k => ys.getD k 0)) ∧ e = .returned (.tuple #[.bool q, .nilIface]))) ∧ Below w.heap.size w w'
theorem same_iff {p a : Nat} {E : Nat → Nat → Nat} {D1 D2 R1 R2 : Nat → Int} (ha : a < p) (e1 : Eqv p E D1 R1) (r1 : Reduced p E R1 a) (e2 : Eqv p E D2 R2) (r2 : Reduced p E R2 a) : lstF p R1 = lstF p R2 ↔ Eqv p E D1 D2 := by
  constructor
  · intro h
    refine e1.trans (Eqv.trans (.of_eq fun k hk => ?_) e2.symm)
    have := congrArg (fun l => l.getD k 0) h
    have this : (lstF p R1).getD k 0 = (lstF p R2).getD k 0 := this
    rwa [lstF_get hk, lstF_get hk] at this
  · intro h
    exact lstF_congr fun k hk => r1.unique r2 ((e1.symm.trans h).trans e2) ha k hk

set_option maxHeartbeats 8000000 in
set_option maxRecDepth 1000000 in
theorem sameP_any (P : Int) (ea : Option Addr) (m ec : Nat) (f : Nat → Nat → Int) (da : Option Addr) (dn dc : Nat) (zs : List Int) (oa : Option Addr) (on oc : Nat) (ys : List Int) (w : World) (hE : Mem.Rows w ea m 3 (fun i j => .int .i64 (f i j))) (hm : m ≤ 9223372036854775807) (hD : Ints.Is w da dn zs) (hO : Ints.Is w oa on ys) :
    Calls Try.prog 15 #[.agg #[.int .i64 P, .slice ea m ec], .slice da dn dc, .slice oa on oc] w (SamePost P m f zs ys w) := by
  have HE := Lib.hid hE
  have HD := Lib.hid hD
  have HDL := Lib.hid hD.len
  have HO := Lib.hid hO
  have HOL := Lib.hid hO.len
  clear hE hD hO
  go_enter Try.func15, Try.ntmps15
  go_upto_region 1 with fail
  have hR : Row (w.alloc (.cells #[.int .i64 P, .slice ea m ec] 24)) w.heap.size 24 [.int .i64 P, .slice ea m ec] := row_alloc w _ _
  have hB : Below w.heap.size w (w.alloc (.cells #[.int .i64 P, .slice ea m ec] 24)) := (Below.refl _ _).alloc (Nat.le_refl _) _
  have HG := Lib.hid hR
  have HB := Lib.hid hB
  clear hR hB
  generalize w.alloc (.cells #[.int .i64 P, .slice ea m ec] 24) = w1 at *
  have hr := row_alloc w1 25 [.slice da dn dc, .slice oa on oc]
  have hbn : Below w1.heap.size w1 (w1.alloc (.cells [.slice da dn dc, .slice oa on oc].toArray 25)) := (Below.refl _ _).alloc (Nat.le_refl _) _
  have HB2 := Lib.hid (HB.out.trans (hbn.mono HB.out.size))
  have HL := Lib.hid (lst_two hr (HD.out.keep HB2.out) (HO.out.keep HB2.out))
  have l1 := row_range HG.out
  clear hr hbn
  go_wp2_with (refine wpList_load_mid rfl 24 _ rfl w.heap.size 0 rfl _ _ l1 Try.underlying24 rfl infoGraph ?_)
  clear l1 HG HB
  refine (chk_any P ea m ec f _ 2 2 [zs, ys] _ _ _ (rows_keep HE.out HB2.out) hm HL.out rfl (by omega)).mono ?_
  clear HL
  generalize w1.alloc (.cells [.slice da dn dc, .slice oa on oc].toArray 25) = w2 at *
  rintro e1 w3 ⟨⟨hf, rfl⟩ | ⟨hf, bn, rfl, hnet⟩, hb3⟩
  · have HX : Hid (SamePost P m f zs ys w (.returned (.tuple #[.bool false, errV (chfault P m f [zs, ys])])) w3) := ⟨.inl ⟨hf, rfl⟩, HB2.out.trans (hb3.mono HB2.out.size)⟩
    rw [errV_some hf] at HX ⊢
    clear hf hb3
    go_wp2_with fail
    go_ret2
    exact HX.out
  · obtain ⟨p, rfl, hok, hzl, hz, hyl, hy⟩ := chfault_two hf
    have HF := Lib.hid hf
    have HOK := Lib.hid hok
    have HZ := Lib.hid hz
    have HY := Lib.hid hy
    have hp0 : 0 < p := hok.p1
    have hp10 := hok.p10
    have HB3 := Lib.hid (HB2.out.trans (hb3.mono HB2.out.size))
    have HD3 := Lib.hid (HD.out.keep HB3.out)
    have HO3 := Lib.hid (HO.out.keep HB3.out)
    rw [Int.toNat_natCast] at hnet
    have HN := Lib.hid hnet
    have hdp : dn = p := by rw [← HDL.out]; exact hzl
    have hop : on = p := by rw [← HOL.out]; exact hyl
    subst hdp
    subst hop
    clear hf hok hz hy hnet hb3 hzl hyl HB2
    have HRD := Lib.hid (reduced_any on 0 (fun a b => btw f a b m) (fun a => deg f a m) bn da dc zs w3 w3 (gr_of HOK.out) hp0 HN.out (Below.refl _ _) HD3.out (wide HZ.out))
    go_wp2_with fail
    refine HRD.out.mono ?_
    rintro e1 w4 ⟨b1, c1, R1, rfl, _, hv1, heq1, hrd1, _, hb4⟩
    have HO4 := Lib.hid (HO3.out.keep hb4)
    have HV1 := Lib.hid hv1
    have HE1 := Lib.hid heq1
    have HR1 := Lib.hid hrd1
    have HB4 := Lib.hid (HB3.out.trans (hb4.mono HB3.out.size))
    have HRE := Lib.hid (reduced_any on 0 (fun a b => btw f a b m) (fun a => deg f a m) bn oa oc ys w3 w4 (gr_of HOK.out) hp0 HN.out hb4 HO4.out (wide HY.out))
    clear hv1 heq1 hrd1 hb4 HRD
    go_wp2_with fail
    refine HRE.out.mono ?_
    rintro e1 w5 ⟨b2, c2, R2, rfl, _, hv2, heq2, hrd2, _, hb5⟩
    have hP1 : on ≤ maxLen := by unfold maxLen; omega
    have HI1 := Lib.hid ((HV1.out.keep hb5 HV1.out.lt).is hP1)
    have HI2 := Lib.hid (hv2.is hP1)
    have HB5 := Lib.hid (HB4.out.trans (hb5.mono HB4.out.size))
    have HSI := Lib.hid (same_iff hp0 HE1.out HR1.out heq2 hrd2)
    clear hv2 heq2 hrd2 hb5 HRE
    go_wp2_with fail
    refine (equal_any _ _ on on c1 c2 (lstF on R1) (lstF on R2) w5 HI1.out HI2.out hp10 hp10).mono ?_
    rintro e1 w6 ⟨rfl, hb6⟩
    have HX : Hid (SamePost (on : Int) m f zs ys w (.returned (.tuple #[.bool (decide (lstF on R1 = lstF on R2)), .nilIface])) w6) := ⟨.inr ⟨HF.out, on, _, rfl, by rw [decide_eq_true_iff]; exact HSI.out, rfl⟩, HB5.out.trans (hb6.mono HB5.out.size)⟩
    clear hb6 HSI
    generalize decide (lstF on R1 = lstF on R2) = q at *
    go_wp2_with fail
    go_ret2
    exact HX.out

/-- What Fire gives. -/
def FirePost (P : Int) (m : Nat) (f : Nat → Nat → Int) (zs : List Int) (at' times : Int) (w : World) (e : Ending) (w' : World) : Prop :=
  ((chfault P m f [zs] ≠ 0 ∧ e = .returned (.tuple #[.slice none 0 0, errV (chfault P m f [zs])])) ∨
   (chfault P m f [zs] = 0 ∧ (times < -1000 ∨ 1000 < times ∨ at' < 0 ∨ P ≤ at') ∧ e = .returned (.tuple #[.slice none 0 0, errV 1])) ∨
   (chfault P m f [zs] = 0 ∧ -1000 ≤ times ∧ times ≤ 1000 ∧ ∃ (p a b c : Nat), P = (p : Int) ∧ at' = (a : Int) ∧ a < p ∧ e = .returned (.tuple #[.slice (some ⟨b, 0, none⟩) p c, .nilIface]) ∧ Vec w' b p (fireZ p (fun a b => btw f a b m) (fun k => zs.getD k 0) (fun j => decide (j = a)) times))) ∧ Below w.heap.size w w'
theorem fire_small {p : Nat} {E : Nat → Nat → Nat} (hG : Gr p E) {D : Nat → Int} {S : Nat → Bool} {t : Int} (h1 : -1000 ≤ t) (h2 : t ≤ 1000) {k : Nat} (hk : k < p) (hz : -1000 ≤ D k ∧ D k ≤ 1000) : -10000000 ≤ fireZ p E D S t k ∧ fireZ p E D S t k ≤ 10000000 := by
  have hm : ∀ n : Nat, n ≤ 4000 → -4000000 ≤ t * (n : Int) ∧ t * (n : Int) ≤ 4000000 := fun n hn => by
    have a1 : t * (n : Int) ≤ 1000 * (n : Int) := Int.mul_le_mul_of_nonneg_right h2 (Int.natCast_nonneg _)
    have a2 : -1000 * (n : Int) ≤ t * (n : Int) := Int.mul_le_mul_of_nonneg_right h1 (Int.natCast_nonneg _)
    omega
  unfold fireZ
  split
  · have := hm _ (outS_le hG (S := S) hk)
    omega
  · have := hm _ (inS_le hG (S := S) hk)
    omega

set_option maxHeartbeats 8000000 in
set_option maxRecDepth 1000000 in
theorem fireP_any (P at' times : Int) (ea : Option Addr) (m ec : Nat) (f : Nat → Nat → Int) (da : Option Addr) (dn dc : Nat) (zs : List Int) (w : World) (hE : Mem.Rows w ea m 3 (fun i j => .int .i64 (f i j))) (hm : m ≤ 9223372036854775807) (hD : Ints.Is w da dn zs) :
    Calls Try.prog 16 #[.agg #[.int .i64 P, .slice ea m ec], .slice da dn dc, .int .i64 at', .int .i64 times] w (FirePost P m f zs at' times w) := by
  have HE := Lib.hid hE
  have HD := Lib.hid hD
  have HDL := Lib.hid hD.len
  clear hE hD
  go_enter Try.func16, Try.ntmps16
  go_upto_region 1 with fail
  have hR : Row (w.alloc (.cells #[.int .i64 P, .slice ea m ec] 24)) w.heap.size 24 [.int .i64 P, .slice ea m ec] := row_alloc w _ _
  have hB : Below w.heap.size w (w.alloc (.cells #[.int .i64 P, .slice ea m ec] 24)) := (Below.refl _ _).alloc (Nat.le_refl _) _
  have HG := Lib.hid hR
  have HB := Lib.hid hB
  clear hR hB
  generalize w.alloc (.cells #[.int .i64 P, .slice ea m ec] 24) = w1 at *
  have hr := row_alloc w1 25 [.slice da dn dc]
  have hbn : Below w1.heap.size w1 (w1.alloc (.cells [.slice da dn dc].toArray 25)) := (Below.refl _ _).alloc (Nat.le_refl _) _
  have HB2 := Lib.hid (HB.out.trans (hbn.mono HB.out.size))
  have HG2 := Lib.hid (HG.out.keep hbn HG.out.lt)
  have HL := Lib.hid (lst_one hr (HD.out.keep HB2.out))
  have l1 := row_range HG.out
  clear hr hbn
  go_wp2_with (refine wpList_load_mid rfl 24 _ rfl w.heap.size 0 rfl _ _ l1 Try.underlying24 rfl infoGraph ?_)
  clear l1 HG HB
  refine (chk_any P ea m ec f _ 1 1 [zs] _ _ _ (rows_keep HE.out HB2.out) hm HL.out rfl (by omega)).mono ?_
  clear HL
  generalize w1.alloc (.cells [.slice da dn dc].toArray 25) = w2 at *
  rintro e1 w3 ⟨⟨hf, rfl⟩ | ⟨hf, bn, rfl, hnet⟩, hb3⟩
  · have HX : Hid (FirePost P m f zs at' times w (.returned (.tuple #[.slice none 0 0, errV (chfault P m f [zs])])) w3) := ⟨.inl ⟨hf, rfl⟩, HB2.out.trans (hb3.mono HB2.out.size)⟩
    rw [errV_some hf] at HX ⊢
    clear hf hb3
    go_wp2_with fail
    go_ret2
    exact HX.out
  · obtain ⟨p, rfl, hok, hzl, hz⟩ := chfault_one hf
    have HF := Lib.hid hf
    have HOK := Lib.hid hok
    have HZ := Lib.hid hz
    have hp10 := hok.p10
    have HG3 := Lib.hid (HG2.out.keep hb3 HG2.out.lt)
    have HB3 := Lib.hid (HB2.out.trans (hb3.mono HB2.out.size))
    have HD3 := Lib.hid (HD.out.keep HB3.out)
    rw [Int.toNat_natCast] at hnet
    have HN := Lib.hid hnet
    have hdp : dn = p := by rw [← HDL.out]; exact hzl
    subst hdp
    have g0 := HG3.out.cell 0
    dsimp only [List.getElem?_cons_zero] at g0
    have HBAD : Hid ((times < -1000 ∨ 1000 < times ∨ at' < 0 ∨ (dn : Int) ≤ at') → FirePost (dn : Int) m f zs at' times w (.returned (.tuple #[.slice none 0 0, .iface 59 (.int .i64 1)])) w3) := fun h => ⟨.inr (.inl ⟨HF.out, h, rfl⟩), HB3.out⟩
    clear hf hok hz hnet hb3 hzl HG2 HB2
    by_cases h2 : times < -1000
    · have HX := Lib.hid (HBAD.out (.inl h2))
      go_wp2_with fail
      go_ret2
      exact HX.out
    by_cases h3 : 1000 < times
    · have HX := Lib.hid (HBAD.out (.inr (.inl h3)))
      go_wp2_with fail
      go_ret2
      exact HX.out
    by_cases h0 : at' < 0
    · have HX := Lib.hid (HBAD.out (.inr (.inr (.inl h0))))
      go_wp2_with fail
      go_ret2
      exact HX.out
    by_cases h1 : (dn : Int) ≤ at'
    · have HX := Lib.hid (HBAD.out (.inr (.inr (.inr h1))))
      go_wp2_with fail
      go_ret2
      exact HX.out
    obtain ⟨a, rfl⟩ : ∃ a : Nat, at' = (a : Int) := ⟨at'.toNat, by omega⟩
    have ha : a < dn := by omega
    have ha2 : (a : Int) < (dn : Int) := by omega
    have hdnil : da = none → dn = 0 := fun h => by
      obtain ⟨b, off, e, _⟩ := HD3.out.cells 0 (by omega)
      rw [h] at e; cases e
    have HCL := Lib.hid (clone_any da dn dc zs w3 HDL.out (by omega) HD3.out.cells hdnil)
    clear HBAD hdnil
    go_wp2_with fail
    refine HCL.out.mono ?_
    rintro e1 w4 ⟨v4, rfl, hown, hb4⟩
    obtain ⟨bd, cd, rfl⟩ : ∃ b c, v4 = .slice (some ⟨b, 0, none⟩) dn c := by
      rcases hown.2 with ⟨_, h0⟩ | ⟨g, cap, cur, h0, _⟩
      · omega
      · exact ⟨g, cap, h0⟩
    have HD4 := Lib.hid (vec_own hown HDL.out)
    have hbd : w3.heap.size ≤ bd := own_low hown bd rfl
    have HG4 := Lib.hid (HG3.out.keep hb4 HG3.out.lt)
    have HB4 := Lib.hid (HB3.out.trans (hb4.mono HB3.out.size))
    have HW4 := Lib.hid hb4
    have hmk := mk_bools dn hp10
    have g0 := HG4.out.cell 0
    dsimp only [List.getElem?_cons_zero] at g0
    clear hown hb4 HCL HG3
    go_upto_region 8 with fail
    have HS0 := Lib.hid (vecB_made w4 dn)
    have hal : Below w4.heap.size w4 (w4.alloc (.cells (Array.replicate dn (Value.bool false)) 4)) := (Below.refl _ _).alloc (Nat.le_refl _) _
    have HD5 := Lib.hid (HD4.out.keep hal HD4.out.lt)
    have HB5 := Lib.hid (HB4.out.trans (hal.mono HB4.out.size))
    have HW5 := Lib.hid (HW4.out.trans (hal.mono HW4.out.size))
    obtain ⟨bs, hbse⟩ : ∃ b, b = w4.heap.size := ⟨_, rfl⟩
    rw [← hbse] at HS0
    rw [← hbse]
    have hbsd : bs ≠ bd := by have := HD4.out.lt; omega
    have hbs : w4.heap.size ≤ bs := by omega
    clear hal hmk hbse HD4 g0
    generalize w4.alloc (.cells (Array.replicate dn (Value.bool false)) 4) = w5 at *
    have s1 := HS0.out.cell ha
    have z1 := HS0.out.frozen a
    have o1 := only_setCell w5 bs a (.bool true)
    have HS1 := Lib.hid ((HS0.out.set ha true).congr (G := fun k => decide (k = a)) fun j hj => by
      by_cases e : j = a
      · rw [e, updB_at, decide_eq_true rfl]
      · rw [updB_no e, decide_eq_false e])
    have HD6 := Lib.hid (HD5.out.other o1 (Ne.symm hbsd))
    have HB6 := Lib.hid (HB5.out.trans (o1.below (by have := HB4.out.size; omega)))
    have HW6 := Lib.hid (HW5.out.trans (o1.below (by have := HW4.out.size; omega)))
    clear o1
    go_upto_region 9 with fail
    clear s1 z1 HS0 HD5 HB5 HW5
    generalize w5.setCell ⟨bs, a, none⟩ (.bool true) = w6 at *
    have HDX : Hid (Vec w6 bd dn fun j => wrap64 (zs.getD j 0)) := HD6.out.congr fun j hj => by
      have := HZ.out j hj
      unfold wrap64; omega
    go_wp2_with fail
    refine (fire_any dn (fun a b => btw f a b m) (fun a => deg f a m) bn bd cd bs dn (fun k => decide (k = a)) (fun k => zs.getD k 0) times w3 w6 HN.out HW6.out hbd HDX.out HS1.out hp10 (gr_of HOK.out).sym).mono ?_
    rintro e1 w7 ⟨⟨v7, rfl⟩, hv7, ho7⟩
    have HX : Hid (FirePost (dn : Int) m f zs (a : Int) times w (.returned (.tuple #[.slice (some ⟨bd, 0, none⟩) dn cd, .nilIface])) w7) := ⟨.inr (.inr ⟨HF.out, by omega, by omega, dn, a, bd, cd, rfl, rfl, ha, rfl, hv7.congr fun j hj => by
      have := fire_small (gr_of HOK.out) (D := fun k => zs.getD k 0) (S := fun k => decide (k = a)) (show -1000 ≤ times by omega) (show times ≤ 1000 by omega) hj (HZ.out j hj)
      unfold wrap64; omega⟩), HB6.out.trans (ho7.below (by have := HB3.out.size; omega))⟩
    clear hv7 ho7
    go_wp2_with fail
    go_ret2
    exact HX.out
end Ch
end Go.Proofs.Ytjikildiblchpaa
