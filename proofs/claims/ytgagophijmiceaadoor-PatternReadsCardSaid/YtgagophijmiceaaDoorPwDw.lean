/- WALK: pattern.Draw: a pattern, a rune a cell. -/
import Derived.Test.YtgagophijmiceaaDoorPwDrPl
import Derived.Test.YtgagophijmiceaaDoorPwB
namespace Go.Proofs.YtgagophijmiceaaDoor
set_option linter.unusedSimpArgs false
set_option linter.unusedVariables false
open Go.RowKit
namespace Pw
open Tld Mem Bl Pn

theorem infoRune : (Tryd.prog.info? 21).map (fun i => (i.zero, i.size, i.bytes)) = some (some (.int .i32 0), 1, 4) := by kernel_rfl
/-- The two marks that the package lays. -/
def Marks (w : World) : Prop := ∃ mb mo mc, 0 < w.heap.size ∧ mb < w.heap.size ∧ 2 ≤ mc ∧ w.cell? ⟨0, 0, none⟩ = some (.slice (some ⟨mb, mo, none⟩) 2 mc) ∧ w.cell? ⟨mb, mo + 0, none⟩ = some (.int .i32 183) ∧ w.cell? ⟨mb, mo + 1, none⟩ = some (.int .i32 9679)
theorem Marks.keep {w w' : World} (h : Marks w) (hb : Below w.heap.size w w') : Marks w' := by
  obtain ⟨mb, mo, mc, h1, h2, h3, h4, h5, h6⟩ := h
  exact ⟨mb, mo, mc, Nat.lt_of_lt_of_le h1 hb.size, Nat.lt_of_lt_of_le h2 hb.size, h3, (hb.cell (p := ⟨0, 0, none⟩) h1).trans h4, (hb.cell (p := ⟨mb, mo + 0, none⟩) h2).trans h5, (hb.cell (p := ⟨mb, mo + 1, none⟩) h2).trans h6⟩
theorem wp_app_runes {o : Oper} {a : Act} {w : World} {K : Act → World → Prop} {Q : Exit → Act → World → Prop} (x y : Operand) (ho : o.op = .call { callee := .builtin .append, args := #[x, y], argTypes := #[80, 80] })
    (B : Nat) (v : Value) (n : Nat) (zs : List Int) (hs : a.eval x = v) (hown : w.ownsRow B 21 1 v n (zs.map (Value.int .i32))) (sb so m c : Nat) (ys : List Int) (hy : a.eval y = .slice (some ⟨sb, so, none⟩) m c) (hl : ys.length = m)
    (hc : ∀ k, k < m → w.cell? ⟨sb, so + k, none⟩ = some (.int .i32 (ys.getD k 0))) (hn : n ≤ 1000000) (hm : m ≤ 1000000) (hm0 : 0 < m) (hB : B ≤ w.heap.size)
    (hK : ∀ g co w', w'.ownsRow B 21 1 (.slice (some ⟨g, 0, none⟩) (n + m) co) (n + m) ((zs ++ ys).map (Value.int .i32)) → w.grownBy w' v.ownBlock → K (a.put o.dst (.slice (some ⟨g, 0, none⟩) (n + m) co)) w') :
    Oper.wp Tryd.prog o a w K Q := by
  obtain ⟨i0, hI0, hz0, hz1, hz2⟩ := info_parts infoRune
  refine wp_append_own w x y 80 ho B 21 i0 (.int .i32 0) 1 4 Tryd.underlying80 hI0 hz0 hz1 hz2 rfl (by decide) v n _ hs hown ⟨sb, so, none⟩ m c (ys.map (Value.int .i32)) hy (by simp [hl]) (fun j u hj => ?_) (fun u hu => by obtain ⟨x, _, rfl⟩ := List.mem_map.1 hu; rfl) (by unfold maxLen; omega) (by omega) hB fun v' w' ho' hg => ?_
  · have hjm : j < m := by
      have := (List.getElem?_eq_some_iff.1 hj).1
      rw [List.length_map, hl] at this
      exact this
    rw [Addr.add_mid, hc j hjm]
    have e : (ys.map (Value.int .i32))[j]? = some (Value.int .i32 (ys.getD j 0)) := by simp [List.getD_eq_getElem?_getD, List.getElem?_eq_getElem (show j < ys.length from by rw [hl]; exact hjm)]
    rw [e] at hj
    exact hj
  · rw [← List.map_append] at ho'
    rcases ho'.2 with ⟨_, h0⟩ | ⟨g, cap, cur, hv, _⟩
    · omega
    · subst hv
      intro _
      exact hK _ _ _ ho' hg
/-- 'string(l)' of the call's own runes. -/
theorem wpList_runes {P : Program} {ops : Array Oper} {rest : List Oper} {o : Oper} {a : Act} {w : World} {Q : Exit → Act → World → Prop} (hgd : o.guard = none) (src dst e : TypeId) (x : Operand) (ho : o.op = .convert src dst x)
    (hs : P.underlying src = some (.slice e)) (he : P.underlying e = some (.int .i32)) (hd : P.underlying dst = some .string)
    (v : Value) (B n : Nat) (zs : List Int) (hx : a.eval x = v) (hown : w.ownsRow B e 1 v n (zs.map (Value.int .i32)))
    (hK : wpList P ops Q rest (a.put o.dst (.string (runesBytes zs))) w) : wpList P ops Q (o :: rest) a w := by
  have hl : zs.length = n := by have := hown.1; rw [List.length_map] at this; omega
  have hrun : (convert src dst v).run P w = .ok (.string (runesBytes zs)) w := by
    rcases hown.2 with ⟨rfl, h0⟩ | ⟨g, cap, cur, rfl, _⟩
    · have : zs = [] := List.eq_nil_of_length_eq_zero (by omega)
      subst this
      exact run_convert_runes_nil w src dst e 0 0 hs he hd
    · have h := run_convert_runes w src dst e ⟨g, 0, none⟩ n cap zs (by omega) hs he hd (fun j hj => by
        rw [Addr.add_mid, Nat.zero_add]
        exact own_cell hown (by simp [List.getD_eq_getElem?_getD, List.getElem?_eq_getElem hj]))
      rw [← hl, List.take_length] at h
      rw [← hl]
      exact h
  refine wpList_plain hgd fun K' hK' => ?_
  unfold Oper.wp
  simp [execOp, ho, hx, hrun, Result.andThen]
  exact hK' _ _ hK

set_option maxHeartbeats 16000000 in
set_option maxRecDepth 1000000 in
theorem Draw_bad (W H : Int) (a : Option Addr) (n c : Nat) (zs : List Int) (w : World) (hZ : Ints.Is w a n zs) (hf : pfault W H zs ≠ 0) :
    Calls Tryd.prog 19 #[.agg #[.int .i64 W, .int .i64 H, .slice a n c]] w fun e w' => e = .returned (.tuple #[.string ⟨#[]⟩, errV (pfault W H zs)]) ∧ Below w.heap.size w w' := by
  have HK := Lib.hid (fun w2 (h : Below w.heap.size w w2) => pcheck_any W H a n c zs w2 hZ.len (by have := hZ.le; unfold maxLen at this; omega) (hZ.keep h).cells)
  rw [errV_some hf] at HK ⊢
  clear hZ hf
  go_enter Tryd.func19, Tryd.ntmps19
  go_upto_region 1 with fail
  have hnew := row_alloc w 35 (boxP W H a n c)
  have HG : Hid (Row (w.alloc (.cells #[.int .i64 W, .int .i64 H, .slice a n c] 35)) w.heap.size 35 (boxP W H a n c)) := hnew
  have HB : Hid (Below w.heap.size w (w.alloc (.cells #[.int .i64 W, .int .i64 H, .slice a n c] 35))) := Lib.hid ((Below.refl _ _).alloc (Nat.le_refl _) _)
  clear hnew
  generalize w.alloc (.cells #[.int .i64 W, .int .i64 H, .slice a n c] 35) = w1 at *
  have l5 := row_range HG.out
  go_wp2_with (refine wpList_load_mid rfl 35 _ rfl w.heap.size 0 rfl _ _ l5 Tryd.underlying35 rfl infoPat ?_)
  refine (HK.out _ HB.out).mono ?_
  rintro e2 w2 ⟨rfl, hb2⟩
  have HB := Lib.hid (HB.out.trans (hb2.mono HB.out.size))
  clear hb2 l5 HK
  go_wp2_with fail
  go_ret2
  exact ⟨rfl, HB.out⟩

set_option maxHeartbeats 16000000 in
set_option maxRecDepth 1000000 in
theorem Draw_ok (W H : Nat) (a : Option Addr) (n c : Nat) (f : Nat → Nat → Nat) (w : World) (hM : Marks w) (hZ : Ints.Is w a n (flat W H f)) (hn : n = W * H) (hW : W ≤ 100) (hH : H ≤ 100) (hf : ∀ x y, f x y < 2) (hp : pfault W H (flat W H f) = 0) :
    Calls Tryd.prog 19 #[.agg #[.int .i64 W, .int .i64 H, .slice a n c]] w fun e w' => e = .returned (.tuple #[.string ⟨(drawS W H f).toArray⟩, .nilIface]) ∧ Below w.heap.size w w' := by
  have HK := Lib.hid (fun w2 (h : Below w.heap.size w w2) => pcheck_any W H a n c (flat W H f) w2 (by rw [flat_len, hn]) (by have := Nat.mul_le_mul hW hH; omega) (hZ.keep h).cells)
  rw [hp, errV_zero rfl] at HK
  have HZ := Lib.hid (fun w2 (h : Below w.heap.size w w2) => hZ.keep h)
  have HN := Lib.hid hn
  have HWB := Lib.hid hW
  have HHB := Lib.hid hH
  have HF := Lib.hid hf
  obtain ⟨mb, mo, mc, m1, m2, m3, m4, m5, m6⟩ := hM
  have HMK : Hid (∀ w2, Below w.heap.size w w2 → w2.cell? ⟨0, 0, none⟩ = some (.slice (some ⟨mb, mo, none⟩) 2 mc)) := Lib.hid (fun w2 h => (h.cell (p := ⟨0, 0, none⟩) m1).trans m4)
  have HM2 : Hid (∀ w2, Below w.heap.size w w2 → ∀ cv rv : Nat, cv < 2 → rv = (if cv = 1 then 9679 else 183) → w2.cell? ⟨mb, mo + cv, none⟩ = some (.int .i32 (rv : Nat))) := Lib.hid (fun w2 h cv rv hcv hrv => by
    rw [h.cell (p := ⟨mb, mo + cv, none⟩) m2, hrv]
    rcases (show cv = 0 ∨ cv = 1 by omega) with rfl | rfl
    · exact m5
    · exact m6)
  obtain ⟨F, hF⟩ : ∃ F, F = rnN W f := ⟨_, rfl⟩
  have HFE := Lib.hid hF
  obtain ⟨i0, hI0, hz0, hz1, hz2⟩ := info_parts infoRune
  have HI0 := Lib.hid hI0
  have HZ0 := Lib.hid hz0
  have HZ1 := Lib.hid hz1
  have HZ2 := Lib.hid hz2
  clear hZ hn hW hH hf hp m1 m2 m4 m5 m6 hF hI0 hz0 hz1 hz2
  go_enter Tryd.func19, Tryd.ntmps19
  go_upto_region 1 with fail
  have hnew := row_alloc w 35 (boxP W H a n c)
  have HG : Hid (Row (w.alloc (.cells #[.int .i64 W, .int .i64 H, .slice a n c] 35)) w.heap.size 35 (boxP W H a n c)) := hnew
  have HB : Hid (Below w.heap.size w (w.alloc (.cells #[.int .i64 W, .int .i64 H, .slice a n c] 35))) := Lib.hid ((Below.refl _ _).alloc (Nat.le_refl _) _)
  clear hnew
  generalize w.alloc (.cells #[.int .i64 W, .int .i64 H, .slice a n c] 35) = w1 at *
  obtain ⟨gb, hgb⟩ : ∃ gb, gb = w.heap.size := ⟨_, rfl⟩
  rw [← hgb] at HG ⊢
  clear hgb
  have l5 := row_range HG.out
  go_wp2_with (refine wpList_load_mid rfl 35 _ rfl gb 0 rfl _ _ l5 Tryd.underlying35 rfl infoPat ?_)
  refine (HK.out _ HB.out).mono ?_
  rintro e2 w2 ⟨rfl, hb2⟩
  have HG := Lib.hid (HG.out.keep hb2 HG.out.lt)
  have HB := Lib.hid (HB.out.trans (hb2.mono HB.out.size))
  clear hb2 l5 HK
  have f0 := HG.out.cell 0
  have f1 := HG.out.cell 1
  have f2 := HG.out.cell 2
  unfold boxP at f0 f1 f2
  dsimp only [List.getElem?_cons_succ, List.getElem?_cons_zero] at f0 f1 f2
  go_wp2_with fail
  clear f0 f1 f2
  go_loopw [5, 15] (fun u v wr => ∃ r : Nat, ∃ vs, vs = u ∧ r ≤ H ∧ v = .int .i64 ((r : Nat) : Int) ∧ Row wr gb 35 (boxP W H a n c) ∧ wr.ownsRow w.heap.size 21 1 vs (r * (W + 1)) ((lstN (r * (W + 1)) F).map (Value.int .i32)) ∧ Below w.heap.size w wr) (fun _ v _ => H - (RowKit.intOf v).toNat)
  case atStart => exact ⟨0, _, rfl, Nat.zero_le _, rfl, HG.out, by rw [Nat.zero_mul]; exact ⟨rfl, .inl ⟨rfl, rfl⟩⟩, HB.out⟩
  case round =>
    clear HG HB
    obtain ⟨r, vs, rfl, hr, rfl, hg, ho, hb⟩ := hrel
    have HG := Lib.hid hg
    have HO := Lib.hid ho
    have HB := Lib.hid hb
    clear hg ho hb
    by_cases hrH : r < H
    · have hr2 : (r : Int) < (H : Int) := by omega
      have HRH := Lib.hid hrH
      have f0 := HG.out.cell 0
      have f1 := HG.out.cell 1
      have f2 := HG.out.cell 2
      unfold boxP at f0 f1 f2
      dsimp only [List.getElem?_cons_succ, List.getElem?_cons_zero] at f0 f1 f2
      go_wp2_with fail
      clear f0 f1 f2 hr2
      go_loopw [5, 20] (fun u v wr => ∃ i : Nat, ∃ z vs, vs = u ∧ i ≤ W ∧ v = .int .i64 ((i : Nat) : Int) ∧ z = r * (W + 1) + i ∧ Row wr gb 35 (boxP W H a n c) ∧ wr.ownsRow w.heap.size 21 1 vs (z) ((lstN (z) F).map (Value.int .i32)) ∧ Below w.heap.size w wr) (fun _ v _ => W - (RowKit.intOf v).toNat)
      case atStart => exact ⟨0, _, _, rfl, Nat.zero_le _, rfl, rfl, HG.out, HO.out, HB.out⟩
      case round =>
        clear HG HO HB
        obtain ⟨i, z, vs, rfl, hi, rfl, hz, hg, ho, hb⟩ := hrel
        have HZE := Lib.hid hz
        have hzb : z ≤ 1000000 := by
          have h1 : r * (W + 1) ≤ 100 * 101 := Nat.mul_le_mul (by have := HHB.out; have := HRH.out; omega) (by have := HWB.out; omega)
          have := HWB.out
          omega
        have HZB := Lib.hid hzb
        clear hz hzb
        by_cases hiW : i < W
        · have hi2 : (i : Int) < (W : Int) := by omega
          have HIW := Lib.hid hiW
          obtain ⟨q, k, hq, hk, hkn, e1, e2, e3⟩ := draw_nums hiW hrH HN.out HWB.out HHB.out
          obtain ⟨cv, hcv⟩ : ∃ cv, cv = f i r := ⟨_, rfl⟩
          have hcv2 : cv < 2 := by rw [hcv]; exact HF.out _ _
          have hcv2i : (cv : Int) < 2 := by clear e1 e2 e3; omega
          obtain ⟨ab, ao, rfl, hlt, cg⟩ := (HZ.out w (Below.refl _ _)).cells k hkn
          dsimp only at cg
          rw [hk, flat_at hiW hrH, ← hk, ← hcv] at cg
          have HCG : Hid (∀ w2, Below w.heap.size w w2 → w2.cell? ⟨ab, ao + k, none⟩ = some (.int .i64 (cv : Nat))) := Lib.hid (fun w2 h => (h.cell (p := ⟨ab, ao + k, none⟩) hlt).trans cg)
          obtain ⟨rv, hrv⟩ : ∃ rv : Nat, rv = if cv = 1 then 9679 else 183 := ⟨_, rfl⟩
          have HMV : Hid (∀ w2, Below w.heap.size w w2 → w2.cell? ⟨mb, mo + cv, none⟩ = some (.int .i32 (rv : Nat))) := Lib.hid (fun w2 h => HM2.out w2 h cv rv hcv2 hrv)
          have HFZ : Hid (F z = rv) := Lib.hid (by rw [HFE.out, HZE.out, rnN_cell f hiW, hrv, hcv])
          have HZN : Hid (r * (W + 1) + (i + 1) = z + 1) := Lib.hid (by rw [HZE.out]; rfl)
          have hki : (k : Int) < (n : Int) := Int.ofNat_lt.2 hkn
          have hdr : Below wr.heap.size wr wr.drew := (Below.refl _ _).drew
          have HGd := Lib.hid (hg.keep hdr hg.lt)
          have HBd := Lib.hid (hb.trans (hdr.mono hb.size))
          have HOd := Lib.hid (own_keep ho hdr)
          have E3 := Lib.hid e3
          have e1' := wr_same e1
          have e2' := wr_same e2
          clear hg ho hb hk hq hkn hcv hlt cg hrv hiW e3 hdr hi
          go_upto_region 11 with fail
          refine wp_region_noPanic ?_
          refine Rt.region_Cn (Sc2 (fun w2 => w2.cell? ⟨gb, 0, none⟩ = some (.int .i64 W) ∧ w2.cell? ⟨gb, 2, none⟩ = some (.slice (some ⟨ab, ao, none⟩) n c) ∧ w2.cell? ⟨ab, ao + k, none⟩ = some (.int .i64 (cv : Nat)) ∧ w2.cell? ⟨0, 0, none⟩ = some (.slice (some ⟨mb, mo, none⟩) 2 mc) ∧ w2.cell? ⟨mb, mo + cv, none⟩ = some (.int .i32 (rv : Nat))) (fun w2 => True) 999) 17 #[false, false, false, false, false, false, false, false, false, false, false, false, false, false, false, false, false] (by kernel_rfl) (by kernel_rfl) (by kernel_rfl) ?_
          have hS1 : ∀ o, Sc2 (fun w2 => w2.cell? ⟨gb, 0, none⟩ = some (.int .i64 W) ∧ w2.cell? ⟨gb, 2, none⟩ = some (.slice (some ⟨ab, ao, none⟩) n c) ∧ w2.cell? ⟨ab, ao + k, none⟩ = some (.int .i64 (cv : Nat)) ∧ w2.cell? ⟨0, 0, none⟩ = some (.slice (some ⟨mb, mo, none⟩) 2 mc) ∧ w2.cell? ⟨mb, mo + cv, none⟩ = some (.int .i32 (rv : Nat))) (fun w2 => True) 999 o wr.drew := Sc2.of ⟨HGd.out.cell 0, HGd.out.cell 2, HCG.out _ HBd.out, HMK.out _ HBd.out, HMV.out _ HBd.out⟩ trivial
          refine Rt.C_take (none) (i := 0) (oi := _) (v := ?_) rfl (by kernel_rfl) (by kernel_rfl) (by kernel_rfl) (by kernel_rfl) (fun _ _ _ h => h) (Sc2.other (by decide)) (Or.inl ⟨by rfl, ?_⟩) (fun o' _ => hS1 o') ?_
          rotate_left
          · intro w2 hSw
            obtain ⟨s0, s1, s2, s3, s4⟩ := hSw
            go_simp
            try with_reducible rfl
          simp only [Act.put, List.getElem_toArray, List.getElem_cons_succ, List.getElem_cons_zero, List.setIfInBounds_toArray, List.set_cons_zero, List.set_cons_succ]
          refine Rt.C_take (none) (i := 1) (oi := _) (v := ?_) rfl (by kernel_rfl) (by kernel_rfl) (by kernel_rfl) (by kernel_rfl) (fun _ _ _ h => h) (Sc2.other (by decide)) (Or.inl ⟨by rfl, ?_⟩) (fun o' _ => hS1 o') ?_
          rotate_left
          · intro w2 hSw
            obtain ⟨s0, s1, s2, s3, s4⟩ := hSw
            go_simp
            try with_reducible rfl
          simp only [Act.put, List.getElem_toArray, List.getElem_cons_succ, List.getElem_cons_zero, List.setIfInBounds_toArray, List.set_cons_zero, List.set_cons_succ]
          refine Rt.C_take (none) (i := 2) (oi := _) (v := ?_) rfl (by kernel_rfl) (by kernel_rfl) (by kernel_rfl) (by kernel_rfl) (fun _ _ _ h => h) (Sc2.other (by decide)) (Or.inl ⟨by rfl, ?_⟩) (fun o' _ => hS1 o') ?_
          rotate_left
          · intro w2 hSw
            obtain ⟨s0, s1, s2, s3, s4⟩ := hSw
            go_simp
            try with_reducible rfl
          simp only [Act.put, List.getElem_toArray, List.getElem_cons_succ, List.getElem_cons_zero, List.setIfInBounds_toArray, List.set_cons_zero, List.set_cons_succ]
          refine Rt.C_take (none) (i := 3) (oi := _) (v := ?_) rfl (by kernel_rfl) (by kernel_rfl) (by kernel_rfl) (by kernel_rfl) (fun _ _ _ h => h) (Sc2.other (by decide)) (Or.inl ⟨by rfl, ?_⟩) (fun o' _ => hS1 o') ?_
          rotate_left
          · intro w2 hSw
            obtain ⟨s0, s1, s2, s3, s4⟩ := hSw
            go_simp
            try with_reducible rfl
          simp only [Act.put, List.getElem_toArray, List.getElem_cons_succ, List.getElem_cons_zero, List.setIfInBounds_toArray, List.set_cons_zero, List.set_cons_succ]
          refine Rt.C_take (none) (i := 4) (oi := _) (v := ?_) rfl (by kernel_rfl) (by kernel_rfl) (by kernel_rfl) (by kernel_rfl) (fun _ _ _ h => h) (Sc2.other (by decide)) (Or.inl ⟨by rfl, ?_⟩) (fun o' _ => hS1 o') ?_
          rotate_left
          · intro w2 hSw
            obtain ⟨s0, s1, s2, s3, s4⟩ := hSw
            go_simp
            try with_reducible rfl
          simp only [Act.put, List.getElem_toArray, List.getElem_cons_succ, List.getElem_cons_zero, List.setIfInBounds_toArray, List.set_cons_zero, List.set_cons_succ]
          refine Rt.C_take (none) (i := 5) (oi := _) (v := ?_) rfl (by kernel_rfl) (by kernel_rfl) (by kernel_rfl) (by kernel_rfl) (fun _ _ _ h => h) (Sc2.other (by decide)) (Or.inl ⟨by rfl, ?_⟩) (fun o' _ => hS1 o') ?_
          rotate_left
          · intro w2 hSw
            obtain ⟨s0, s1, s2, s3, s4⟩ := hSw
            go_simp
            try with_reducible rfl
          simp only [Act.put, List.getElem_toArray, List.getElem_cons_succ, List.getElem_cons_zero, List.setIfInBounds_toArray, List.set_cons_zero, List.set_cons_succ]
          refine Rt.C_take (none) (i := 6) (oi := _) (v := ?_) rfl (by kernel_rfl) (by kernel_rfl) (by kernel_rfl) (by kernel_rfl) (fun _ _ _ h => h) (Sc2.other (by decide)) (Or.inl ⟨by rfl, ?_⟩) (fun o' _ => hS1 o') ?_
          rotate_left
          · intro w2 hSw
            obtain ⟨s0, s1, s2, s3, s4⟩ := hSw
            go_simp
            try with_reducible rfl
          simp only [Act.put, List.getElem_toArray, List.getElem_cons_succ, List.getElem_cons_zero, List.setIfInBounds_toArray, List.set_cons_zero, List.set_cons_succ]
          refine Rt.C_take (none) (i := 7) (oi := _) (v := ?_) rfl (by kernel_rfl) (by kernel_rfl) (by kernel_rfl) (by kernel_rfl) (fun _ _ _ h => h) (Sc2.other (by decide)) (Or.inl ⟨by rfl, ?_⟩) (fun o' _ => hS1 o') ?_
          rotate_left
          · intro w2 hSw
            obtain ⟨s0, s1, s2, s3, s4⟩ := hSw
            go_simp
            try with_reducible rfl
          simp only [Act.put, List.getElem_toArray, List.getElem_cons_succ, List.getElem_cons_zero, List.setIfInBounds_toArray, List.set_cons_zero, List.set_cons_succ]
          refine Rt.C_take (none) (i := 8) (oi := _) (v := ?_) rfl (by kernel_rfl) (by kernel_rfl) (by kernel_rfl) (by kernel_rfl) (fun _ _ _ h => h) (Sc2.other (by decide)) (Or.inl ⟨by rfl, ?_⟩) (fun o' _ => hS1 o') ?_
          rotate_left
          · intro w2 hSw
            obtain ⟨s0, s1, s2, s3, s4⟩ := hSw
            go_simp
            try with_reducible rfl
          simp only [Act.put, List.getElem_toArray, List.getElem_cons_succ, List.getElem_cons_zero, List.setIfInBounds_toArray, List.set_cons_zero, List.set_cons_succ]
          refine Rt.C_take (none) (i := 9) (oi := _) (v := ?_) rfl (by kernel_rfl) (by kernel_rfl) (by kernel_rfl) (by kernel_rfl) (fun _ _ _ h => h) (Sc2.other (by decide)) (Or.inl ⟨by rfl, ?_⟩) (fun o' _ => hS1 o') ?_
          rotate_left
          · intro w2 hSw
            obtain ⟨s0, s1, s2, s3, s4⟩ := hSw
            go_simp
            try with_reducible rfl
          simp only [Act.put, List.getElem_toArray, List.getElem_cons_succ, List.getElem_cons_zero, List.setIfInBounds_toArray, List.set_cons_zero, List.set_cons_succ]
          refine Rt.C_take (none) (i := 10) (oi := _) (v := ?_) rfl (by kernel_rfl) (by kernel_rfl) (by kernel_rfl) (by kernel_rfl) (fun _ _ _ h => h) (Sc2.other (by decide)) (Or.inl ⟨by rfl, ?_⟩) (fun o' _ => hS1 o') ?_
          rotate_left
          · intro w2 hSw
            obtain ⟨s0, s1, s2, s3, s4⟩ := hSw
            go_simp
            try with_reducible rfl
          simp only [Act.put, List.getElem_toArray, List.getElem_cons_succ, List.getElem_cons_zero, List.setIfInBounds_toArray, List.set_cons_zero, List.set_cons_succ]
          refine Rt.C_take (none) (i := 11) (oi := _) (v := ?_) rfl (by kernel_rfl) (by kernel_rfl) (by kernel_rfl) (by kernel_rfl) (fun _ _ _ h => h) (Sc2.other (by decide)) (Or.inl ⟨by rfl, ?_⟩) (fun o' _ => hS1 o') ?_
          rotate_left
          · intro w2 hSw
            obtain ⟨s0, s1, s2, s3, s4⟩ := hSw
            go_simp
            try with_reducible rfl
          simp only [Act.put, List.getElem_toArray, List.getElem_cons_succ, List.getElem_cons_zero, List.setIfInBounds_toArray, List.set_cons_zero, List.set_cons_succ]
          refine Rt.C_take (none) (i := 12) (oi := _) (v := ?_) rfl (by kernel_rfl) (by kernel_rfl) (by kernel_rfl) (by kernel_rfl) (fun _ _ _ h => h) (Sc2.other (by decide)) (Or.inl ⟨by rfl, ?_⟩) (fun o' _ => hS1 o') ?_
          rotate_left
          · intro w2 hSw
            obtain ⟨s0, s1, s2, s3, s4⟩ := hSw
            go_simp
            try with_reducible rfl
          simp only [Act.put, List.getElem_toArray, List.getElem_cons_succ, List.getElem_cons_zero, List.setIfInBounds_toArray, List.set_cons_zero, List.set_cons_succ]
          refine Rt.C_take (none) (i := 13) (oi := _) (v := ?_) rfl (by kernel_rfl) (by kernel_rfl) (by kernel_rfl) (by kernel_rfl) (fun _ _ _ h => h) (Sc2.other (by decide)) (Or.inl ⟨by rfl, ?_⟩) (fun o' _ => hS1 o') ?_
          rotate_left
          · intro w2 hSw
            obtain ⟨s0, s1, s2, s3, s4⟩ := hSw
            go_simp
            try with_reducible rfl
          simp only [Act.put, List.getElem_toArray, List.getElem_cons_succ, List.getElem_cons_zero, List.setIfInBounds_toArray, List.set_cons_zero, List.set_cons_succ]
          clear hS1
          refine Rt.C_ready (rs := [14]) (by kernel_rfl) (by simp) ?_
          refine Rt.AllC.cons (i := 14) (o := _) rfl (by rfl) (fun K' hK => ?_) ?_
          · skip
            have hnew := row_alloc wr.drew 21 [.int .i32 (rv : Nat)]
            have hbn : Below wr.drew.heap.size wr.drew (wr.drew.alloc (.cells [.int .i32 (rv : Nat)].toArray 21)) := (Below.refl _ _).alloc (Nat.le_refl _) _
            have HGa := Lib.hid (HGd.out.keep hbn HGd.out.lt)
            have HBa := Lib.hid (HBd.out.trans (hbn.mono HBd.out.size))
            have HOa := Lib.hid (own_keep HOd.out hbn)
            have HCEL := Lib.hid (hnew.cell 0)
            clear hnew hbn HGd HBd HOd
            go_simp
            refine hK _ _ (fun o _ => Sc2.of ⟨HGa.out.cell 0, HGa.out.cell 2, HCG.out _ HBa.out, HMK.out _ HBa.out, HMV.out _ HBa.out⟩ trivial o) ?_
            clear hK K'
            simp only [Act.put, List.getElem_toArray, List.getElem_cons_succ, List.getElem_cons_zero, List.setIfInBounds_toArray, List.set_cons_zero, List.set_cons_succ]
            refine Rt.C_ready (rs := [15]) (by kernel_rfl) (by simp) ?_
            refine Rt.AllC.cons (i := 15) (o := _) rfl (by rfl) (fun K' hK => ?_) ?_
            · skip
              refine wp_app_runes _ _ rfl w.heap.size vs z (lstN z F) (by rfl) HOa.out wr.drew.heap.size 0 1 1 [(rv : Int)] (by rfl) rfl ?c1 HZB.out (by decide) (by decide) HBa.out.size ?_
              case c1 =>
                intro j' hj'
                obtain rfl : j' = 0 := by omega
                exact HCEL.out
              intro g7 c7 w7 ho7 hg7
              have HG7 := Lib.hid (row_grown HOa.out hg7 HGa.out (by decide))
              have HB7 := Lib.hid (HBa.out.grown hg7 HBa.out.size (own_low HOa.out))
              have HO7 : Hid (w7.ownsRow w.heap.size 21 1 (.slice (some ⟨g7, 0, none⟩) (z + 1) c7) (z + 1) ((lstN (z + 1) F).map (Value.int .i32))) := Lib.hid (by rw [lstN_succ, HFZ.out]; exact ho7)
              clear ho7 hg7 HGa HBa HOa HCEL
              refine hK _ _ (fun o _ => Sc2.of ⟨HG7.out.cell 0, HG7.out.cell 2, HCG.out _ HB7.out, HMK.out _ HB7.out, HMV.out _ HB7.out⟩ trivial o) ?_
              clear hK K'
              simp only [Act.put, List.getElem_toArray, List.getElem_cons_succ, List.getElem_cons_zero, List.setIfInBounds_toArray, List.set_cons_zero, List.set_cons_succ]
              refine Rt.C_take (none) (i := 16) (oi := _) (v := ?_) rfl (by kernel_rfl) (by kernel_rfl) (by kernel_rfl) (by kernel_rfl) (fun _ _ _ h => h) (Sc2.other (by decide)) (Or.inl ⟨by rfl, ?_⟩) (fun o _ => Sc2.of ⟨HG7.out.cell 0, HG7.out.cell 2, HCG.out _ HB7.out, HMK.out _ HB7.out, HMV.out _ HB7.out⟩ trivial o) ?_
              rotate_left
              · intro w2 hSw
                obtain ⟨s0, s1, s2, s3, s4⟩ := hSw
                go_simp
                try with_reducible rfl
              simp only [Act.put, List.getElem_toArray, List.getElem_cons_succ, List.getElem_cons_zero, List.setIfInBounds_toArray, List.set_cons_zero, List.set_cons_succ]
              refine Rt.C_done (by kernel_rfl) ?_ _
              refine NoPanic.normal ?_
              go_wp2_with fail
              go_roundw
              case rel => exact ⟨i + 1, _, _, rfl, HIW.out, congrArg (Value.int .i64) E3.out, rfl, HG7.out, by rw [HZN.out]; exact HO7.out, HB7.out⟩
              case measure => exact meas E3.out (by have := HIW.out; omega)
            exact Rt.AllC.nil
          exact Rt.AllC.nil
        · obtain rfl : i = W := by omega
          have hnl : ¬ (i : Int) < (i : Int) := by omega
          have HFZ : Hid (F z = 10) := Lib.hid (by rw [HFE.out, HZE.out]; exact rnN_end f)
          have HZN : Hid ((r + 1) * (i + 1) = z + 1) := Lib.hid (by rw [HZE.out, Nat.succ_mul]; omega)
          have hnew := row_alloc wr 21 [.int .i32 10]
          have hbn : Below wr.heap.size wr (wr.alloc (.cells [.int .i32 10].toArray 21)) := (Below.refl _ _).alloc (Nat.le_refl _) _
          have HGa := Lib.hid (hg.keep hbn hg.lt)
          have HBa := Lib.hid (hb.trans (hbn.mono hb.size))
          have HOa := Lib.hid (own_keep ho hbn)
          have HCEL := Lib.hid (hnew.cell 0)
          have E1 : Hid (wrap64 ((r : Int) + 1) = ((r + 1 : Nat) : Int)) := Lib.hid (wr_nat (by push_cast; rfl) (by have := HRH.out; have := HHB.out; omega))
          clear hnew hbn hg hb ho hiW hi
          go_upto_region 14 with (at_builtin; refine Ops.wpList_append1 rfl _ _ 80 rfl w.heap.size 21 i0 (.int .i32 0) 4 Tryd.underlying80 HI0.out HZ0.out rfl HZ1.out HZ2.out _ z _ rfl HOa.out ⟨wr.heap.size, 0, none⟩ 1 (.int .i32 10) rfl HCEL.out rfl ?c1 ?c2 HBa.out.size ?_)
          case c1 => have := HZB.out; unfold maxLen; omega
          case c2 => have := HZB.out; omega
          intro a7 c7 w7 ho7 hg7
          have HG7 := Lib.hid (row_grown HOa.out hg7 HGa.out (by decide))
          have HB7 := Lib.hid (HBa.out.grown hg7 HBa.out.size (own_low HOa.out))
          have HO7 : Hid (w7.ownsRow w.heap.size 21 1 (.slice a7 (z + 1) c7) (z + 1) ((lstN (z + 1) F).map (Value.int .i32))) := Lib.hid (by rw [lstN_succ, HFZ.out, List.map_append]; exact ho7)
          clear ho7 hg7 HGa HBa HOa HCEL
          go_wp2_with fail
          go_roundw
          case rel => exact ⟨r + 1, _, rfl, HRH.out, congrArg (Value.int .i64) E1.out, HG7.out, by rw [HZN.out]; exact HO7.out, HB7.out⟩
          case measure => exact meas E1.out (by have := HRH.out; omega)
    · obtain rfl : r = H := by omega
      have hnl : ¬ (r : Int) < (r : Int) := by omega
      have HRS : Hid (runesBytes (lstN (r * (W + 1)) F) = ⟨(drawS W r f).toArray⟩) := Lib.hid (by rw [HFE.out, runes_eq]; rfl)
      clear hrH hr
      go_wp2_with (refine wpList_runes rfl 80 9 21 _ rfl Tryd.underlying80 Tryd.underlying21 Tryd.underlying9 _ w.heap.size _ _ rfl HO.out ?_)
      rw [HRS.out]
      go_ret2
      exact ⟨rfl, HB.out⟩
end Pw
end Go.Proofs.YtgagophijmiceaaDoor
