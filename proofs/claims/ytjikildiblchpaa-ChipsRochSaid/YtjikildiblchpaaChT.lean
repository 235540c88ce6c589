/- WALK: chips.paths: how far each place is from one; a slice that loses its head and grows at its end. -/
import Derived.Test.YtjikildiblchpaaChB
import Derived.Test.YtjikildiblchpaaChF
import Derived.ArgAppend
import Derived.Deep.LoopGhost
namespace Go.Proofs.Ytjikildiblchpaa
set_option linter.unusedSimpArgs false
set_option linter.unusedVariables false
open Go.RowKit Go.Lib
namespace Ch
open Tld Mem Rt

/-- A slice somewhere within a row of the call's own. -/
structure Tail (w : World) (g off c : Nat) (xs : List Nat) : Prop where
  ex : ∃ cs, Row w g 3 cs ∧ off + c ≤ cs.length ∧ xs.length ≤ c ∧ ∀ j, j < xs.length → cs[off + j]? = some (.int .i64 ((xs.getD j 0 : Nat) : Int))
theorem Tail.lt {w : World} {g off c : Nat} {xs : List Nat} (h : Tail w g off c xs) : g < w.heap.size := by
  obtain ⟨cs, h1, _⟩ := h.ex
  exact h1.lt
theorem Tail.room {w : World} {g off c : Nat} {xs : List Nat} (h : Tail w g off c xs) : xs.length ≤ c := by
  obtain ⟨cs, _, _, h1, _⟩ := h.ex
  exact h1
theorem Tail.cell {w : World} {g off c : Nat} {xs : List Nat} (h : Tail w g off c xs) {j : Nat} (hj : j < xs.length) : w.cell? ⟨g, off + j, none⟩ = some (.int .i64 ((xs.getD j 0 : Nat) : Int)) := by
  obtain ⟨cs, h1, _, _, h2⟩ := h.ex
  rw [h1.cell]; exact h2 j hj
theorem Tail.keep {w w' : World} {g off c B : Nat} {xs : List Nat} (h : Tail w g off c xs) (hb : Below B w w') (hg : g < B) : Tail w' g off c xs := by
  obtain ⟨cs, h1, h2⟩ := h.ex
  exact ⟨⟨cs, h1.keep hb hg, h2⟩⟩
theorem Tail.other {w w' : World} {g off c b : Nat} {xs : List Nat} (h : Tail w g off c xs) (ho : Only b w w') (hg : g ≠ b) : Tail w' g off c xs := by
  obtain ⟨cs, h1, h2⟩ := h.ex
  exact ⟨⟨cs, h1.other ho hg, h2⟩⟩
theorem Tail.pop {w : World} {g off c x : Nat} {xs : List Nat} (h : Tail w g off c (x :: xs)) : Tail w g (off + 1) (c - 1) xs := by
  obtain ⟨cs, h1, h2, h3, h4⟩ := h.ex
  rw [List.length_cons] at h3 h4
  refine ⟨⟨cs, h1, by omega, by omega, fun j hj => ?_⟩⟩
  have := h4 (j + 1) (by omega)
  rw [show off + 1 + j = off + (j + 1) from by omega, this]
  rfl
theorem wpList_app_tail {ops : Array Oper} {rest : List Oper} {o : Oper} {a : Act} {w : World} {Q : Exit → Act → World → Prop} (hgd : o.guard = none) (x y : Operand) (ho : o.op = .call { callee := .builtin .append, args := #[x, y], argTypes := #[25, 25] })
    (g off c n : Nat) (xs : List Nat) (hx : a.eval x = .slice (some ⟨g, off, none⟩) n c) (hn : n = xs.length) (hT : Tail w g off c xs) (ad : Addr) (cy : Nat) (u : Nat) (hy : a.eval y = .slice (some ad) 1 cy) (hu : w.cell? ad = some (.int .i64 (u : Int))) (hl : n ≤ 1000)
    (hK : ∀ g' off' c' w', (g' = g ∨ w.heap.size ≤ g') → Tail w' g' off' c' (xs ++ [u]) → w.grownBy w' (some g) → wpList Try.prog ops Q rest (a.put o.dst (.slice (some ⟨g', off', none⟩) (n + 1) c')) w') :
    wpList Try.prog ops Q (o :: rest) a w := by
  obtain ⟨i0, hI0, hz0, hz1, hz2⟩ := info_parts infoIntN
  subst hn
  obtain ⟨cs, h1, h2, h3, h4⟩ := hT.ex
  have hget : ∀ j, j < xs.length → (xs.map fun k : Nat => Value.int .i64 (k : Int))[j]? = some (.int .i64 ((xs.getD j 0 : Nat) : Int)) := fun j hj => by
    rw [List.getElem?_map, List.getElem?_eq_getElem hj, List.getD_eq_getElem?_getD, List.getElem?_eq_getElem hj]; rfl
  have hmap : (xs.map fun k : Nat => Value.int .i64 (k : Int)) ++ [.int .i64 (u : Int)] = (xs ++ [u]).map fun k : Nat => Value.int .i64 (k : Int) := by rw [List.map_append]; rfl
  have hget2 : ∀ j, j < (xs ++ [u]).length → ((xs ++ [u]).map fun k : Nat => Value.int .i64 (k : Int))[j]? = some (.int .i64 (((xs ++ [u]).getD j 0 : Nat) : Int)) := fun j hj => by
    rw [List.getElem?_map, List.getElem?_eq_getElem hj, List.getD_eq_getElem?_getD, List.getElem?_eq_getElem hj]; rfl
  refine wpList_append_arg w hgd x y 25 ho 3 i0 (.int .i64 0) 1 8 Try.underlying25 hI0 hz0 hz1 hz2 rfl (by decide) g off xs.length c (xs.map fun k : Nat => Value.int .i64 (k : Int)) hx (by simp) (fun j v hj => ?_) ad 1 cy [.int .i64 (u : Int)] hy rfl (fun j v hj => ?_) (fun v hv => by simp at hv; subst hv; rfl) (fun hr j hj => ?_) (by unfold maxLen; omega) (by omega) (fun hr => ?_) (fun hg v' w' ho' hg' => ?_)
  · have hjl : j < xs.length := by
      have := (List.getElem?_eq_some_iff.1 hj).1
      rwa [List.length_map] at this
    rw [hget j hjl] at hj
    rw [h1.cell, h4 j hjl]
    exact hj
  · match j, hj with
    | 0, hj =>
      simp at hj; subst hj
      have : ad.add 0 = ad := by simp [Addr.add]
      rw [this]; exact hu
    | j + 1, hj => simp at hj
  · have hj0 : j = 0 := by simp at hj; omega
    subst hj0
    rw [h1.cell, h1.frozen]
    refine ⟨?_, rfl⟩
    rw [List.getElem?_eq_getElem (by omega)]; rfl
  · refine hK g off c _ (.inl rfl) ⟨⟨cs.set (off + xs.length) (.int .i64 (u : Int)), ?_, by rw [List.length_set]; exact h2, by rw [List.length_append]; exact hr, fun j hj => ?_⟩⟩ ?_
    · have := h1.set (off + xs.length) (.int .i64 (u : Int))
      rw [show off + xs.length * 1 = off + xs.length from by omega]
      exact this
    · rw [List.length_append] at hj
      by_cases e : j = xs.length
      · subst e
        rw [List.getElem?_set_self (by omega), List.getD_eq_getElem?_getD, List.getElem?_append_right (Nat.le_refl _), Nat.sub_self]
        rfl
      · have hjl : j < xs.length := by simp at hj; omega
        rw [List.getElem?_set_ne (by omega), h4 j hjl, List.getD_eq_getElem?_getD, List.getD_eq_getElem?_getD, List.getElem?_append_left hjl]
    · rw [show off + xs.length * 1 = off + xs.length from by omega]
      exact (only_setCell w g (off + xs.length) (.int .i64 (u : Int))).grown
  · rcases ho'.2 with ⟨_, h0⟩ | ⟨g2, cap, cur, rfl, hb2, hc2, hnc, hcm, hcs, htk⟩
    · omega
    · refine hK g2 0 cap w' (.inr hb2) ⟨⟨cur.toList, ?_, by rw [Array.length_toList, hcs]; omega, by rw [List.length_append]; exact hnc, fun j hj => ?_⟩⟩ ⟨hg'.os, hg'.tape, hg'.output, hg'.size, fun k hk hne => hg'.block k hk (by simp)⟩
      · unfold Row; simpa using hc2
      · have hj2 := hj
        rw [List.length_append] at hj2
        have hj3 : j < xs.length + 1 := hj2
        rw [hmap] at htk
        rw [Nat.zero_add, ← hget2 j hj, ← htk, List.getElem?_take_of_lt (by omega)]

theorem tail_one {w : World} {g a : Nat} (h : Row w g 3 [.int .i64 (a : Int)]) : Tail w g 0 1 [a] := by
  refine ⟨⟨_, h, Nat.le_refl _, Nat.le_refl _, fun j hj => ?_⟩⟩
  obtain rfl : j = 0 := Nat.lt_one_iff.1 hj
  rfl
theorem vec_grown {w w' : World} {b g P : Nat} {F : Nat → Int} (h : Vec w b P F) (hg : w.grownBy w' (some g)) (hne : b ≠ g) : Vec w' b P F := by
  obtain ⟨cs, hr, hc⟩ := h.row
  exact ⟨⟨cs, (hg.block b hr.lt (fun e => hne (by first | exact (Option.some.inj e).symm | exact Option.some.inj e))).trans hr, hc⟩⟩
set_option maxHeartbeats 8000000 in
set_option maxRecDepth 1000000 in
theorem paths_any (P : Nat) (E : Nat → Nat → Nat) (Dg : Nat → Nat) (bn a : Nat) (w0 w : World) (hN : Net w0 bn P E Dg) (hB : Below w0.heap.size w0 w) (hG : Gr P E) (ha : a < P) (hE : ∀ k o, k < P → o < P → E k o ≤ 4000) :
    Calls Try.prog 37 #[.pointer (some ⟨bn, 0, none⟩), .int .i64 (a : Int)] w fun e w' => ∃ (b : Nat) (d : Nat → Nat), e = .returned (.slice (some ⟨b, 0, none⟩) P P) ∧ w.heap.size ≤ b ∧ Vec w' b P (fun k => (d k : Int)) ∧ (∀ k, k < P → d k < P) ∧ FarOk P E a d ∧ Below w.heap.size w w' := by
  obtain ⟨i0, hI0, hz0, hz1, hz2⟩ := info_parts infoIntN
  have hP := hG.p10
  have HG := Lib.hid hG
  have HN := Lib.hid hN
  have HB0 := Lib.hid hB
  have HE := Lib.hid hE
  obtain ⟨be, ce, bk, n1, n2, n3, n4⟩ := net_read hN hB
  clear hN hB hG hE n2 n3 n4
  go_enter Try.func37, Try.ntmps37
  go_upto_region 2 with (refine Ops.wpList_make rfl 25 _ _ rfl 3 i0 (.int .i64 0) Try.underlying25 hI0 hz0 rfl hz1 (by rw [hz2]; decide) P rfl rfl (by omega) ?_; intro bf w1 hbf hb1 hvf)
  have HV := Lib.hid (row_made hvf)
  have HB1 := Lib.hid hb1
  clear n1 bk hvf hb1
  go_wp2_with fail
  go_loopw [18] (fun z wr => ∃ k : Nat, k ≤ P ∧ z = .int .i64 (k : Int) ∧ Vec wr bf P (fun j => if j < k then -1 else 0) ∧ Below w.heap.size w wr) (fun z _ => P - (intOf z).toNat)
  case atStart => exact ⟨0, Nat.zero_le _, rfl, HV.out.congr fun j hj => by rw [if_neg (Nat.not_lt_zero _)], HB1.out⟩
  case round =>
    clear HV HB1
    obtain ⟨k, hkP, rfl, hv, hb⟩ := hrel
    have HV := Lib.hid hv
    have HB := Lib.hid hb
    clear hv hb
    by_cases hk : k < P
    · have hk2 : (k : Int) < (P : Int) := by omega
      have c1 := HV.out.cell hk
      have z1 := HV.out.frozen k
      have o1 := only_setCell wr bf k (.int .i64 (-1))
      have HB2 := Lib.hid (HB.out.trans (o1.below hbf))
      have HV2 := Lib.hid ((HV.out.set hk (-1)).congr (G := fun j => if j < k + 1 then -1 else 0) fun j hj => by
        by_cases e : j = k
        · rw [e, upd_at, if_pos (by omega)]
        · rw [upd_no e]
          by_cases e2 : j < k
          · rw [if_pos e2, if_pos (by omega)]
          · rw [if_neg e2, if_neg (by omega)])
      clear o1
      go_wp2_with fail
      go_roundw
      case rel => exact ⟨k + 1, by omega, by go_num, HV2.out, HB2.out⟩
      case measure => simp [intOf]; omega
    · obtain rfl : k = P := by omega
      have ha2 : (a : Int) < (k : Int) := by omega
      have c1 := HV.out.cell ha
      have z1 := HV.out.frozen a
      have o1 := only_setCell wr bf a (.int .i64 0)
      have HB2 := Lib.hid (HB.out.trans (o1.below hbf))
      have HV2 := Lib.hid ((HV.out.set ha 0).congr (G := updZ (fun _ => -1) a 0) fun j hj => by
        by_cases e : j = a
        · rw [e, upd_at, updZ_at]
        · rw [upd_no e, updZ_no e, if_pos hj])
      clear o1
      go_upto_region 8 with fail
      clear c1 z1 HV HB
      generalize wr.setCell ⟨bf, a, none⟩ (.int .i64 0) = w2 at *
      have hr := row_alloc w2 3 [.int .i64 (a : Int)]
      have hbn : Below w2.heap.size w2 (w2.alloc (.cells [.int .i64 (a : Int)].toArray 3)) := (Below.refl _ _).alloc (Nat.le_refl _) _
      have HT : Hid (Tail (w2.alloc (.cells [.int .i64 (a : Int)].toArray 3)) w2.heap.size 0 1 [a]) := tail_one hr
      have HV3 := Lib.hid (HV2.out.keep hbn HV2.out.lt)
      have HB3 := Lib.hid (HB2.out.trans (hbn.mono HB2.out.size))
      have hg0 : w.heap.size ≤ w2.heap.size := HB2.out.size
      have hgf : bf ≠ w2.heap.size := by have := HV2.out.lt; omega
      have HS : Hid (Bf k E a (updZ (fun _ => -1) a 0) [a] 0) := Bf.start ha
      clear hr hbn HV2 HB2
      go_upto_region 9 with fail
      generalize w2.alloc (.cells [.int .i64 (a : Int)].toArray 3) = w3 at *
      generalize w2.heap.size = g0 at *
      go_loopg [7] (2 * k + 10) (fun gg z wr => ∃ (far : Nat → Int) (Q : List Nat) (ao : Option Addr) (c n : Nat), z = .slice ao n c ∧ n = Q.length ∧ (Q ≠ [] → ∃ g off, ao = some ⟨g, off, none⟩ ∧ Tail wr g off c Q ∧ bf ≠ g ∧ w.heap.size ≤ g) ∧ Bf k E a far Q 0 ∧ Vec wr bf k far ∧ Below w.heap.size w wr ∧ 2 * (k - cntF k far) + n ≤ gg)
      case atStart => exact ⟨_, [a], _, 1, 1, rfl, rfl, fun _ => ⟨g0, 0, rfl, HT.out, hgf, hg0⟩, HS.out, HV3.out, HB3.out, by omega⟩
      case round =>
        clear HT HV3 HB3 HS hg0 hgf
        obtain ⟨far, Q, ao, c, n, rfl, hn, hT, hS, hv, hb, hgk⟩ := hrel
        cases Q with
        | nil =>
          obtain rfl : n = 0 := hn
          obtain ⟨d, hd, hfo⟩ := hS.fin HG.out ha
          have HX : Hid (Vec wr bf k fun j => (d j : Int)) := hv.congr fun j hj => (hd j hj).1
          have HFO := Lib.hid hfo
          have HD : Hid (∀ j, j < k → d j < k) := fun j hj => (hd j hj).2
          have HB := Lib.hid hb
          clear hT hS hv hb hgk hd hfo
          go_wp2_with fail
          go_ret
          exact ⟨bf, d, rfl, hbf, HX.out, HD.out, HFO.out, HB.out⟩
        | cons h q =>
          obtain ⟨g, off, rfl, hT2, hgf, hgw⟩ := hT (by simp)
          have HS := Lib.hid hS
          have HV := Lib.hid hv
          have HB := Lib.hid hb
          have HT := Lib.hid hT2
          have hnl : n = q.length + 1 := hn
          have hhP : h < k := (hS.inQ h (List.mem_cons_self ..)).1
          have t1 := hT2.cell (j := 0) (by simp)
          have t2 : (h :: q).getD 0 0 = h := rfl
          rw [t2, Nat.add_zero] at t1
          have HBW := Lib.hid (HB0.out.trans (hb.mono HB0.out.size))
          obtain ⟨be, ce, bk, n1, n2, n3, n4⟩ := net_read HN.out HBW.out
          have r1 := n2 h hhP
          have HR3 := Lib.hid (n3 h hhP)
          have hbk := n4 h hhP
          have hh2 : (h : Int) < (k : Int) := by omega
          have hn0 : (0 : Int) < (n : Int) := by omega
          have hlen := hS.len
          have hcl := cntF_le (P := k) (far := far)
          have HGK := Lib.hid hgk
          clear hT hT2 hS hv hb hgk n2 n3 n4 t2
          obtain ⟨bkk, hbkk⟩ : ∃ b, b = bk h := ⟨_, rfl⟩
          rw [← hbkk] at r1 HR3 hbk
          clear hbkk
          go_upto_region 11 with fail
          go_big_quiet (fail)
          have HT2 : Hid (Tail (wr.drewN nq) g off c (h :: q)) := ⟨HT.out.ex⟩
          have HV2 := Lib.hid (HV.out.drewN nq)
          have HB2 := Lib.hid (below_drewN HB.out nq)
          have HR4 : Hid (∀ o, o < k → (wr.drewN nq).cell? ⟨bkk, o, none⟩ = some (.int .i64 (E h o : Int))) := HR3.out
          have HB3 : Hid (Below w0.heap.size w0 (wr.drewN nq)) := below_drewN HBW.out nq
          clear HT HV HB HR3 HBW n1 r1 t1
          generalize wr.drewN nq = wo at *
          have hbo : bkk < w.heap.size := Nat.lt_of_lt_of_le hbk HB0.out.size
          have HS1 : Hid (n = (h :: q).length) := hn
          clear hn hnl hn0 hlen
          go_wp2_with fail
          go_loopw [7, 45] (fun y z wr => ∃ (far : Nat → Int) (q : List Nat) (g off c n o : Nat), o ≤ k ∧ z = .int .i64 (o : Int) ∧ y = .slice (some ⟨g, off, none⟩) n c ∧ n = q.length + 1 ∧ Tail wr g off c (h :: q) ∧ bf ≠ g ∧ w.heap.size ≤ g ∧ Bf k E a far (h :: q) o ∧ Vec wr bf k far ∧ Below w.heap.size w wr ∧ 2 * (k - cntF k far) + n ≤ gk) (fun _ z _ => k - (intOf z).toNat)
          case atStart => exact ⟨far, q, g, off, c, n, 0, Nat.zero_le _, rfl, rfl, HS1.out, HT2.out, hgf, hgw, HS.out, HV2.out, HB2.out, HGK.out⟩
          case round =>
            have HR4 : Hid (∀ o, o < k → wo.cell? ⟨bkk, o, none⟩ = some (.int .i64 (E h o : Int))) := HR4
            have HWO := Lib.hid HB2.out.size
            have HBO := Lib.hid HB2.out
            clear HS HV2 HB2 HT2 HGK hgf hgw HS1
            clear hcl
            obtain ⟨far, q, g, off, c, n, o, hok, rfl, rfl, hn, hT, hgf, hgw, hS, hv, hb, hgk⟩ := hrel
            have HS := Lib.hid hS
            have HV := Lib.hid hv
            have HB := Lib.hid hb
            have HT := Lib.hid hT
            have HGK := Lib.hid hgk
            have HNN := Lib.hid hn
            have hn0 : (0 : Int) < (n : Int) := by omega
            have hlen := hS.len
            have hfew := hS.few h hhP
            have hin := (hS.inQ h (List.mem_cons_self ..)).2
            have hcl := cntF_le (P := k) (far := far)
            have t1 := hT.cell (j := 0) (by simp)
            have t2 : (h :: q).getD 0 0 = h := rfl
            rw [t2, Nat.add_zero] at t1
            have hroom := hT.room
            rw [List.length_cons] at hroom hlen
            have hn9 : n ≤ 1000 := by omega
            have hn1 : 1 ≤ n := by omega
            have hnc : n ≤ c := by omega
            clear hS hv hb hT hgk t2 hn hroom hlen
            by_cases ho : o < k
            · have ho2 : (o : Int) < (k : Int) := by omega
              have e1 : wr.cell? ⟨bkk, o, none⟩ = some (.int .i64 (E h o : Int)) := by
                rw [World.cell?_of_block ((HB.out.block bkk hbo).trans (HBO.out.block bkk hbo).symm)]
                exact HR4.out o ho
              have c1 := HV.out.cell ho
              have c2 := HV.out.cell hhP
              have z1 := HV.out.frozen o
              have HSK : Hid ((0 < E h o → 0 ≤ far o) → Bf k E a far (h :: q) (o + 1)) := fun hx => HS.out.skip hx
              have HNW : Hid (0 < E h o → far o < 0 → Bf k E a (updZ far o (far h + 1)) (h :: q ++ [o]) (o + 1)) := fun h1 h2 => HS.out.new HG.out.sym ho h1 h2
              have hx4 := HE.out h o hhP ho
              have HCA : Hid (far o < 0 → cntF k (updZ far o (far h + 1)) = cntF k far + 1) := fun hf => cntF_add ho hf (by omega)
              obtain ⟨x, hx⟩ : ∃ x, x = E h o := ⟨_, rfl⟩
              rw [← hx] at e1 HSK HNW hx4
              clear hx
              obtain ⟨fo, hfo⟩ : ∃ z, z = far o := ⟨_, rfl⟩
              have HFO := Lib.hid hfo
              rw [← hfo] at c1 HSK HNW HCA
              obtain ⟨fh, hfh⟩ : ∃ z, z = far h := ⟨_, rfl⟩
              have HFH := Lib.hid hfh
              rw [← hfh] at c2 hfew hin HNW HCA
              clear hfo hfh
              have hfb : fh ≤ 10 := by omega
              by_cases hx0 : x = 0
              · have g1 : ¬ (0 : Int) < (x : Int) := by omega
                have HS2 := Lib.hid (HSK.out fun h => by omega)
                clear hx0
                go_wp2_with fail
                go_roundw
                case rel => exact ⟨far, q, g, off, c, n, o + 1, by omega, by go_num, rfl, HNN.out, HT.out, hgf, hgw, HS2.out, HV.out, HB.out, HGK.out⟩
                case measure => simp [intOf]; omega
              have g1 : (0 : Int) < (x : Int) := by omega
              by_cases hf : fo < 0
              · have HS2 := Lib.hid (HNW.out (by omega) hf)
                have hca := HCA.out hf
                have hcl2 := cntF_le (P := k) (far := updZ far o (fh + 1))
                rw [hca] at hcl2
                have o1 := only_setCell wr bf o (.int .i64 (fh + 1))
                have HV2 := Lib.hid ((HV.out.set ho (fh + 1)).congr (G := updZ far o (fh + 1)) fun j hj => rfl)
                have HT2 := Lib.hid (HT.out.other o1 (Ne.symm hgf))
                have HB2 := Lib.hid (HB.out.trans (o1.below hbf))
                have hf1 : fh + 1 ≤ 9223372036854775807 := by omega
                have hf2 : (-9223372036854775808 : Int) ≤ fh + 1 := by omega
                clear o1 HSK HNW HCA
                go_upto_region 16 with fail
                clear e1 c1 c2 z1 t1 HV HT HB
                generalize wr.setCell ⟨bf, o, none⟩ (.int .i64 (fh + 1)) = w5 at *
                have hrr := row_alloc w5 3 [.int .i64 (o : Int)]
                have hbn : Below w5.heap.size w5 (w5.alloc (.cells [.int .i64 (o : Int)].toArray 3)) := (Below.refl _ _).alloc (Nat.le_refl _) _
                have HT3 := Lib.hid (HT2.out.keep hbn HT2.out.lt)
                have HV3 := Lib.hid (HV2.out.keep hbn HV2.out.lt)
                have HB3' := Lib.hid (HB2.out.trans (hbn.mono HB2.out.size))
                have HCEL := Lib.hid (hrr.cell 0)
                have hbw5 : bf < w5.heap.size := HV2.out.lt
                have HSZ : Hid (w5.heap.size ≤ (w5.alloc (.cells [.int .i64 (o : Int)].toArray 3)).heap.size) := hbn.size
                have HSW : Hid (w.heap.size ≤ w5.heap.size) := HB2.out.size
                clear hrr hbn HT2 HV2 HB2
                go_wp2_with (at_builtin; refine wpList_app_tail rfl _ _ rfl g off c n (h :: q) rfl HNN.out HT3.out ⟨w5.heap.size, 0, none⟩ 1 o rfl HCEL.out hn9 ?_; intro g' off' c' w6 hg' hT' hgr)
                have HV4 := Lib.hid (vec_grown HV3.out hgr hgf)
                have HB4 := Lib.hid (HB3'.out.grown hgr HB3'.out.size (fun k hk => by cases hk; exact hgw))
                have HT4 := Lib.hid hT'
                have hgf' : bf ≠ g' := by
                  have := HSZ.out
                  rcases hg' with e | e
                  · rw [e]; exact hgf
                  · omega
                have hgw' : w.heap.size ≤ g' := by
                  have := HSZ.out
                  have := HSW.out
                  rcases hg' with e | e
                  · rw [e]; exact hgw
                  · omega
                clear HT3 HV3 HB3' HCEL HSZ HSW hg' hT' hgr
                go_wp2_with fail
                go_roundw
                case rel => exact ⟨updZ far o (fh + 1), q ++ [o], g', off', c', n + 1, o + 1, by omega, by go_num, rfl, by rw [List.length_append, HNN.out]; rfl, HT4.out, hgf', hgw', HS2.out, HV4.out, HB4.out, by rw [hca]; have := HGK.out; omega⟩
                case measure => simp [intOf]; omega
              · have HS2 := Lib.hid (HSK.out fun _ => by omega)
                go_wp2_with fail
                go_roundw
                case rel => exact ⟨far, q, g, off, c, n, o + 1, by omega, by go_num, rfl, HNN.out, HT.out, hgf, hgw, HS2.out, HV.out, HB.out, HGK.out⟩
                case measure => simp [intOf]; omega
            · obtain rfl : o = k := by omega
              have HS2 := Lib.hid HS.out.pop
              have HT2 := Lib.hid HT.out.pop
              have HQL : Hid (n - 1 = q.length) := by have := HNN.out; show _ = _; omega
              have HQE : Hid (q ≠ [] → c ≠ 1) := fun hq hc => by
                have := HNN.out
                cases q with
                | nil => exact hq rfl
                | cons x r => rw [List.length_cons] at this; omega
              have hn2 : (1 : Int) ≤ (n : Int) := by omega
              by_cases hc1 : c = 1
              · have HQ0 : Hid (q = []) := Classical.byContradiction fun h => HQE.out h hc1
                go_wp2_with fail
                go_roundg (2 * (o - cntF o far) + (n - 1))
                case measure => have := HGK.out; omega
                case rel => exact ⟨far, q, _, _, n - 1, rfl, HQL.out, fun h => absurd HQ0.out h, HS2.out, HV.out, HB.out, Nat.le_refl _⟩
              · go_wp2_with fail
                all_goals try (exfalso; omega)
                go_roundg (2 * (o - cntF o far) + (n - 1))
                case measure => have := HGK.out; omega
                case rel => exact ⟨far, q, _, _, n - 1, rfl, HQL.out, fun _ => ⟨g, off + 1, rfl, HT2.out, hgf, hgw⟩, HS2.out, HV.out, HB.out, Nat.le_refl _⟩
end Ch
end Go.Proofs.Ytjikildiblchpaa
