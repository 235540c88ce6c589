/- WALK: edenref2.Size, edenref1.Window, Same; edenref2.Compose, Widen: one rule of two, another radius, by the document. -/
import Derived.Test.YtgefikkklbjcbaaDoorLnA
import Derived.Test.YtgefikkklbjcbaaDoorLnCW
import Derived.Deep.RegionLaw
namespace Go.Proofs.YtgefikkklbjcbaaDoor
set_option linter.unusedSimpArgs false
set_option linter.unusedVariables false
open Go.RowKit
namespace Ln
open Tld Mem

theorem step_append1 {P : Program} {ops : Array Oper} {o : Oper} {a : Act} {w : World} {K : Act → World → Prop} {Q : Exit → Act → World → Prop} {E : Prop} (hgd : o.guard = none) (x y : Operand) (t : TypeId)
    (ho : o.op = .call { callee := .builtin .append, args := #[x, y], argTypes := #[t, t] })
    (B : Nat) (e : TypeId) (i : TypeInfo) (z : Value) (bytes : Nat) (ht : P.underlying t = some (.slice e)) (hi : P.info? e = some i) (hz : i.zero = some z) (hz1 : z.cells.size = 1) (hsize : i.size = 1) (hby : i.bytes = bytes)
    (v : Value) (n : Nat) (xs : List Value) (hs : a.eval x = v) (hown : w.ownsRow B e 1 v n xs) (ad : Addr) (c : Nat) (u : Value) (hy : a.eval y = .slice (some ad) 1 c) (hu : w.cell? ad = some u) (h1 : u.oneCell' = true)
    (h63 : n + 1 ≤ maxLen) (hbytes : (n + 1) * bytes ≤ 140737488355328) (hB : B ≤ w.heap.size)
    (hK : ∀ ao co w', w'.ownsRow B e 1 (.slice ao (n + 1) co) (n + 1) (xs ++ [u]) → w.grownBy w' v.ownBlock → K (a.put o.dst (.slice ao (n + 1) co)) w') :
    if Region.wanted o (yielded ops a.tmps) = true then Oper.wp P o a w K Q else E := by
  have hw : Region.wanted o (yielded ops a.tmps) = true := by simp [Region.wanted, hgd]
  rw [if_pos hw]
  refine wp_append_own w x y t ho B e i z 1 bytes ht hi hz hsize hby hz1 (by decide) v n xs hs hown ad 1 c [u] hy rfl (fun j q hj => ?_) (fun q hq => by simp at hq; subst hq; exact h1) h63 hbytes hB fun v' w' ho' hg _ => ?_
  · match j, hj with
    | 0, hj =>
      simp at hj; subst hj
      have : ad.add 0 = ad := by simp [Addr.add]
      rw [this]; exact hu
    | j + 1, hj => simp at hj
  · rcases ho'.2 with ⟨_, h0⟩ | ⟨g, cap, cur, hv, _⟩
    · omega
    · subst hv
      exact hK _ _ _ ho' hg
/-- What edenref2.Size gives. -/
def s5 (st r : Nat) : Nat := if 4096 < st ^ (2 * r + 1) then 5000 else st ^ (2 * r + 1)
set_option maxHeartbeats 1000000 in
theorem size2_any {st r : Nat} (h2 : 2 ≤ st) (h4 : st ≤ 4) (hr : r ≤ 10000) (w : World) : Calls Tryd.prog 16 #[.int .i64 st, .int .i64 r] w fun e w' => e = .returned (.int .i64 (s5 st r : Nat)) ∧ w' = w := by
  go_enter Tryd.func16, Tryd.ntmps16
  go_wp2_with fail
  go_loop [5, 6] (fun u v => ∃ i : Nat, i ≤ r ∧ v = .int .i64 i ∧ u = .int .i64 (st ^ (2 * i + 1) : Nat) ∧ st ^ (2 * i + 1) ≤ 4096) (fun _ v => r - (intOf v).toNat)
  case atStart => exact ⟨0, Nat.zero_le _, rfl, by simp, by simp; omega⟩
  case round =>
    obtain ⟨i, hi, rfl, rfl, hle⟩ := hrel
    by_cases hlt : i < r
    · have HN : Hid (st ^ (2 * (i + 1) + 1) = st ^ (2 * i + 1) * st * st) := by
        show st ^ (2 * (i + 1) + 1) = _
        rw [show 2 * (i + 1) + 1 = (2 * i + 1) + 1 + 1 from by omega, Nat.pow_succ, Nat.pow_succ]
      have HS : Hid (4096 < st ^ (2 * (i + 1) + 1) → s5 st r = 5000) := fun h => by
        have := Nat.pow_le_pow_right (n := st) (show 0 < st by omega) (show 2 * (i + 1) + 1 ≤ 2 * r + 1 by omega)
        unfold s5
        rw [if_pos (by omega)]
      have hm1 : st ^ (2 * i + 1) * st ≤ 4096 * 4 := Nat.mul_le_mul hle h4
      have hm2 : st ^ (2 * i + 1) * st * st ≤ 4096 * 4 * 4 := Nat.mul_le_mul hm1 h4
      generalize hq : st ^ (2 * (i + 1) + 1) = q at *
      have HQ := Lib.hid hq
      clear hq
      generalize st ^ (2 * i + 1) = p at *
      obtain ⟨pr, hpr⟩ : ∃ pr, pr = p * st := ⟨_, rfl⟩
      have hw1 : IntKind.i64.wrap ((p : Int) * (st : Int)) = (pr : Int) := by
        rw [show ((p : Int) * (st : Int)) = ((p * st : Nat) : Int) from by push_cast; rfl, ← hpr, IntKind.wrap_i64]; omega
      rw [← hpr] at HN hm2
      have hw2 : IntKind.i64.wrap ((pr : Int) * (st : Int)) = (q : Int) := by
        rw [HN.out, show ((pr : Int) * (st : Int)) = ((pr * st : Nat) : Int) from by push_cast; rfl, IntKind.wrap_i64]; omega
      have hq2 : q ≤ 65536 := by rw [HN.out]; omega
      clear hm1 hm2 hpr
      by_cases hp : 4096 < q
      · go_wp2_with fail
        go_ret
        exact ⟨congrArg (fun z : Nat => Ending.returned (.int .i64 z)) (HS.out hp).symm, rfl⟩
      · go_wp2_with fail
        go_round
        case rel => exact ⟨i + 1, by omega, by go_num, by rw [HQ.out], by rw [HQ.out]; omega⟩
        case measure => simp [intOf]; omega
    · have e : i = r := by omega
      subst e
      have HE : Hid (s5 st i = st ^ (2 * i + 1)) := by
        show s5 st i = _
        unfold s5
        rw [if_neg (by omega)]
      generalize st ^ (2 * i + 1) = p at *
      go_wp2_with fail
      go_ret
      exact ⟨congrArg (fun z : Nat => Ending.returned (.int .i64 z)) HE.out.symm, rfl⟩
set_option maxHeartbeats 8000000 in
set_option maxRecDepth 1000000 in
theorem window_any {st n i : Nat} (h2 : 2 ≤ st) (h4 : st ≤ 4) (hn : n ≤ 100) (hi4 : i ≤ 100000) (w : World) : Calls Tryd.prog 36 #[.int .i64 st, .int .i64 n, .int .i64 i] w fun e w' => (∃ g, e = .returned (.slice (some ⟨g, 0, none⟩) n n) ∧ Ints.Is w' (some ⟨g, 0, none⟩) n (lst n (dig st n i))) ∧ Below w.heap.size w w' := by
  obtain ⟨i0, hI0, hz0, hz1, hz2⟩ := info_parts infoIntN
  have HI0 := Lib.hid hI0
  have HZ0 := Lib.hid hz0
  have HZ1 := Lib.hid hz1
  have HZ2 := Lib.hid hz2
  clear hI0 hz0 hz1 hz2
  have hst0 : ((st : Int) == 0) = false := by rw [beq_eq_false_iff_ne]; omega
  go_enter Tryd.func36, Tryd.ntmps36
  go_wp2_with (refine Ops.wpList_make rfl 22 _ _ rfl 3 i0 (.int .i64 0) Tryd.underlying22 HI0.out HZ0.out rfl HZ1.out (by rw [HZ2.out]; decide) n rfl rfl (by omega) ?_; intro gw w1 hgw hb1 hRw)
  obtain ⟨ws, hws⟩ : ∃ ws : List Int, ws = List.replicate n 0 := ⟨_, rfl⟩
  have hwl : ws.length = n := by rw [hws]; simp
  have HW : Hid (Row w1 gw 3 ((endI (dig st n i) ws n n).map (Value.int .i64))) := by
    show Row w1 gw 3 _
    rw [show endI (dig st n i) ws n n = ws from by rw [← hwl]; exact endI_all _ _, hws, List.map_replicate]; exact hRw
  have HB := Lib.hid hb1
  have HG : Hid (w.heap.size ≤ gw) := hgw
  clear hRw hb1 hgw hws hwl
  obtain ⟨wo, rfl⟩ : ∃ wo : World, wo = w1 := ⟨_, rfl⟩
  go_loopw [2, 8] (fun u v wr => ∃ k : Nat, k ≤ n ∧ v = .int .i64 ((k : Int) - 1) ∧ u = .int .i64 ((i / st ^ (n - k) : Nat) : Int) ∧ Row wr gw 3 ((endI (dig st n i) ws n k).map (Value.int .i64)) ∧ Only gw wo wr) (fun _ v _ => (intOf v + 1).toNat)
  case atStart => exact ⟨n, Nat.le_refl _, rfl, by rw [Nat.sub_self, Nat.pow_zero, Nat.div_one], HW.out, Only.refl _ _⟩
  case round =>
    clear HW
    obtain ⟨k, hk, rfl, rfl, hW, ho⟩ := hrel
    have HW := Lib.hid hW
    have HO := Lib.hid ho
    clear hW ho
    by_cases hk0 : 0 < k
    · obtain ⟨j, rfl⟩ : ∃ j, k = j + 1 := ⟨k - 1, by omega⟩
      have hji : ((j + 1 : Nat) : Int) - 1 = (j : Int) := by omega
      rw [hji]
      have hjw : j < n := by omega
      have hqm : ((i / st ^ (n - (j + 1)) : Nat) : Int).tmod (st : Int) = ((dig st n i j : Nat) : Int) := by
        rw [show dig st n i j = i / st ^ (n - (j + 1)) % st from by unfold dig; rw [show n - 1 - j = n - (j + 1) from by omega]]
        exact Int.ofNat_tmod _ _
      have hqd : ((i / st ^ (n - (j + 1)) : Nat) : Int).tdiv (st : Int) = ((i / st ^ (n - j) : Nat) : Int) := by
        rw [show i / st ^ (n - j) = i / st ^ (n - (j + 1)) / st from by rw [Nat.div_div_eq_div_mul, ← Nat.pow_succ]; congr 2; omega]
        exact Int.ofNat_tdiv _ _
      have hq4 : i / st ^ (n - (j + 1)) ≤ i := Nat.div_le_self _ _
      have hq5 : i / st ^ (n - j) ≤ i := Nat.div_le_self _ _
      have hcell := (HW.out.cell j).trans (show ((endI (dig st n i) ws n (j + 1)).map (Value.int .i64))[j]? = some (.int .i64 (ws.getD j 0)) by rw [List.getElem?_map, endI_get _ _ hjw, if_pos (by omega)]; rfl)
      have hfrz := HW.out.frozen j
      have hset := HW.out.set j (.int .i64 ((dig st n i j : Nat) : Int))
      rw [set_mapI, endI_next _ _ hjw] at hset
      have HSET := Lib.hid hset
      have HO2 := Lib.hid (HO.out.trans (only_setCell wr gw j (.int .i64 ((dig st n i j : Nat) : Int))))
      clear hset HW HO
      generalize ws.getD j 0 = old at *
      generalize hdg : dig st n i j = dg at *
      clear hdg
      generalize i / st ^ (n - (j + 1)) = qn at *
      generalize hq2 : i / st ^ (n - j) = qn2 at *
      have HQ2 := Lib.hid hq2
      clear hq2
      go_wp2_with fail
      exact ⟨⟨j, by omega, by first | rfl | simp, by rw [HQ2.out], HSET.out, HO2.out⟩, by simp [intOf]⟩
    · obtain rfl : k = 0 := by omega
      rw [endI_zero] at HW
      have HI := Lib.hid (row_isN HW.out lst_len (by unfold maxLen; omega))
      have HB2 := Lib.hid (HB.out.trans (HO.out.below HG.out))
      go_wp2_with fail
      go_ret
      exact ⟨⟨gw, rfl, HI.out⟩, HB2.out⟩
theorem ints_eq (a b : Option Addr) (n m c d : Nat) (xs ys : List Int) (w : World) (hx : Ints.Is w a n xs) (hy : Ints.Is w b m ys) (e : xs = ys) :
    Calls Tryd.prog 9 #[.slice a n c, .slice b m d] w fun e w' => e = .returned (.bool true) ∧ Below w.heap.size w w' := by
  have h := Ints.ints_any a b n m c d xs ys w hx hy
  rw [decide_eq_true e] at h
  exact h
set_option maxHeartbeats 8000000 in
set_option maxRecDepth 1000000 in
theorem same2_any (K B S st ra : Int) (ta tb : Option Addr) (tn tc tm td : Nat) (tz : List Int) (tu : ByteArray) (w : World) (hT : Ints.Is w ta tn tz) (hT' : Ints.Is w tb tm tz) :
    Calls Tryd.prog 18 #[.agg #[.int .i64 K, .int .i64 B, .int .i64 S, .int .i64 st, .int .i64 ra, .slice ta tn tc, .string tu], .agg #[.int .i64 K, .int .i64 B, .int .i64 S, .int .i64 st, .int .i64 ra, .slice tb tm td, .string tu]] w fun e w' => e = .returned (.bool true) ∧ Below w.heap.size w w' := by
  have HT := Lib.hid hT
  have HT' := Lib.hid hT'
  clear hT hT'
  have e1 : ∀ z : Int, (z != z) = false := fun z => by rw [bne_self_eq_false]
  go_enter Tryd.func18, Tryd.ntmps18
  go_upto_region 1 with fail
  obtain ⟨hR2, hR3, hB⟩ := two_new w 24 24 (rulL K B S st ra ta tn tc tu) (rulL K B S st ra tb tm td tu)
  have HR2 : Hid (Row ((w.alloc (.cells #[.int .i64 K, .int .i64 B, .int .i64 S, .int .i64 st, .int .i64 ra, .slice ta tn tc, .string tu] 24)).alloc (.cells #[.int .i64 K, .int .i64 B, .int .i64 S, .int .i64 st, .int .i64 ra, .slice tb tm td, .string tu] 24)) w.heap.size 24 (rulL K B S st ra ta tn tc tu)) := hR2
  have HR3 : Hid (Row ((w.alloc (.cells #[.int .i64 K, .int .i64 B, .int .i64 S, .int .i64 st, .int .i64 ra, .slice ta tn tc, .string tu] 24)).alloc (.cells #[.int .i64 K, .int .i64 B, .int .i64 S, .int .i64 st, .int .i64 ra, .slice tb tm td, .string tu] 24)) (w.heap.size + 1) 24 (rulL K B S st ra tb tm td tu)) := hR3
  have HB : Hid (Below w.heap.size w ((w.alloc (.cells #[.int .i64 K, .int .i64 B, .int .i64 S, .int .i64 st, .int .i64 ra, .slice ta tn tc, .string tu] 24)).alloc (.cells #[.int .i64 K, .int .i64 B, .int .i64 S, .int .i64 st, .int .i64 ra, .slice tb tm td, .string tu] 24))) := hB
  clear hR2 hR3 hB
  generalize (w.alloc (.cells #[.int .i64 K, .int .i64 B, .int .i64 S, .int .i64 st, .int .i64 ra, .slice ta tn tc, .string tu] 24)).alloc (.cells #[.int .i64 K, .int .i64 B, .int .i64 S, .int .i64 st, .int .i64 ra, .slice tb tm td, .string tu] 24) = w1 at *
  have f0 := HR2.out.cell 0
  have f1 := HR2.out.cell 1
  have f2 := HR2.out.cell 2
  have f3 := HR2.out.cell 3
  have f4 := HR2.out.cell 4
  have f5 := HR2.out.cell 5
  have f6 := HR2.out.cell 6
  have g0 := HR3.out.cell 0
  have g1 := HR3.out.cell 1
  have g2 := HR3.out.cell 2
  have g3 := HR3.out.cell 3
  have g4 := HR3.out.cell 4
  have g5 := HR3.out.cell 5
  have g6 := HR3.out.cell 6
  unfold rulL at f0 f1 f2 f3 f4 f5 f6 g0 g1 g2 g3 g4 g5 g6
  dsimp only [List.getElem?_cons_succ, List.getElem?_cons_zero] at f0 f1 f2 f3 f4 f5 f6 g0 g1 g2 g3 g4 g5 g6
  go_wp2_with fail
  refine (ints_eq ta tb tn tm tc td tz tz _ (HT.out.keep HB.out) (HT'.out.keep HB.out) rfl).mono ?_
  rintro e0 w2 ⟨rfl, hb2⟩
  have HB2 := Lib.hid (HB.out.trans (hb2.mono HB.out.size))
  go_wp2_with fail
  go_ret
  exact ⟨rfl, HB2.out⟩
/-- Apply, of a word that is written as a function. -/
theorem apply2_lst {K B S : Int} {st ra : Nat} {ta : Option Addr} {tn tc : Nat} {tz : List Int} {tu : ByteArray} {w : World} (h : RulIs w st ra ta tn tz) (wa : Option Addr) (wn wc m : Nat) (f : Nat → Nat) (hW : Ints.Is w wa wn (lst wn f)) (hf : ∀ k, f k < st) (hm : wn = m + 2 * ra) (hwn : wn ≤ 10000) :
    Calls Tryd.prog 23 #[.agg #[.int .i64 K, .int .i64 B, .int .i64 S, .int .i64 st, .int .i64 ra, .slice ta tn tc, .string tu], .slice wa wn wc] w fun e w' => (∃ ao co, e = .returned (.slice ao m co) ∧ Ints.Is w' ao m (lst m (app (wf tz) st ra f))) ∧ Below w.heap.size w w' := by
  refine (apply2_any K B S st ra ta tn tc tz tu wa wn wc (lst wn f) w h hW (lst_mem hf) hwn).mono ?_
  rintro e w' ⟨⟨v', rfl, hown⟩, hb⟩
  rw [show wn - 2 * ra = m from by omega] at hown
  have hl : applyL (wf tz) st ra (lst wn f) = lst m (app (wf tz) st ra f) := by
    unfold applyL
    rw [lst_len, show wn - 2 * ra = m from by omega]
    refine lst_congr fun k hk => ?_
    unfold app
    congr 1
    exact win_congr fun j hj => wf_lst (by omega)
  rw [hl] at hown
  obtain ⟨ao, co, rfl, hco⟩ := own_slice2 hown
  exact ⟨⟨ao, co, rfl, (own_is hown lst_len (by unfold maxLen; omega)).1⟩, hb⟩
theorem cell_lt {w : World} {b o : Nat} {v : Value} (h : w.cell? ⟨b, o, none⟩ = some v) : b < w.heap.size := by
  rcases Nat.lt_or_ge b w.heap.size with hlt | hge
  · exact hlt
  · simp [World.cell?, Array.getElem?_eq_none hge] at h
theorem one_cells2 {w : World} {p : Nat} {K B S st ra : Int} {ta : Option Addr} {tn tc : Nat} {tu : ByteArray} (hp : Row w p 24 (rulL K B S st ra ta tn tc tu)) :
    w.cell? ⟨p, 0, none⟩ = some (.int .i64 K) ∧ w.cell? ⟨p, 1, none⟩ = some (.int .i64 B) ∧ w.cell? ⟨p, 2, none⟩ = some (.int .i64 S) ∧ w.cell? ⟨p, 3, none⟩ = some (.int .i64 st) ∧ w.cell? ⟨p, 4, none⟩ = some (.int .i64 ra) ∧ w.cell? ⟨p, 5, none⟩ = some (.slice ta tn tc) ∧ w.cell? ⟨p, 6, none⟩ = some (.string tu) :=
  ⟨hp.cell 0, hp.cell 1, hp.cell 2, hp.cell 3, hp.cell 4, hp.cell 5, hp.cell 6⟩
theorem step_append2 {P : Program} {o : Oper} {a : Act} {w : World} {K : Act → World → Prop} {Q : Exit → Act → World → Prop} (hgd : o.guard = none) (x y : Operand) (t : TypeId)
    (ho : o.op = .call { callee := .builtin .append, args := #[x, y], argTypes := #[t, t] })
    (B : Nat) (e : TypeId) (i : TypeInfo) (z : Value) (bytes : Nat) (ht : P.underlying t = some (.slice e)) (hi : P.info? e = some i) (hz : i.zero = some z) (hz1 : z.cells.size = 1) (hsize : i.size = 1) (hby : i.bytes = bytes)
    (v : Value) (n : Nat) (xs : List Value) (hs : a.eval x = v) (hown : w.ownsRow B e 1 v n xs) (ad : Addr) (c : Nat) (u : Value) (hy : a.eval y = .slice (some ad) 1 c) (hu : w.cell? ad = some u) (h1 : u.oneCell' = true)
    (h63 : n + 1 ≤ maxLen) (hbytes : (n + 1) * bytes ≤ 140737488355328) (hB : B ≤ w.heap.size)
    (hK : ∀ ao co w', w'.ownsRow B e 1 (.slice ao (n + 1) co) (n + 1) (xs ++ [u]) → w.grownBy w' v.ownBlock → K (a.put o.dst (.slice ao (n + 1) co)) w') :
    Oper.wp P o a w K Q := by
  refine wp_append_own w x y t ho B e i z 1 bytes ht hi hz hsize hby hz1 (by decide) v n xs hs hown ad 1 c [u] hy rfl (fun j q hj => ?_) (fun q hq => by simp at hq; subst hq; exact h1) h63 hbytes hB fun v' w' ho' hg _ => ?_
  · match j, hj with
    | 0, hj =>
      simp at hj; subst hj
      have : ad.add 0 = ad := by simp [Addr.add]
      rw [this]; exact hu
    | j + 1, hj => simp at hj
  · rcases ho'.2 with ⟨_, h0⟩ | ⟨g, cap, cur, hv, _⟩
    · omega
    · subst hv
      exact hK _ _ _ ho' hg
set_option maxHeartbeats 8000000 in
set_option maxRecDepth 1000000 in
theorem compose2_any (K B S : Int) (st ra : Nat) (ta : Option Addr) (tn tc : Nat) (tz : List Int) (tu : ByteArray) (K' B' S' : Int) (rb : Nat) (tb : Option Addr) (tm td : Nat) (tz' : List Int) (tu' : ByteArray) (N : Nat) (w : World) (ha : RulIs w st ra ta tn tz) (hb : RulIs w st rb tb tm tz') (hN : N = st ^ (2 * (ra + rb) + 1)) (hN4 : N ≤ 4096) :
    Calls Tryd.prog 17 #[.agg #[.int .i64 K, .int .i64 B, .int .i64 S, .int .i64 st, .int .i64 ra, .slice ta tn tc, .string tu], .agg #[.int .i64 K', .int .i64 B', .int .i64 S', .int .i64 st, .int .i64 rb, .slice tb tm td, .string tu']] w fun e w' => (∃ ao co, e = .returned (.agg (rulL 2 0 0 st (ra + rb : Nat) ao N co ⟨#[]⟩).toArray) ∧ w'.ownsRow w.heap.size 3 1 (.slice ao N co) N ((lst N (comp (wf tz) (wf tz') st ra rb)).map (Value.int .i64))) ∧ Below w.heap.size w w' := by
  obtain ⟨i0, hI0, hz0, hz1, hz2⟩ := info_parts infoIntN
  have HI0 := Lib.hid hI0
  have HZ0 := Lib.hid hz0
  have HZ1 := Lib.hid hz1
  have HZ2 := Lib.hid hz2
  have h2 := ha.st2
  have h4 := ha.st4
  have hra5 := ha.ra5
  have hrb5 := hb.ra5
  obtain ⟨R, hRR⟩ : ∃ R, R = ra + rb := ⟨_, rfl⟩
  rw [← hRR] at hN ⊢
  have hRI : (ra : Int) + (rb : Int) = (R : Int) := by omega
  have hR5 : R ≤ 5 := rad5 h2 (by omega)
  have HSZ := Lib.hid (fun w2 => size2_any (st := st) (r := R) h2 h4 (by omega) w2)
  rw [show s5 st R = N from by unfold s5; rw [← hN, if_neg (by omega)]] at HSZ
  obtain ⟨ww, hww⟩ : ∃ ww, ww = 2 * R + 1 := ⟨_, rfl⟩
  have hwi : 2 * (R : Int) + 1 = (ww : Int) := by omega
  have hw11 : ww ≤ 11 := by omega
  have HWIN := Lib.hid (fun (w2 : World) (i : Nat) (hi : i < N) => window_any (st := st) (n := ww) (i := i) h2 h4 (by omega) (by omega) w2)
  have HAP1 := Lib.hid (fun (w2 : World) (h3 : Below w.heap.size w w2) (g i : Nat) (hI : Ints.Is w2 (some ⟨g, 0, none⟩) ww (lst ww (dig st ww i))) => apply2_lst (K := K) (B := B) (S := S) (tc := tc) (tu := tu) (ha.keep h3) (some ⟨g, 0, none⟩) ww ww (2 * rb + 1) _ hI (fun k => dig_lt (by omega)) (by omega) (by omega))
  have HAP2 : Hid (∀ (w2 : World) (h3 : Below w.heap.size w w2) (ao : Option Addr) (co i : Nat) (hI : Ints.Is w2 ao (2 * rb + 1) (lst (2 * rb + 1) (app (wf tz) st ra (dig st ww i)))), Calls Tryd.prog 23 #[.agg #[.int .i64 K', .int .i64 B', .int .i64 S', .int .i64 st, .int .i64 rb, .slice tb tm td, .string tu'], .slice ao (2 * rb + 1) co] w2 fun e w' => (∃ gy oy cy, e = .returned (.slice (some ⟨gy, oy, none⟩) 1 cy) ∧ w'.cell? ⟨gy, oy, none⟩ = some (.int .i64 ((comp (wf tz) (wf tz') st ra rb i : Nat) : Int))) ∧ Below w2.heap.size w2 w') := fun w2 h3 ao co i hI => by
    refine (apply2_lst (K := K') (B := B') (S := S') (tc := td) (tu := tu') (hb.keep h3) ao (2 * rb + 1) co 1 _ hI (fun k => ha.lt _) (by omega) (by omega)).mono ?_
    rintro e w' ⟨⟨ay, cy, rfl, hIy⟩, hb2⟩
    obtain ⟨gy, oy, rfl, _, hc⟩ := hIy.cells 0 (by omega)
    dsimp only at hc
    refine ⟨⟨gy, oy, cy, rfl, ?_⟩, hb2⟩
    rw [show oy + 0 = oy from by omega, lst_get (by omega)] at hc
    rw [hc]
    unfold comp
    rw [← hRR, ← hww]
  obtain ⟨F, hF⟩ : ∃ F, F = comp (wf tz) (wf tz') st ra rb := ⟨_, rfl⟩
  rw [← hF] at HAP2 ⊢
  clear hF
  obtain ⟨wb, hwb⟩ : ∃ wb, wb = 2 * rb + 1 := ⟨_, rfl⟩
  rw [← hwb] at HAP1 HAP2
  clear hI0 hz0 hz1 hz2 ha hb hN hRR hww hwb
  go_enter Tryd.func17, Tryd.ntmps17
  go_upto_region 1 with fail
  obtain ⟨hR2, hR3, hR4, hB⟩ := three_new w 24 24 24 (rulL K B S st ra ta tn tc tu) (rulL K' B' S' st rb tb tm td tu') noRul
  have HR2 : Hid (Row (((w.alloc (.cells #[.int .i64 K, .int .i64 B, .int .i64 S, .int .i64 st, .int .i64 ra, .slice ta tn tc, .string tu] 24)).alloc (.cells #[.int .i64 K', .int .i64 B', .int .i64 S', .int .i64 st, .int .i64 rb, .slice tb tm td, .string tu'] 24)).alloc (.cells #[.int .i64 0, .int .i64 0, .int .i64 0, .int .i64 0, .int .i64 0, .slice none 0 0, .string ⟨#[]⟩] 24)) w.heap.size 24 (rulL K B S st ra ta tn tc tu)) := hR2
  have HR3 : Hid (Row (((w.alloc (.cells #[.int .i64 K, .int .i64 B, .int .i64 S, .int .i64 st, .int .i64 ra, .slice ta tn tc, .string tu] 24)).alloc (.cells #[.int .i64 K', .int .i64 B', .int .i64 S', .int .i64 st, .int .i64 rb, .slice tb tm td, .string tu'] 24)).alloc (.cells #[.int .i64 0, .int .i64 0, .int .i64 0, .int .i64 0, .int .i64 0, .slice none 0 0, .string ⟨#[]⟩] 24)) (w.heap.size + 1) 24 (rulL K' B' S' st rb tb tm td tu')) := hR3
  have HR4 : Hid (Row (((w.alloc (.cells #[.int .i64 K, .int .i64 B, .int .i64 S, .int .i64 st, .int .i64 ra, .slice ta tn tc, .string tu] 24)).alloc (.cells #[.int .i64 K', .int .i64 B', .int .i64 S', .int .i64 st, .int .i64 rb, .slice tb tm td, .string tu'] 24)).alloc (.cells #[.int .i64 0, .int .i64 0, .int .i64 0, .int .i64 0, .int .i64 0, .slice none 0 0, .string ⟨#[]⟩] 24)) (w.heap.size + 1 + 1) 24 noRul) := hR4
  have HB : Hid (Below w.heap.size w (((w.alloc (.cells #[.int .i64 K, .int .i64 B, .int .i64 S, .int .i64 st, .int .i64 ra, .slice ta tn tc, .string tu] 24)).alloc (.cells #[.int .i64 K', .int .i64 B', .int .i64 S', .int .i64 st, .int .i64 rb, .slice tb tm td, .string tu'] 24)).alloc (.cells #[.int .i64 0, .int .i64 0, .int .i64 0, .int .i64 0, .int .i64 0, .slice none 0 0, .string ⟨#[]⟩] 24))) := hB
  clear hR2 hR3 hR4 hB
  generalize ((w.alloc (.cells #[.int .i64 K, .int .i64 B, .int .i64 S, .int .i64 st, .int .i64 ra, .slice ta tn tc, .string tu] 24)).alloc (.cells #[.int .i64 K', .int .i64 B', .int .i64 S', .int .i64 st, .int .i64 rb, .slice tb tm td, .string tu'] 24)).alloc (.cells #[.int .i64 0, .int .i64 0, .int .i64 0, .int .i64 0, .int .i64 0, .slice none 0 0, .string ⟨#[]⟩] 24) = w1 at *
  obtain ⟨b2, hb2⟩ : ∃ b2, b2 = w.heap.size := ⟨_, rfl⟩
  obtain ⟨b3, hb3⟩ : ∃ b3, b3 = w.heap.size + 1 := ⟨_, rfl⟩
  obtain ⟨b4, hb4⟩ : ∃ b4, b4 = w.heap.size + 1 + 1 := ⟨_, rfl⟩
  rw [← hb4] at HR4 ⊢
  rw [← hb3] at HR3 ⊢
  rw [← hb2] at HR2 ⊢
  have hle2 : w.heap.size ≤ b2 := by omega
  have h23 : b2 < b3 := by omega
  have h34 : b3 < b4 := by omega
  clear hb2 hb3 hb4
  have f3 := HR2.out.cell 3
  have f4 := HR2.out.cell 4
  have g4 := HR3.out.cell 4
  unfold rulL at f3 f4 g4
  dsimp only [List.getElem?_cons_succ, List.getElem?_cons_zero] at f3 f4 g4
  go_upto_region 2 with fail
  have h5 := row_alloc w1 24 (rulL 2 0 0 st R none 0 0 ⟨#[]⟩)
  have H5 : Hid (Row (w1.alloc (.cells #[.int .i64 2, .int .i64 0, .int .i64 0, .int .i64 st, .int .i64 R, .slice none 0 0, .string ⟨#[]⟩] 24)) w1.heap.size 24 (rulL 2 0 0 st R none 0 0 ⟨#[]⟩)) := h5
  have hb5 : Below w1.heap.size w1 (w1.alloc (.cells #[.int .i64 2, .int .i64 0, .int .i64 0, .int .i64 st, .int .i64 R, .slice none 0 0, .string ⟨#[]⟩] 24)) := (Below.refl _ _).alloc (Nat.le_refl _) _
  have HR2 := Lib.hid (HR2.out.keep hb5 HR2.out.lt)
  have HR3 := Lib.hid (HR3.out.keep hb5 HR3.out.lt)
  have h45 : b4 < w1.heap.size := HR4.out.lt
  have HR4 := Lib.hid (HR4.out.keep hb5 HR4.out.lt)
  have HB := Lib.hid (HB.out.trans (hb5.mono HB.out.size))
  clear h5 hb5 f3 f4 g4
  obtain ⟨b5, hb5⟩ : ∃ b5, b5 = w1.heap.size := ⟨_, rfl⟩
  rw [← hb5] at H5 h45 ⊢
  clear hb5
  generalize w1.alloc (.cells #[.int .i64 2, .int .i64 0, .int .i64 0, .int .i64 st, .int .i64 R, .slice none 0 0, .string ⟨#[]⟩] 24) = w2 at *
  obtain ⟨B1, hB1⟩ : ∃ B1, B1 = b5 + 1 := ⟨_, rfl⟩
  have f3 := H5.out.cell 3
  have f4 := H5.out.cell 4
  unfold rulL at f3 f4
  dsimp only [List.getElem?_cons_succ, List.getElem?_cons_zero] at f3 f4
  go_wp2_with fail
  refine (HSZ.out _).mono ?_
  rintro e0 w3 ⟨rfl, rfl⟩
  clear f3 f4 HSZ
  go_wp2_with fail
  go_loopw [7] (fun u wr => ∃ (i : Nat) (ao : Option Addr) (co : Nat), i ≤ N ∧ u = .int .i64 i ∧ Row wr b2 24 (rulL K B S st ra ta tn tc tu) ∧ Row wr b3 24 (rulL K' B' S' st rb tb tm td tu') ∧ Row wr b4 24 noRul ∧ Row wr b5 24 (rulL 2 0 0 st R ao i co ⟨#[]⟩) ∧ wr.ownsRow B1 3 1 (.slice ao i co) i ((lst i F).map (Value.int .i64)) ∧ Below w.heap.size w wr) (fun u _ => N - (intOf u).toNat)
  case atStart => exact ⟨0, none, 0, Nat.zero_le _, rfl, HR2.out, HR3.out, HR4.out, H5.out, own_nil _ _, HB.out⟩
  case round =>
    clear HR2 HR3 HR4 H5 HB
    obtain ⟨i, ao, co, hi, rfl, hR2, hR3, hR4, h5, hown, hbel⟩ := hrel
    have HR2 := Lib.hid hR2
    have HR3 := Lib.hid hR3
    have HR4 := Lib.hid hR4
    have H5 := Lib.hid h5
    have HO := Lib.hid hown
    have HB := Lib.hid hbel
    clear hR2 hR3 hR4 h5 hown hbel
    by_cases hlt : i < N
    · have f3 := H5.out.cell 3
      have f4 := H5.out.cell 4
      unfold rulL at f3 f4
      dsimp only [List.getElem?_cons_succ, List.getElem?_cons_zero] at f3 f4
      go_wp2_with fail
      refine (HWIN.out _ i hlt).mono ?_
      rintro e0 w4 ⟨⟨g, rfl, hI⟩, hb9⟩
      clear f3 f4
      have HI := Lib.hid hI
      have HR2 := Lib.hid (HR2.out.keep hb9 HR2.out.lt)
      have HR3 := Lib.hid (HR3.out.keep hb9 HR3.out.lt)
      have HR4 := Lib.hid (HR4.out.keep hb9 HR4.out.lt)
      have H5 := Lib.hid (H5.out.keep hb9 H5.out.lt)
      have HO := Lib.hid (own_keep HO.out hb9)
      have HB := Lib.hid (HB.out.trans (hb9.mono HB.out.size))
      clear hb9 hI
      have l2 := row_range HR2.out
      go_wp2_with (refine wpList_load_mid rfl 24 _ rfl b2 0 rfl _ _ l2 Tryd.underlying24 rfl infoRule ?_)
      clear l2
      refine (HAP1.out _ HB.out g i HI.out).mono ?_
      rintro e0 w5 ⟨⟨ax, cx, rfl, hI⟩, hb9⟩
      have HI := Lib.hid hI
      have HR2 := Lib.hid (HR2.out.keep hb9 HR2.out.lt)
      have HR3 := Lib.hid (HR3.out.keep hb9 HR3.out.lt)
      have HR4 := Lib.hid (HR4.out.keep hb9 HR4.out.lt)
      have H5 := Lib.hid (H5.out.keep hb9 H5.out.lt)
      have HO := Lib.hid (own_keep HO.out hb9)
      have HB := Lib.hid (HB.out.trans (hb9.mono HB.out.size))
      clear hb9 hI
      have l3 := row_range HR3.out
      go_wp2_with (refine wpList_load_mid rfl 24 _ rfl b3 0 rfl _ _ l3 Tryd.underlying24 rfl infoRule ?_)
      clear l3
      refine (HAP2.out _ HB.out ax cx i HI.out).mono ?_
      rintro e0 w6 ⟨⟨gy, oy, cy, rfl, hcy⟩, hb9⟩
      have HR2 := Lib.hid (HR2.out.keep hb9 HR2.out.lt)
      have HR3 := Lib.hid (HR3.out.keep hb9 HR3.out.lt)
      have HR4 := Lib.hid (HR4.out.keep hb9 HR4.out.lt)
      have H5 := Lib.hid (H5.out.keep hb9 H5.out.lt)
      have HO := Lib.hid (own_keep HO.out hb9)
      have HB := Lib.hid (HB.out.trans (hb9.mono HB.out.size))
      clear hb9 HI
      have HSN : Hid ((lst (i + 1) F).map (Value.int .i64) = (lst i F).map (Value.int .i64) ++ [.int .i64 ((F i : Nat) : Int)]) := by
        show (lst (i + 1) F).map (Value.int .i64) = _
        rw [lst_succ, map_snoc]
      generalize F i = tv at *
      go_upto_region 9 with fail
      have f5 := H5.out.cell 5
      have z5 := H5.out.frozen 5
      unfold rulL at f5
      dsimp only [List.getElem?_cons_succ, List.getElem?_cons_zero] at f5
      have hszr : B1 ≤ w6.heap.size := by have := H5.out.lt; omega
      have hb5l : b5 < w6.heap.size := H5.out.lt
      have hgy : gy < w6.heap.size := cell_lt hcy
      have hal : Below w6.heap.size w6 (w6.alloc (.cells #[.int .i64 (tv : Int)] 3)).drew := ((Below.refl _ w6).alloc (Nat.le_refl _) (.cells #[.int .i64 (tv : Int)] 3)).drew
      have HAL := Lib.hid hal
      have HOA := Lib.hid (own_keep HO.out hal)
      have H5A := Lib.hid (H5.out.keep hal H5.out.lt)
      have HCEL := Lib.hid ((row_alloc w6 3 [.int .i64 (tv : Int)]).drew.cell 0)
      clear hal
      go_region_law (
        (refine step_append1 (by rfl) _ _ 22 (by rfl) B1 3 i0 (.int .i64 0) 8 Tryd.underlying22 HI0.out HZ0.out rfl HZ1.out HZ2.out _ _ _ (by rfl) HOA.out ⟨w6.heap.size, 0, none⟩ 1 (.int .i64 (tv : Int)) (by rfl) HCEL.out rfl (by unfold maxLen; omega) (by omega) (by simp; omega) ?_
         intro ao7 co7 w7 hO7 hg7
         have h57 := row_grown2 HOA.out hg7 H5A.out (by omega)
         have c57 := h57.cell 5
         have z57 := h57.frozen 5
         unfold rulL at c57
         dsimp only [List.getElem?_cons_succ, List.getElem?_cons_zero] at c57))
      all_goals
        have HO7 := Lib.hid hO7
        have HB7 := Lib.hid ((HB.out.trans (HAL.out.mono HB.out.size)).grown hg7 (by have := HB.out.size; simp; omega) (fun k hk => by have := own_low HOA.out k hk; omega))
        have HR27 := Lib.hid (row_grown2 HOA.out hg7 (HR2.out.keep HAL.out HR2.out.lt) (by omega))
        have HR37 := Lib.hid (row_grown2 HOA.out hg7 (HR3.out.keep HAL.out HR3.out.lt) (by omega))
        have HR47 := Lib.hid (row_grown2 HOA.out hg7 (HR4.out.keep HAL.out HR4.out.lt) (by omega))
        have ho8 := only_setCell w7 b5 5 (.slice ao7 (i + 1) co7)
        have H58 : Hid (Row (w7.setCell ⟨b5, 5, none⟩ (.slice ao7 (i + 1) co7)) b5 24 (rulL 2 0 0 st R ao7 (i + 1 : Nat) co7 ⟨#[]⟩)) := h57.set 5 (.slice ao7 (i + 1) co7)
        have HO8 := Lib.hid (own_only HO7.out ho8 (fun hx => by have := own_low HO7.out b5 hx; omega))
        have HR28 := Lib.hid (HR27.out.other ho8 (by omega))
        have HR38 := Lib.hid (HR37.out.other ho8 (by omega))
        have HR48 := Lib.hid (HR47.out.other ho8 (by omega))
        have HB8 := Lib.hid (HB7.out.trans (ho8.below (by omega)))
        clear HO7 HB7 HR27 HR37 HR47 ho8 c57 z57 h57 hO7 hg7 f5 z5 HAL HOA H5A HCEL HO HR2 HR3 HR4 H5 HB hcy
        rw [← HSN.out] at HO8
        generalize w7.setCell ⟨b5, 5, none⟩ (.slice ao7 (i + 1) co7) = w8 at *
        go_wp2_with fail
        go_roundw
        case rel => exact ⟨i + 1, ao7, co7, by omega, by go_num, HR28.out, HR38.out, HR48.out, H58.out, HO8.out, HB8.out⟩
        case measure => simp [intOf]; omega
    · have ei : i = N := by omega
      subst ei
      have l5 := row_range H5.out
      go_wp2_with (first | (refine wpList_load_mid rfl 24 _ rfl b5 0 rfl _ _ l5 Tryd.underlying24 rfl infoRule ?_) | (refine Ops.wpList_store_arr rfl 24 _ _ rfl b4 rfl 24 _ _ rfl HR4.out rfl infoRule (rul_one _ _ _ _ _ _ _ _ _) ?_; intro w8 hrow8 hon8))
      have hO8 := own_only HO.out hon8 (fun hx => by have := own_low HO.out b4 hx; omega)
      exact bodyPost_ret (results_cell_row rfl _ _ b4 24 (rulL 2 0 0 st R ao i co ⟨#[]⟩).toArray (0, 0) _ rfl hrow8 Tryd.underlying24 rfl infoRule) rfl ⟨⟨ao, co, rfl, own_base hO8 (by omega)⟩, HB.out.trans (hon8.below (by omega))⟩
set_option maxHeartbeats 8000000 in
set_option maxRecDepth 1000000 in
theorem widen2_any (K B S : Int) (st ra : Nat) (ta : Option Addr) (tn tc : Nat) (tz : List Int) (tu : ByteArray) (R : Nat) (N : Nat) (w : World) (ha : RulIs w st ra ta tn tz) (hqr : ra ≤ R) (hN : N = st ^ (2 * R + 1)) (hN4 : N ≤ 4096) :
    Calls Tryd.prog 19 #[.agg #[.int .i64 K, .int .i64 B, .int .i64 S, .int .i64 st, .int .i64 ra, .slice ta tn tc, .string tu], .int .i64 R] w fun e w' => (∃ ao co, e = .returned (.agg (rulL 2 0 0 st R ao N co ⟨#[]⟩).toArray) ∧ w'.ownsRow w.heap.size 3 1 (.slice ao N co) N ((lst N (wide (wf tz) st ra R)).map (Value.int .i64))) ∧ Below w.heap.size w w' := by
  obtain ⟨i0, hI0, hz0, hz1, hz2⟩ := info_parts infoIntN
  have HI0 := Lib.hid hI0
  have HZ0 := Lib.hid hz0
  have HZ1 := Lib.hid hz1
  have HZ2 := Lib.hid hz2
  have h2 := ha.st2
  have h4 := ha.st4
  have hra5 := ha.ra5
  have hR5 : R ≤ 5 := rad5 h2 (by omega)
  have HSZ := Lib.hid (fun w2 => size2_any (st := st) (r := R) h2 h4 (by omega) w2)
  rw [show s5 st R = N from by unfold s5; rw [← hN, if_neg (by omega)]] at HSZ
  obtain ⟨ww, hww⟩ : ∃ ww, ww = 2 * R + 1 := ⟨_, rfl⟩
  have hwi : 2 * (R : Int) + 1 = (ww : Int) := by omega
  have hw11 : ww ≤ 11 := by omega
  have HWIN := Lib.hid (fun (w2 : World) (i : Nat) (hi : i < N) => window_any (st := st) (n := ww) (i := i) h2 h4 (by omega) (by omega) w2)
  obtain ⟨d, hd⟩ : ∃ d, R = ra + d := ⟨R - ra, by omega⟩
  have hdi : (R : Int) - (ra : Int) = (d : Int) := by omega
  have HAP2 : Hid (∀ (w2 : World) (h3 : Below w.heap.size w w2) (g i l c : Nat) (hl : l = 2 * ra + 1) (hI : Ints.Is w2 (some ⟨g, 0, none⟩) ww (lst ww (dig st ww i))), Calls Tryd.prog 23 #[.agg #[.int .i64 K, .int .i64 B, .int .i64 S, .int .i64 st, .int .i64 ra, .slice ta tn tc, .string tu], .slice (some ⟨g, d, none⟩) l c] w2 fun e w' => (∃ gy oy cy, e = .returned (.slice (some ⟨gy, oy, none⟩) 1 cy) ∧ w'.cell? ⟨gy, oy, none⟩ = some (.int .i64 ((wide (wf tz) st ra R i : Nat) : Int))) ∧ Below w2.heap.size w2 w') := fun w2 h3 g i l c hl hI => by
    subst hl
    refine (apply2_lst (K := K) (B := B) (S := S) (tc := tc) (tu := tu) (ha.keep h3) (some ⟨g, d, none⟩) (2 * ra + 1) c 1 _ (is_sub hI (by omega)) (fun k => dig_lt (by omega)) (by omega) (by omega)).mono ?_
    rintro e w' ⟨⟨ay, cy, rfl, hIy⟩, hb2⟩
    obtain ⟨gy, oy, rfl, _, hc⟩ := hIy.cells 0 (by omega)
    dsimp only at hc
    refine ⟨⟨gy, oy, cy, rfl, ?_⟩, hb2⟩
    rw [show oy + 0 = oy from by omega, lst_get (by omega)] at hc
    rw [hc]
    unfold wide
    rw [← hww, show R - ra = d from by omega]
  obtain ⟨F, hF⟩ : ∃ F, F = wide (wf tz) st ra R := ⟨_, rfl⟩
  rw [← hF] at HAP2 ⊢
  clear hF
  obtain ⟨e, he⟩ : ∃ e, e = ww - d := ⟨_, rfl⟩
  have hsub : (ww : Int) - (d : Int) = (e : Int) := by omega
  have hed : d < e := by omega
  have hen : e ≤ ww := by omega
  have HEL : Hid (e - d = 2 * ra + 1) := by
    show e - d = _
    omega
  have hwr : IntKind.i64.wrap (e : Int) = (e : Int) := by rw [IntKind.wrap_i64]; omega
  clear hI0 hz0 hz1 hz2 ha hN hww hd he
  go_enter Tryd.func19, Tryd.ntmps19
  go_upto_region 1 with fail
  obtain ⟨hR2, hR4, hB⟩ := two_new w 24 24 (rulL K B S st ra ta tn tc tu) noRul
  have HR2 : Hid (Row ((w.alloc (.cells #[.int .i64 K, .int .i64 B, .int .i64 S, .int .i64 st, .int .i64 ra, .slice ta tn tc, .string tu] 24)).alloc (.cells #[.int .i64 0, .int .i64 0, .int .i64 0, .int .i64 0, .int .i64 0, .slice none 0 0, .string ⟨#[]⟩] 24)) w.heap.size 24 (rulL K B S st ra ta tn tc tu)) := hR2
  have HR4 : Hid (Row ((w.alloc (.cells #[.int .i64 K, .int .i64 B, .int .i64 S, .int .i64 st, .int .i64 ra, .slice ta tn tc, .string tu] 24)).alloc (.cells #[.int .i64 0, .int .i64 0, .int .i64 0, .int .i64 0, .int .i64 0, .slice none 0 0, .string ⟨#[]⟩] 24)) (w.heap.size + 1) 24 noRul) := hR4
  have HB : Hid (Below w.heap.size w ((w.alloc (.cells #[.int .i64 K, .int .i64 B, .int .i64 S, .int .i64 st, .int .i64 ra, .slice ta tn tc, .string tu] 24)).alloc (.cells #[.int .i64 0, .int .i64 0, .int .i64 0, .int .i64 0, .int .i64 0, .slice none 0 0, .string ⟨#[]⟩] 24))) := hB
  clear hR2 hR4 hB
  generalize (w.alloc (.cells #[.int .i64 K, .int .i64 B, .int .i64 S, .int .i64 st, .int .i64 ra, .slice ta tn tc, .string tu] 24)).alloc (.cells #[.int .i64 0, .int .i64 0, .int .i64 0, .int .i64 0, .int .i64 0, .slice none 0 0, .string ⟨#[]⟩] 24) = w1 at *
  obtain ⟨b2, hb2⟩ : ∃ b2, b2 = w.heap.size := ⟨_, rfl⟩
  obtain ⟨b4, hb4⟩ : ∃ b4, b4 = w.heap.size + 1 := ⟨_, rfl⟩
  rw [← hb4] at HR4 ⊢
  rw [← hb2] at HR2 ⊢
  have hle2 : w.heap.size ≤ b2 := by omega
  have h34 : b2 < b4 := by omega
  clear hb2 hb4
  have f3 := HR2.out.cell 3
  unfold rulL at f3
  dsimp only [List.getElem?_cons_succ, List.getElem?_cons_zero] at f3
  go_upto_region 2 with fail
  have h5 := row_alloc w1 24 (rulL 2 0 0 st R none 0 0 ⟨#[]⟩)
  have H5 : Hid (Row (w1.alloc (.cells #[.int .i64 2, .int .i64 0, .int .i64 0, .int .i64 st, .int .i64 R, .slice none 0 0, .string ⟨#[]⟩] 24)) w1.heap.size 24 (rulL 2 0 0 st R none 0 0 ⟨#[]⟩)) := h5
  have hb5 : Below w1.heap.size w1 (w1.alloc (.cells #[.int .i64 2, .int .i64 0, .int .i64 0, .int .i64 st, .int .i64 R, .slice none 0 0, .string ⟨#[]⟩] 24)) := (Below.refl _ _).alloc (Nat.le_refl _) _
  have HR2 := Lib.hid (HR2.out.keep hb5 HR2.out.lt)
  have h45 : b4 < w1.heap.size := HR4.out.lt
  have HR4 := Lib.hid (HR4.out.keep hb5 HR4.out.lt)
  have HB := Lib.hid (HB.out.trans (hb5.mono HB.out.size))
  clear h5 hb5 f3
  obtain ⟨b5, hb5⟩ : ∃ b5, b5 = w1.heap.size := ⟨_, rfl⟩
  rw [← hb5] at H5 h45 ⊢
  clear hb5
  generalize w1.alloc (.cells #[.int .i64 2, .int .i64 0, .int .i64 0, .int .i64 st, .int .i64 R, .slice none 0 0, .string ⟨#[]⟩] 24) = w2 at *
  obtain ⟨B1, hB1⟩ : ∃ B1, B1 = b5 + 1 := ⟨_, rfl⟩
  have f3 := HR2.out.cell 3
  have f4 := HR2.out.cell 4
  unfold rulL at f3 f4
  dsimp only [List.getElem?_cons_succ, List.getElem?_cons_zero] at f3 f4
  go_wp2_with fail
  refine (HSZ.out _).mono ?_
  rintro e0 w3 ⟨rfl, rfl⟩
  clear f3 f4 HSZ
  go_wp2_with fail
  go_loopw [7] (fun u wr => ∃ (i : Nat) (ao : Option Addr) (co : Nat), i ≤ N ∧ u = .int .i64 i ∧ Row wr b2 24 (rulL K B S st ra ta tn tc tu) ∧ Row wr b4 24 noRul ∧ Row wr b5 24 (rulL 2 0 0 st R ao i co ⟨#[]⟩) ∧ wr.ownsRow B1 3 1 (.slice ao i co) i ((lst i F).map (Value.int .i64)) ∧ Below w.heap.size w wr) (fun u _ => N - (intOf u).toNat)
  case atStart => exact ⟨0, none, 0, Nat.zero_le _, rfl, HR2.out, HR4.out, H5.out, own_nil _ _, HB.out⟩
  case round =>
    clear HR2 HR4 H5 HB
    obtain ⟨i, ao, co, hi, rfl, hR2, hR4, h5, hown, hbel⟩ := hrel
    have HR2 := Lib.hid hR2
    have HR4 := Lib.hid hR4
    have H5 := Lib.hid h5
    have HO := Lib.hid hown
    have HB := Lib.hid hbel
    clear hR2 hR4 h5 hown hbel
    by_cases hlt : i < N
    · have f3 := HR2.out.cell 3
      unfold rulL at f3
      dsimp only [List.getElem?_cons_succ, List.getElem?_cons_zero] at f3
      go_wp2_with fail
      refine (HWIN.out _ i hlt).mono ?_
      rintro e0 w4 ⟨⟨g, rfl, hI⟩, hb9⟩
      clear f3
      have HI := Lib.hid hI
      have HR2 := Lib.hid (HR2.out.keep hb9 HR2.out.lt)
      have HR4 := Lib.hid (HR4.out.keep hb9 HR4.out.lt)
      have H5 := Lib.hid (H5.out.keep hb9 H5.out.lt)
      have HO := Lib.hid (own_keep HO.out hb9)
      have HB := Lib.hid (HB.out.trans (hb9.mono HB.out.size))
      clear hb9 hI
      obtain ⟨f0, f1, f2, f3, f4, f5, f6⟩ := one_cells2 HR2.out
      go_upto_region 8 with fail
      have hdr : Below w4.heap.size w4 w4.drew := (Below.refl _ _).drew
      have HAPC := Lib.hid (fun l c hl => HAP2.out w4.drew HB.out.drew g i l c hl (HI.out.keep hdr))
      go_region_with (
        (go_at_call 23
         refine (HAPC.out _ _ HEL.out).mono ?_
         rintro e1 w6 ⟨⟨gy, oy, cy, rfl, hcy⟩, hb6⟩))
      all_goals
        have hb9 := hdr.trans (hb6.mono hdr.size)
        clear f0 f1 f2 f3 f4 f5 f6 hb6 hdr HAPC
        have HR2 := Lib.hid (HR2.out.keep hb9 HR2.out.lt)
        have HR4 := Lib.hid (HR4.out.keep hb9 HR4.out.lt)
        have H5 := Lib.hid (H5.out.keep hb9 H5.out.lt)
        have HO := Lib.hid (own_keep HO.out hb9)
        have HB := Lib.hid (HB.out.trans (hb9.mono HB.out.size))
        clear hb9 HI
        have HSN : Hid ((lst (i + 1) F).map (Value.int .i64) = (lst i F).map (Value.int .i64) ++ [.int .i64 ((F i : Nat) : Int)]) := by
          show (lst (i + 1) F).map (Value.int .i64) = _
          rw [lst_succ, map_snoc]
        generalize F i = tv at *
        go_upto_region 9 with fail
        have f5 := H5.out.cell 5
        have z5 := H5.out.frozen 5
        unfold rulL at f5
        dsimp only [List.getElem?_cons_succ, List.getElem?_cons_zero] at f5
        have hszr : B1 ≤ w6.heap.size := by have := H5.out.lt; omega
        have hb5l : b5 < w6.heap.size := H5.out.lt
        have hgy : gy < w6.heap.size := cell_lt hcy
        have hal : Below w6.heap.size w6 (w6.alloc (.cells #[.int .i64 (tv : Int)] 3)).drew := ((Below.refl _ w6).alloc (Nat.le_refl _) (.cells #[.int .i64 (tv : Int)] 3)).drew
        have HAL := Lib.hid hal
        have HOA := Lib.hid (own_keep HO.out hal)
        have H5A := Lib.hid (H5.out.keep hal H5.out.lt)
        have HCEL := Lib.hid ((row_alloc w6 3 [.int .i64 (tv : Int)]).drew.cell 0)
        clear hal
        go_region_law (
          (refine step_append1 (by rfl) _ _ 22 (by rfl) B1 3 i0 (.int .i64 0) 8 Tryd.underlying22 HI0.out HZ0.out rfl HZ1.out HZ2.out _ _ _ (by rfl) HOA.out ⟨w6.heap.size, 0, none⟩ 1 (.int .i64 (tv : Int)) (by rfl) HCEL.out rfl (by unfold maxLen; omega) (by omega) (by simp; omega) ?_
           intro ao7 co7 w7 hO7 hg7
           have h57 := row_grown2 HOA.out hg7 H5A.out (by omega)
           have c57 := h57.cell 5
           have z57 := h57.frozen 5
           unfold rulL at c57
           dsimp only [List.getElem?_cons_succ, List.getElem?_cons_zero] at c57))
        all_goals
          have HO7 := Lib.hid hO7
          have HB7 := Lib.hid ((HB.out.trans (HAL.out.mono HB.out.size)).grown hg7 (by have := HB.out.size; simp; omega) (fun k hk => by have := own_low HOA.out k hk; omega))
          have HR27 := Lib.hid (row_grown2 HOA.out hg7 (HR2.out.keep HAL.out HR2.out.lt) (by omega))
          have HR47 := Lib.hid (row_grown2 HOA.out hg7 (HR4.out.keep HAL.out HR4.out.lt) (by omega))
          have ho8 := only_setCell w7 b5 5 (.slice ao7 (i + 1) co7)
          have H58 : Hid (Row (w7.setCell ⟨b5, 5, none⟩ (.slice ao7 (i + 1) co7)) b5 24 (rulL 2 0 0 st R ao7 (i + 1 : Nat) co7 ⟨#[]⟩)) := h57.set 5 (.slice ao7 (i + 1) co7)
          have HO8 := Lib.hid (own_only HO7.out ho8 (fun hx => by have := own_low HO7.out b5 hx; omega))
          have HR28 := Lib.hid (HR27.out.other ho8 (by omega))
          have HR48 := Lib.hid (HR47.out.other ho8 (by omega))
          have HB8 := Lib.hid (HB7.out.trans (ho8.below (by omega)))
          clear HO7 HB7 HR27 HR47 ho8 c57 z57 h57 hO7 hg7 f5 z5 HAL HOA H5A HCEL HO HR2 HR4 H5 HB hcy
          rw [← HSN.out] at HO8
          generalize w7.setCell ⟨b5, 5, none⟩ (.slice ao7 (i + 1) co7) = w8 at *
          go_wp2_with fail
          go_roundw
          case rel => exact ⟨i + 1, ao7, co7, by omega, by go_num, HR28.out, HR48.out, H58.out, HO8.out, HB8.out⟩
          case measure => simp [intOf]; omega
    · have ei : i = N := by omega
      subst ei
      have l5 := row_range H5.out
      go_wp2_with (first | (refine wpList_load_mid rfl 24 _ rfl b5 0 rfl _ _ l5 Tryd.underlying24 rfl infoRule ?_) | (refine Ops.wpList_store_arr rfl 24 _ _ rfl b4 rfl 24 _ _ rfl HR4.out rfl infoRule (rul_one _ _ _ _ _ _ _ _ _) ?_; intro w8 hrow8 hon8))
      have hO8 := own_only HO.out hon8 (fun hx => by have := own_low HO.out b4 hx; omega)
      exact bodyPost_ret (results_cell_row rfl _ _ b4 24 (rulL 2 0 0 st R ao i co ⟨#[]⟩).toArray (0, 0) _ rfl hrow8 Tryd.underlying24 rfl infoRule) rfl ⟨⟨ao, co, rfl, own_base hO8 (by omega)⟩, HB.out.trans (hon8.below (by omega))⟩
end Ln
end Go.Proofs.YtgefikkklbjcbaaDoor
