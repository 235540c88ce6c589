/- WALK of the document's answer: edenref6.Goes: one chip goes from a place. -/
import Derived.Test.YtjikildiblchpaaDoorRfA
import Derived.Test.YtjikildiblchpaaDoorRtR
import Derived.BigRegion
namespace Go.Proofs.YtjikildiblchpaaDoor
set_option linter.unusedSimpArgs false
set_option linter.unusedVariables false
open Go.RowKit Go.Lib
namespace Rt
open Tld Mem

/-- Where a chip comes to. -/
def toU (B : Bd) (sg u : Nat → Nat) (k : Nat) : Nat := B.way k ((sgU B sg u k + 1) % B.d k)
theorem ch_step {B : Bd} (hB : B.Ok) {sg c u : Nat → Nat} (h : Leg B sg c u) {k : Nat} (hk : k < B.P) (hs : k ≠ B.sink) (ht : 0 < chU B sg c u k) {p : Nat} (hp : p < B.P) :
    chU B sg c (bump u k 1) p = (if p = k then chU B sg c u k - 1 else chU B sg c u p) + if p = toU B sg u k ∧ p ≠ B.sink then 1 else 0 := by
  rw [← chI_all hB h hk hs ht hp]
  have hd := hB.pos k hk hs
  unfold chI ch0
  congr 1
  by_cases e : p = B.sink
  · rw [if_pos e, if_neg (fun h => h.2 e)]
  · rw [if_neg e]
    have hsl : sgU B sg u k < B.d k := Nat.mod_lt _ hd
    have h1 : sumN (fun j => if B.way k j = p then often (B.d k) (sgU B sg u k) j 1 else 0) (B.d k) = sumN (fun j => if (sgU B sg u k + 1) % B.d k = j then ind (B.way k j = p) else 0) (B.d k) := sumN_congr fun j hj => by
      rw [← often_sum hsl hj]
      show (if B.way k j = p then 0 + ind ((sgU B sg u k + 0 + 1) % B.d k = j) else 0) = _
      rw [Nat.add_zero, Nat.zero_add]
      unfold ind
      by_cases e1 : B.way k j = p
      · rw [if_pos e1, if_pos e1]
      · rw [if_neg e1, if_neg e1]; split <;> rfl
    rw [h1, sumN_pickF, if_pos (Nat.mod_lt _ hd)]
    unfold ind toU
    by_cases e2 : B.way k ((sgU B sg u k + 1) % B.d k) = p
    · rw [if_pos e2, if_pos ⟨e2.symm, e⟩]
    · rw [if_neg e2, if_neg (fun h => e2 h.1.symm)]
theorem sg_step {B : Bd} {sg u : Nat → Nat} {k j : Nat} : sgU B sg (bump u k 1) j = if j = k then (sgU B sg u k + 1) % B.d k else sgU B sg u j := sgU_bump
theorem to_lt {B : Bd} (hB : B.Ok) {sg u : Nat → Nat} {k : Nat} (hk : k < B.P) (hs : k ≠ B.sink) : toU B sg u k < B.P ∧ toU B sg u k ≠ k := hB.way k hk _ (Nat.mod_lt _ (hB.pos k hk hs))
theorem ways_cell {w : World} {B P m : Nat} {f : Nat → Nat → Int} {v : Value} {LV : List Value} (h : WaysAt w B P m f v LV) (hP : P ≤ 10) {p : Nat} (hN : ∀ i, i < m → EdgeN p f i) (hm : m ≤ 40) {k : Nat} (hk : k < P) :
    ∃ g cap ua uc, v = .slice (some ⟨g, 0, none⟩) P cap ∧ w.cell? ⟨g, k, none⟩ = some (.slice ua (deg f k m) uc) ∧ Ints.Is w ua (deg f k m) ((wayL f k m).map Int.ofNat) := by
  obtain ⟨g, cap, hv⟩ : ∃ g cap, v = .slice (some ⟨g, 0, none⟩) P cap := by
    rcases h.row.2 with ⟨_, h0⟩ | ⟨g, cap, cur, hv, _⟩
    · omega
    · exact ⟨g, cap, hv⟩
  subst hv
  obtain ⟨u, h1, h2⟩ := h.own k hk
  obtain ⟨ua, uc, rfl⟩ := own_slice h2
  have hl := wayL_len (P := p) (f := f) (k := k) (m := m)
  have hd : deg f k m ≤ 4000 := Nat.le_trans (deg_le hN) (by omega)
  refine ⟨g, cap, ua, uc, rfl, ?_, ?_⟩
  · rw [own_cell h.row h1, hl]
  · rw [intsL_map, hl] at h2
    exact (own_is h2 (by rw [List.length_map, hl]) (by unfold maxLen; omega)).1

set_option maxHeartbeats 8000000 in
set_option maxRecDepth 1000000 in
theorem goes_any (P s m : Nat) (f : Nat → Nat → Int) (sg c u : Nat → Nat) (bs bc cs cc B k : Nat) (v : Value) (LV : List Value) (w : World) (hW : WaysAt w B P m f v LV) (hsg : Vec w bs P fun k => (sgU (bdG P m s f) sg u k : Int)) (hch : Vec w bc P fun k => (chU (bdG P m s f) sg c u k : Int)) (hne : bs ≠ bc) (hbs : bs < B) (hbc : bc < B) (hL : Leg (bdG P m s f) sg c u) (hok : GOk P m f) (hs : s < P) (hk : k < P) (hks : k ≠ s) (ht : 0 < chU (bdG P m s f) sg c u k) (hN : sumN c P ≤ 100000) :
    Calls Tryd.prog 35 #[v, .int .i64 (s : Int), .slice (some ⟨bs, 0, none⟩) P cs, .slice (some ⟨bc, 0, none⟩) P cc, .int .i64 (k : Int)] w fun e w' => (∃ v, e = .returned v) ∧ Vec w' bs P (fun j => (sgU (bdG P m s f) sg (bump u k 1) j : Int)) ∧ Vec w' bc P (fun j => (chU (bdG P m s f) sg c (bump u k 1) j : Int)) ∧ Chg (fun b => b = bs ∨ b = bc) w w' := by
  have hbo : (bdG P m s f).Ok := bdG_ok hok hs
  have hd0 : 0 < deg f k m := hbo.pos k hk hks
  have hd4 : deg f k m ≤ 4000 := Nat.le_trans (deg_le hok.edge) (by have := hok.m40; omega)
  have hsk : sgU (bdG P m s f) sg u k < deg f k m := Nat.mod_lt _ hd0
  have hmost : ∀ p, p < P → chU (bdG P m s f) sg c u p ≤ 100000 := fun p hp => Nat.le_trans (ch_most hbo hL hp) hN
  have hck := hmost k hk
  obtain ⟨htl, htk⟩ := to_lt hbo (sg := sg) (u := u) hk hks
  have htl2 : toU (bdG P m s f) sg u k < P := htl
  have htm := hmost _ htl2
  have HST : Hid (∀ p, p < P → chU (bdG P m s f) sg c (bump u k 1) p = (if p = k then chU (bdG P m s f) sg c u k - 1 else chU (bdG P m s f) sg c u p) + if p = toU (bdG P m s f) sg u k ∧ p ≠ s then 1 else 0) := fun p hp => ch_step hbo hL hk hks ht hp
  have HSS : Hid (∀ j, sgU (bdG P m s f) sg (bump u k 1) j = if j = k then (sgU (bdG P m s f) sg u k + 1) % deg f k m else sgU (bdG P m s f) sg u j) := fun j => sg_step
  have hwl : ((wayL f k m).map Int.ofNat).getD ((sgU (bdG P m s f) sg u k + 1) % deg f k m) 0 = (toU (bdG P m s f) sg u k : Int) := by
    have hl : (sgU (bdG P m s f) sg u k + 1) % deg f k m < (wayL f k m).length := by rw [wayL_len (P := P)]; exact Nat.mod_lt _ hd0
    show _ = (((wayL f k m).getD ((sgU (bdG P m s f) sg u k + 1) % deg f k m) 0 : Nat) : Int)
    rw [List.getD_eq_getElem?_getD, List.getD_eq_getElem?_getD, List.getElem?_map, List.getElem?_eq_getElem hl]
    rfl
  have hlt := hW.row.1
  have hP10 : P ≤ 10 := hok.p10
  obtain ⟨g, cap, ua, uc, rfl, gc, hI⟩ := ways_cell hW hok.p10 hok.edge hok.m40 hk
  have hml : (sgU (bdG P m s f) sg u k + 1) % deg f k m < deg f k m := Nat.mod_lt _ hd0
  obtain ⟨bw, ow, rfl, hbw, ic⟩ := hI.cells _ hml
  dsimp only at ic
  rw [hwl] at ic
  have hgB : B ≤ g := own_low hW.row g rfl
  have hwB : B ≤ bw := by
    obtain ⟨u', h1, h2⟩ := hW.own k hk
    have h3 := own_cell hW.row h1
    rw [gc] at h3
    cases h3
    exact own_low h2 bw rfl
  clear hI hwl
  have s1 := hsg.cell hk
  have z1 := hsg.frozen k
  have c1 := hch.cell hk
  have y1 := hch.frozen k
  have t1 := hch.cell htl2
  have t2 := hch.frozen (toU (bdG P m s f) sg u k)
  have HSG := Lib.hid hsg
  have HCH := Lib.hid hch
  clear htl hbo hmost hW hsg hch hL
  have HOK := Lib.hid hok
  clear hok hN
  generalize bdG P m s f = D at *
  generalize deg f k m = d at *
  generalize toU D sg u k = q at *
  obtain ⟨sk, hske⟩ : ∃ d, d = sgU D sg u k := ⟨_, rfl⟩
  have HSK := Lib.hid hske
  rw [← hske] at s1 hsk HSS hml ic
  obtain ⟨ck, hcke⟩ : ∃ d, d = chU D sg c u k := ⟨_, rfl⟩
  have HCK := Lib.hid hcke
  rw [← hcke] at c1 hck HST ht
  obtain ⟨ct, hcte⟩ : ∃ d, d = chU D sg c u q := ⟨_, rfl⟩
  have HCT := Lib.hid hcte
  rw [← hcte] at t1 htm
  clear hske hcke hcte hks
  have hmod : ((sk : Int) + 1).tmod (d : Int) = (((sk + 1) % d : Nat) : Int) := by
    rw [show (sk : Int) + 1 = ((sk + 1 : Nat) : Int) from by omega]
    exact Int.ofNat_tmod _ _
  obtain ⟨sm, hsm⟩ : ∃ n, n = (sk + 1) % d := ⟨_, rfl⟩
  rw [← hsm] at hmod ic hml HSS
  clear hsm
  have dne : ((d : Int) == 0) = false := by rw [beq_eq_false_iff_ne]; omega
  have dne2 : ¬ d = 0 := by omega
  have hk2 : (k : Int) < (P : Int) := by omega
  have ht2 : (q : Int) < (P : Int) := by omega
  have hm2 : (sm : Int) < (d : Int) := by omega
  have o1 := only_setCell w bs k (.int .i64 (sm : Int))
  have V1 := Lib.hid (HSG.out.set hk (sm : Int))
  have C1 := Lib.hid (HCH.out.other o1 hne.symm)
  have X1 := Lib.hid (Chg.only o1)
  have G1 : (w.setCell ⟨bs, k, none⟩ (.int .i64 (sm : Int))).cell? ⟨g, k, none⟩ = some (.slice (some ⟨bw, ow, none⟩) d uc) := by
    rw [World.cell?_of_block (o1.block g (by omega))]; exact gc
  have I1 : (w.setCell ⟨bs, k, none⟩ (.int .i64 (sm : Int))).cell? ⟨bw, ow + sm, none⟩ = some (.int .i64 (q : Int)) := by
    rw [World.cell?_of_block (o1.block bw (by omega))]; exact ic
  clear o1
  go_enter Tryd.func35, Tryd.ntmps35
  refine wp_seq ?_
  refine wp_region_noPanic ?_
  go_region
  refine NoPanic.normal ?_
  have V1 := Lib.hid (show Vec (w.setCell ⟨bs, k, none⟩ (.int .i64 (sm : Int))).drew bs P _ from ⟨V1.out.row⟩)
  have C1 := Lib.hid (show Vec (w.setCell ⟨bs, k, none⟩ (.int .i64 (sm : Int))).drew bc P _ from ⟨C1.out.row⟩)
  have X1 : Hid (Chg (fun b => b = bs ∨ b = bc) w (w.setCell ⟨bs, k, none⟩ (.int .i64 (sm : Int))).drew) := ⟨X1.out.os, X1.out.tape, X1.out.output, X1.out.size, fun b hb hx => X1.out.block b hb fun h => hx (.inl h)⟩
  have G1 : (w.setCell ⟨bs, k, none⟩ (.int .i64 (sm : Int))).drew.cell? ⟨g, k, none⟩ = some (.slice (some ⟨bw, ow, none⟩) d uc) := G1
  have I1 : (w.setCell ⟨bs, k, none⟩ (.int .i64 (sm : Int))).drew.cell? ⟨bw, ow + sm, none⟩ = some (.int .i64 (q : Int)) := I1
  clear s1 z1 c1 y1 t1 t2 gc ic HSG HCH hbw
  generalize (w.setCell ⟨bs, k, none⟩ (.int .i64 (sm : Int))).drew = w2 at *
  have c1 := C1.out.cell hk
  rw [← HCK.out] at c1
  have y1 := C1.out.frozen k
  have o2 := only_setCell w2 bc k (.int .i64 ((ck : Int) - 1))
  have C2 := Lib.hid (C1.out.set hk ((ck : Int) - 1))
  have V2 := Lib.hid (V1.out.other o2 hne)
  have X2 := Lib.hid (X1.out.trans (Chg.only o2) fun b _ h => .inr h)
  have G2 : (w2.setCell ⟨bc, k, none⟩ (.int .i64 ((ck : Int) - 1))).cell? ⟨g, k, none⟩ = some (.slice (some ⟨bw, ow, none⟩) d uc) := by
    rw [World.cell?_of_block (o2.block g (by omega))]; exact G1
  have I2 : (w2.setCell ⟨bc, k, none⟩ (.int .i64 ((ck : Int) - 1))).cell? ⟨bw, ow + sm, none⟩ = some (.int .i64 (q : Int)) := by
    rw [World.cell?_of_block (o2.block bw (by omega))]; exact I1
  clear o2
  go_upto_region 2 with fail
  clear c1 y1 G1 I1 C1 V1 X1
  generalize w2.setCell ⟨bc, k, none⟩ (.int .i64 ((ck : Int) - 1)) = w3 at *
  have v1 := V2.out.cell hk
  have v2 : upd (fun k => (sgU D sg u k : Int)) k (sm : Int) k = (sm : Int) := upd_at
  rw [v2] at v1
  clear v2
  go_upto_region 3 with fail
  go_big_quiet (fail)
  have V3 := Lib.hid (V2.out.drewN nq)
  have C3 := Lib.hid (C2.out.drewN nq)
  have X3 : Hid (Chg (fun b => b = bs ∨ b = bc) w (w3.drewN nq)) := ⟨X2.out.os, X2.out.tape, X2.out.output, X2.out.size, X2.out.block⟩
  clear G2 I2 v1 V2 C2 X2
  generalize w3.drewN nq = w4 at *
  have HV : Hid (∀ j, j < P → upd (fun k => (sgU D sg u k : Int)) k (sm : Int) j = (sgU D sg (bump u k 1) j : Int)) := fun j hj => by
    rw [HSS.out]
    unfold upd
    by_cases e : j = k
    · rw [if_pos e, if_pos e]
    · rw [if_neg e, if_neg e]
  by_cases hqs : q = s
  · have b1 : ((q : Int) != (s : Int)) = false := by rw [hqs]; exact bne_self_eq_false _
    have HC : Hid (∀ j, j < P → upd (fun k => (chU D sg c u k : Int)) k ((ck : Int) - 1) j = (chU D sg c (bump u k 1) j : Int)) := fun j hj => by
      rw [HST.out j hj, if_neg (show ¬ (j = q ∧ j ≠ s) from fun h => h.2 (h.1.trans hqs)), Nat.add_zero]
      by_cases e : j = k
      · rw [e, upd_at, if_pos rfl]; omega
      · rw [upd_no e, if_neg e]
    clear hqs
    go_wp2_with fail
    go_end0
    exact ⟨⟨_, rfl⟩, V3.out.congr HV.out, C3.out.congr HC.out, X3.out⟩
  · have b1 : ((q : Int) != (s : Int)) = true := by rw [bne_iff_ne]; omega
    have t1 := C3.out.cell htl2
    have t2 := C3.out.frozen q
    have t3 : upd (fun k => (chU D sg c u k : Int)) k ((ck : Int) - 1) q = (ct : Int) := by rw [upd_no htk, HCT.out]
    rw [t3] at t1
    clear t3
    have o4 := only_setCell w4 bc q (.int .i64 ((ct : Int) + 1))
    have C4 := Lib.hid (C3.out.set htl2 ((ct : Int) + 1))
    have V4 := Lib.hid (V3.out.other o4 hne)
    have X4 := Lib.hid (X3.out.trans (Chg.only o4) fun b _ h => .inr h)
    have HC : Hid (∀ j, j < P → upd (upd (fun k => (chU D sg c u k : Int)) k ((ck : Int) - 1)) q ((ct : Int) + 1) j = (chU D sg c (bump u k 1) j : Int)) := fun j hj => by
      rw [HST.out j hj]
      by_cases e : j = q
      · rw [e, upd_at, if_pos (show q = q ∧ q ≠ s from ⟨rfl, hqs⟩), if_neg htk, HCT.out]; omega
      · rw [upd_no e, if_neg (show ¬ (j = q ∧ j ≠ s) from fun h => e h.1), Nat.add_zero]
        by_cases e2 : j = k
        · rw [e2, upd_at, if_pos rfl]; omega
        · rw [upd_no e2, if_neg e2]
    clear hqs o4
    go_wp2_with fail
    go_end0
    exact ⟨⟨_, rfl⟩, V4.out.congr HV.out, C4.out.congr HC.out, X4.out⟩
end Rt
end Go.Proofs.YtjikildiblchpaaDoor
