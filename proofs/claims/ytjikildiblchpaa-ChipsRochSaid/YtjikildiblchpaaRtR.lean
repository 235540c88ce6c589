/- WALK: (*rotor.board).run: so many chips go from a place. -/
import Derived.Test.YtjikildiblchpaaRtN
import Derived.Test.YtjikildiblchpaaRtL
namespace Go.Proofs.Ytjikildiblchpaa
set_option linter.unusedSimpArgs false
set_option linter.unusedVariables false
open Go.RowKit Go.Lib
namespace Rt
open Tld Mem

/-- A board on which so many went from each place. -/
def BrdU (w : World) (B bb : Nat) (x : BA) (P s m : Nat) (f : Nat → Nat → Int) (sg c u : Nat → Nat) : Prop :=
  Brd w B bb x P s m f (fun k => (sgU (bdG P m s f) sg u k : Int)) (fun k => (chU (bdG P m s f) sg c u k : Int)) (fun k => wrap64 (u k : Int))
def RowsOf (x : BA) (k : Nat) : Prop := k = x.bs ∨ k = x.bc ∨ k = x.bt
theorem is_chg {w w' : World} {a : Option Addr} {n : Nat} {zs : List Int} {X : Nat → Prop} (h : Ints.Is w a n zs) (hc : Chg X w w') (hx : ∀ b o, a = some ⟨b, o, none⟩ → ¬ X b) : Ints.Is w' a n zs :=
  ⟨h.len, fun i hi => by
    obtain ⟨b, off, e, hl, hcl⟩ := h.cells i hi
    refine ⟨b, off, e, Nat.lt_of_lt_of_le hl hc.size, ?_⟩
    rw [show w'.cell? ⟨b, off + i, none⟩ = w.cell? ⟨b, off + i, none⟩ from World.cell?_of_block (hc.block b hl (hx b off e))]
    exact hcl, h.le⟩
/-- What a store to one of a board's rows leaves. -/
theorem Brd.only {w w' : World} {B bb : Nat} {x : BA} {P s m : Nat} {f : Nat → Nat → Int} {S C W : Nat → Int} (h : Brd w B bb x P s m f S C W) {b : Nat} (ho : Only b w w') (hb : RowsOf x b) :
    Row w' bb 58 [.int .i64 (s : Int), .slice (some ⟨x.bw, 0, none⟩) P P, .slice (some ⟨x.bs, 0, none⟩) P x.cs, .slice (some ⟨x.bc, 0, none⟩) P x.cc, .slice (some ⟨x.bt, 0, none⟩) P P] ∧
    (∃ LV, Row w' x.bw 25 LV ∧ ∀ k, k < P → LV[k]? = some (.slice (x.wa k) (deg f k m) (x.wc k))) ∧
    (∀ k, k < P → Ints.Is w' (x.wa k) (deg f k m) ((wayL f k m).map Int.ofNat)) := by
  obtain ⟨LV, hw1, hw2⟩ := h.wrow
  have hne : ∀ {T : TypeId} {cs : List Value} {d : Nat}, Row w d T cs → T ≠ 3 → d ≠ b := fun {T cs d} hr hT e => by
    have hv : ∃ F, Vec w b P F := by
      rcases hb with hb | hb | hb
      · exact ⟨S, by rw [hb]; exact h.sg⟩
      · exact ⟨C, by rw [hb]; exact h.ch⟩
      · exact ⟨W, by rw [hb]; exact h.wt⟩
    obtain ⟨F, hv⟩ := hv
    obtain ⟨cs2, hr2, _⟩ := hv.row
    exact row_ne hr hr2 hT e
  refine ⟨h.row.other ho (hne h.row (by decide)), ⟨LV, hw1.other ho (hne hw1 (by decide)), hw2⟩, fun k hk => is_chg (h.wis k hk) (Chg.only ho) fun b' o e hx => ?_⟩
  obtain ⟨f1, f2, f3⟩ := h.far k hk b' o e
  rcases hb with hb | hb | hb
  · exact f1 (hx.trans hb)
  · exact f2 (hx.trans hb)
  · exact f3 (hx.trans hb)
theorem Brd.setS {w : World} {B bb : Nat} {x : BA} {P s m : Nat} {f : Nat → Nat → Int} {S C W : Nat → Int} (h : Brd w B bb x P s m f S C W) {k : Nat} (hk : k < P) (v : Int) : Brd (w.setCell ⟨x.bs, k, none⟩ (.int .i64 v)) B bb x P s m f (upd S k v) C W := by
  have ho := only_setCell w x.bs k (.int .i64 v)
  obtain ⟨h1, h2, h3⟩ := h.only ho (.inl rfl)
  exact ⟨h1, h2, h3, h.sg.set hk v, h.ch.other ho h.sc.symm, h.wt.other ho h.st.symm, h.sc, h.st, h.ct, h.far, h.ls, h.lc, h.lt⟩
theorem Brd.setC {w : World} {B bb : Nat} {x : BA} {P s m : Nat} {f : Nat → Nat → Int} {S C W : Nat → Int} (h : Brd w B bb x P s m f S C W) {k : Nat} (hk : k < P) (v : Int) : Brd (w.setCell ⟨x.bc, k, none⟩ (.int .i64 v)) B bb x P s m f S (upd C k v) W := by
  have ho := only_setCell w x.bc k (.int .i64 v)
  obtain ⟨h1, h2, h3⟩ := h.only ho (.inr (.inl rfl))
  exact ⟨h1, h2, h3, h.sg.other ho h.sc, h.ch.set hk v, h.wt.other ho h.ct.symm, h.sc, h.st, h.ct, h.far, h.ls, h.lc, h.lt⟩
theorem Brd.setW {w : World} {B bb : Nat} {x : BA} {P s m : Nat} {f : Nat → Nat → Int} {S C W : Nat → Int} (h : Brd w B bb x P s m f S C W) {k : Nat} (hk : k < P) (v : Int) : Brd (w.setCell ⟨x.bt, k, none⟩ (.int .i64 v)) B bb x P s m f S C (upd W k v) := by
  have ho := only_setCell w x.bt k (.int .i64 v)
  obtain ⟨h1, h2, h3⟩ := h.only ho (.inr (.inr rfl))
  exact ⟨h1, h2, h3, h.sg.other ho h.st, h.ch.other ho h.ct, h.wt.set hk v, h.sc, h.st, h.ct, h.far, h.ls, h.lc, h.lt⟩
theorem Brd.congr {w : World} {B bb : Nat} {x : BA} {P s m : Nat} {f : Nat → Nat → Int} {S C W S' C' W' : Nat → Int} (h : Brd w B bb x P s m f S C W) (e1 : ∀ k, k < P → S k = S' k) (e2 : ∀ k, k < P → C k = C' k) (e3 : ∀ k, k < P → W k = W' k) : Brd w B bb x P s m f S' C' W' :=
  ⟨h.row, h.wrow, h.wis, h.sg.congr e1, h.ch.congr e2, h.wt.congr e3, h.sc, h.st, h.ct, h.far, h.ls, h.lc, h.lt⟩
theorem Brd.keep {w w' : World} {B bb : Nat} {x : BA} {P s m : Nat} {f : Nat → Nat → Int} {S C W : Nat → Int} (h : Brd w B bb x P s m f S C W) (hb : Below w.heap.size w w') : Brd w' B bb x P s m f S C W := by
  obtain ⟨LV, hw1, hw2⟩ := h.wrow
  exact ⟨h.row.keep hb h.row.lt, ⟨LV, hw1.keep hb hw1.lt, hw2⟩, fun k hk => (h.wis k hk).keep hb, h.sg.keep hb h.sg.lt, h.ch.keep hb h.ch.lt, h.wt.keep hb h.wt.lt, h.sc, h.st, h.ct, h.far, h.ls, h.lc, h.lt⟩
/-- Nothing but a board's rows has changed. -/
theorem brd_below {w : World} {B bb : Nat} {x : BA} {P s m : Nat} {f : Nat → Nat → Int} {S C W : Nat → Int} (h : Brd w B bb x P s m f S C W) {b k : Nat} {v : Value} (hb : RowsOf x b) {w0 : World} (hB : w0.heap.size ≤ B) (hw : Below w0.heap.size w0 w) : Below w0.heap.size w0 (w.setCell ⟨b, k, none⟩ v) :=
  hw.trans ((only_setCell w b k v).below (by
    rcases hb with hb | hb | hb
    · have := h.ls; omega
    · have := h.lc; omega
    · have := h.lt; omega))
theorem wrap_add (a b : Int) : wrap64 (wrap64 a + b) = wrap64 (a + b) := by
  unfold wrap64; omega

set_option maxHeartbeats 8000000 in
set_option maxRecDepth 1000000 in
theorem run_any (P s m : Nat) (f : Nat → Nat → Int) (sg c u : Nat → Nat) (x : BA) (bb B k t : Nat) (w0 w : World) (hB0 : w0.heap.size ≤ B) (hB : Below w0.heap.size w0 w) (hbr : BrdU w B bb x P s m f sg c u) (hL : Leg (bdG P m s f) sg c u) (hok : GOk P m f) (hs : s < P) (hk : k < P) (hks : k ≠ s) (ht : t ≤ chU (bdG P m s f) sg c u k) (hN : sumN c P ≤ 100000) :
    Calls Try.prog 21 #[.pointer (some ⟨bb, 0, none⟩), .int .i64 (k : Int), .int .i64 (t : Int)] w fun e w' => (∃ v, e = .returned v) ∧ BrdU w' B bb x P s m f sg c (bump u k t) ∧ Below w0.heap.size w0 w' := by
  have hbo : (bdG P m s f).Ok := bdG_ok hok hs
  have hd0 : 0 < deg f k m := hbo.pos k hk hks
  have hd4 : deg f k m ≤ 4000 := Nat.le_trans (deg_le hok.edge) (by have := hok.m40; omega)
  have hmost : ∀ p, p < P → chU (bdG P m s f) sg c u p ≤ 100000 := fun p hp => Nat.le_trans (ch_most hbo hL hp) hN
  have hck := hmost k hk
  have hCI : ∀ i p, p < P → i ≤ deg f k m → chI (bdG P m s f) sg c u k t i p ≤ 100000 := fun i p hp hi => Nat.le_trans (chI_le hbo hL hk hks ht hp hi) hN
  have hCA : ∀ p, p < P → chI (bdG P m s f) sg c u k t (deg f k m) p = chU (bdG P m s f) sg c (bump u k t) p := fun p hp => chI_all hbo hL hk hks ht hp
  have hCN : ∀ i p, chI (bdG P m s f) sg c u k t (i + 1) p = chI (bdG P m s f) sg c u k t i p + if (bdG P m s f).way k i = p ∧ p ≠ s then often (deg f k m) (sgU (bdG P m s f) sg u k) i t else 0 := fun i p => chI_next
  have hwy : ∀ i, i < deg f k m → (bdG P m s f).way k i < P := fun i hi => (hbo.way k hk i hi).1
  have hwl : ∀ i, i < deg f k m → ((wayL f k m).map Int.ofNat).getD i 0 = ((bdG P m s f).way k i : Int) := fun i hi => by
    have hl : i < (wayL f k m).length := by rw [wayL_len (P := P)]; exact hi
    show _ = (((wayL f k m).getD i 0 : Nat) : Int)
    rw [List.getD_eq_getElem?_getD, List.getD_eq_getElem?_getD, List.getElem?_map, List.getElem?_eq_getElem hl]
    rfl
  have hsk : sgU (bdG P m s f) sg u k < deg f k m := Nat.mod_lt _ hd0
  have HBR := Lib.hid hbr
  have HB := Lib.hid hB
  have HCI := Lib.hid hCI
  have HCA := Lib.hid hCA
  have HCN := Lib.hid hCN
  have HC0 : Hid (∀ p, chI (bdG P m s f) sg c u k t 0 p = ch0 (bdG P m s f) sg c u k t p) := fun p => chI_zero
  have HWY := Lib.hid hwy
  have HWL := Lib.hid hwl
  have HSB : Hid (∀ j, sgU (bdG P m s f) sg (bump u k t) j = if j = k then (sgU (bdG P m s f) sg u k + t) % deg f k m else sgU (bdG P m s f) sg u j) := fun j => sgU_bump
  unfold BrdU at HBR
  obtain ⟨D, hD⟩ : ∃ D, D = bdG P m s f := ⟨_, rfl⟩
  have HDE := Lib.hid hD
  rw [← hD] at HBR HCI HCA HCN HC0 HWY HWL HSB hck ht hsk
  obtain ⟨d, hd⟩ : ∃ d, d = deg f k m := ⟨_, rfl⟩
  have HDD := Lib.hid hd
  rw [← hd] at HCI HCA HCN HWY HWL HSB hd0 hd4 hsk
  obtain ⟨sk, hske⟩ : ∃ sk, sk = sgU D sg u k := ⟨_, rfl⟩
  have HSKE := Lib.hid hske
  rw [← hske] at HCN HSB hsk
  obtain ⟨ck, hcke⟩ : ∃ ck, ck = chU D sg c u k := ⟨_, rfl⟩
  have HCKE := Lib.hid hcke
  rw [← hcke] at hck ht
  have HKS := Lib.hid hks
  clear hbr hB hCI hCA hCN hwy hwl hmost hbo hL hok hN hD hd hske hcke hks
  have r1 := HBR.out.row.cell 1
  have r3 := HBR.out.row.cell 3
  obtain ⟨LV, hv1, hv2⟩ := HBR.out.wrow
  have w1 := (hv1.cell k).trans (hv2 k hk)
  have c1 := HBR.out.ch.cell hk
  have z1 := HBR.out.ch.frozen k
  rw [← HDD.out] at w1
  obtain ⟨wak, hwak⟩ : ∃ a, a = x.wa k := ⟨_, rfl⟩
  rw [← hwak] at w1
  have HWA := Lib.hid hwak
  clear hwak
  rw [← HCKE.out] at c1
  dsimp only [List.getElem?_cons_succ, List.getElem?_cons_zero] at r1 r3
  have hk2 : (k : Int) < (P : Int) := by omega
  have hset := HBR.out.setC hk ((ck : Int) - (t : Int))
  have HBa := Lib.hid (brd_below (k := k) (v := .int .i64 ((ck : Int) - (t : Int))) HBR.out (.inr (.inl rfl)) hB0 HB.out)
  have HBRa := Lib.hid hset
  clear hv1 hv2 hset
  go_enter Try.func21, Try.ntmps21
  go_upto_region 2 with fail
  clear r1 r3 c1 z1 w1
  generalize w.setCell ⟨x.bc, k, none⟩ (.int .i64 ((ck : Int) - (t : Int))) = w2 at *
  have r4 := HBRa.out.row.cell 4
  have c4 := HBRa.out.wt.cell hk
  have z4 := HBRa.out.wt.frozen k
  dsimp only [List.getElem?_cons_succ, List.getElem?_cons_zero] at r4
  obtain ⟨wk, hwk⟩ : ∃ z, z = wrap64 (u k : Int) := ⟨_, rfl⟩
  rw [← hwk] at c4
  have HWK := Lib.hid hwk
  clear hwk
  have HBb := Lib.hid (brd_below (k := k) (v := .int .i64 (wrap64 (wk + (t : Int)))) HBRa.out (.inr (.inr rfl)) hB0 HBa.out)
  have HBRb := Lib.hid (HBRa.out.setW hk (wrap64 (wk + (t : Int))))
  go_upto_region 3 with fail
  clear r4 c4 z4
  generalize w2.setCell ⟨x.bt, k, none⟩ (.int .i64 (wrap64 (wk + (t : Int)))) = w3 at *
  have t1 : (t : Int).tdiv (d : Int) = ((t / d : Nat) : Int) := Int.ofNat_tdiv _ _
  have t2 : (t : Int).tmod (d : Int) = ((t % d : Nat) : Int) := Int.ofNat_tmod _ _
  have dne : ((d : Int) == 0) = false := by rw [beq_eq_false_iff_ne]; omega
  have dne2 : ¬ d = 0 := by omega
  have tdl : t / d ≤ t := Nat.div_le_self _ _
  have tml : t % d < d := Nat.mod_lt _ hd0
  obtain ⟨tq, htq⟩ : ∃ q, q = t / d := ⟨_, rfl⟩
  obtain ⟨tr, htr⟩ : ∃ q, q = t % d := ⟨_, rfl⟩
  rw [← htq] at t1 tdl
  rw [← htr] at t2 tml
  have HTQ := Lib.hid htq
  have HTR := Lib.hid htr
  clear htq htr
  go_upto_region 3 with fail
  go_big_quiet (fail)
  have HBRc := Lib.hid (HBRb.out.keep (below_drewN (Below.refl _ _) nq))
  have HBc := Lib.hid (below_drewN HBb.out nq)
  clear HBRa HBRb HBa HBb HBR HB
  generalize w3.drewN nq = w4 at *
  have HCH : Hid (∀ p, p < P → upd (fun k => (chU D sg c u k : Int)) k ((ck : Int) - (t : Int)) p = (ch0 D sg c u k t p : Int)) := fun p hp => by
    unfold upd ch0
    split
    · rw [← HCKE.out]; omega
    · rfl
  go_wp2_with fail
  go_loopw [50] (fun v wr => ∃ i : Nat, i ≤ d ∧ v = .int .i64 (i : Int) ∧ Brd wr B bb x P s m f (fun k => (sgU D sg u k : Int)) (fun p => (chI D sg c u k t i p : Int)) (upd (fun k => wrap64 (u k : Int)) k (wrap64 (wk + (t : Int)))) ∧ Below w0.heap.size w0 wr) (fun v _ => d - (intOf v).toNat)
  case atStart => exact ⟨0, Nat.zero_le _, rfl, HBRc.out.congr (fun _ _ => rfl) (fun p hp => by rw [HCH.out p hp, HC0.out]) (fun _ _ => rfl), HBc.out⟩
  case round =>
    clear HBRc HBc
    obtain ⟨i, hid, rfl, hbr, hb⟩ := hrel
    have HBR := Lib.hid hbr
    have HB := Lib.hid hb
    clear hbr hb
    by_cases hlt : i < d
    · --{ROUND
      have hwp := HWY.out i hlt
      have hws := HWL.out i hlt
      obtain ⟨p, hp⟩ : ∃ p, p = D.way k i := ⟨_, rfl⟩
      rw [← hp] at hwp hws
      have HPE := Lib.hid hp
      clear hp
      have hwis := HBR.out.wis k hk
      rw [← HDD.out, ← HWA.out] at hwis
      obtain ⟨bw, ow, rfl, _, hcw⟩ := hwis.cells i hlt
      clear hwis
      dsimp only at hcw
      rw [hws] at hcw
      have hi2 : (i : Int) < (d : Int) := by omega
      have hp2 : (p : Int) < (P : Int) := by omega
      have r2 := HBR.out.row.cell 2
      have s1 := HBR.out.sg.cell hk
      rw [← HSKE.out] at s1
      dsimp only [List.getElem?_cons_succ, List.getElem?_cons_zero] at r2
      obtain ⟨dd, hdd⟩ : ∃ q, q = (i + 2 * d - sk - 1) % d := ⟨_, rfl⟩
      have hml : dd < d := by rw [hdd]; exact Nat.mod_lt _ hd0
      have hmod : ((i : Int) - (sk : Int) - 1 + 2 * (d : Int)).tmod (d : Int) = (dd : Int) := by
        rw [hdd, show (i : Int) - (sk : Int) - 1 + 2 * (d : Int) = ((i + 2 * d - sk - 1 : Nat) : Int) from by omega]
        exact Int.ofNat_tmod _ _
      have HDI := Lib.hid hdd
      clear hdd hws
      have HOF : Hid (often d sk i t = tq + if dd < tr then 1 else 0) := by
        show _ = _
        unfold often
        rw [HTQ.out, HTR.out, HDI.out]
      have HNX : Hid (∀ q, chI D sg c u k t (i + 1) q = chI D sg c u k t i q + if p = q ∧ q ≠ s then (tq + if dd < tr then 1 else 0) else 0) := fun q => by
        rw [HCN.out, HOF.out, ← HPE.out]
      have hb1 := HCI.out i p hwp hid
      have hb2 := HCI.out (i + 1) p hwp hlt
      rw [HNX.out] at hb2
      clear HOF
      have r0 := HBR.out.row.cell 0
      have r3 := HBR.out.row.cell 3
      have c3 := HBR.out.ch.cell hwp
      have z3 := HBR.out.ch.frozen p
      dsimp only [List.getElem?_cons_succ, List.getElem?_cons_zero] at r0 r3
      obtain ⟨cp, hcp⟩ : ∃ q, q = chI D sg c u k t i p := ⟨_, rfl⟩
      rw [← hcp] at c3 hb1 hb2
      have HCP := Lib.hid hcp
      clear hcp
      have HPS : Hid (p = s → Brd wr B bb x P s m f (fun k => (sgU D sg u k : Int)) (fun p => (chI D sg c u k t (i + 1) p : Int)) (upd (fun k => wrap64 (u k : Int)) k (wrap64 (wk + (t : Int))))) := fun e => HBR.out.congr (fun _ _ => rfl) (fun q hq => by rw [HNX.out, if_neg (fun h => h.2 (by rw [← h.1]; exact e)), Nat.add_zero]) (fun _ _ => rfl)
      have HPN : Hid (p ≠ s → ∀ n : Nat, n = (tq + if dd < tr then 1 else 0) → Brd (wr.setCell ⟨x.bc, p, none⟩ (.int .i64 ((cp : Int) + (n : Int)))) B bb x P s m f (fun k => (sgU D sg u k : Int)) (fun p => (chI D sg c u k t (i + 1) p : Int)) (upd (fun k => wrap64 (u k : Int)) k (wrap64 (wk + (t : Int))))) := fun e n hn => (HBR.out.setC hwp ((cp : Int) + (n : Int))).congr (fun _ _ => rfl) (fun q hq => by
        rw [HNX.out]
        unfold upd
        by_cases hqp : q = p
        · rw [if_pos hqp, hqp, if_pos ⟨rfl, e⟩, ← HCP.out, ← hn]; omega
        · rw [if_neg hqp, if_neg (fun h => hqp h.1.symm), Nat.add_zero]) (fun _ _ => rfl)
      have HBB : Hid (∀ v, Below w0.heap.size w0 (wr.setCell ⟨x.bc, p, none⟩ v)) := fun v => brd_below HBR.out (.inr (.inl rfl)) hB0 HB.out
      obtain ⟨ps, hps⟩ : ∃ b, b = ((p : Int) != (s : Int)) := ⟨_, rfl⟩
      have b1 := hps.symm
      have HB1 := Lib.hid hps
      clear hps
      by_cases hlo : dd < tr
      · have d1 : decide ((dd : Int) < (tr : Int)) = true := decide_eq_true (by omega)
        have d2 : decide (dd < tr) = true := decide_eq_true hlo
        have HLO := Lib.hid hlo
        clear hlo
        cases ps
        · have HX := Lib.hid (HPS.out (by have := HB1.out; rw [eq_comm, bne_eq_false_iff_eq] at this; omega))
          go_wp2_with fail
          go_roundw
          case rel => exact ⟨i + 1, by omega, by go_num, HX.out, HB.out⟩
          case measure => simp [intOf]; omega
        · have HX := Lib.hid (HPN.out (by have := HB1.out; rw [eq_comm, bne_iff_ne] at this; omega) (tq + 1) (by rw [if_pos HLO.out]))
          have hb3 : cp + (tq + 1) ≤ 100000 := by
            by_cases e : p = s
            · exact absurd HB1.out (by rw [e]; simp)
            · rw [if_pos ⟨rfl, e⟩, if_pos HLO.out] at hb2; exact hb2
          rw [Int.natCast_add] at HX
          have HBX := Lib.hid (HBB.out (.int .i64 ((cp : Int) + ((tq : Int) + ((1 : Nat) : Int)))))
          go_wp2_with fail
          go_roundw
          case rel => exact ⟨i + 1, by omega, by go_num, HX.out, HBX.out⟩
          case measure => simp [intOf]; omega
      · have d1 : decide ((dd : Int) < (tr : Int)) = false := decide_eq_false (by omega)
        have d2 : decide (dd < tr) = false := decide_eq_false hlo
        have HLO := Lib.hid hlo
        clear hlo
        cases ps
        · have HX := Lib.hid (HPS.out (by have := HB1.out; rw [eq_comm, bne_eq_false_iff_eq] at this; omega))
          go_wp2_with fail
          go_roundw
          case rel => exact ⟨i + 1, by omega, by go_num, HX.out, HB.out⟩
          case measure => simp [intOf]; omega
        · have HX := Lib.hid (HPN.out (by have := HB1.out; rw [eq_comm, bne_iff_ne] at this; omega) tq (by rw [if_neg HLO.out]; rfl))
          have hb3 : cp + tq ≤ 100000 := by
            by_cases e : p = s
            · exact absurd HB1.out (by rw [e]; simp)
            · rw [if_pos ⟨rfl, e⟩, if_neg HLO.out] at hb2; exact hb2
          have HBX := Lib.hid (HBB.out (.int .i64 ((cp : Int) + (tq : Int))))
          go_wp2_with fail
          go_roundw
          case rel => exact ⟨i + 1, by omega, by go_num, HX.out, HBX.out⟩
          case measure => simp [intOf]; omega
      --}
    · --{END
      obtain rfl : i = d := by omega
      have r2 := HBR.out.row.cell 2
      have s1 := HBR.out.sg.cell hk
      have z1 := HBR.out.sg.frozen k
      rw [← HSKE.out] at s1
      dsimp only [List.getElem?_cons_succ, List.getElem?_cons_zero] at r2
      have hmod : ((sk : Int) + (t : Int)).tmod (i : Int) = (((sk + t) % i : Nat) : Int) := by
        rw [← Int.natCast_add]; exact Int.ofNat_tmod _ _
      obtain ⟨ns, hns⟩ : ∃ q, q = (sk + t) % i := ⟨_, rfl⟩
      rw [← hns] at hmod
      have hnl : ns < i := by rw [hns]; exact Nat.mod_lt _ hd0
      have HNS := Lib.hid hns
      clear hns
      have HF : Hid (Brd (wr.setCell ⟨x.bs, k, none⟩ (.int .i64 (ns : Int))) B bb x P s m f (fun j => (sgU D sg (bump u k t) j : Int)) (fun j => (chU D sg c (bump u k t) j : Int)) (fun j => wrap64 (bump u k t j : Int))) := (HBR.out.setS hk (ns : Int)).congr (fun j hj => by
        rw [HSB.out]
        unfold upd
        split
        · rw [HNS.out]
        · rfl) (fun j hj => by rw [← HCA.out j hj]) (fun j hj => by
        unfold upd
        by_cases e : j = k
        · rw [if_pos e, e, bump_at, HWK.out, wrap_add, Int.natCast_add]
        · rw [if_neg e, bump_no e])
      have HFB := Lib.hid (brd_below (k := k) (v := .int .i64 (ns : Int)) HBR.out (.inl rfl) hB0 HB.out)
      go_upto_region 14 with fail
      refine wp_region_noPanic ?_
      go_region
      refine NoPanic.normal ?_
      go_wp2_with fail
      go_end0
      refine ⟨⟨_, rfl⟩, ?_, HFB.out.trans ((Below.refl _ _).drew)⟩
      unfold BrdU
      rw [← HDE.out]
      exact HF.out.keep ((Below.refl _ _).drew)
      --}
end Rt
end Go.Proofs.Ytjikildiblchpaa
