/- WALK: rotor.Route: all chips go. -/
import Derived.Test.YtjikildiblchpaaDoorRtR
import Derived.Deep.LoopGhost
namespace Go.Proofs.YtjikildiblchpaaDoor
set_option linter.unusedSimpArgs false
set_option linter.unusedVariables false
open Go.RowKit Go.Lib
namespace Rt
open Tld Mem

theorem sumN_bump {u : Nat → Nat} {k t n : Nat} (hk : k < n) : sumN (bump u k t) n = sumN u n + t := by
  have e : sumN (bump u k t) n = sumN (fun j => u j + if k = j then t else 0) n := sumN_congr fun j hj => by
    by_cases h : k = j
    · subst h; rw [bump_at, if_pos rfl]
    · rw [bump_no (Ne.symm h), if_neg h, Nat.add_zero]
  rw [e, sumN_add]
  have := sumN_pickF (a := k) (F := fun _ => t) (n := n)
  rw [if_pos hk] at this
  rw [this]
def sgN (zs : List Int) (k : Nat) : Nat := (zs.getD k 0).toNat
theorem chips_ok {p s : Nat} {cz : List Int} (h : cfault p s cz = 0) (hs : s < p) : cz.length = p ∧ sgN cz s = 0 ∧ (∀ k, k < p → cz.getD k 0 = (sgN cz k : Int) ∧ sgN cz k ≤ 10000) := by
  unfold cfault at h
  by_cases h1 : cz.length ≠ p
  · rw [if_pos h1] at h; cases h
  rw [if_neg h1] at h
  by_cases h2 : cz.getD s 0 ≠ 0 ∨ cz.any pbad = true
  · rw [if_pos h2] at h; cases h
  have hl : cz.length = p := Classical.byContradiction h1
  have h3 : cz.getD s 0 = 0 := Classical.byContradiction fun x => h2 (.inl x)
  have h4 : ¬ cz.any pbad = true := fun x => h2 (.inr x)
  refine ⟨hl, by unfold sgN; rw [h3]; rfl, fun k hk => ?_⟩
  have h5 : pbad (cz.getD k 0) = false := by
    have h6 : cz.any pbad = false := by simpa using h4
    rw [List.any_eq_false] at h6
    simpa using h6 _ (int_mem (by rw [hl]; exact hk))
  unfold pbad at h5
  rw [decide_eq_false_iff_not] at h5
  unfold sgN
  omega
theorem signs_ok {p s : Nat} {d : Nat → Nat} {sz : List Int} (h : ∀ k, k < p → SignOk s d k (sz.getD k 0)) : ∀ k, k < p → sz.getD k 0 = (sgN sz k : Int) ∧ (k = s → sgN sz k = 0) ∧ (k ≠ s → sgN sz k < d k) := fun k hk => by
  obtain ⟨h1, h2, h3⟩ := h k hk
  have h4 : sz.getD k 0 = (sgN sz k : Int) := by unfold sgN; omega
  refine ⟨h4, fun e => ?_, fun e => ?_⟩
  · have := h2 e; omega
  · have := h3 e; omega
theorem brdU_start {w : World} {B bb : Nat} {x : BA} {P s m : Nat} {f : Nat → Nat → Int} {sz cz : List Int} (h : Brd w B bb x P s m f (fun k => sz.getD k 0) (fun k => cz.getD k 0) (fun _ => 0)) (hs : s < P) (hsg : ∀ k, k < P → SignOk s (fun k => deg f k m) k (sz.getD k 0)) (hc : cfault P s cz = 0) : BrdU w B bb x P s m f (sgN sz) (sgN cz) (fun _ => 0) := by
  obtain ⟨_, hcs, hck⟩ := chips_ok hc hs
  have hsk := signs_ok hsg
  unfold BrdU
  refine h.congr (fun k hk => ?_) (fun k hk => ?_) (fun k hk => ?_)
  · obtain ⟨h1, h2, h3⟩ := hsk k hk
    rw [h1]
    show (sgN sz k : Int) = (((sgN sz k + 0) % deg f k m : Nat) : Int)
    rw [Nat.add_zero]
    by_cases e : k = s
    · rw [h2 e, Nat.zero_mod]
    · rw [Nat.mod_eq_of_lt (h3 e)]
  · rw [(hck k hk).1]
    show (sgN cz k : Int) = (((if k = s then 0 else inb (bdG P m s f) (sgN sz) (sgN cz) (fun _ => 0) k - 0) : Nat) : Int)
    by_cases e : k = s
    · rw [if_pos e, e, hcs]
    · rw [if_neg e]
      unfold inb
      rw [sumN_congr (G := fun _ => 0) fun j _ => show arr _ _ j k 0 = 0 from rfl, sumN_zero, Nat.add_zero, Nat.sub_zero]
  · show (0 : Int) = wrap64 ((0 : Nat) : Int)
    unfold wrap64; omega
theorem done_of {B : Bd} {sg c u : Nat → Nat} (h : ∀ k, k < B.P → chU B sg c u k = 0) : Done B sg c u := fun k hk hs => by
  have := h k hk
  unfold chU at this
  rw [if_neg hs] at this
  omega
/-- What Route gives. -/
def RoutePost (P : Int) (m : Nat) (f : Nat → Nat → Int) (sink : Int) (sz cz : List Int) (w : World) (e : Ending) (w' : World) : Prop :=
  ((bfault P m f sink sz cz ≠ 0 ∧ e = .returned (.tuple #[.slice none 0 0, .slice none 0 0, errV (bfault P m f sink sz cz)])) ∨
   (bfault P m f sink sz cz = 0 ∧ 1000 < sumN (sgN cz) P.toNat ∧ e = .returned (.tuple #[.slice none 0 0, .slice none 0 0, errV 4])) ∨
   (bfault P m f sink sz cz = 0 ∧ sumN (sgN cz) P.toNat ≤ 1000 ∧ ∃ (p s b1 c1 b2 c2 : Nat) (u : Nat → Nat), P = (p : Int) ∧ sink = (s : Int) ∧ s < p ∧ GOk p m f ∧ sz.length = p ∧ cz.length = p ∧ (∀ k, k < p → SignOk s (fun k => deg f k m) k (sz.getD k 0)) ∧ cfault p s cz = 0 ∧
     Leg (bdG p m s f) (sgN sz) (sgN cz) u ∧ Done (bdG p m s f) (sgN sz) (sgN cz) u ∧ e = .returned (.tuple #[.slice (some ⟨b1, 0, none⟩) p c1, .slice (some ⟨b2, 0, none⟩) p c2, .nilIface]) ∧
     Ints.Is w' (some ⟨b1, 0, none⟩) p (lstF p fun k => (sgU (bdG p m s f) (sgN sz) u k : Int)) ∧ Ints.Is w' (some ⟨b2, 0, none⟩) p (lstF p fun k => wrap64 (u k : Int)))) ∧ Below w.heap.size w w'

set_option maxHeartbeats 8000000 in
set_option maxRecDepth 1000000 in
theorem route_any (P sink : Int) (ea : Option Addr) (m ec : Nat) (f : Nat → Nat → Int) (sa : Option Addr) (sn sc : Nat) (sz : List Int) (ca : Option Addr) (cn cc : Nat) (cz : List Int) (w : World) (hE : Mem.Rows w ea m 3 (fun i j => .int .i64 (f i j))) (hm : m ≤ 9223372036854775807) (hS : Ints.Is w sa sn sz) (hC : Ints.Is w ca cn cz) (hcn : cn * 8 ≤ 140737488355328) (hsnil : sa = none → sn = 0) (hcnil : ca = none → cn = 0) :
    Calls Tryd.prog 12 #[.agg #[.int .i64 P, .slice ea m ec], .int .i64 sink, .slice sa sn sc, .slice ca cn cc] w (RoutePost P m f sink sz cz w) := by
  have HE := Lib.hid hE
  have HS := Lib.hid hS
  have HC := Lib.hid hC
  have HSN := Lib.hid hsnil
  have HCN := Lib.hid hcnil
  have HCL := Lib.hid hC.len
  clear hE hS hC hsnil hcnil
  go_enter Tryd.func12, Tryd.ntmps12
  go_upto_region 1 with fail
  have hR : Row (w.alloc (.cells #[.int .i64 P, .slice ea m ec] 24)) w.heap.size 24 [.int .i64 P, .slice ea m ec] := row_alloc w _ _
  have hB : Below w.heap.size w (w.alloc (.cells #[.int .i64 P, .slice ea m ec] 24)) := (Below.refl _ _).alloc (Nat.le_refl _) _
  have HG := Lib.hid hR
  have HB := Lib.hid hB
  clear hR hB
  generalize w.alloc (.cells #[.int .i64 P, .slice ea m ec] 24) = w1 at *
  obtain ⟨bg, hbg⟩ : ∃ bg, bg = w.heap.size := ⟨_, rfl⟩
  rw [← hbg] at HG ⊢
  clear hbg
  have l1 := row_range HG.out
  go_wp2_with (refine wpList_load_mid rfl 24 _ rfl bg 0 rfl _ _ l1 Tryd.underlying24 rfl infoGraph ?_)
  clear l1 HG
  refine (board_any P sink ea m ec f sa sn sc sz ca cn cc cz w1 (rows_keep HE.out HB.out) hm (HS.out.keep HB.out) (HC.out.keep HB.out) hcn HSN.out HCN.out).mono ?_
  rintro e1 w2 ⟨⟨hf, rfl⟩ | ⟨hf, p, s, bb, x, rfl, rfl, hsp, hok, hszl, hczl, hsg, hcf, rfl, hbrd⟩, hb2⟩
  · have HB2 := Lib.hid (HB.out.trans (hb2.mono HB.out.size))
    have HF := Lib.hid hf
    rw [errV_some hf]
    clear hf hb2
    go_wp2_with fail
    go_ret3
    refine ⟨.inl ⟨HF.out, ?_⟩, HB2.out⟩
    rw [errV_some HF.out]
    rfl
  · have hbo : (bdG p m s f).Ok := bdG_ok hok hsp
    have hcon : (bdG p m s f).Conn := bdG_conn hok hsp
    obtain ⟨_, hcs, hck⟩ := chips_ok hcf hsp
    have hsk := signs_ok hsg
    obtain ⟨bnd, hbnd⟩ := Leg.ends hbo hcon (sgN sz) (sgN cz) fun k hk hne => (hsk k hk).2.2 hne
    have hbu := brdU_start hbrd hsp hsg hcf
    have hp10 := hok.p10
    have HF := Lib.hid hf
    have HOK := Lib.hid hok
    have HSZL := Lib.hid hszl
    have HCZL := Lib.hid hczl
    have HSG := Lib.hid hsg
    have HCF := Lib.hid hcf
    have HBO := Lib.hid hbo
    have HCK := Lib.hid hck
    have HBND : Hid (∀ u, Leg (bdG p m s f) (sgN sz) (sgN cz) u → sumN u p ≤ bnd) := hbnd
    have HBU := Lib.hid hbu
    have hle0 : w.heap.size ≤ w1.heap.size := HB.out.size
    have HB2 := Lib.hid (HB.out.trans (hb2.mono HB.out.size))
    have HC2 := Lib.hid (HC.out.keep HB2.out)
    have HSUM : Hid (∀ k, k ≤ p → sumN (sgN cz) k ≤ 10000 * k) := fun k hk => by
      have := sumN_le (F := sgN cz) (G := fun _ => 10000) (n := k) fun i hi => (hck i (by omega)).2
      rw [sumN_const] at this
      omega
    have hcnp : cn = p := by rw [← HCL.out]; exact hczl
    subst hcnp
    obtain ⟨w0', hw0'⟩ : ∃ B, B = w1.heap.size := ⟨_, rfl⟩
    rw [← hw0'] at HBU hle0
    clear hf hok hszl hczl hsg hcf hbo hcon hcs hck hsk hbnd hbu hbrd hb2 hw0' HB HC HS HE
    go_wp2_with fail
    go_loopw [13, 32] (fun a v wr => ∃ k : Nat, k ≤ cn ∧ v = .int .i64 (k : Int) ∧ a = .int .i64 (sumN (sgN cz) k : Nat) ∧ Below w2.heap.size w2 wr) (fun _ v _ => cn - (intOf v).toNat)
    case atStart => exact ⟨0, Nat.zero_le _, rfl, rfl, Below.refl _ _⟩
    case round =>
      obtain ⟨k, hk, rfl, rfl, hbw⟩ := hrel
      have HBW := Lib.hid hbw
      clear hbw
      by_cases hlt : k < cn
      · obtain ⟨bz, oz, rfl, _, hcz⟩ := (HC2.out.keep HBW.out).cells k hlt
        dsimp only at hcz
        obtain ⟨h1, h2⟩ := HCK.out k hlt
        rw [h1] at hcz
        have h3 := HSUM.out k hk
        have HNX : Hid (sumN (sgN cz) (k + 1) = sumN (sgN cz) k + sgN cz k) := rfl
        clear h1
        generalize hs2 : sumN (sgN cz) (k + 1) = s2 at *
        have HS2 := Lib.hid hs2
        clear hs2
        generalize sumN (sgN cz) k = s1 at *
        generalize sgN cz k = z at *
        go_wp2_with fail
        go_roundw
        case rel => exact ⟨k + 1, by omega, by go_num, by rw [HS2.out, HNX.out, Int.natCast_add], HBW.out⟩
        case measure => simp [intOf]; omega
      · obtain rfl : k = cn := by omega
        have h3 := HSUM.out k hk
        have HBU := Lib.hid (show BrdU wr w0' bb x k s m f (sgN sz) (sgN cz) (fun _ => 0) from HBU.out.keep HBW.out)
        have HB3 := Lib.hid (HB2.out.trans (HBW.out.mono HB2.out.size))
        obtain ⟨tot, htot⟩ : ∃ t, t = sumN (sgN cz) k := ⟨_, rfl⟩
        have HTOT := Lib.hid htot
        rw [← htot] at h3 ⊢
        clear htot
        by_cases hfull : 1000 < tot
        · have d1 : decide ((1000 : Int) < (tot : Int)) = true := decide_eq_true (by omega)
          have HFU := Lib.hid hfull
          clear hfull
          go_wp2_with fail
          go_ret3
          exact ⟨.inr (.inl ⟨HF.out, by rw [Int.toNat_natCast, ← HTOT.out]; exact HFU.out, rfl⟩), HB3.out⟩
        · have d1 : decide ((1000 : Int) < (tot : Int)) = false := decide_eq_false (by omega)
          have hN1 : sumN (sgN cz) k ≤ 100000 := by rw [← HTOT.out]; omega
          have HN1 : Hid (sumN (sgN cz) k ≤ 1000) := by show _ ≤ _; rw [← HTOT.out]; omega
          clear hfull HCK HSUM h3
          have HMO : Hid (∀ u p, Leg (bdG k m s f) (sgN sz) (sgN cz) u → p < k → chU (bdG k m s f) (sgN sz) (sgN cz) u p ≤ 1000) := fun u p hl hp => Nat.le_trans (ch_most HBO.out hl hp) HN1.out
          obtain ⟨D, hD⟩ : ∃ D, D = bdG k m s f := ⟨_, rfl⟩
          go_wp2_with fail
          go_loopg [16] (2 * bnd + 1) (fun g a wx => ∃ (b : Bool) (u : Nat → Nat), a = .bool b ∧ Leg (bdG k m s f) (sgN sz) (sgN cz) u ∧ BrdU wx w0' bb x k s m f (sgN sz) (sgN cz) u ∧ Below w.heap.size w wx ∧ (b = false → ∀ j, j < k → chU (bdG k m s f) (sgN sz) (sgN cz) u j = 0) ∧ g = 2 * (bnd - sumN u k) + (if b = true then 1 else 0))
          case atStart => exact ⟨true, fun _ => 0, rfl, .zero, HBU.out, HB3.out, fun h => (by cases h), (by rw [sumN_zero]; rfl)⟩
          case round =>
            clear HBU HB3
            obtain ⟨b, u, rfl, hl, hbu, hb, hz, hg⟩ := hrel
            have HL := Lib.hid hl
            have HBU := Lib.hid hbu
            have HB := Lib.hid hb
            have HZ := Lib.hid hz
            have HGK := Lib.hid hg
            clear hl hbu hb hz hg
            cases b
            case false =>
              have HDN := Lib.hid (done_of (B := bdG k m s f) (HZ.out rfl))
              have r2 := HBU.out.row.cell 2
              have r4 := HBU.out.row.cell 4
              dsimp only [List.getElem?_cons_succ, List.getElem?_cons_zero] at r2 r4
              have hP1 : k ≤ maxLen := by unfold maxLen; omega
              go_upto_region 22 with fail
              refine wp_region_noPanic ?_
              go_region
              refine NoPanic.normal ?_
              have hdr : Below wr.heap.size wr wr.drew := (Below.refl _ _).drew
              have HI1 := Lib.hid ((HBU.out.sg.is hP1).keep hdr)
              have HI2 := Lib.hid ((HBU.out.wt.is hP1).keep hdr)
              have HBD := Lib.hid (HB.out.trans (hdr.mono HB.out.size))
              clear hdr r2 r4
              go_wp2_with fail
              go_ret3
              exact ⟨.inr (.inr ⟨HF.out, by rw [Int.toNat_natCast]; exact HN1.out, k, s, x.bs, x.cs, x.bt, k, u, rfl, rfl, hsp, HOK.out, HSZL.out, HCZL.out, HSG.out, HCF.out, HL.out, HDN.out, rfl, HI1.out, HI2.out⟩), HBD.out⟩
            case true =>
              have r3 := HBU.out.row.cell 3
              dsimp only [List.getElem?_cons_succ, List.getElem?_cons_zero] at r3
              go_wp2_with fail
              obtain ⟨u0, hu0⟩ : ∃ v, v = u := ⟨_, rfl⟩
              go_loopw [16, 49] (fun a v wy => ∃ (b : Bool) (j : Nat) (u : Nat → Nat), j ≤ k ∧ v = .int .i64 (j : Int) ∧ a = .bool b ∧ Leg (bdG k m s f) (sgN sz) (sgN cz) u ∧ BrdU wy w0' bb x k s m f (sgN sz) (sgN cz) u ∧ Below w.heap.size w wy ∧ (b = false → u = u0 ∧ ∀ i, i < j → chU (bdG k m s f) (sgN sz) (sgN cz) u i = 0) ∧ (b = true → sumN u0 k + 1 ≤ sumN u k)) (fun _ v _ => k - (intOf v).toNat)
              case atStart => exact ⟨false, 0, u, Nat.zero_le _, rfl, rfl, HL.out, HBU.out, HB.out, fun _ => ⟨hu0.symm, fun i hi => absurd hi (Nat.not_lt_zero _)⟩, fun h => (by cases h)⟩
              case round =>
                have HG0 := Lib.hid hu0
                have HGE : Hid (gk = 2 * (bnd - sumN u0 k) + 1) := by
                  show _ = _
                  rw [HGK.out, hu0]; rfl
                clear HL HBU HB HZ HGK hu0 r3
                clear u HG0
                obtain ⟨b, j, u, hjk, rfl, rfl, hl, hbu, hb, hz, hmo⟩ := hrel
                have HL := Lib.hid hl
                have HBU := Lib.hid hbu
                have HB := Lib.hid hb
                have HZ := Lib.hid hz
                have HM := Lib.hid hmo
                clear hl hbu hb hz hmo
                by_cases hj : j < k
                · --{ROUND
                  have c3 := HBU.out.ch.cell hj
                  have hmo := HMO.out u j HL.out hj
                  have hj2 : (j : Int) < (k : Int) := by omega
                  have HSS : Hid (j = s → chU (bdG k m s f) (sgN sz) (sgN cz) u j = 0) := fun e => by
                    unfold chU; exact if_pos e
                  have HRUN : Hid (∀ (t : Nat), j ≠ s → t ≤ chU (bdG k m s f) (sgN sz) (sgN cz) u j → Calls Tryd.prog 34 #[.pointer (some ⟨bb, 0, none⟩), .int .i64 (j : Int), .int .i64 (t : Int)] wr fun e w' => (∃ v, e = .returned v) ∧ BrdU w' w0' bb x k s m f (sgN sz) (sgN cz) (bump u j t) ∧ Below w.heap.size w w') := fun t hne ht =>
                    run_any k s m f (sgN sz) (sgN cz) u x bb w0' j t w wr hle0 HB.out HBU.out HL.out HOK.out hsp hj hne ht hN1
                  have HLG : Hid (∀ (t : Nat), j ≠ s → t ≤ chU (bdG k m s f) (sgN sz) (sgN cz) u j → Leg (bdG k m s f) (sgN sz) (sgN cz) (bump u j t)) := fun t hne ht => ch_leg HBO.out HL.out hj hne ht
                  have HSM : Hid (∀ t, sumN (bump u j t) k = sumN u k + t) := fun t => sumN_bump hj
                  obtain ⟨cj, hcj⟩ : ∃ z, z = chU (bdG k m s f) (sgN sz) (sgN cz) u j := ⟨_, rfl⟩
                  rw [← hcj] at c3 hmo HSS HRUN HLG
                  have HCJ := Lib.hid hcj
                  clear hcj
                  by_cases hpos : 0 < cj
                  · have hjs : j ≠ s := fun e => by have := HSS.out e; omega
                    have HR := Lib.hid (HRUN.out cj hjs (Nat.le_refl _))
                    have HL2 := Lib.hid (HLG.out cj hjs (Nat.le_refl _))
                    have HM2 : Hid (sumN u0 k + 1 ≤ sumN (bump u j cj) k) := by
                      show _ ≤ _
                      rw [HSM.out]
                      cases b
                      · rw [(HZ.out rfl).1]; omega
                      · have := HM.out rfl; omega
                    have d1 : decide ((0 : Int) < (cj : Int)) = true := decide_eq_true (by omega)
                    have d2 : decide (0 < cj) = true := decide_eq_true hpos
                    clear hpos hjs HRUN HLG HSS
                    go_wp2_with fail
                    refine HR.out.mono ?_
                    rintro e1 w5 ⟨⟨v5, rfl⟩, hbu5, hb5⟩
                    have HBU5 := Lib.hid hbu5
                    have HB5 := Lib.hid hb5
                    clear hbu5 hb5 HR
                    go_wp2_with fail
                    go_roundw
                    case rel => exact ⟨true, j + 1, bump u j cj, by omega, by go_num, rfl, HL2.out, HBU5.out, HB5.out, fun h => (by cases h), fun _ => HM2.out⟩
                    case measure => simp [intOf]; omega
                  · have d1 : decide ((0 : Int) < (cj : Int)) = false := decide_eq_false (by omega)
                    have d2 : decide (0 < cj) = false := decide_eq_false hpos
                    have HZ2 : Hid (b = false → u = u0 ∧ ∀ i, i < j + 1 → chU (bdG k m s f) (sgN sz) (sgN cz) u i = 0) := fun h => ⟨(HZ.out h).1, fun i hi => by
                      by_cases e : i = j
                      · rw [e, ← HCJ.out]; omega
                      · exact (HZ.out h).2 i (by omega)⟩
                    clear hpos
                    go_wp2_with fail
                    go_roundw
                    case rel => exact ⟨b, j + 1, u, by omega, by go_num, rfl, HL.out, HBU.out, HB.out, HZ2.out, HM.out⟩
                    case measure => simp [intOf]; omega
                  --}
                · --{END
                  obtain rfl : j = k := by omega
                  have hbd := HBND.out u HL.out
                  go_wp2_with fail
                  go_roundg (2 * (bnd - sumN u j) + (if b = true then 1 else 0))
                  case measure =>
                    have h1 := HGE.out
                    cases b
                    · have h2 := (HZ.out rfl).1
                      rw [h2, if_neg (by decide)]; omega
                    · have h2 := HM.out rfl
                      rw [if_pos rfl]; omega
                  case rel => exact ⟨b, u, rfl, HL.out, HBU.out, HB.out, fun h => (HZ.out h).2, rfl⟩
                  --}
end Rt
end Go.Proofs.YtjikildiblchpaaDoor
