/- WALK: rotor.newBoard, whole. -/
import Derived.Test.YtjikildiblchpaaRtN2
namespace Go.Proofs.Ytjikildiblchpaa
set_option linter.unusedSimpArgs false
set_option linter.unusedVariables false
open Go.RowKit Go.Lib
namespace Rt
open Tld Mem

/-- What newBoard gives. -/
def BoardPost (P : Int) (m : Nat) (f : Nat → Nat → Int) (sink : Int) (sz cz : List Int) (w : World) (e : Ending) (w' : World) : Prop :=
  ((bfault P m f sink sz cz ≠ 0 ∧ e = .returned (.tuple #[.pointer none, errV (bfault P m f sink sz cz)])) ∨
   (bfault P m f sink sz cz = 0 ∧ ∃ (p s bb : Nat) (x : BA), P = (p : Int) ∧ sink = (s : Int) ∧ s < p ∧ GOk p m f ∧ sz.length = p ∧ cz.length = p ∧ (∀ k, k < p → SignOk s (fun k => deg f k m) k (sz.getD k 0)) ∧ cfault p s cz = 0 ∧
     e = .returned (.tuple #[.pointer (some ⟨bb, 0, none⟩), .nilIface]) ∧ Brd w' w.heap.size bb x p s m f (fun k => sz.getD k 0) (fun k => cz.getD k 0) (fun _ => 0))) ∧ Below w.heap.size w w'
theorem board_bad {P : Int} {m : Nat} {f : Nat → Nat → Int} {sink : Int} {sz cz : List Int} {w w' : World} {z : Int} (h : bfault P m f sink sz cz = z) (h0 : z ≠ 0) (hb : Below w.heap.size w w') : BoardPost P m f sink sz cz w (.returned (.tuple #[.pointer none, .iface 59 (.int .i64 z)])) w' := by
  refine ⟨.inl ⟨by rw [h]; exact h0, ?_⟩, hb⟩
  rw [h, errV_some h0]
theorem vec_chg {w w' : World} {b P : Nat} {F : Nat → Int} {X : Nat → Prop} (h : Vec w b P F) (hc : Chg X w w') (hx : ¬ X b) : Vec w' b P F := by
  obtain ⟨cs, hr, hcs⟩ := h.row
  exact ⟨⟨cs, row_chg hr hc hx, hcs⟩⟩
/-- The board, at last. -/
theorem brd_of {w w' : World} {B bb bM bH P s m : Nat} {f : Nat → Nat → Int} {vS vC : Value} {sz cz : List Int} (hP : 1 ≤ P) (hsz : sz.length = P) (hcz : cz.length = P)
    (hbb : Row w bb 58 [.int .i64 (s : Int), .slice (some ⟨bM, 0, none⟩) P P, vS, vC, .slice (some ⟨bH, 0, none⟩) P P]) (hM : Row w bM 25 (List.replicate P (.slice none 0 0)))
    (hS : w.ownsRow B 3 1 vS P (sz.map (Value.int .i64))) (hC : w.ownsRow B 3 1 vC P (cz.map (Value.int .i64))) (hH : Row w bH 3 (List.replicate P (.int .i64 0)))
    (hd : ∀ b, vS.ownBlock = some b → vC.ownBlock ≠ some b) (hd1 : vS.ownBlock ≠ some bH) (hd2 : vC.ownBlock ≠ some bH) (hlH : B ≤ bH) (hm : ∀ i, i < m → EdgeN P f i) (hm40 : m ≤ 40)
    (hw : ∃ LV, Wys w' w.heap.size bM P (fun k => wayL f k m) LV) (hc : Chg (fun k => k = bM) w w') : ∃ x, Brd w' B bb x P s m f (fun k => sz.getD k 0) (fun k => cz.getD k 0) (fun _ => 0) := by
  obtain ⟨LV, hwy⟩ := hw
  rcases hS.2 with ⟨_, h0⟩ | ⟨gs, cs, curs, rfl, _⟩
  · omega
  rcases hC.2 with ⟨_, h0⟩ | ⟨gc, cc, curc, rfl, _⟩
  · omega
  have hls := hS.lt gs rfl
  have hlc := hC.lt gc rfl
  have hlh := hH.lt
  have hsm : gs ≠ bM := fun e => own_ne hS hM (by decide) (by rw [← e]; rfl)
  have hcm : gc ≠ bM := fun e => own_ne hC hM (by decide) (by rw [← e]; rfl)
  have hhm : bH ≠ bM := row_ne hH hM (by decide)
  have hbm : bb ≠ bM := row_ne hbb hM (by decide)
  have hex : ∀ k, ∃ q : Option Addr × Nat, k < P → LV[k]? = some (.slice q.1 (deg f k m) q.2) ∧ w'.ownsRow w.heap.size 3 1 (.slice q.1 (deg f k m) q.2) (deg f k m) (intsL (wayL f k m)) := fun k => by
    by_cases hk : k < P
    · obtain ⟨v, h1, h2⟩ := hwy.own k hk
      obtain ⟨a, c, rfl⟩ := own_slG h2
      try dsimp only at h1 h2
      rw [wayL_len (P := P)] at h1 h2
      exact ⟨(a, c), fun _ => ⟨h1, h2⟩⟩
    · exact ⟨(none, 0), fun h => absurd h hk⟩
  obtain ⟨q, hq⟩ := Classical.axiomOfChoice hex
  have hdg : ∀ k, deg f k m ≤ 4000 := fun k => Nat.le_trans (deg_le hm) (by omega)
  refine ⟨⟨bM, gs, gc, bH, cs, cc, fun k => (q k).1, fun k => (q k).2⟩, ?_⟩
  exact {
    row := row_chg hbb hc hbm
    wrow := ⟨LV, hwy.row, fun k hk => (hq k hk).1⟩
    wis := fun k hk => by
      have h2 := (hq k hk).2
      rw [intsL_eq] at h2
      exact (own_is h2 (by rw [List.length_map, wayL_len (P := P)]) (by have := hdg k; unfold maxLen; omega)).1
    sg := vec_chg (vec_own hS hsz) hc hsm
    ch := vec_chg (vec_own hC hcz) hc hcm
    wt := vec_chg (row_made hH) hc hhm
    sc := fun e => hd gs rfl (by
      have e' : gs = gc := e
      rw [e']; rfl)
    st := fun e => hd1 (by
      have e' : gs = bH := e
      rw [← e']; rfl)
    ct := fun e => hd2 (by
      have e' : gc = bH := e
      rw [← e']; rfl)
    far := fun k hk b o e => by
      have h2 := (hq k hk).2
      have e' : (q k).1 = some ⟨b, o, none⟩ := e
      have h3 := h2.lt b (by rw [e']; rfl)
      dsimp only
      refine ⟨?_, ?_, ?_⟩ <;> omega
    ls := hls.1
    lc := hlc.1
    lt := hlH }

set_option maxHeartbeats 8000000 in
set_option maxRecDepth 1000000 in
theorem board_any (P sink : Int) (ea : Option Addr) (m ec : Nat) (f : Nat → Nat → Int) (sa : Option Addr) (sn sc : Nat) (sz : List Int) (ca : Option Addr) (cn cc : Nat) (cz : List Int) (w : World) (hE : Mem.Rows w ea m 3 (fun i j => .int .i64 (f i j))) (hm : m ≤ 9223372036854775807) (hS : Ints.Is w sa sn sz) (hC : Ints.Is w ca cn cz) (hcn : cn * 8 ≤ 140737488355328) (hsnil : sa = none → sn = 0) (hcnil : ca = none → cn = 0) :
    Calls Try.prog 20 #[.agg #[.int .i64 P, .slice ea m ec], .int .i64 sink, .slice sa sn sc, .slice ca cn cc] w (BoardPost P m f sink sz cz w) := by
  have HE := Lib.hid hE
  have HS := Lib.hid hS
  have HC := Lib.hid hC
  have HSN := Lib.hid hsnil
  have HCN := Lib.hid hcnil
  have hsl := hS.le
  have HSL := Lib.hid hS.len
  have HCL := Lib.hid hC.len
  unfold maxLen at hsl
  clear hE hS hC hsnil hcnil
  go_enter Try.func20, Try.ntmps20
  go_upto_region 1 with fail
  have hR : Row (w.alloc (.cells #[.int .i64 P, .slice ea m ec] 24)) w.heap.size 24 [.int .i64 P, .slice ea m ec] := row_alloc w _ _
  have hB : Below w.heap.size w (w.alloc (.cells #[.int .i64 P, .slice ea m ec] 24)) := (Below.refl _ _).alloc (Nat.le_refl _) _
  have HG := Lib.hid hR
  have HB := Lib.hid hB
  clear hR hB
  generalize w.alloc (.cells #[.int .i64 P, .slice ea m ec] 24) = w1 at *
  obtain ⟨bg, hbg⟩ : ∃ bg, bg = w.heap.size := ⟨_, rfl⟩
  rw [← hbg] at HG ⊢
  have hlg : w.heap.size ≤ bg := by omega
  clear hbg
  have l1 := row_range HG.out
  go_wp2_with (refine wpList_load_mid rfl 24 _ rfl bg 0 rfl _ _ l1 Try.underlying24 rfl infoGraph ?_)
  clear l1
  refine (check_any P ea m ec f w1 (rows_keep HE.out HB.out) hm).mono ?_
  rintro e1 w2 ⟨rfl, hb2⟩
  have HG := Lib.hid (HG.out.keep hb2 HG.out.lt)
  have HB := Lib.hid (HB.out.trans (hb2.mono HB.out.size))
  clear hb2
  by_cases hgf : gfault P m f = 0
  case neg =>
    have HF := Lib.hid (sfault_g (sink := sink) (sz := sz) hgf)
    rw [errV_some hgf]
    have HZ := Lib.hid hgf
    clear hgf
    go_wp2_with fail
    go_ret2
    exact board_bad (by rw [bfault_s (by rw [HF.out]; exact HZ.out)]; exact HF.out) HZ.out HB.out
  rw [errV_zero hgf]
  obtain ⟨p, rfl, hok⟩ := gfault_zero hgf
  have HGF := Lib.hid hgf
  have HOK := Lib.hid hok
  have hp1 := hok.p1
  have hp10 := hok.p10
  have g0 := HG.out.cell 0
  dsimp only [List.getElem?_cons_zero] at g0
  clear hgf hok
  by_cases h0 : sink < 0
  · have HI := Lib.hid (sfault_s (sz := sz) HGF.out (.inl h0))
    go_wp2_with fail
    go_ret2
    exact board_bad (by rw [bfault_s (by rw [HI.out]; decide)]; exact HI.out) (by decide) HB.out
  by_cases h1 : (p : Int) ≤ sink
  · have HI := Lib.hid (sfault_s (sz := sz) HGF.out (.inr h1))
    go_wp2_with fail
    go_ret2
    exact board_bad (by rw [bfault_s (by rw [HI.out]; decide)]; exact HI.out) (by decide) HB.out
  obtain ⟨s, rfl⟩ : ∃ s : Nat, sink = (s : Int) := ⟨sink.toNat, by omega⟩
  have hsp : s < p := by omega
  have HSK : Hid (¬ ((s : Int) < 0 ∨ (p : Int) ≤ (s : Int))) := fun h => h.elim h0 h1
  clear h0 h1
  by_cases hl : sn = p
  case neg =>
    have hle : ((sn : Int) != (p : Int)) = true := by rw [bne_iff_ne]; omega
    have HI := Lib.hid (sfault_l (sz := sz) HGF.out HSK.out (by rw [HSL.out]; omega))
    clear hl
    go_wp2_with fail
    go_ret2
    exact board_bad (by rw [bfault_s (by rw [HI.out]; decide)]; exact HI.out) (by decide) HB.out
  subst hl
  have hle : ((sn : Int) != (sn : Int)) = false := bne_self_eq_false _
  go_upto_region 8 with fail
  clear g0 hle
  refine wp_region_noPanic ?_
  refine lay8 sn s bg sn sc cn cc sa ca sz cz _ w2 hp10 HG (Lib.hid (HS.out.keep HB.out)) (Lib.hid (HC.out.keep HB.out)) (by omega) hcn HSN HCN _ _ _ _ _ _ _ _ _ _ _ _ _ _ _ _ _ _ _ _ _ _ _ _ _ _ _ _ _ _ _ _ _ _ _ _ _ _ _ _ _ _ _ _ _ _ _ _ _ _ _ _ _ _ _ _ _ _ _ _ _ _ _ _ _ _ _ _ _ _ _ _ _ _ _ _ _ _ _ _ _ _ _ _ _ _ _ _ _ _ _ _ _ _ _ _ _ _ _ _ _ _ _ _ _ _ _ _ _ _ _ _ _ _ _ _ _ _ _ _ _ _ _ _ _ _ _ _ _ _ _ _ _ _ _ _ _ _ _ _ _ _ _ _ _ _ _ _ _ ?_
  intro u40 u41 u42 u43 u44 u45 u46 u47 u48 u49 u50 u51 u52 wL bb bM bH vS vC hbb hM hvS hvC hH hd hd1 hd2 hlb hlM hlH hbL
  have hwl : w.heap.size ≤ w2.heap.size := HB.out.size
  have HBB := Lib.hid hbb
  have HM := Lib.hid hM
  have HVS := Lib.hid hvS
  have HVC := Lib.hid hvC
  have HH := Lib.hid hH
  have HD := Lib.hid hd
  have HD1 := Lib.hid hd1
  have HD2 := Lib.hid hd2
  have hgM : bg ≠ bM := by have := HG.out.lt; omega
  have HG := Lib.hid (HG.out.keep hbL HG.out.lt)
  have HB := Lib.hid (HB.out.trans (hbL.mono HB.out.size))
  clear hbb hM hvS hvC hH hd hd1 hd2 hbL
  go_step
  apply_assumption
  refine nb2 sn s m f bg bb bM vS vC _ sa ca ea sc cn cc ec sz cz w wL hsp hgM (by omega) HOK HGF HE HG HS HC HBB HM HB _ _ _ _ _ _ _ _ _ _ _ _ _ _ _ _ _ _ _ _ _ _ _ _ _ _ _ _ _ _ _ _ _ _ _ _ _ _ _ _ _ _ _ _ _ _ _ _ _ _ _ _ _ _ _ _ _ _ _ _ _ _ _ _ _ _ _ _ _ _ _ _ _ _ _ _ _ _ _ _ _ _ _ _ _ _ _ _ _ _ _ _ _ _ _ _ _ _ _ _ _ _ _ _ _ _ _ _ _ _ _ _ _ _ _ _ _ _ _ _ _ _ _ _ _ _ _ _ _ _ _ _ _ _ _ _ _ _ _ _ _ _ _ _ _ _ _ _ ?_ ?_ ?_
  · intro u13 u14 u15 u16 u17 u53 u54 u55 u56 u57 u58 u59 u60 u61 u62 u63 u64 u65 u66 u67 u68 u69 u70 u71 u72 u73 u74 u75 u76 u77 u78 u79 u80 u81 u82 u83 u84 u85 u86 u87 u88 u89 u90 u91 u92 u93 u94 u95 u96 u97 u98 u99 u100 u101 u102 u103 u104 u105 u106 u107 u108 u109 u110 u111 u112 u113 u114 u115 u116 u117 u118 u119 u120 u121 u122 u123 u124 u125 u126 u127 u128 u129 u130 u131 u132 u133 u134 u135 u136 u137 u138 u139 u140 u141 u142 u143 u144 u145 u146 u147 u148 u149 u150 u151 w' hbadS hch hb
    have HI := sfault_b (sz := sz) HGF.out HSK.out (by rw [HSL.out]; omega) (by rw [Int.toNat_natCast, Int.toNat_natCast]; exact hbadS)
    go_ret2
    exact board_bad (by rw [bfault_s (by rw [HI]; decide)]; exact HI) (by decide) hb
  · intro u13 u14 u15 u16 u17 u53 u54 u55 u56 u57 u58 u59 u60 u61 u62 u63 u64 u65 u66 u67 u68 u69 u70 u71 u72 u73 u74 u75 u76 u77 u78 u79 u80 u81 u82 u83 u84 u85 u86 u87 u88 u89 u90 u91 u92 u93 u94 u95 u96 u97 u98 u99 u100 u101 u102 u103 u104 u105 u106 u107 u108 u109 u110 u111 u112 u113 u114 u115 u116 u117 u118 u119 u120 u121 u122 u123 u124 u125 u126 u127 u128 u129 u130 u131 u132 u133 u134 u135 u136 u137 u138 u139 u140 u141 u142 u143 u144 u145 u146 u147 u148 u149 u150 u151 w' hall hcf hch hb
    have HI := sfault_ok (sz := sz) HGF.out HSK.out (by rw [HSL.out]; omega) (by rw [Int.toNat_natCast, Int.toNat_natCast]; exact hall)
    go_ret2
    refine board_bad ?_ hcf hb
    rw [bfault_c HI, Int.toNat_natCast, Int.toNat_natCast]
  · intro u13 u14 u15 u16 u17 u53 u54 u55 u56 u57 u58 u59 u60 u61 u62 u63 u64 u65 u66 u67 u68 u69 u70 u71 u72 u73 u74 u75 u76 u77 u78 u79 u80 u81 u82 u83 u84 u85 u86 u87 u88 u89 u90 u91 u92 u93 u94 u95 u96 u97 u98 u99 u100 u101 u102 u103 u104 u105 u106 u107 u108 u109 u110 u111 u112 u113 u114 u115 u116 u117 u118 u119 u120 u121 u122 u123 u124 u125 u126 u127 u128 u129 u130 u131 u132 u133 u134 u135 u136 u137 u138 u139 u140 u141 u142 u143 u144 u145 u146 u147 u148 u149 u150 u151 w' hall hcf hwy hch hb
    have HI := sfault_ok (sz := sz) HGF.out HSK.out (by rw [HSL.out]; omega) (by rw [Int.toNat_natCast, Int.toNat_natCast]; exact hall)
    have hF : bfault (sn : Int) m f (s : Int) sz cz = 0 := by rw [bfault_c HI, Int.toNat_natCast, Int.toNat_natCast]; exact hcf
    have hcl : cz.length = sn := Classical.byContradiction fun h => by
      unfold cfault at hcf
      rw [if_pos h] at hcf
      cases hcf
    have hvC : wL.ownsRow w2.heap.size 3 1 vC sn (cz.map (Value.int .i64)) := by
      have := HVC.out
      rwa [show cn = sn from by rw [← HCL.out]; exact hcl] at this
    obtain ⟨x, hx⟩ := brd_of (B := w.heap.size) hp1 HSL.out hcl HBB.out HM.out (own_base HVS.out hwl) (own_base hvC hwl) HH.out HD.out HD1.out HD2.out (by omega) HOK.out.edge HOK.out.m40 hwy hch
    go_ret2
    exact ⟨.inr ⟨hF, sn, s, bb, x, rfl, rfl, hsp, HOK.out, HSL.out, hcl, hall, hcf, rfl, hx⟩, hb⟩
end Rt
end Go.Proofs.Ytjikildiblchpaa
