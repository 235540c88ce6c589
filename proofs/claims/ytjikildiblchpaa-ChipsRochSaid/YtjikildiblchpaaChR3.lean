/- WALK: chips.reduced: the reduced divisor. Printed by gens/chred.py. -/
import Derived.Test.YtjikildiblchpaaChR2
import Derived.Test.YtjikildiblchpaaChT
namespace Go.Proofs.Ytjikildiblchpaa
set_option linter.unusedSimpArgs false
set_option linter.unusedVariables false
open Go.RowKit Go.Lib
namespace Ch
open Tld Mem Rt

theorem P1.bound {P : Nat} {w : Nat → Nat → Nat} (hG : Gr P w) {a : Nat} {far : Nat → Nat} (hF : FarOk P w a far) {D0 D : Nat → Int} {r s d : Nat} (ha : a < P) (h : P1 P w far D0 r D s d) : ∀ k, k < P → -3000000000000000000 ≤ D k ∧ D k ≤ 3000000000000001100 := by
  have hc : sumN (fun k => ind (r < far k)) P + 1 ≤ P := by
    have h1 : sumN (fun k => ind (r < far k)) P + sumN (fun k => ind (a = k)) P ≤ sumN (fun _ => 1) P := by
      rw [← sumN_add]
      refine sumN_le fun k hk => ?_
      unfold ind
      by_cases e : a = k
      · have := (hF.zero k hk).2 e.symm
        rw [if_neg (by omega), if_pos e]; omega
      · rw [if_neg e]; split <;> omega
    rw [sumN_pick, ind_yes ha, sumN_const] at h1
    omega
  have h9 : s + 2 * d ≤ 9 := by
    have := h.cnt
    have := hG.p10
    omega
  have hB := Bd_top h9
  intro k hk
  have := h.lo k hk
  have := h.hi k hk
  omega
theorem wide {p : Nat} {zs : List Int} (h : ∀ k, k < p → -1000 ≤ zs.getD k 0 ∧ zs.getD k 0 ≤ 1000) : ∀ k, k < p → -1100 ≤ zs.getD k 0 ∧ zs.getD k 0 ≤ 1100 := fun k hk => by
  have := h k hk
  omega
theorem sum_small {D : Nat → Int} {P : Nat} (h : ∀ k, k < P → -1100 ≤ D k ∧ D k ≤ 1100) : -(1100 * (P : Int)) ≤ sumZ D P ∧ sumZ D P ≤ 1100 * (P : Int) := by
  induction P with
  | zero => exact ⟨Int.le_refl _, Int.le_refl _⟩
  | succ n ih =>
    have h1 := ih fun k hk => h k (by omega)
    have h2 := h n (by omega)
    show -(1100 * ((n + 1 : Nat) : Int)) ≤ sumZ D n + D n ∧ sumZ D n + D n ≤ _
    omega
theorem Run.bound {P : Nat} {w : Nat → Nat → Nat} (hG : Gr P w) {D : Nat → Int} {a : Nat} {σ : Nat → Int} (h : Run P w D a σ) (ha : a < P) (hs : sumZ D P ≤ 11000) (hD : ∀ k, k < P → -3000000000000000000 ≤ D k ∧ D k ≤ 3000000000000001100) {k : Nat} (hk : k < P) : -9000000000000000000 ≤ D k - lap P w σ k ∧ D k - lap P w σ k ≤ 9000000000000000000 := by
  obtain ⟨h1, h2⟩ := h.most hG ha hk
  have := hD a ha
  by_cases e : k = a
  · subst e
    rw [if_pos rfl] at h2
    omega
  · rw [if_neg e] at h2
    have := h.left k hk e
    omega
theorem run_start {P : Nat} {w : Nat → Nat → Nat} {D : Nat → Int} {a : Nat} (h : ∀ k, k < P → k ≠ a → 0 ≤ D k) : Run P w D a fun _ => 0 := ⟨rfl, fun _ _ => Int.le_refl _, fun k hk hne => by rw [lap_zero]; have := h k hk hne; omega⟩

set_option maxHeartbeats 16000000 in
set_option maxRecDepth 1000000 in
theorem reduced_any (P a : Nat) (E : Nat → Nat → Nat) (Dg : Nat → Nat) (bn : Nat) (da : Option Addr) (dc : Nat) (zs : List Int) (w0 w : World) (hG : Gr P E) (ha : a < P) (hN : Net w0 bn P E Dg) (hB : Below w0.heap.size w0 w) (hD : Ints.Is w da P zs) (hz : ∀ k, k < P → -1100 ≤ zs.getD k 0 ∧ zs.getD k 0 ≤ 1100) :
    Calls Try.prog 23 #[.pointer (some ⟨bn, 0, none⟩), .slice da P dc, .int .i64 (a : Int)] w fun e w' => ∃ (b c : Nat) (R : Nat → Int), e = .returned (.slice (some ⟨b, 0, none⟩) P c) ∧ w.heap.size ≤ b ∧ Vec w' b P R ∧ Eqv P E (fun k => zs.getD k 0) R ∧ Reduced P E R a ∧ (∀ k, k < P → -9000000000000000000 ≤ R k ∧ R k ≤ 9000000000000000000) ∧ Below w.heap.size w w' := by
  have hP := hG.p10
  have hE4 : ∀ k o, k < P → o < P → E k o ≤ 4000 := fun k o hk ho => Nat.le_trans (sumN_one (F := fun o => E k o) ho) (hG.few k hk)
  have hdn : da = none → P = 0 := fun h => by
    obtain ⟨b, off, e, _⟩ := hD.cells 0 (by omega)
    rw [h] at e; cases e
  have HDL := Lib.hid hD.len
  have HCL := Lib.hid (clone_any da P dc zs w hD.len (by omega) hD.cells hdn)
  have HG := Lib.hid hG
  have HN := Lib.hid hN
  have HB0 := Lib.hid hB
  have HE := Lib.hid hE4
  have HZ := Lib.hid hz
  have HSM := Lib.hid (sum_small hz).2
  clear hG hN hB hD hz hE4 hdn
  go_enter Try.func23, Try.ntmps23
  go_wp2_with fail
  refine HCL.out.mono ?_
  rintro e1 w1 ⟨v1, rfl, hown, hb1⟩
  obtain ⟨bd, cd, rfl⟩ : ∃ b c, v1 = .slice (some ⟨b, 0, none⟩) P c := by
    rcases hown.2 with ⟨_, h0⟩ | ⟨g, cap, cur, h0, _⟩
    · omega
    · exact ⟨g, cap, h0⟩
  have HD1 := Lib.hid (vec_own hown HDL.out)
  have hbd : w.heap.size ≤ bd := own_low hown bd rfl
  have HB1 := Lib.hid hb1
  have HBW := Lib.hid (HB0.out.trans (hb1.mono HB0.out.size))
  clear hown hb1 HCL
  go_wp2_with fail
  refine (paths_any P E Dg bn a w0 w1 HN.out HBW.out HG.out ha HE.out).mono ?_
  rintro e1 w2 ⟨bf, far, rfl, hbf, hvf, hfp, hfo, hb2⟩
  have hne : bf ≠ bd := by have := HD1.out.lt; omega
  have HD2 := Lib.hid (HD1.out.keep hb2 HD1.out.lt)
  have HV2 := Lib.hid hvf
  have HFO := Lib.hid hfo
  have HFP := Lib.hid hfp
  have HB2 := Lib.hid (HB1.out.trans (hb2.mono HB1.out.size))
  clear hvf hfp hfo hb2 HD1 HB1 HBW
  go_wp2_with fail
  refine (max_any bf P P far w2 HV2.out (by omega) hP HFP.out).mono ?_
  rintro e1 w3 ⟨⟨m, rfl, hmx, hmP⟩, rfl⟩
  have HP1 : Hid (P1 P E far (fun k => zs.getD k 0) m (fun k => zs.getD k 0) 0 0) := P1.start HZ.out hmx
  clear hmx
  obtain ⟨D0, hD0⟩ : ∃ D, D = fun k => zs.getD k 0 := ⟨_, rfl⟩
  have HDE := Lib.hid hD0
  rw [← hD0] at HP1 HD2 HSM
  clear hD0
  go_wp2_with fail
  go_loopw [9] (fun z wr => ∃ (r : Nat) (D : Nat → Int) (s d : Nat), r ≤ m ∧ z = .int .i64 (r : Int) ∧ P1 P E far D0 r D s d ∧ Vec wr bd P D ∧ Vec wr bf P (fun k => (far k : Int)) ∧ Below w.heap.size w wr) (fun z _ => (intOf z).toNat)
  case atStart => exact ⟨m, D0, 0, 0, Nat.le_refl _, rfl, HP1.out, HD2.out, HV2.out, HB2.out⟩
  case round =>
    clear HP1 HD2 HV2 HB2
    obtain ⟨r, D, s, d, hrm, rfl, hp, hd, hv, hb⟩ := hrel
    have HP1 := Lib.hid hp
    have HD := Lib.hid hd
    have HV := Lib.hid hv
    have HB := Lib.hid hb
    have HBW := Lib.hid (HB0.out.trans (hb.mono HB0.out.size))
    clear hp hd hv hb
    by_cases hr : 0 < r
    · have hr2 : (0 : Int) < (r : Int) := by omega
      go_upto_if 33 with fail
      go_step
      go_step
      go_step
      apply_assumption
      refine wp_seq ?_
      refine wp_block ?_
      refine red1 P r E Dg far D bn bd cd bf P a w0 wr HG.out HFO.out hr (by omega) HFP.out HN HBW (by have := HB0.out.size; omega) hne HD HV (HP1.out.bound HG.out HFO.out ha) _ _ _ _ _ _ _ _ _ _ _ _ _ _ _ _ _ _ _ _ _ _ _ _ _ _ _ _ _ _ _ _ _ _ _ _ _ _ _ _ _ _ _ _ _ _ _ _ _ _ _ _ _ _ _ _ _ _ _ _ _ _ _ _ _ _ _ _ _ _ _ _ _ _ _ _ _ _ _ _ _ _ _ _ _ _ _ _ _ _ _ _ _ _ _ _ _ _ _ _ _ _ _ _ _ _ _ _ _ _ _ _ _ _ _ _ _ _ _ _ _ _ _ _ _ _ _ _ _ _ _ _ _ _ _ _ _ _ _ _ _ _ _ _ _ _ _ _ _ _ _ _ _ _ _ _ _ _ _ _ _ _ _ _ _ _ _ _ _ _ _ _ _ _ _ _ _ _ _ _ _ _ ?_
      intro u10 u11 u12 u13 u14 u15 u16 u36 u37 u38 u39 u40 u41 u42 u43 u44 u45 u46 u47 u48 u49 u50 u51 u52 u53 u54 u55 u56 u57 u58 u59 u60 u61 u62 u63 u64 u65 u66 u67 u68 u69 u70 u71 u72 u73 u74 u75 u76 u77 u78 u79 u80 u81 u82 u83 u84 u85 u86 u87 u88 u89 u90 u91 u92 u93 u94 u95 u96 u97 u98 u99 u100 u101 u102 u103 u104 u105 u106 u107 u108 w4 hX hY
      obtain ⟨t, ht, hv4⟩ := hX
      obtain ⟨r, rfl⟩ : ∃ q, r = q + 1 := ⟨r - 1, by omega⟩
      obtain ⟨s2, d2, hp2⟩ := HP1.out.step HG.out HFO.out ht
      have HP2 := Lib.hid hp2
      have hbn := hp2.bound HG.out HFO.out ha
      have HD4 := Lib.hid (hv4.congr (G := fireZ P E D (fun j => decide (far j < r + 1)) t) fun k hk => by
        have := hbn k hk
        unfold wrap64; omega)
      have HV4 : Hid (Vec w4 bf P fun k => (far k : Int)) := vec_chg HV.out hY hne
      have HB4 : Hid (Below w.heap.size w w4) := ⟨hY.os.trans HB.out.os, hY.tape.trans HB.out.tape, hY.output.trans HB.out.output, Nat.le_trans HB.out.size hY.size, fun k hk => (hY.block k (Nat.lt_of_lt_of_le hk HB.out.size) (by omega)).trans (HB.out.block k hk)⟩
      have hr3 : ((r + 1 : Nat) : Int) - 1 = (r : Int) := by omega
      clear hp2 hbn hv4 hY ht HD HV HB HBW HP1
      go_wp2_with fail
      go_roundw
      case rel => exact ⟨r, _, s2, d2, by omega, by go_num, HP2.out, HD4.out, HV4.out, HB4.out⟩
      case measure => simp [intOf]
    · obtain rfl : r = 0 := by omega
      obtain ⟨hq1, hq2, hq3⟩ := HP1.out.fin HG.out HFO.out ha
      have HEQ := Lib.hid hq1
      have HPOS := Lib.hid hq2
      have HRG := Lib.hid hq3
      have HS1 : Hid (sumZ D P ≤ 11000) := by
        have h1 := hq1.sum HG.out.sym
        have h2 := HSM.out
        show _ ≤ _
        rw [h1]; omega
      obtain ⟨bnd, hbnd⟩ := Run.ends HG.out D ha
      have HBND := Lib.hid hbnd
      have HR0 : Hid (Run P E D a fun _ => 0) := run_start HPOS.out
      clear hq1 hq2 hq3 hbnd HP1 HV HBW
      go_wp2_with fail
      go_loopg [17] ((bnd - sumZ (fun _ => 0) P).toNat) (fun gg z wr => ∃ (σ : Nat → Int), Run P E D a σ ∧ Vec wr bd P (fun k => D k - lap P E σ k) ∧ Below w.heap.size w wr ∧ gg = (bnd - sumZ σ P).toNat)
      case atStart => exact ⟨fun _ => 0, HR0.out, HD.out.congr fun k hk => by rw [lap_zero]; omega, HB.out, rfl⟩
      case round =>
        clear HR0 HD HB
        obtain ⟨σ, hr, hd, hb, hg⟩ := hrel
        have HR := Lib.hid hr
        have HD := Lib.hid hd
        have HB := Lib.hid hb
        have HGK := Lib.hid hg
        have HBW := Lib.hid (HB0.out.trans (hb.mono HB0.out.size))
        clear hr hd hb hg
        refine wp_block ?_
        refine red2 P a E Dg (fun k => D k - lap P E σ k) bn bd cd w0 wr HG.out ha HN HBW (by have := HB0.out.size; omega) HD (fun k hk => HR.out.bound HG.out ha HS1.out HRG.out hk) (fun k hk hne => HR.out.left k hk hne) _ _ _ _ _ _ _ _ _ _ _ _ _ _ _ _ _ _ _ _ _ _ _ _ _ _ _ _ _ _ _ _ _ _ _ _ _ _ _ _ _ _ _ _ _ _ _ _ _ _ _ _ _ _ _ _ _ _ _ _ _ _ _ _ _ _ _ _ _ _ _ _ _ _ _ _ _ _ _ _ _ _ _ _ _ _ _ _ _ _ _ _ _ _ _ _ _ _ _ _ _ _ _ _ _ _ _ _ _ _ _ _ _ _ _ _ _ _ _ _ _ _ _ _ _ _ _ _ _ _ _ _ _ _ _ _ _ _ _ _ _ _ _ _ _ _ _ _ _ _ _ _ _ _ _ _ _ _ _ _ _ _ _ _ _ _ _ _ _ _ _ _ _ _ _ _ _ _ _ _ _ _ _ ?_ ?_
        · intro u17 u18 u19 u20 u21 u22 u23 u109 u110 u111 u112 u113 u114 u115 u116 u117 u118 u119 u120 u121 u122 u123 u124 u125 u126 u127 u128 u129 u130 u131 u132 u133 u134 u135 u136 u137 u138 u139 u140 u141 u142 u143 u144 u145 u146 u147 u148 u149 u150 u151 u152 u153 u154 u155 u156 u157 u158 u159 u160 u161 u162 u163 u164 u165 u166 u167 u168 u169 u170 u171 u172 u173 u174 u175 u176 u177 u178 u179 u180 u181 u182 u183 u184 w4 hred hv4 hY
          have HX : Hid (Reduced P E (fun k => D k - lap P E σ k) a) := hred
          have HV4 := Lib.hid hv4
          have HB4 : Hid (Below w.heap.size w w4) := ⟨hY.os.trans HB.out.os, hY.tape.trans HB.out.tape, hY.output.trans HB.out.output, Nat.le_trans HB.out.size hY.size, fun k hk => (hY.block k (Nat.lt_of_lt_of_le hk HB.out.size) (by omega)).trans (HB.out.block k hk)⟩
          have HE2 : Hid (Eqv P E (fun k => zs.getD k 0) fun k => D k - lap P E σ k) := by
            rw [← HDE.out]
            exact HEQ.out.trans ⟨σ, fun _ _ => rfl⟩
          clear hred hv4 hY
          go_ret
          exact ⟨bd, cd, _, rfl, hbd, HV4.out, HE2.out, HX.out, fun k hk => HR.out.bound HG.out ha HS1.out HRG.out hk, HB4.out⟩
        · intro u6 u17 u18 u19 u20 u21 u22 u23 u109 u110 u111 u112 u113 u114 u115 u116 u117 u118 u119 u120 u121 u122 u123 u124 u125 u126 u127 u128 u129 u130 u131 u132 u133 u134 u135 u136 u137 u138 u139 u140 u141 u142 u143 u144 u145 u146 u147 u148 u149 u150 u151 u152 u153 u154 u155 u156 u157 u158 u159 u160 u161 u162 u163 u164 u165 u166 u167 u168 u169 u170 u171 u172 u173 u174 u175 u176 u177 u178 u179 u180 u181 u182 u183 u184 w4 hX hY
          obtain ⟨S, t, x, hSa, hx, hSx, hof, hv4⟩ := hX
          obtain ⟨hr2, he2, hs2⟩ := HR.out.fire (fun _ _ => rfl) hSa hof hx hSx
          have HR2 := Lib.hid hr2
          have HV4 := Lib.hid (hv4.congr (G := fun k => D k - lap P E (fun j => σ j + if S j then t else 0) k) fun k hk => by
            rw [he2 k hk]
            have := hr2.bound HG.out ha HS1.out HRG.out hk
            unfold wrap64; omega)
          have HB4 : Hid (Below w.heap.size w w4) := ⟨hY.os.trans HB.out.os, hY.tape.trans HB.out.tape, hY.output.trans HB.out.output, Nat.le_trans HB.out.size hY.size, fun k hk => (hY.block k (Nat.lt_of_lt_of_le hk HB.out.size) (by omega)).trans (HB.out.block k hk)⟩
          have HSS : Hid (sumZ σ P + 1 ≤ sumZ (fun j => σ j + if S j then t else 0) P) := hs2
          have HBB : Hid (sumZ (fun j => σ j + if S j then t else 0) P ≤ bnd) := HBND.out _ hr2
          clear hr2 he2 hs2 hv4 hY hof
          go_step
          apply_assumption
          go_wp2_with fail
          go_roundg ((bnd - sumZ (fun j => σ j + if S j then t else 0) P).toNat)
          case measure => have h1 := HSS.out; have h2 := HBB.out; have h3 := HGK.out; omega
          case rel => exact ⟨_, HR2.out, HV4.out, HB4.out, rfl⟩
end Ch
end Go.Proofs.Ytjikildiblchpaa
