/- WALK: the closure of chips.Rank: what is left of a divisor, whether it is won; else what was taken. -/
import Derived.Test.YtjikildiblchpaaCkW
import Derived.BigRegion
namespace Go.Proofs.Ytjikildiblchpaa
set_option linter.unusedSimpArgs false
set_option linter.unusedVariables false
open Go.RowKit Go.Lib
namespace Ch
open Tld Mem Rt

/-- What the closure gives. -/
def CloPost (P : Nat) (E : Nat → Nat → Nat) (zs : List Int) (F : Nat → Int) (xl : Nat) (w : World) (e : Ending) (w' : World) : Prop :=
  (e = .returned (.bool true) ∧ Win P E (fun k => zs.getD k 0 - F k) ∧ Below w.heap.size w w') ∨
  (e = .returned (.bool false) ∧ ¬ Win P E (fun k => zs.getD k 0 - F k) ∧ ∃ (w1 : World) (a : Option Addr) (c : Nat), Below w.heap.size w w1 ∧ Only xl w1 w' ∧ Row w' xl 25 [.slice a P c] ∧ Ints.Is w' a P (lstF P F))

set_option maxHeartbeats 8000000 in
set_option maxRecDepth 1000000 in
theorem clo_any (P : Nat) (E : Nat → Nat → Nat) (Dg : Nat → Nat) (bn : Nat) (da : Option Addr) (dc : Nat) (zs : List Int) (w0 w : World) (xd xn xl be : Nat) (F : Nat → Int) (v : Value) (hG : Gr P E) (h0 : 0 < P) (hN : Net w0 bn P E Dg) (hB : Below w0.heap.size w0 w)
    (hxd : w.cell? ⟨xd, 0, none⟩ = some (.slice da P dc)) (hxn : w.cell? ⟨xn, 0, none⟩ = some (.pointer (some ⟨bn, 0, none⟩))) (hD : Ints.Is w da P zs) (hz : ∀ k, k < P → -1000 ≤ zs.getD k 0 ∧ zs.getD k 0 ≤ 1000) (hV : Vec w be P F) (hF : ∀ k, k < P → 0 ≤ F k ∧ F k ≤ 100) (hL : Row w xl 25 [v]) :
    Calls Try.prog 30 #[.slice (some ⟨be, 0, none⟩) P P, .pointer (some ⟨xd, 0, none⟩), .pointer (some ⟨xn, 0, none⟩), .pointer (some ⟨xl, 0, none⟩)] w (CloPost P E zs F xl w) := by
  have hP := hG.p10
  have HP1 : Hid (P ≤ maxLen) := by unfold maxLen; show _ ≤ _; omega
  have hdn : da = none → P = 0 := fun h => by
    obtain ⟨b, off, e, _⟩ := hD.cells 0 (by omega)
    rw [h] at e; cases e
  have HCL := Lib.hid (clone_any da P dc zs w hD.len (by omega) hD.cells hdn)
  have HDL := Lib.hid hD.len
  have HG := Lib.hid hG
  have HN := Lib.hid hN
  have HB0 := Lib.hid hB
  have HZ := Lib.hid hz
  have HV := Lib.hid hV
  have HF := Lib.hid hF
  have HL := Lib.hid hL
  have HXN := Lib.hid hxn
  clear hG hN hB hD hz hdn hV hF hL hxn
  go_enter Try.func30, Try.ntmps30
  go_wp2_with fail
  refine HCL.out.mono ?_
  rintro e1 w1 ⟨v1, rfl, hown, hb1⟩
  obtain ⟨b1, c1, rfl⟩ : ∃ b c, v1 = .slice (some ⟨b, 0, none⟩) P c := by
    rcases hown.2 with ⟨_, h1⟩ | ⟨g, cap, cur, h1, _⟩
    · omega
    · exact ⟨g, cap, h1⟩
  have HR1 := Lib.hid (vec_own hown HDL.out)
  have hb1w : w.heap.size ≤ b1 := own_low hown b1 rfl
  have HB1 := Lib.hid hb1
  clear hown hb1 HCL hxd
  go_wp2_with fail
  go_loopw [12] (fun z wr => ∃ k : Nat, k ≤ P ∧ z = .int .i64 (k : Int) ∧ Vec wr b1 P (fun j => if j < k then zs.getD j 0 - F j else zs.getD j 0) ∧ Only b1 w1 wr) (fun z _ => P - (intOf z).toNat)
  case atStart => exact ⟨0, Nat.zero_le _, rfl, HR1.out.congr fun j hj => by rw [if_neg (Nat.not_lt_zero _)], Only.refl _ _⟩
  case round =>
    obtain ⟨k, hkP, rfl, hv, ho⟩ := hrel
    have HR := Lib.hid hv
    have HO := Lib.hid ho
    have HBW := Lib.hid (HB1.out.trans (HO.out.below hb1w))
    clear hv ho
    by_cases hk : k < P
    · have hk2 : (k : Int) < (P : Int) := by omega
      have r1 := HR.out.cell hk
      rw [if_neg (Nat.lt_irrefl k)] at r1
      have r2 := HR.out.frozen k
      have e1 := (HV.out.keep HBW.out HV.out.lt).cell hk
      have hz1 := HZ.out k hk
      have hf1 := HF.out k hk
      have HNX : Hid (∀ x, Vec (wr.setCell ⟨b1, k, none⟩ (.int .i64 x)) b1 P (upd (fun j => if j < k then zs.getD j 0 - F j else zs.getD j 0) k x)) := fun x => HR.out.set hk x
      have HUP : Hid (∀ j, upd (fun j => if j < k then zs.getD j 0 - F j else zs.getD j 0) k (zs.getD k 0 - F k) j = if j < k + 1 then zs.getD j 0 - F j else zs.getD j 0) := fun j => by
        by_cases c : j = k
        · rw [c, upd_at, if_pos (by omega)]
        · rw [upd_no c]
          by_cases c2 : j < k
          · rw [if_pos c2, if_pos (by omega)]
          · rw [if_neg c2, if_neg (by omega)]
      obtain ⟨x, hx⟩ : ∃ x, x = zs.getD k 0 := ⟨_, rfl⟩
      rw [← hx] at r1 hz1 HUP
      clear hx
      obtain ⟨y, hy⟩ : ∃ y, y = F k := ⟨_, rfl⟩
      rw [← hy] at e1 hf1 HUP
      clear hy
      have hw1 : (-9223372036854775808 : Int) ≤ x - y := by omega
      have hw2 : x - y ≤ 9223372036854775807 := by omega
      go_upto_region 5 with fail
      refine wp_region_noPanic ?_
      go_region
      refine NoPanic.normal ?_
      go_wp2_with fail
      go_roundw
      case rel => exact ⟨k + 1, by omega, by go_num, ((HNX.out (x - y)).congr fun j hj => HUP.out j).drewN 1, only_drew (HO.out.trans (only_setCell _ _ _ _))⟩
      case measure => simp [intOf]; omega
    · obtain rfl : k = P := by omega
      obtain ⟨P, rfl⟩ : ∃ q, q = k := ⟨_, rfl⟩
      have HRP : Hid (Vec wr b1 P fun j => zs.getD j 0 - F j) := HR.out.congr fun j hj => by rw [if_pos hj]
      clear HR
      have HRI := Lib.hid (HRP.out.is HP1.out)
      have HXN2 : wr.cell? ⟨xn, 0, none⟩ = some (.pointer (some ⟨bn, 0, none⟩)) := cell_keep HXN.out HBW.out
      have HWZ : Hid (∀ k, k < P → -1100 ≤ (lstF P fun j => zs.getD j 0 - F j).getD k 0 ∧ (lstF P fun j => zs.getD j 0 - F j).getD k 0 ≤ 1100) := fun k hk => by
        rw [lstF_get hk]
        have := HZ.out k hk
        have := HF.out k hk
        omega
      have HWE : Hid (Win P E (fun k => (lstF P fun j => zs.getD j 0 - F j).getD k 0) ↔ Win P E fun k => zs.getD k 0 - F k) := ⟨fun h => h.congr fun k hk => by rw [lstF_get hk], fun h => h.congr fun k hk => by rw [lstF_get hk]⟩
      go_wp2_with fail
      refine (cwins_any P E Dg bn (some ⟨b1, 0, none⟩) c1 (lstF P fun j => zs.getD j 0 - F j) w0 wr HG.out h0 HN.out (HB0.out.trans (HBW.out.mono HB0.out.size)) HRI.out HWZ.out).mono ?_
      rintro e1 w4 ⟨⟨q, rfl, hq⟩, hb4⟩
      have HB4 := Lib.hid (HBW.out.trans (hb4.mono HBW.out.size))
      have HQ := Lib.hid (hq.trans HWE.out)
      clear hb4 hq HWE HWZ HRI HRP HXN2 HO HBW
      cases q
      case true =>
        have HT : Hid (CloPost P E zs F xl w (.returned (.bool true)) w4) := .inl ⟨rfl, HQ.out.1 rfl, HB4.out⟩
        go_wp2_with fail
        go_ret
        exact HT.out
      case false =>
        have HVE := Lib.hid ((HV.out.keep HB4.out HV.out.lt).is HP1.out)
        go_wp2_with fail
        refine (clone_any (some ⟨be, 0, none⟩) P P (lstF P F) w4 lstF_len (by omega) HVE.out.cells (fun h => by cases h)).mono ?_
        rintro e1 w5 ⟨v5, rfl, hown5, hb5⟩
        obtain ⟨b5, c5, rfl⟩ : ∃ b c, v5 = .slice (some ⟨b, 0, none⟩) P c := by
          rcases hown5.2 with ⟨_, h1⟩ | ⟨g, cap, cur, h1, _⟩
          · omega
          · exact ⟨g, cap, h1⟩
        have hV5 := vec_own hown5 lstF_len
        have hlow := own_low hown5 b5 rfl
        have hBW5 := HB4.out.trans (hb5.mono HB4.out.size)
        have hL5 := HL.out.keep hBW5 HL.out.lt
        have ho5 := only_setCell w5 xl 0 (.slice (some ⟨b5, 0, none⟩) P c5)
        have hne : b5 ≠ xl := by have := HL.out.lt; have := HB4.out.size; omega
        have hI5 := ((hV5.other ho5 hne).congr (G := F) fun k hk => lstF_get hk).is HP1.out
        have hR5 := hL5.set 0 (.slice (some ⟨b5, 0, none⟩) P c5)
        have z5 := hL5.frozen 0
        have l5 := hL5.cell 0
        dsimp only [List.getElem?_cons_zero] at l5
        have HF5 : Hid (CloPost P E zs F xl w (.returned (.bool false)) (w5.setCell ⟨xl, 0, none⟩ (.slice (some ⟨b5, 0, none⟩) P c5))) := .inr ⟨rfl, fun h => (by have := HQ.out.2 h; cases this), w5, _, c5, hBW5, ho5, hR5, hI5⟩
        clear hown5 hb5 hV5 hlow hBW5 hL5 ho5 hne hI5 hR5 HVE
        go_wp2_with fail
        go_ret
        exact HF5.out
end Ch
end Go.Proofs.Ytjikildiblchpaa
