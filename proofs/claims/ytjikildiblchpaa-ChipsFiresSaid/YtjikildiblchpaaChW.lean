/- THE FACT of ChipsFires: two places, two edges: what is reduced of three chips; laws on lists. -/
import Derived.Test.YtjikildiblchpaaChS
import Derived.Test.YtjikildiblchpaaDfN
namespace Go.Proofs.Ytjikildiblchpaa
set_option linter.unusedSimpArgs false
set_option linter.unusedVariables false
open Go.RowKit Go.Lib
namespace Ch
open Tld Mem Rt

/-- The graph of two places and one edge, twice. -/
def t2 (_ j : Nat) : Int := if j = 0 then 0 else if j = 1 then 1 else 2
theorem t2_edge : EdgeOk 2 t2 0 := by unfold EdgeOk t2; decide
theorem t2_conn : ConnG 2 t2 1 := fun k hk => by
  have h0 : Rt.Reach t2 1 0 := reach_zero
  have hb : Btw t2 0 0 1 := by decide
  match k, hk with
  | 0, _ => exact h0
  | 1, _ => exact h0.step (by omega) hb
theorem t2_ok : gfault 2 1 t2 = 0 := gfault_ok (by omega) (by omega) (fun i hi => by
  obtain rfl : i = 0 := by omega
  exact t2_edge) t2_conn
theorem t2_rows {w : World} {b : Nat} (h : Row w b 27 [.int .i64 0, .int .i64 1, .int .i64 2]) : Mem.Rows w (some ⟨b, 0, none⟩) 1 3 (fun i j => .int .i64 (t2 i j)) := fun i hi => by
  obtain rfl : i = 0 := by omega
  refine ⟨b, 0, rfl, h.lt, fun j hj => ?_⟩
  rw [show 0 + 0 * 3 + j = j by omega, h.cell j]
  match j, hj with
  | 0, _ => rfl
  | 1, _ => rfl
  | 2, _ => rfl
theorem t2_ch : chfault 2 1 t2 [[0, 3]] = 0 := by
  rw [chfault_l t2_ok]; decide
theorem t2_red {R : Nat → Int} (hE : Eqv 2 (fun a b => btw t2 a b 1) (fun k => [(0 : Int), 3].getD k 0) R) (hR : Reduced 2 (fun a b => btw t2 a b 1) R 0) : R 0 = 2 ∧ R 1 = 1 := by
  have h1 : Eqv 2 (fun a b => btw t2 a b 1) (fun k => [(0 : Int), 3].getD k 0) (fun k => [(2 : Int), 1].getD k 0) := ⟨fun k => if k = 1 then 1 else 0, fun k hk => by
    match k, hk with
    | 0, _ => decide
    | 1, _ => decide⟩
  have h2 : Reduced 2 (fun a b => btw t2 a b 1) (fun k => [(2 : Int), 1].getD k 0) 0 := by
    refine ⟨fun k hk hne => ?_, fun S hS k hk => ?_⟩
    · match k, hk with
      | 0, _ => exact absurd rfl hne
      | 1, _ => decide
    · match k, hk with
      | 0, _ => exact hS.no
      | 1, _ =>
        cases h : S 1
        · rfl
        · have h3 := hS.can 1 (by omega) h
          have h4 : outS 2 (fun a b => btw t2 a b 1) S 1 = 2 := by
            show (0 + if S 0 = true then 0 else btw t2 1 0 1) + (if S 1 = true then 0 else btw t2 1 1 1) = 2
            rw [hS.no, h]; decide
          rw [h4] at h3
          exact absurd h3 (by decide)
  have h3 := h2.unique hR (h1.symm.trans hE) (by omega)
  exact ⟨(h3 0 (by omega)).symm, (h3 1 (by omega)).symm⟩
theorem eqv_lst {p : Nat} {E : Nat → Nat → Nat} {R : Nat → Int} : Eqv p E R (fun k => (lstF p R).getD k 0) := .of_eq fun k hk => (lstF_get hk).symm
theorem sum_lst {p : Nat} {R : Nat → Int} : sumZ (fun k => (lstF p R).getD k 0) p = sumZ R p := sumZ_congr fun k hk => lstF_get hk
theorem legal_lst {p : Nat} {E : Nat → Nat → Nat} {R : Nat → Int} {a : Nat} {F : Nat → Bool} (hb : Burn p E (fun k => (lstF p R).getD k 0) a (fun j => !F j)) (hl : ∀ k, k < p → F k = true → (outS p E F k : Int) ≤ (lstF p R).getD k 0) : Legal p E R a F := by
  refine ⟨?_, fun k hk hf => ?_⟩
  · have h1 : (!F a) = true := hb.at0
    simpa using h1
  · have h1 := hl k hk hf
    rw [lstF_get hk] at h1
    exact h1
theorem ch_one {p m : Nat} {f : Nat → Nat → Int} {zs : List Int} (hg : gfault (p : Int) m f = 0) (hz : dfault p zs = 0) : chfault (p : Int) m f [zs] = 0 := by
  rw [chfault_l hg, Int.toNat_natCast]
  unfold lchk
  rw [if_neg (fun h => h hz)]
  rfl
theorem ch_two {p m : Nat} {f : Nat → Nat → Int} {zs ys : List Int} (hg : gfault (p : Int) m f = 0) (hz : dfault p zs = 0) (hy : dfault p ys = 0) : chfault (p : Int) m f [zs, ys] = 0 := by
  rw [chfault_l hg, Int.toNat_natCast]
  unfold lchk
  rw [if_neg (fun h => h hz)]
  unfold lchk
  rw [if_neg (fun h => h hy)]
  rfl
theorem ch_g {P : Int} {m : Nat} {f : Nat → Nat → Int} {L : List (List Int)} (h : chfault P m f L = 0) : gfault P m f = 0 := Classical.byContradiction fun hn => by
  rw [chfault_g hn] at h
  exact hn h
theorem ch_d {p m : Nat} {f : Nat → Nat → Int} {zs : List Int} (h : chfault (p : Int) m f [zs] = 0) : dfault p zs = 0 := by
  rw [chfault_l (ch_g h), Int.toNat_natCast] at h
  unfold lchk at h
  by_cases h1 : dfault p zs ≠ 0
  · rw [if_pos h1] at h; exact absurd h h1
  · exact Classical.byContradiction h1
end Ch
end Go.Proofs.Ytjikildiblchpaa
