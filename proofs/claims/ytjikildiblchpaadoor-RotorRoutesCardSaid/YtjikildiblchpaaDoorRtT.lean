/- WALK: rotor.Tree: do all signs lead to the sink? -/
import Derived.Test.YtjikildiblchpaaDoorRtS
namespace Go.Proofs.YtjikildiblchpaaDoor
set_option linter.unusedSimpArgs false
set_option linter.unusedVariables false
open Go.RowKit Go.Lib
namespace Rt
open Tld Mem

def S1 (bg : Nat) (P : Int) (ev : Value) : Option Nat → World → Prop
  | none, w => w.rangeAt bg 0 [.int .i64 P, ev]
  | some _, _ => True
theorem S1.some {bg i : Nat} {P : Int} {ev : Value} (w : World) : S1 bg P ev (some i) w := trivial
theorem S1.of {bg : Nat} {P : Int} {w : World} {ev : Value} (h : Row w bg 24 [.int .i64 P, ev]) (o : Option Nat) : S1 bg P ev o w := by
  cases o with
  | none => exact row_range h
  | some _ => trivial
theorem zeros_ok {p s : Nat} (hs : s < p) : cfault p s (List.replicate p 0) = 0 := by
  unfold cfault
  rw [if_neg (by simp)]
  refine if_neg fun h => ?_
  rcases h with h | h
  · apply h
    rw [List.getD_eq_getElem?_getD, List.getElem?_replicate, if_pos hs]
    rfl
  · obtain ⟨x, hx, hb⟩ := List.any_eq_true.1 h
    rw [(List.mem_replicate.1 hx).2] at hb
    exact absurd hb (by decide)
theorem bfault_zeros {P : Int} {m : Nat} {f : Nat → Nat → Int} {sink : Int} {sz : List Int} {n : Nat} (h : sfault P m f sink sz = 0) (hg : ∃ p : Nat, P = (p : Int) ∧ n = p) : bfault P m f sink sz (List.replicate n 0) = 0 := by
  obtain ⟨p, rfl, rfl⟩ := hg
  rw [bfault_c h, Int.toNat_natCast]
  refine zeros_ok ?_
  unfold sfault at h
  by_cases h1 : gfault (n : Int) m f ≠ 0
  · rw [if_pos h1] at h; exact absurd h h1
  rw [if_neg h1] at h
  by_cases h2 : sink < 0 ∨ (n : Int) ≤ sink
  · rw [if_pos h2] at h; cases h
  omega
theorem sfault_range {P : Int} {m : Nat} {f : Nat → Nat → Int} {sink : Int} {sz : List Int} (h : sfault P m f sink sz = 0) : ∃ p : Nat, P = (p : Int) ∧ 1 ≤ p ∧ p ≤ 10 := by
  unfold sfault at h
  by_cases h1 : gfault P m f ≠ 0
  · rw [if_pos h1] at h; exact absurd h h1
  have h2 : gfault P m f = 0 := Classical.byContradiction h1
  obtain ⟨p, hp, hok⟩ := gfault_zero h2
  exact ⟨p, hp, hok.p1, hok.p10⟩
theorem chI_itr {f : Nat → Nat} {a b k : Nat} : itr f (a + b) k = itr f b (itr f a k) := by
  induction b with
  | zero => rfl
  | succ b ih => show f (itr f (a + b) k) = _; rw [ih]; rfl
/-- What Tree gives. -/
def TreePost (P : Int) (m : Nat) (f : Nat → Nat → Int) (sink : Int) (sz : List Int) (w : World) (e : Ending) (w' : World) : Prop :=
  ((sfault P m f sink sz ≠ 0 ∧ e = .returned (.tuple #[.bool false, errV (sfault P m f sink sz)])) ∨
   (sfault P m f sink sz = 0 ∧ ∃ (p s : Nat) (b : Bool), P = (p : Int) ∧ sink = (s : Int) ∧ s < p ∧ GOk p m f ∧ sz.length = p ∧ (∀ k, k < p → SignOk s (fun k => deg f k m) k (sz.getD k 0)) ∧ (b = true ↔ IsTree (bdG p m s f) (sgN sz)) ∧ e = .returned (.tuple #[.bool b, .nilIface]))) ∧ Below w.heap.size w w'

set_option maxHeartbeats 8000000 in
set_option maxRecDepth 1000000 in
theorem tree_any (P sink : Int) (ea : Option Addr) (m ec : Nat) (f : Nat → Nat → Int) (sa : Option Addr) (sn sc : Nat) (sz : List Int) (w : World) (hE : Mem.Rows w ea m 3 (fun i j => .int .i64 (f i j))) (hm : m ≤ 9223372036854775807) (hS : Ints.Is w sa sn sz) (hsnil : sa = none → sn = 0) :
    Calls Tryd.prog 7 #[.agg #[.int .i64 P, .slice ea m ec], .int .i64 sink, .slice sa sn sc] w (TreePost P m f sink sz w) := by
  have HE := Lib.hid hE
  have HS := Lib.hid hS
  have HSN := Lib.hid hsnil
  clear hE hS hsnil
  obtain ⟨q, n, hq, hn, hn10, hnp⟩ : ∃ (q : Int) (n : Nat), q = min P 10 ∧ (n : Int) = max 0 q ∧ n ≤ 10 ∧ (∀ p : Nat, P = (p : Int) → p ≤ 10 → n = p) := ⟨min P 10, (max 0 (min P 10)).toNat, rfl, by omega, by omega, by omega⟩
  have HNP := Lib.hid hnp
  have HQ := Lib.hid hq
  have HNN := Lib.hid hn
  clear hnp hq hn
  go_enter Tryd.func7, Tryd.ntmps7
  go_upto_region 1 with fail
  have hR : Row (w.alloc (.cells #[.int .i64 P, .slice ea m ec] 24)) w.heap.size 24 [.int .i64 P, .slice ea m ec] := row_alloc w _ _
  have hB : Below w.heap.size w (w.alloc (.cells #[.int .i64 P, .slice ea m ec] 24)) := (Below.refl _ _).alloc (Nat.le_refl _) _
  have HG := Lib.hid hR.drew
  have HB := Lib.hid hB.drew
  clear hR hB
  refine wp_region_noPanic ?_
  refine region_Cn (S1 w.heap.size P (.slice ea m ec)) 14 #[false, false, false, false, false, false, false, false, false, false, false, false, false, false] (by kernel_rfl) (by kernel_rfl) (by kernel_rfl) ?_
  generalize (w.alloc (.cells #[.int .i64 P, .slice ea m ec] 24)).drew = w1 at *
  obtain ⟨bg, hbg⟩ : ∃ bg, bg = w.heap.size := ⟨_, rfl⟩
  rw [← hbg] at HG ⊢
  clear hbg
  have hS1 := S1.of HG.out
  refine C_take (none) (i := 0) (oi := _) (v := _) rfl (by kernel_rfl) (by kernel_rfl) (by kernel_rfl) (by kernel_rfl) (fun _ _ _ h => h) S1.some (yieldsIf_load_mid (by rfl) _ _ rfl _ _ rfl [.int .i64 P, .slice ea m ec] _ ?hS Tryd.underlying24 rfl infoGraph) (fun o' _ => hS1 o') ?_
  case hS => exact fun w hSw => hSw
  simp only [Act.put, List.getElem_toArray, List.getElem_cons_succ, List.getElem_cons_zero, List.setIfInBounds_toArray, List.set_cons_zero, List.set_cons_succ]
  refine C_take (none) (i := 1) (oi := _) (v := ?_) rfl (by kernel_rfl) (by kernel_rfl) (by kernel_rfl) (by kernel_rfl) (fun _ _ _ h => h) S1.some (Or.inl ⟨by rfl, ?_⟩) (fun o' _ => hS1 o') ?_
  rotate_left
  · intro w hSw
    have s1 : w.cell? ⟨bg, 0, none⟩ = some (.int .i64 P) := hSw 0 _ rfl
    go_simp
    try with_reducible rfl
  simp only [Act.put, List.getElem_toArray, List.getElem_cons_succ, List.getElem_cons_zero, List.setIfInBounds_toArray, List.set_cons_zero, List.set_cons_succ]
  refine C_take (none) (i := 2) (oi := _) (v := ?_) rfl (by kernel_rfl) (by kernel_rfl) (by kernel_rfl) (by kernel_rfl) (fun _ _ _ h => h) S1.some (Or.inl ⟨by rfl, ?_⟩) (fun o' _ => hS1 o') ?_
  rotate_left
  · intro w hSw
    have s1 : w.cell? ⟨bg, 0, none⟩ = some (.int .i64 P) := hSw 0 _ rfl
    go_simp
    try with_reducible rfl
  simp only [Act.put, List.getElem_toArray, List.getElem_cons_succ, List.getElem_cons_zero, List.setIfInBounds_toArray, List.set_cons_zero, List.set_cons_succ]
  refine C_take (none) (i := 3) (oi := _) (v := ?_) rfl (by kernel_rfl) (by kernel_rfl) (by kernel_rfl) (by kernel_rfl) (fun _ _ _ h => h) S1.some (Or.inl ⟨by rfl, ?_⟩) (fun o' _ => hS1 o') ?_
  rotate_left
  · intro w hSw
    have s1 : w.cell? ⟨bg, 0, none⟩ = some (.int .i64 P) := hSw 0 _ rfl
    go_simp
    try with_reducible rfl
  simp only [Act.put, List.getElem_toArray, List.getElem_cons_succ, List.getElem_cons_zero, List.setIfInBounds_toArray, List.set_cons_zero, List.set_cons_succ]
  refine C_take (none) (i := 4) (oi := _) (v := ?_) rfl (by kernel_rfl) (by kernel_rfl) (by kernel_rfl) (by kernel_rfl) (fun _ _ _ h => h) S1.some (Or.inl ⟨by rfl, ?_⟩) (fun o' _ => hS1 o') ?_
  rotate_left
  · intro w hSw
    have s1 : w.cell? ⟨bg, 0, none⟩ = some (.int .i64 P) := hSw 0 _ rfl
    go_simp
    try with_reducible rfl
  simp only [Act.put, List.getElem_toArray, List.getElem_cons_succ, List.getElem_cons_zero, List.setIfInBounds_toArray, List.set_cons_zero, List.set_cons_succ]
  refine C_take (none) (i := 5) (oi := _) (v := .int .i64 q) rfl (by kernel_rfl) (by kernel_rfl) (by kernel_rfl) (by kernel_rfl) (fun _ _ _ h => h) S1.some (Or.inl ⟨by rfl, ?_⟩) (fun o' _ => hS1 o') ?_
  · intro w hSw
    go_simp
    have h1 := HQ.out
    have h2 := HNN.out
    first
      | done
      | omega
      | (split <;> omega)
  simp only [Act.put, List.getElem_toArray, List.getElem_cons_succ, List.getElem_cons_zero, List.setIfInBounds_toArray, List.set_cons_zero, List.set_cons_succ]
  refine C_take (none) (i := 6) (oi := _) (v := .int .i64 (n : Int)) rfl (by kernel_rfl) (by kernel_rfl) (by kernel_rfl) (by kernel_rfl) (fun _ _ _ h => h) S1.some (Or.inl ⟨by rfl, ?_⟩) (fun o' _ => hS1 o') ?_
  · intro w hSw
    go_simp
    have h1 := HQ.out
    have h2 := HNN.out
    first
      | done
      | omega
      | (split <;> omega)
  simp only [Act.put, List.getElem_toArray, List.getElem_cons_succ, List.getElem_cons_zero, List.setIfInBounds_toArray, List.set_cons_zero, List.set_cons_succ]
  have hrow := rep_row w1 n
  have hal : Below w1.heap.size w1 (w1.alloc (.cells (Array.replicate n (Value.int .i64 0)) 3)) := (Below.refl _ _).alloc (Nat.le_refl _) _
  have HZ := Lib.hid ((row_made hrow).is (by unfold maxLen; omega))
  have HZL : Hid (lstF n (fun _ => (0 : Int)) = List.replicate n 0) := by
    show _ = _
    apply List.ext_getElem (by simp [lstF])
    intro i h1 h2
    simp [lstF]
  rw [HZL.out] at HZ
  have HG2 := Lib.hid (HG.out.keep hal HG.out.lt)
  have HB2 := Lib.hid (HB.out.trans (hal.mono HB.out.size))
  have hmk := mk_ints n hn10 w1
  clear hrow hal hS1
  refine C_ready (rs := [7]) (by kernel_rfl) (by simp) ?_
  refine AllC.cons (i := 7) (o := _) rfl (by rfl) (fun K' hK => ?_) ?_
  · go_simp
    refine hK _ _ (fun o _ => S1.of HG2.out o) ?_
    clear hK K' hmk
    generalize w1.alloc (.cells (Array.replicate n (Value.int .i64 0)) 3) = w2 at *
    simp only [Act.put, List.getElem_toArray, List.getElem_cons_succ, List.getElem_cons_zero, List.setIfInBounds_toArray, List.set_cons_zero, List.set_cons_succ]
    refine C_ready (rs := [8]) (by kernel_rfl) (by simp) ?_
    refine AllC.cons (i := 8) (o := _) rfl (by rfl) (fun K' hK => ?_) ?_
    · go_simp
      refine (board_any P sink ea m ec f sa sn sc sz _ n n (List.replicate n 0) w2 (HE.out.keep HB2.out) hm (HS.out.keep HB2.out) HZ.out (by omega) HSN.out (fun h => by cases h)).mono ?_
      rintro e1 w3 ⟨hpost, hb3⟩
      have HB3 := Lib.hid (HB2.out.trans (hb3.mono HB2.out.size))
      have HG3 := Lib.hid (HG2.out.keep hb3 HG2.out.lt)
      clear hb3 HB HG HG2
      rcases hpost with ⟨hf, rfl⟩ | ⟨hf, p, s, bb, x, rfl, rfl, hsp, hok, hszl, hczl, hsg, hcf, rfl, hbrd⟩
      · skip
        have hsf : sfault P m f sink sz ≠ 0 := fun h => by
          obtain ⟨p, hp, _, hp10⟩ := sfault_range h
          exact hf (bfault_zeros h ⟨p, hp, HNP.out p hp hp10⟩)
        rw [bfault_s hsf] at hf ⊢
        have HF := Lib.hid hf
        rw [errV_some hf]
        clear hf hsf
        go_simp
        refine hK _ _ (fun o _ => S1.of HG3.out o) ?_
        clear hK K'
        simp only [Act.put, List.getElem_toArray, List.getElem_cons_succ, List.getElem_cons_zero, List.setIfInBounds_toArray, List.set_cons_zero, List.set_cons_succ]
        refine C_take (none) (i := 9) (oi := _) (v := ?_) rfl (by kernel_rfl) (by kernel_rfl) (by kernel_rfl) (by kernel_rfl) (fun _ _ _ h => h) S1.some (Or.inl ⟨by rfl, ?_⟩) (fun o _ => S1.of HG3.out o) ?_
        rotate_left
        · intro w hSw
          go_simp
          try with_reducible rfl
        simp only [Act.put, List.getElem_toArray, List.getElem_cons_succ, List.getElem_cons_zero, List.setIfInBounds_toArray, List.set_cons_zero, List.set_cons_succ]
        refine C_take (none) (i := 10) (oi := _) (v := ?_) rfl (by kernel_rfl) (by kernel_rfl) (by kernel_rfl) (by kernel_rfl) (fun _ _ _ h => h) S1.some (Or.inl ⟨by rfl, ?_⟩) (fun o _ => S1.of HG3.out o) ?_
        rotate_left
        · intro w hSw
          go_simp
          try with_reducible rfl
        simp only [Act.put, List.getElem_toArray, List.getElem_cons_succ, List.getElem_cons_zero, List.setIfInBounds_toArray, List.set_cons_zero, List.set_cons_succ]
        refine C_take (none) (i := 11) (oi := _) (v := ?_) rfl (by kernel_rfl) (by kernel_rfl) (by kernel_rfl) (by kernel_rfl) (fun _ _ _ h => h) S1.some (Or.inl ⟨by rfl, ?_⟩) (fun o _ => S1.of HG3.out o) ?_
        rotate_left
        · intro w hSw
          go_simp
          try with_reducible rfl
        simp only [Act.put, List.getElem_toArray, List.getElem_cons_succ, List.getElem_cons_zero, List.setIfInBounds_toArray, List.set_cons_zero, List.set_cons_succ]
        refine C_take (none) (i := 12) (oi := _) (v := ?_) rfl (by kernel_rfl) (by kernel_rfl) (by kernel_rfl) (by kernel_rfl) (fun _ _ _ h => h) S1.some (Or.inl ⟨by rfl, ?_⟩) (fun o _ => S1.of HG3.out o) ?_
        rotate_left
        · intro w hSw
          go_simp
          try with_reducible rfl
        simp only [Act.put, List.getElem_toArray, List.getElem_cons_succ, List.getElem_cons_zero, List.setIfInBounds_toArray, List.set_cons_zero, List.set_cons_succ]
        refine C_take (none) (i := 13) (oi := _) (v := ?_) rfl (by kernel_rfl) (by kernel_rfl) (by kernel_rfl) (by kernel_rfl) (fun _ _ _ h => h) S1.some (Or.inl ⟨by rfl, ?_⟩) (fun o _ => S1.of HG3.out o) ?_
        rotate_left
        · intro w hSw
          go_simp
          try with_reducible rfl
        simp only [Act.put, List.getElem_toArray, List.getElem_cons_succ, List.getElem_cons_zero, List.setIfInBounds_toArray, List.set_cons_zero, List.set_cons_succ]
        refine C_done (by kernel_rfl) ?_ _
        refine NoPanic.normal ?_
        go_wp2_with fail
        go_ret2
        refine ⟨.inl ⟨HF.out, ?_⟩, HB3.out⟩
        rw [errV_some HF.out]
        rfl
      · skip
        have hsf : sfault (p : Int) m f (s : Int) sz = 0 := Classical.byContradiction fun h => h ((bfault_s h).symm.trans hf)
        have hbo := bdG_ok hok hsp
        have hsk := signs_ok hsg
        have HF := Lib.hid hsf
        have HOK := Lib.hid hok
        have HSZL := Lib.hid hszl
        have HSG := Lib.hid hsg
        have HBR := Lib.hid hbrd
        have HSK := Lib.hid hsk
        have HBO := Lib.hid hbo
        have hp1 := hok.p1
        have hp10 := hok.p10
        clear hf hsf hok hszl hczl hsg hcf hbrd hsk hbo
        go_simp
        refine hK _ _ (fun o _ => S1.of HG3.out o) ?_
        clear hK K'
        simp only [Act.put, List.getElem_toArray, List.getElem_cons_succ, List.getElem_cons_zero, List.setIfInBounds_toArray, List.set_cons_zero, List.set_cons_succ]
        refine C_take (none) (i := 9) (oi := _) (v := ?_) rfl (by kernel_rfl) (by kernel_rfl) (by kernel_rfl) (by kernel_rfl) (fun _ _ _ h => h) S1.some (Or.inl ⟨by rfl, ?_⟩) (fun o _ => S1.of HG3.out o) ?_
        rotate_left
        · intro w hSw
          go_simp
          try with_reducible rfl
        simp only [Act.put, List.getElem_toArray, List.getElem_cons_succ, List.getElem_cons_zero, List.setIfInBounds_toArray, List.set_cons_zero, List.set_cons_succ]
        refine C_take (none) (i := 10) (oi := _) (v := ?_) rfl (by kernel_rfl) (by kernel_rfl) (by kernel_rfl) (by kernel_rfl) (fun _ _ _ h => h) S1.some (Or.inl ⟨by rfl, ?_⟩) (fun o _ => S1.of HG3.out o) ?_
        rotate_left
        · intro w hSw
          go_simp
          try with_reducible rfl
        simp only [Act.put, List.getElem_toArray, List.getElem_cons_succ, List.getElem_cons_zero, List.setIfInBounds_toArray, List.set_cons_zero, List.set_cons_succ]
        refine C_take (none) (i := 11) (oi := _) (v := ?_) rfl (by kernel_rfl) (by kernel_rfl) (by kernel_rfl) (by kernel_rfl) (fun _ _ _ h => h) S1.some (Or.inl ⟨by rfl, ?_⟩) (fun o _ => S1.of HG3.out o) ?_
        rotate_left
        · intro w hSw
          go_simp
          try with_reducible rfl
        simp only [Act.put, List.getElem_toArray, List.getElem_cons_succ, List.getElem_cons_zero, List.setIfInBounds_toArray, List.set_cons_zero, List.set_cons_succ]
        refine C_take (none) (i := 12) (oi := _) (v := ?_) rfl (by kernel_rfl) (by kernel_rfl) (by kernel_rfl) (by kernel_rfl) (fun _ _ _ h => h) S1.some (Or.inl ⟨by rfl, ?_⟩) (fun o _ => S1.of HG3.out o) ?_
        rotate_left
        · intro w hSw
          go_simp
          try with_reducible rfl
        simp only [Act.put, List.getElem_toArray, List.getElem_cons_succ, List.getElem_cons_zero, List.setIfInBounds_toArray, List.set_cons_zero, List.set_cons_succ]
        refine C_take (none) (i := 13) (oi := _) (v := ?_) rfl (by kernel_rfl) (by kernel_rfl) (by kernel_rfl) (by kernel_rfl) (fun _ _ _ h => h) S1.some (Or.inl ⟨by rfl, ?_⟩) (fun o _ => S1.of HG3.out o) ?_
        rotate_left
        · intro w hSw
          go_simp
          try with_reducible rfl
        simp only [Act.put, List.getElem_toArray, List.getElem_cons_succ, List.getElem_cons_zero, List.setIfInBounds_toArray, List.set_cons_zero, List.set_cons_succ]
        refine C_done (by kernel_rfl) ?_ _
        refine NoPanic.normal ?_
        have r1 := HBR.out.row.cell 1
        dsimp only [List.getElem?_cons_succ, List.getElem?_cons_zero] at r1
        have HNXP : Hid (∀ a, a < p → nx (bdG p m s f) (sgN sz) a < p) := fun a ha => by
          unfold nx
          split
          · exact hsp
          · rename_i h; exact (HBO.out.way a ha _ ((HSK.out a ha).2.2 h)).1
        have HIT : Hid (∀ c k, k < p → itr (nx (bdG p m s f) (sgN sz)) c k < p) := fun c k hk => by
          induction c with
          | zero => exact hk
          | succ c ih => exact HNXP.out _ ih
        obtain ⟨g, hg⟩ : ∃ g : Nat → Nat, g = nx (bdG p m s f) (sgN sz) := ⟨_, rfl⟩
        have HGD : Hid (∀ a, g a = if a = s then s else (bdG p m s f).way a (sgN sz a)) := fun a => by rw [hg]; rfl
        have HTR : Hid (IsTree (bdG p m s f) (sgN sz) ↔ ∀ k, k < p → itr g p k = s) := by rw [hg]; exact Iff.rfl
        rw [← hg] at HIT
        clear hg HNXP
        go_wp2_with fail
        go_loopw [32] (fun v wr => ∃ k : Nat, k ≤ p ∧ v = .int .i64 (k : Int) ∧ (∀ j, j < k → itr g p j = s) ∧ Below w3.heap.size w3 wr) (fun v _ => p - (intOf v).toNat)
        case atStart => exact ⟨0, Nat.zero_le _, rfl, fun j hj => absurd hj (Nat.not_lt_zero _), Below.refl _ _⟩
        case round =>
          obtain ⟨k, hkp, rfl, hall, hbw⟩ := hrel
          have HALL := Lib.hid hall
          have HBW := Lib.hid hbw
          clear hall hbw r1
          by_cases hk : k < p
          · --{ROUND
            have r1 := (HBR.out.row.keep HBW.out HBR.out.row.lt).cell 1
            dsimp only [List.getElem?_cons_succ, List.getElem?_cons_zero] at r1
            go_wp2_with fail
            go_loopw [11, 41] (fun a v wx => ∃ c : Nat, c ≤ p ∧ v = .int .i64 (c : Int) ∧ a = .int .i64 (itr g c k : Nat) ∧ Below w3.heap.size w3 wx) (fun _ v _ => p - (intOf v).toNat)
            case atStart => exact ⟨0, Nat.zero_le _, rfl, rfl, HBW.out⟩
            case round =>
              clear HBW r1
              obtain ⟨c, hcp, rfl, rfl, hbw⟩ := hrel
              have HBW := Lib.hid hbw
              clear hbw
              have hat := HIT.out c k hk
              by_cases hc : c < p
              · --{INNER
                have HNX : Hid (itr g (c + 1) k = g (itr g c k)) := rfl
                generalize hs2 : itr g (c + 1) k = a2 at *
                have HS2 := Lib.hid hs2
                clear hs2
                generalize itr g c k = a at *
                by_cases has : a = s
                · have b1 : ((a : Int) != (s : Int)) = false := by rw [has]; exact bne_self_eq_false _
                  have HA2 : Hid (a2 = a) := by
                    show _ = _
                    rw [HNX.out, HGD.out, if_pos has, has]
                  clear has
                  go_wp2_with fail
                  go_roundw
                  case rel => exact ⟨c + 1, by omega, by go_num, by rw [HS2.out, HA2.out], HBW.out⟩
                  case measure => simp [intOf]; omega
                · have b1 : ((a : Int) != (s : Int)) = true := by rw [bne_iff_ne]; omega
                  obtain ⟨h1, _, h3⟩ := HSK.out a hat
                  have h4 := h3 has
                  try dsimp only at h4
                  have HA2 : Hid (a2 = (bdG p m s f).way a (sgN sz a)) := by
                    show _ = _
                    rw [HNX.out, HGD.out, if_neg has]
                  have hwl : (wayL f a m).length = deg f a m := wayL_len (P := p)
                  have hwv : ((wayL f a m).map Int.ofNat).getD (sgN sz a) 0 = (((bdG p m s f).way a (sgN sz a) : Nat) : Int) := by
                    show _ = (((wayL f a m).getD (sgN sz a) 0 : Nat) : Int)
                    rw [List.getD_eq_getElem?_getD, List.getD_eq_getElem?_getD, List.getElem?_map, List.getElem?_eq_getElem (by rw [hwl]; exact h4)]
                    rfl
                  obtain ⟨LV, hv1, hv2⟩ := HBR.out.wrow
                  have w1' := cell_keep ((hv1.cell a).trans (hv2 a hat)) HBW.out
                  have r1 := (HBR.out.row.keep HBW.out HBR.out.row.lt).cell 1
                  have r2 := (HBR.out.row.keep HBW.out HBR.out.row.lt).cell 2
                  have s1 := cell_keep (HBR.out.sg.cell hat) HBW.out
                  rw [h1] at s1
                  obtain ⟨bz, oz, hwa, _, hcz⟩ := ((HBR.out.wis a hat).keep HBW.out).cells (sgN sz a) h4
                  dsimp only at hcz
                  rw [hwv, ← HA2.out] at hcz
                  rw [hwa] at w1'
                  dsimp only [List.getElem?_cons_succ, List.getElem?_cons_zero] at r1 r2
                  have ha2 : (a : Int) < (p : Int) := by omega
                  obtain ⟨sa', hsa'⟩ : ∃ z, z = sgN sz a := ⟨_, rfl⟩
                  obtain ⟨da, hda⟩ : ∃ z, z = deg f a m := ⟨_, rfl⟩
                  rw [← hsa'] at s1 hcz h4
                  rw [← hda] at w1' h4
                  have h42 : (sa' : Int) < (da : Int) := by omega
                  clear hv1 hv2 hwl hwv hwa h1 h3 hsa' hda has
                  go_upto_region 11 with fail
                  go_big_quiet (fail)
                  have HBW := Lib.hid (below_drewN HBW.out nq)
                  clear w1' r1 r2 s1 hcz
                  generalize wr.drewN nq = w9 at *
                  go_wp2_with fail
                  go_roundw
                  case rel => exact ⟨c + 1, by omega, by go_num, by rw [HS2.out], HBW.out⟩
                  case measure => simp [intOf]; omega
                --}
              · obtain rfl : c = p := by omega
                obtain ⟨a, ha⟩ : ∃ a, a = itr g c k := ⟨_, rfl⟩
                have HA := Lib.hid ha
                rw [← ha]
                clear ha
                by_cases has : a = s
                · have b1 : ((a : Int) != (s : Int)) = false := by rw [has]; exact bne_self_eq_false _
                  have HNX : Hid (∀ j, j < k + 1 → itr g c j = s) := fun j hj => by
                    by_cases e : j = k
                    · rw [e, ← HA.out]; exact has
                    · exact HALL.out j (by omega)
                  clear has
                  go_wp2_with fail
                  go_roundw
                  case rel => exact ⟨k + 1, by omega, by go_num, HNX.out, HBW.out⟩
                  case measure => simp [intOf]; omega
                · have b1 : ((a : Int) != (s : Int)) = true := by rw [bne_iff_ne]; omega
                  have HNO : Hid (¬ IsTree (bdG c m s f) (sgN sz)) := fun h => has (by rw [HA.out]; exact HTR.out.1 h k hk)
                  clear has
                  go_wp2_with fail
                  go_ret2
                  exact ⟨.inr ⟨HF.out, c, s, false, rfl, rfl, hsp, HOK.out, HSZL.out, HSG.out, ⟨fun h => (by cases h), fun h => absurd h HNO.out⟩, rfl⟩, HB3.out.trans (HBW.out.mono HB3.out.size)⟩
            --}
          · --{END
            obtain rfl : k = p := by omega
            have HYES : Hid (IsTree (bdG k m s f) (sgN sz)) := HTR.out.2 HALL.out
            go_wp2_with fail
            go_ret2
            exact ⟨.inr ⟨HF.out, k, s, true, rfl, rfl, hsp, HOK.out, HSZL.out, HSG.out, ⟨fun _ => HYES.out, fun _ => rfl⟩, rfl⟩, HB3.out.trans (HBW.out.mono HB3.out.size)⟩
            --}
    exact AllC.nil
  exact AllC.nil
end Rt
end Go.Proofs.YtjikildiblchpaaDoor
