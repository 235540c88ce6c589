/- WALK: sand.Check, sand.Piles. -/
import Derived.Test.YtjikildiblchpaaGfN3
namespace Go.Proofs.Ytjikildiblchpaa
set_option linter.unusedSimpArgs false
set_option linter.unusedVariables false
open Go.RowKit Go.Lib
namespace Rt
open Tld Mem

theorem infoGraph : (Try.prog.info? 24).map (·.size) = some 2 := by kernel_rfl
theorem row_range {w : World} {b : Nat} {T : TypeId} {cs : List Value} (h : Row w b T cs) : w.rangeAt b 0 cs := fun j v hv => by
  rw [Nat.zero_add, h.cell j]; exact hv
theorem rows_keep {w w' : World} {a : Option Addr} {n : Nat} {f : Nat → Nat → Int} (h : Mem.Rows w a n 3 (fun i j => .int .i64 (f i j))) (hb : Below w.heap.size w w') : Mem.Rows w' a n 3 (fun i j => .int .i64 (f i j)) := h.keep hb
set_option maxHeartbeats 2000000 in
set_option maxRecDepth 100000 in
theorem check_any (P : Int) (ea : Option Addr) (m ec : Nat) (f : Nat → Nat → Int) (w : World) (hE : Mem.Rows w ea m 3 (fun i j => .int .i64 (f i j))) (hm : m ≤ 9223372036854775807) :
    Calls Try.prog 32 #[.agg #[.int .i64 P, .slice ea m ec]] w fun e w' => e = .returned (errV (gfault P m f)) ∧ Below w.heap.size w w' := by
  have HE := Lib.hid hE
  clear hE
  go_enter Try.func32, Try.ntmps32
  go_upto_region 1 with fail
  have hR : Row (w.alloc (.cells #[.int .i64 P, .slice ea m ec] 24)) w.heap.size 24 [.int .i64 P, .slice ea m ec] := row_alloc w _ _
  have hB : Below w.heap.size w (w.alloc (.cells #[.int .i64 P, .slice ea m ec] 24)) := (Below.refl _ _).alloc (Nat.le_refl _) _
  have HG := Lib.hid hR
  have HB := Lib.hid hB
  clear hR hB
  generalize w.alloc (.cells #[.int .i64 P, .slice ea m ec] 24) = w1 at *
  have l1 := row_range HG.out
  go_wp2_with (refine wpList_load_mid rfl 24 _ rfl w.heap.size 0 rfl _ _ l1 Try.underlying24 rfl infoGraph ?_)
  refine (net_any P ea m ec f w1 (rows_keep HE.out HB.out) hm).mono ?_
  rintro e1 w2 ⟨⟨hf, rfl⟩ | ⟨hf, bn, rfl, _⟩, hb2⟩
  · have HF := Lib.hid hf
    have HB2 := Lib.hid (HB.out.trans (hb2.mono HB.out.size))
    clear hf hb2 l1
    go_wp2_with fail
    go_ret
    exact ⟨rfl, HB2.out⟩
  · have HF := Lib.hid hf
    have HB2 := Lib.hid (HB.out.trans (hb2.mono HB.out.size))
    clear hf hb2 l1
    go_wp2_with fail
    go_ret
    exact ⟨by rw [HF.out]; rfl, HB2.out⟩
/-- What is wrong with chips, where graph and sink are right. -/
def cfault (p s : Nat) (cs : List Int) : Int := if cs.length ≠ p then 3 else if cs.getD s 0 ≠ 0 ∨ cs.any pbad = true then 1 else 0
/-- What is wrong with a graph, a sink, chips. -/
noncomputable def ifault (P : Int) (m : Nat) (f : Nat → Nat → Int) (sink : Int) (cs : List Int) : Int := by
  classical exact if gfault P m f ≠ 0 then gfault P m f else if sink < 0 ∨ P ≤ sink then 1 else cfault P.toNat sink.toNat cs
theorem ifault_g {P : Int} {m : Nat} {f : Nat → Nat → Int} {sink : Int} {cs : List Int} (h : gfault P m f ≠ 0) : ifault P m f sink cs = gfault P m f := by unfold ifault; rw [if_pos h]
theorem ifault_s {P : Int} {m : Nat} {f : Nat → Nat → Int} {sink : Int} {cs : List Int} (h : gfault P m f = 0) (hs : sink < 0 ∨ P ≤ sink) : ifault P m f sink cs = 1 := by unfold ifault; rw [if_neg (fun x => x h), if_pos hs]
theorem ifault_c {P : Int} {m : Nat} {f : Nat → Nat → Int} {sink : Int} {cs : List Int} (h : gfault P m f = 0) (hs : ¬ (sink < 0 ∨ P ≤ sink)) : ifault P m f sink cs = cfault P.toNat sink.toNat cs := by unfold ifault; rw [if_neg (fun x => x h), if_neg hs]
/-- What Piles gives. -/
def PilesPost (P : Int) (m : Nat) (f : Nat → Nat → Int) (sink : Int) (cs : List Int) (w : World) (e : Ending) (w' : World) : Prop :=
  ((ifault P m f sink cs ≠ 0 ∧ e = .returned (.tuple #[.pointer none, errV (ifault P m f sink cs)])) ∨ (ifault P m f sink cs = 0 ∧ ∃ bn, e = .returned (.tuple #[.pointer (some ⟨bn, 0, none⟩), .nilIface]) ∧ Net w' bn P.toNat (fun a b => btw f a b m) (fun a => deg f a m))) ∧ Below w.heap.size w w'
theorem piles_bad {P : Int} {m : Nat} {f : Nat → Nat → Int} {sink : Int} {cs : List Int} {w w' : World} {z : Int} (h : ifault P m f sink cs = z) (h0 : z ≠ 0) (hb : Below w.heap.size w w') : PilesPost P m f sink cs w (.returned (.tuple #[.pointer none, .iface 59 (.int .i64 z)])) w' := by
  refine ⟨.inl ⟨by rw [h]; exact h0, ?_⟩, hb⟩
  rw [h, errV_some h0]
set_option maxHeartbeats 4000000 in
set_option maxRecDepth 100000 in
theorem piles_any (P : Int) (ea : Option Addr) (m ec : Nat) (f : Nat → Nat → Int) (sink : Int) (ca : Option Addr) (cn cc : Nat) (cs : List Int) (w : World) (hE : Mem.Rows w ea m 3 (fun i j => .int .i64 (f i j))) (hm : m ≤ 9223372036854775807) (hC : Ints.Is w ca cn cs) :
    Calls Try.prog 33 #[.agg #[.int .i64 P, .slice ea m ec], .int .i64 sink, .slice ca cn cc] w (PilesPost P m f sink cs w) := by
  have HE := Lib.hid hE
  have HC := Lib.hid hC
  have hcl := hC.le
  unfold maxLen at hcl
  clear hE hC
  go_enter Try.func33, Try.ntmps33
  go_upto_region 1 with fail
  have hR : Row (w.alloc (.cells #[.int .i64 P, .slice ea m ec] 24)) w.heap.size 24 [.int .i64 P, .slice ea m ec] := row_alloc w _ _
  have hB : Below w.heap.size w (w.alloc (.cells #[.int .i64 P, .slice ea m ec] 24)) := (Below.refl _ _).alloc (Nat.le_refl _) _
  have HG := Lib.hid hR
  have HB := Lib.hid hB
  clear hR hB
  generalize w.alloc (.cells #[.int .i64 P, .slice ea m ec] 24) = w1 at *
  obtain ⟨bg, hbg⟩ : ∃ bg, bg = w.heap.size := ⟨_, rfl⟩
  rw [← hbg] at HG ⊢
  clear hbg
  have l1 := row_range HG.out
  go_wp2_with (refine wpList_load_mid rfl 24 _ rfl bg 0 rfl _ _ l1 Try.underlying24 rfl infoGraph ?_)
  clear l1
  refine (net_any P ea m ec f w1 (rows_keep HE.out HB.out) hm).mono ?_
  rintro e1 w2 ⟨⟨hf, rfl⟩ | ⟨hf, bn, rfl, hn⟩, hb2⟩
  · have HF := Lib.hid (ifault_g (sink := sink) (cs := cs) hf)
    have HB2 := Lib.hid (HB.out.trans (hb2.mono HB.out.size))
    obtain ⟨z, hz⟩ : ∃ z, z = gfault P m f := ⟨_, rfl⟩
    rw [← hz] at HF hf ⊢
    rw [errV_some hf]
    have HZ := Lib.hid hf
    clear hz hf hb2
    go_wp2_with fail
    go_ret2
    exact piles_bad HF.out HZ.out HB2.out
  · obtain ⟨p, rfl, hok⟩ := gfault_zero hf
    have HF := Lib.hid hf
    have hp1 := hok.p1
    have hp10 := hok.p10
    have HG := Lib.hid (HG.out.keep hb2 HG.out.lt)
    have HB2 := Lib.hid (HB.out.trans (hb2.mono HB.out.size))
    have HN := Lib.hid hn
    have HC := Lib.hid (HC.out.keep HB2.out)
    clear hf hok hb2 hn HB
    have g0 := HG.out.cell 0
    dsimp only [List.getElem?_cons_zero] at g0
    by_cases h0 : sink < 0
    · have HI := Lib.hid (ifault_s (cs := cs) HF.out (.inl h0))
      go_wp2_with fail
      go_ret2
      exact piles_bad HI.out (by decide) HB2.out
    by_cases h1 : (p : Int) ≤ sink
    · have HI := Lib.hid (ifault_s (cs := cs) HF.out (.inr h1))
      go_wp2_with fail
      go_ret2
      exact piles_bad HI.out (by decide) HB2.out
    obtain ⟨s, rfl⟩ : ∃ s : Nat, sink = (s : Int) := ⟨sink.toNat, by omega⟩
    have hsp : s < p := by omega
    have HI := Lib.hid (ifault_c (cs := cs) HF.out (fun h => h.elim h0 h1))
    rw [Int.toNat_natCast, Int.toNat_natCast] at HI
    have HLEN := Lib.hid HC.out.len
    clear h0 h1
    by_cases hl : cn = p
    · have HL := Lib.hid hl
      have hle : ((cn : Int) != (p : Int)) = false := by rw [hl]; exact bne_self_eq_false _
      obtain ⟨b, off, rfl, _, hc⟩ := HC.out.cells s (by omega)
      dsimp only at hc
      have hs2 : (s : Int) < (cn : Int) := by omega
      have HCT := Lib.hid (pcontains_any (some ⟨b, off, none⟩) cn cc cs w2 HC.out.len (by omega) HC.out.cells)
      have HCF : Hid (ifault (p : Int) m f (s : Int) cs = if cs.getD s 0 ≠ 0 ∨ cs.any pbad = true then 1 else 0) := by
        show _ = _
        rw [HI.out]
        unfold cfault
        rw [if_neg (fun h => h (by rw [HLEN.out, HL.out]))]
      obtain ⟨z, hz⟩ : ∃ z, z = cs.getD s 0 := ⟨_, rfl⟩
      obtain ⟨q, hq⟩ : ∃ q, q = cs.any pbad := ⟨_, rfl⟩
      rw [← hz] at hc HCF
      rw [← hq] at HCF HCT
      clear hz hq hl
      by_cases hz0 : z = 0
      · have bz : (z != 0) = false := by rw [hz0]; rfl
        have HZ0 := Lib.hid hz0
        clear hz0
        go_wp2_with fail
        refine HCT.out.mono ?_
        rintro e2 w3 ⟨rfl, rfl⟩
        cases q
        · have h3 : ifault (p : Int) m f (s : Int) cs = 0 := by rw [HCF.out, if_neg (fun h => h.elim (fun h => h HZ0.out) (fun h => by cases h))]
          have H3 := Lib.hid h3
          clear h3
          go_wp2_with fail
          go_ret2
          exact ⟨.inr ⟨H3.out, bn, rfl, HN.out⟩, HB2.out⟩
        · have h3 : ifault (p : Int) m f (s : Int) cs = 1 := by rw [HCF.out, if_pos (.inr rfl)]
          have H3 := Lib.hid h3
          clear h3
          go_wp2_with fail
          go_ret2
          exact piles_bad H3.out (by decide) HB2.out
      · have bz : (z != 0) = true := by rw [bne_iff_ne]; exact hz0
        have H3 : Hid (ifault (p : Int) m f (s : Int) cs = 1) := by
          show _ = _
          rw [HCF.out, if_pos (.inl hz0)]
        clear hz0
        go_wp2_with fail
        go_ret2
        exact piles_bad H3.out (by decide) HB2.out
    · have hle : ((cn : Int) != (p : Int)) = true := by rw [bne_iff_ne]; omega
      have H3 : Hid (ifault (p : Int) m f (s : Int) cs = 3) := by
        show _ = _
        rw [HI.out]
        unfold cfault
        rw [if_pos (by rw [HLEN.out]; exact hl)]
      clear hl
      go_wp2_with fail
      go_ret2
      exact piles_bad H3.out (by decide) HB2.out
end Rt
end Go.Proofs.Ytjikildiblchpaa
