/- WALK of the document's answer: edenref6.All: all ways of all places, rows of the call's own. -/
import Derived.Test.YtjikildiblchpaaDoorRfW
namespace Go.Proofs.YtjikildiblchpaaDoor
set_option linter.unusedSimpArgs false
set_option linter.unusedVariables false
open Go.RowKit Go.Lib
namespace Rt
open Tld Mem

theorem infoRowN : (Tryd.prog.info? 25).map (fun i => (i.zero, i.size, i.bytes)) = some (some (.slice none 0 0), 1, 24) := by kernel_rfl
/-- Two rows of unlike types are unlike blocks: growing the one leaves the other. -/
theorem own_grown {w w' : World} {B B' : Nat} {e e' : TypeId} {v u : Value} {n n' : Nat} {xs xs' : List Value} (h : w.ownsRow B e 1 v n xs) (h2 : w.ownsRow B' e' 1 u n' xs') (hg : w.grownBy w' v.ownBlock) (hT : e ≠ e') : w'.ownsRow B' e' 1 u n' xs' := by
  refine own_chg h2 (Chg.grown hg) fun b hb hx => ?_
  rcases h.2 with ⟨hv, _⟩ | ⟨g, cap, cur, hv, _, hc, _⟩
  · rw [hv] at hx; cases hx
  · rcases h2.2 with ⟨hu, _⟩ | ⟨g', cap', cur', hu, _, hc', _⟩
    · rw [hu] at hb; cases hb
    · rw [hv] at hx
      rw [hu] at hb
      cases hx
      cases hb
      rw [hc] at hc'
      simp only [Option.some.injEq, Obj.cells.injEq] at hc'
      exact hT hc'.2.1
theorem own_mono {w : World} {B B' : Nat} {e : TypeId} {v : Value} {n : Nat} {xs : List Value} (h : w.ownsRow B e 1 v n xs) (hb : B' ≤ B) : w.ownsRow B' e 1 v n xs :=
  ⟨h.1, h.2.imp id fun ⟨g, cap, cur, h1, h2, h3⟩ => ⟨g, cap, cur, h1, Nat.le_trans hb h2, h3⟩⟩
/-- The ways of the first P places. -/
structure WaysAt (w : World) (B P m : Nat) (f : Nat → Nat → Int) (v : Value) (LV : List Value) : Prop where
  row : w.ownsRow B 25 1 v P LV
  own : ∀ k, k < P → ∃ u, LV[k]? = some u ∧ w.ownsRow B 3 1 u (wayL f k m).length (intsL (wayL f k m))
theorem WaysAt.len {w : World} {B P m : Nat} {f : Nat → Nat → Int} {v : Value} {LV : List Value} (h : WaysAt w B P m f v LV) : LV.length = P := by
  have := h.row.1
  simpa using this
theorem WaysAt.keep {w w' : World} {B P m : Nat} {f : Nat → Nat → Int} {v : Value} {LV : List Value} (h : WaysAt w B P m f v LV) (hb : Below w.heap.size w w') : WaysAt w' B P m f v LV :=
  ⟨own_keep h.row hb, fun k hk => by
    obtain ⟨u, h1, h2⟩ := h.own k hk
    exact ⟨u, h1, own_keep h2 hb⟩⟩
theorem WaysAt.chg {w w' : World} {B P m : Nat} {f : Nat → Nat → Int} {v : Value} {LV : List Value} {X : Nat → Prop} (h : WaysAt w B P m f v LV) (hc : Chg X w w') (hx : ∀ b, X b → b < B) : WaysAt w' B P m f v LV :=
  ⟨own_chg h.row hc fun b hb hX => by have := own_low h.row b hb; have := hx b hX; omega, fun k hk => by
    obtain ⟨u, h1, h2⟩ := h.own k hk
    exact ⟨u, h1, own_chg h2 hc fun b hb hX => by have := own_low h2 b hb; have := hx b hX; omega⟩⟩
theorem WaysAt.start (w : World) (B m : Nat) (f : Nat → Nat → Int) : WaysAt w B 0 m f (.slice none 0 0) [] := ⟨⟨rfl, .inl ⟨rfl, rfl⟩⟩, fun k hk => absurd hk (Nat.not_lt_zero _)⟩
theorem WaysAt.next {w w' : World} {B P m : Nat} {f : Nat → Nat → Int} {v v' u : Value} {LV : List Value} (h : WaysAt w B P m f v LV) (hu : w.ownsRow B 3 1 u (wayL f P m).length (intsL (wayL f P m))) (ho : w'.ownsRow B 25 1 v' (P + 1) (LV ++ [u])) (hg : w.grownBy w' v.ownBlock) : WaysAt w' B (P + 1) m f v' (LV ++ [u]) :=
  ⟨ho, fun k hk => by
    have hl := h.len
    by_cases e : k = P
    · subst e
      refine ⟨u, ?_, own_grown h.row hu hg (by decide)⟩
      rw [List.getElem?_append_right (by omega), hl, Nat.sub_self]
      rfl
    · obtain ⟨u', h1, h2⟩ := h.own k (by omega)
      refine ⟨u', ?_, own_grown h.row h2 hg (by decide)⟩
      rw [List.getElem?_append_left (by omega)]
      exact h1⟩

set_option maxHeartbeats 8000000 in
set_option maxRecDepth 1000000 in
theorem rall_any (p : Nat) (ea : Option Addr) (m ec : Nat) (f : Nat → Nat → Int) (w : World) (hE : Mem.Rows w ea m 3 (fun i j => .int .i64 (f i j))) (hm : m ≤ 40) (hN : ∀ i, i < m → EdgeN p f i) (hp : p ≤ 10) :
    Calls Tryd.prog 33 #[.agg #[.int .i64 (p : Int), .slice ea m ec]] w fun e w' => ∃ v LV, e = .returned v ∧ WaysAt w' w.heap.size p m f v LV ∧ Below w.heap.size w w' := by
  obtain ⟨i0, hI0, hz0, hz1, hz2⟩ := info_parts infoRowN
  have HI0 := Lib.hid hI0
  have HZ0 := Lib.hid hz0
  have HZ1 := Lib.hid hz1
  have HZ2 := Lib.hid hz2
  have HE := Lib.hid hE
  have HEN := Lib.hid hN
  clear hE hN hI0 hz0 hz1 hz2
  go_enter Tryd.func33, Tryd.ntmps33
  go_upto_region 1 with fail
  have hR : Row (w.alloc (.cells #[.int .i64 (p : Int), .slice ea m ec] 24)) w.heap.size 24 [.int .i64 (p : Int), .slice ea m ec] := row_alloc w _ _
  have hB : Below w.heap.size w (w.alloc (.cells #[.int .i64 (p : Int), .slice ea m ec] 24)) := (Below.refl _ _).alloc (Nat.le_refl _) _
  have HG := Lib.hid hR
  have HB := Lib.hid hB
  have HW := Lib.hid (WaysAt.start (w.alloc (.cells #[.int .i64 (p : Int), .slice ea m ec] 24)) w.heap.size m f)
  clear hR hB
  generalize w.alloc (.cells #[.int .i64 (p : Int), .slice ea m ec] 24) = w1 at *
  go_wp2_with fail
  go_loopw [3, 4] (fun z u wr => ∃ (k : Nat) (ao : Option Addr) (co : Nat) (LV : List Value), k ≤ p ∧ z = .slice ao k co ∧ u = .int .i64 (k : Int) ∧ WaysAt wr w.heap.size k m f (.slice ao k co) LV ∧ Row wr w.heap.size 24 [.int .i64 (p : Int), .slice ea m ec] ∧ Below w.heap.size w wr) (fun _ u _ => p - (intOf u).toNat)
  case atStart => exact ⟨0, none, 0, [], Nat.zero_le _, rfl, rfl, HW.out, HG.out, HB.out⟩
  case round =>
    clear HG HB HW
    obtain ⟨k, ao, co, LV, hkp, rfl, rfl, hw, hg, hb⟩ := hrel
    have HW := Lib.hid hw
    have HG := Lib.hid hg
    have HB := Lib.hid hb
    have g0 := hg.cell 0
    dsimp only [List.getElem?_cons_succ, List.getElem?_cons_zero] at g0
    clear hg hb hw
    by_cases hlt : k < p
    · --{ROUND
      have hk2 : (k : Int) < (p : Int) := by omega
      have l1 := row_range HG.out
      go_upto_region 5 with fail
      go_wp2_with (refine wpList_load_mid rfl 24 _ rfl w.heap.size 0 rfl _ _ l1 Tryd.underlying24 rfl infoGraph ?_)
      clear l1 g0
      refine (rways_any (p : Int) p ea m ec f k wr (rows_keep HE.out HB.out) hm HEN.out hp).mono ?_
      rintro e1 w2 ⟨u, rfl, hu, hb2⟩
      have HU := Lib.hid (own_mono hu HB.out.size)
      have HW2 := Lib.hid (HW.out.keep hb2)
      have HG := Lib.hid (HG.out.keep hb2 HG.out.lt)
      have HB := Lib.hid (HB.out.trans (hb2.mono HB.out.size))
      obtain ⟨ua, uc, rfl⟩ := own_slice hu
      clear hu hb2 HW hlt
      obtain ⟨ul, hul⟩ : ∃ n, n = (wayL f k m).length := ⟨_, rfl⟩
      rw [← hul] at HU ⊢
      have HUL := Lib.hid hul
      clear hul
      have hnew := row_alloc w2 25 [.slice ua ul uc]
      have hbn : Below w2.heap.size w2 (w2.alloc (.cells [.slice ua ul uc].toArray 25)) := (Below.refl _ _).alloc (Nat.le_refl _) _
      have HWa := Lib.hid (HW2.out.keep hbn)
      have HGa := Lib.hid (HG.out.keep hbn HG.out.lt)
      have HBa := Lib.hid (HB.out.trans (hbn.mono HB.out.size))
      have HUa := Lib.hid (own_keep HU.out hbn)
      have HCEL := Lib.hid (hnew.cell 0)
      have HSZ : Hid (w.heap.size ≤ (w2.alloc (.cells [.slice ua ul uc].toArray 25)).heap.size) := HBa.out.size
      have HOW := Lib.hid HWa.out.row
      have HGNE : Hid (Value.ownBlock (.slice ao k co) ≠ some w.heap.size) := own_ne HWa.out.row HGa.out (by decide)
      clear hnew hbn HW2 HG HB HU
      go_wp2_with (at_builtin; refine Ops.wpList_append1 rfl _ _ 65 rfl w.heap.size 25 i0 (.slice none 0 0) 24 Tryd.underlying65 HI0.out HZ0.out rfl HZ1.out HZ2.out _ k _ rfl HOW.out ⟨w2.heap.size, 0, none⟩ 1 (.slice ua ul uc) rfl HCEL.out rfl ?c1 ?c2 HSZ.out ?_)
      case c1 => unfold maxLen; omega
      case c2 => omega
      intro ao' co' w5 hO3 hg3
      have HB3 := Lib.hid (HBa.out.grown hg3 HSZ.out (own_low HOW.out))
      have HG3 := Lib.hid (row_grown HOW.out hg3 HGa.out (by decide))
      have HW3 := Lib.hid (HWa.out.next (by rw [← HUL.out]; exact HUa.out) hO3 hg3)
      clear hO3 hg3 HWa HBa HCEL HSZ HUa HGa HOW HGNE
      go_wp2_with fail
      go_roundw
      case rel => exact ⟨k + 1, ao', co', _, by omega, rfl, by go_num, HW3.out, HG3.out, HB3.out⟩
      case measure => simp [intOf]; omega
      --}
    · --{END
      obtain rfl : k = p := by omega
      go_wp2_with fail
      go_ret
      exact ⟨_, _, rfl, HW.out, HB.out⟩
      --}
end Rt
end Go.Proofs.YtjikildiblchpaaDoor
