/- WALK: chips.effective, chips.Rank. -/
import Derived.Test.YtjikildiblchpaaCkE
import Derived.Laws.EntriesVeiled
namespace Go.Proofs.Ytjikildiblchpaa
set_option linter.unusedSimpArgs false
set_option linter.unusedVariables false
open Go.RowKit Go.Lib
namespace Ch
open Tld Mem Rt

/-- What going through a degree comes to. -/
def EffPost (P : Nat) (E : Nat → Nat → Nat) (zs : List Int) (n : Int) (xl : Nat) (wB : World) (e : Ending) (w' : World) : Prop :=
  ((e = .returned (.bool true) ∧ AllW P (Tak P E zs) n) ∨
   (e = .returned (.bool false) ∧ ∃ (g : Nat → Int) (a : Option Addr) (c : Nat), First P n (Tak P E zs) g ∧ w'.cell? ⟨xl, 0, none⟩ = some (.slice a P c) ∧ Ints.Is w' a P (lstF P g))) ∧ Below wB.heap.size wB w'
theorem eff_of {P : Nat} {E : Nat → Nat → Nat} {zs : List Int} {n : Int} {F : Nat → Int} {xd xn xl xp xy be xe xf : Nat} {wB w' : World} {e : Ending} (h : FillPost P E zs n 0 F xd xn xl xp xy be xe xf wB e w') : EffPost P E zs n xl wB e w' := by
  rcases h with ⟨⟨rfl, hw, _⟩ | ⟨rfl, g, a, c, hg, hl, hi⟩, hb⟩
  · exact ⟨.inl ⟨rfl, fun e he => hw e he fun i hi => absurd hi (Nat.not_lt_zero _)⟩, hb⟩
  · exact ⟨.inr ⟨rfl, g, a, c, ⟨hg.eff, hg.lost, fun e' he hl => hg.fst e' he (fun i hi => absurd hi (Nat.not_lt_zero _)) hl⟩, hl, hi⟩, hb⟩

set_option maxHeartbeats 16000000 in
set_option maxRecDepth 1000000 in
theorem effective_any (P : Nat) (E : Nat → Nat → Nat) (Dg : Nat → Nat) (bn : Nat) (da : Option Addr) (dc : Nat) (zs : List Int) (wB w : World) (n : Int) (xd xn xl : Nat) (v : Value) (hG : Gr P E) (h0 : 0 < P) (hN : Net wB bn P E Dg)
    (hxd : wB.cell? ⟨xd, 0, none⟩ = some (.slice da P dc)) (hxn : wB.cell? ⟨xn, 0, none⟩ = some (.pointer (some ⟨bn, 0, none⟩))) (hD : Ints.Is wB da P zs) (hz : ∀ k, k < P → -1000 ≤ zs.getD k 0 ∧ zs.getD k 0 ≤ 1000) (hn0 : 0 ≤ n) (hn : n ≤ 100) (hxl : wB.heap.size ≤ xl) (hL : Row w xl 25 [v]) (hB : Below wB.heap.size wB w) :
    Calls Try.prog 29 #[.int .i64 (P : Int), .int .i64 n, .func (.func 30) #[] #[.pointer (some ⟨xd, 0, none⟩), .pointer (some ⟨xn, 0, none⟩), .pointer (some ⟨xl, 0, none⟩)]] w (EffPost P E zs n xl wB) := by
  have hP := hG.p10
  obtain ⟨i0, hI0, hz0, hz1, hz2⟩ := info_parts infoIntN
  have HFILL := Lib.hid (fun xp xy be xe xf => fill_any P E Dg bn da dc zs wB n xd xn xl xp xy be xe xf hG h0 hN hxd hxn hD hz hn hxl)
  have HL := Lib.hid hL
  have HB := Lib.hid hB
  have HXL := Lib.hid hxl
  clear hG hN hxd hxn hD hz hL hB
  go_enter Try.func29, Try.ntmps29
  go_upto_region 1 with fail
  have hs1 : (w.alloc (.cells #[.int .i64 (P : Int)] 3)).heap.size = w.heap.size + 1 := by simp
  have rp1 := row_alloc w 3 [.int .i64 (P : Int)]
  have b1 : Below w.heap.size w (w.alloc (.cells [.int .i64 (P : Int)].toArray 3)) := (Below.refl _ _).alloc (Nat.le_refl _) _
  have ry1 := row_alloc (w.alloc (.cells #[.int .i64 (P : Int)] 3)) 70 [.func (.func 30) #[] #[.pointer (some ⟨xd, 0, none⟩), .pointer (some ⟨xn, 0, none⟩), .pointer (some ⟨xl, 0, none⟩)]]
  have b2 : Below (w.heap.size + 1) (w.alloc (.cells #[.int .i64 (P : Int)] 3)) ((w.alloc (.cells #[.int .i64 (P : Int)] 3)).alloc (.cells [.func (.func 30) #[] #[.pointer (some ⟨xd, 0, none⟩), .pointer (some ⟨xn, 0, none⟩), .pointer (some ⟨xl, 0, none⟩)]].toArray 70)) := (Below.refl _ _).alloc (by rw [hs1]; exact Nat.le_refl _) _
  rw [hs1] at ry1
  have RP := Lib.hid (rp1.keep b2 (Nat.lt_succ_self _))
  have RY := Lib.hid ry1
  have BW := Lib.hid (b1.trans (b2.mono (Nat.le_succ _)))
  have RL := Lib.hid (HL.out.keep BW.out HL.out.lt)
  have hxlw := HL.out.lt
  clear rp1 ry1 b1 b2 hs1
  obtain ⟨xp, hxp⟩ : ∃ q, q = w.heap.size := ⟨_, rfl⟩
  obtain ⟨xy, hxy⟩ : ∃ q, q = w.heap.size + 1 := ⟨_, rfl⟩
  rw [← hxp] at RP hxlw
  rw [← hxy] at RY
  have HXP := Lib.hid hxp
  rw [← hxy, ← hxp]
  have hpy : xp < xy := by omega
  clear hxp hxy
  generalize (w.alloc (.cells #[.int .i64 (P : Int)] 3)).alloc (.cells #[.func (.func 30) #[] #[.pointer (some ⟨xd, 0, none⟩), .pointer (some ⟨xn, 0, none⟩), .pointer (some ⟨xl, 0, none⟩)]] 70) = w1 at *
  have p0 := RP.out.cell 0
  dsimp only [List.getElem?_cons_zero] at p0
  go_upto_region 2 with (refine Ops.wpList_make rfl 25 _ _ rfl 3 i0 (.int .i64 0) Try.underlying25 hI0 hz0 rfl hz1 (by rw [hz2]; decide) P rfl rfl (by omega) ?_; intro be w2 hbe hb2 hR2)
  have hyb : xy < be := by have := RY.out.lt; omega
  have re1 := row_alloc w2 25 [.slice (some ⟨be, 0, none⟩) P P]
  have b3 : Below w2.heap.size w2 (w2.alloc (.cells [.slice (some ⟨be, 0, none⟩) P P].toArray 25)) := (Below.refl _ _).alloc (Nat.le_refl _) _
  have b23 := hb2.trans (b3.mono hb2.size)
  have RV := Lib.hid ((row_made hR2).keep b3 hR2.lt)
  have RE := Lib.hid re1
  have RP := Lib.hid (RP.out.keep b23 RP.out.lt)
  have RY := Lib.hid (RY.out.keep b23 RY.out.lt)
  have RL := Lib.hid (RL.out.keep b23 RL.out.lt)
  have hbe2 := hR2.lt
  have BW := Lib.hid (BW.out.trans (b23.mono BW.out.size))
  obtain ⟨xe, hxe⟩ : ∃ q, q = w2.heap.size := ⟨_, rfl⟩
  rw [← hxe] at RE hbe2
  rw [← hxe]
  clear re1 b3 b23 hb2 hR2 p0 hxe
  generalize w2.alloc (.cells #[.slice (some ⟨be, 0, none⟩) P P] 25) = w3 at *
  go_upto_region 3 with fail
  have rf1 := row_alloc w3 82 [.nilFunc]
  have b4 : Below w3.heap.size w3 (w3.alloc (.cells [Value.nilFunc].toArray 82)) := (Below.refl _ _).alloc (Nat.le_refl _) _
  have RF := Lib.hid rf1
  have RV := Lib.hid (RV.out.keep b4 RV.out.lt)
  have hef : xe < w3.heap.size := RE.out.lt
  have RE := Lib.hid (RE.out.keep b4 RE.out.lt)
  have RP := Lib.hid (RP.out.keep b4 RP.out.lt)
  have RY := Lib.hid (RY.out.keep b4 RY.out.lt)
  have RL := Lib.hid (RL.out.keep b4 RL.out.lt)
  have BW := Lib.hid (BW.out.trans (b4.mono BW.out.size))
  obtain ⟨xf, hxf⟩ : ∃ q, q = w3.heap.size := ⟨_, rfl⟩
  rw [← hxf] at RF hef
  rw [← hxf]
  clear rf1 b4 hxf
  generalize w3.alloc (.cells #[Value.nilFunc] 82) = w4 at *
  have f0 := RF.out.cell 0
  dsimp only [List.getElem?_cons_zero] at f0
  have f1 := RF.out.frozen 0
  go_upto_region 4 with fail
  have ho := only_setCell w4 xf 0 (.func (.func 42) #[] #[.pointer (some ⟨xp, 0, none⟩), .pointer (some ⟨xe, 0, none⟩), .pointer (some ⟨xy, 0, none⟩), .pointer (some ⟨xf, 0, none⟩)])
  have RF2 := RF.out.set 0 (.func (.func 42) #[] #[.pointer (some ⟨xp, 0, none⟩), .pointer (some ⟨xe, 0, none⟩), .pointer (some ⟨xy, 0, none⟩), .pointer (some ⟨xf, 0, none⟩)])
  have hbx : be < xf := by omega
  have hBB : Below wB.heap.size wB (w4.setCell ⟨xf, 0, none⟩ (.func (.func 42) #[] #[.pointer (some ⟨xp, 0, none⟩), .pointer (some ⟨xe, 0, none⟩), .pointer (some ⟨xy, 0, none⟩), .pointer (some ⟨xf, 0, none⟩)])) := (HB.out.trans (BW.out.mono HB.out.size)).trans (ho.below (by have := HXL.out; omega))
  have HBB := Lib.hid hBB
  have HX : Hid (Box (w4.setCell ⟨xf, 0, none⟩ (.func (.func 42) #[] #[.pointer (some ⟨xp, 0, none⟩), .pointer (some ⟨xe, 0, none⟩), .pointer (some ⟨xy, 0, none⟩), .pointer (some ⟨xf, 0, none⟩)])) xd xn xl xp xy be xe xf P fun _ => 0) := ⟨by omega, hpy, hyb, by omega, hef, ⟨_, RL.out.other ho (by omega)⟩, RP.out.other ho (by omega), RY.out.other ho (by omega), RE.out.other ho (by omega), RF2, RV.out.other ho (by omega)⟩
  clear ho RF2 hBB f0 f1 RF RV RE RP RY RL BW HB
  generalize w4.setCell ⟨xf, 0, none⟩ (.func (.func 42) #[] #[.pointer (some ⟨xp, 0, none⟩), .pointer (some ⟨xe, 0, none⟩), .pointer (some ⟨xy, 0, none⟩), .pointer (some ⟨xf, 0, none⟩)]) = w5 at *
  have f0 := HX.out.rf.cell 0
  dsimp only [List.getElem?_cons_zero] at f0
  obtain ⟨q, hq⟩ : ∃ q, P = q + 1 := ⟨P - 1, by omega⟩
  go_wp2_with fail
  refine (HFILL.out xp xy be xe xf q 0 (by omega) (fun _ => 0) n w5 hn0 (by show n = n - 0; omega) (fun i hi => absurd hi (Nat.not_lt_zero _)) HX.out HBB.out).mono ?_
  intro e1 w6 hp
  have HE := Lib.hid (eff_of hp)
  have he : ∃ b, e1 = .returned (.bool b) := by
    rcases hp with ⟨⟨h, _⟩ | ⟨h, _⟩, _⟩
    · exact ⟨_, h⟩
    · exact ⟨_, h⟩
  obtain ⟨b, rfl⟩ := he
  clear hp f0
  go_wp2_with fail
  go_ret
  exact HE.out

/-- What chips.Rank comes to. -/
def RankPost (P : Int) (m : Nat) (f : Nat → Nat → Int) (zs : List Int) (w : World) (e : Ending) (w' : World) : Prop :=
  ((chfault P m f [zs] ≠ 0 ∧ e = .returned (.tuple #[.int .i64 0, .slice none 0 0, errV (chfault P m f [zs])])) ∨
   (chfault P m f [zs] = 0 ∧ (6 < P ∨ 12 < sumZ (fun k => zs.getD k 0) P.toNat) ∧ e = .returned (.tuple #[.int .i64 0, .slice none 0 0, errV 4])) ∨
   (chfault P m f [zs] = 0 ∧ P ≤ 6 ∧ sumZ (fun k => zs.getD k 0) P.toNat ≤ 12 ∧ ∃ (p k c : Nat) (a : Option Addr) (g : Nat → Int), P = (p : Int) ∧ k ≤ 13 ∧ RankIs p (Tak p (fun a b => btw f a b m) zs) k g ∧ e = .returned (.tuple #[.int .i64 ((k : Int) - 1), .slice a p c, .nilIface]) ∧ Ints.Is w' a p (lstF p g))) ∧ Below w.heap.size w w'
end Ch
end Go.Proofs.Ytjikildiblchpaa
