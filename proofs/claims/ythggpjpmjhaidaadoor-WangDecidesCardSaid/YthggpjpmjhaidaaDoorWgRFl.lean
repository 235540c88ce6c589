/- WALK: edenref7's Fits and Fill. -/
import Derived.Test.YthggpjpmjhaidaaDoorWgRF
import Derived.Test.YthggpjpmjhaidaaDoorWgRPl
import Derived.Test.YthggpjpmjhaidaaDoorWgD
import Derived.Deep.LoopGhost
namespace Go.Proofs.YthggpjpmjhaidaaDoor
set_option linter.unusedSimpArgs false
set_option linter.unusedVariables false
open Go.RowKit Go.Lib
namespace Wg
open Tld Mem

open Classical in
/-- Do all cells fit? -/
noncomputable def goodB (W H : Nat) (ring : Bool) (t : Nat → Tl) : Bool := decide (Good W H ring t)
open Classical in
theorem goodB_iff {W H : Nat} {ring : Bool} {t : Nat → Tl} : goodB W H ring t = true ↔ Good W H ring t := by unfold goodB; exact decide_eq_true_iff
theorem goodB_no {W H : Nat} {ring : Bool} {t : Nat → Tl} (h : ¬ Good W H ring t) : Ending.returned (.bool false) = .returned (.bool (goodB W H ring t)) := by
  rw [show goodB W H ring t = false from Bool.eq_false_iff.2 fun e => h (goodB_iff.1 e)]
theorem goodB_yes {W H : Nat} {ring : Bool} {t : Nat → Tl} (h : Good W H ring t) : Ending.returned (.bool true) = .returned (.bool (goodB W H ring t)) := by
  rw [goodB_iff.2 h]
theorem fitB_iff {W H : Nat} {ring : Bool} {t : Nat → Tl} {k : Nat} : fitB W H ring t k = true ↔ FitW W ring t k ∧ FitF W H ring t k := by
  classical
  unfold fitB; exact decide_eq_true_iff

set_option maxHeartbeats 4000000 in
set_option maxRecDepth 1000000 in
theorem rfits_any (a : Option Addr) (n c : Nat) (ts : List Tl) (W H : Nat) (sa : Option Addr) (sn sc : Nat) (zs : List Int) (ring : Bool) (w : World) (hT : Tiles w a n ts) (hn : n ≤ 16)
    (hW1 : 1 ≤ W) (hW5 : W ≤ 5) (hH1 : 1 ≤ H) (hH5 : H ≤ 5) (hsn : zs.length = sn) (hwh : sn = W * H) (hlt : ∀ z ∈ zs, 0 ≤ z ∧ z < (n : Int)) (hZ : Cells w sa sn (fun i => .int .i64 (zs.getD i 0))) :
    Calls Tryd.prog 26 #[.slice a n c, .int .i64 W, .int .i64 H, .slice sa sn sc, .bool ring] w fun e w' => e = .returned (.bool (goodB W H ring (zt ts zs))) ∧ Below w.heap.size w w' := by
  have h25 : sn ≤ 25 := by rw [hwh]; exact Nat.le_trans (Nat.mul_le_mul hW5 hH5) (by omega)
  have HRF : Hid (∀ (k : Nat) (w2 : World), k < sn → Below w.heap.size w w2 → Calls Tryd.prog 48 #[.slice a n c, .int .i64 W, .int .i64 H, .slice sa sn sc, .int .i64 k, .bool ring] w2 fun e w' => e = .returned (.bool (fitB W H ring (zt ts zs) k)) ∧ Below w2.heap.size w2 w') :=
    fun k w2 hk hb => rfit_any a n c ts W H sa sn sc zs k ring w2 (hT.below hb (Nat.le_refl _)) hn hW1 hW5 hH1 hH5 hk h25 (fun j hj => hlt _ (int_mem (by omega))) (hZ.below hb (Nat.le_refl _))
  have HG : Hid ((∀ k, k < sn → FitW W ring (zt ts zs) k ∧ FitF W H ring (zt ts zs) k) → Good W H ring (zt ts zs)) := fun h => fit_good hW1 hH1 (fun k hk => (h k (by omega)).1) (fun k hk => (h k (by omega)).2)
  have HNG : Hid (∀ k, k < sn → Good W H ring (zt ts zs) → FitW W ring (zt ts zs) k ∧ FitF W H ring (zt ts zs) k) := fun k hk h => good_fit h (by omega)
  clear hT hZ hlt hsn hwh
  generalize zt ts zs = t at *
  go_enter Tryd.func26, Tryd.ntmps26
  go_wp2_with fail
  go_loopw [11] (fun u wr => ∃ k : Nat, k ≤ sn ∧ u = .int .i64 k ∧ Hid (∀ j, j < k → FitW W ring t j ∧ FitF W H ring t j) ∧ Below w.heap.size w wr) (fun u _ => sn - (intOf u).toNat)
  case atStart => exact ⟨0, Nat.zero_le _, rfl, fun j hj => absurd hj (Nat.not_lt_zero _), Below.refl _ _⟩
  case round =>
    obtain ⟨k, hk, rfl, HK, hbel⟩ := hrel
    have HB := Lib.hid hbel
    have hs := hbel.size
    clear hbel
    by_cases hlt : k < sn
    · have HF := Lib.hid (HRF.out k wr hlt HB.out)
      cases hb : fitB W H ring t k
      case true =>
        have HBT := Lib.hid hb
        clear hb
        go_wp2_with fail
        refine HF.out.mono ?_
        rintro e2 w2 ⟨rfl, hb2⟩
        rw [HBT.out]
        have HB2 := Lib.hid (HB.out.trans (hb2.mono hs))
        clear hb2
        go_wp2_with fail
        go_roundw
        case rel => exact ⟨k + 1, by omega, by go_num, fun j hj => (by
          by_cases hjk : j = k
          · subst hjk; exact fitB_iff.1 HBT.out
          · exact HK.out j (by omega)), HB2.out⟩
        case measure => simp [intOf]; omega
      case false =>
        have HBT := Lib.hid hb
        clear hb
        go_wp2_with fail
        refine HF.out.mono ?_
        rintro e2 w2 ⟨rfl, hb2⟩
        rw [HBT.out]
        have HB2 := Lib.hid (HB.out.trans (hb2.mono hs))
        clear hb2
        go_wp2_with fail
        go_ret
        exact ⟨goodB_no fun hg => (by have := fitB_iff.2 (HNG.out k hlt hg); rw [HBT.out] at this; cases this), HB2.out⟩
    · go_wp2_with fail
      go_ret
      exact ⟨goodB_yes (HG.out fun j hj => HK.out j (by omega)), HB.out⟩

/-- What the reference's search hands back. -/
def RFillR (B : Nat) (o : Option (List Nat)) (e : Ending) (w : World) : Prop :=
  match o with
  | none => e = .returned (.tuple #[.slice none 0 0, .bool false])
  | some l => ∃ b, e = .returned (.tuple #[.slice (some ⟨b, 0, none⟩) l.length l.length, .bool true]) ∧ B ≤ b ∧ Row w b 3 (nats l)
theorem rfillR_none {B : Nat} {o : Option (List Nat)} {w : World} (h : o = none) : RFillR B o (.returned (.tuple #[.slice none 0 0, .bool false])) w := by subst h; rfl
theorem rfillR_some {B b : Nat} {o : Option (List Nat)} {l : List Nat} {w : World} (h : o = some l) (hB : B ≤ b) (hr : Row w b 3 (nats l)) : RFillR B o (.returned (.tuple #[.slice (some ⟨b, 0, none⟩) l.length l.length, .bool true])) w := by subst h; exact ⟨b, rfl, hB, hr⟩
def casts (l : List Nat) : List Int := l.map fun (k : Nat) => (k : Int)
theorem casts_get (l : List Nat) (j : Nat) : (casts l).getD j 0 = ((l.getD j 0 : Nat) : Int) := by
  unfold casts
  rw [List.getD_eq_getElem?_getD, List.getElem?_map, List.getD_eq_getElem?_getD]
  cases l[j]? <;> rfl
theorem zt_casts (ts : List Tl) (l : List Nat) : zt ts (casts l) = tl (fun i => ts.getD i noTile) l := by
  funext k
  unfold zt tl
  rw [casts_get, Int.toNat_natCast]
theorem set_mid (cs : List Value) (x y : Value) (zs : List Value) : (cs ++ x :: zs).set cs.length y = cs ++ y :: zs := by simp
/-- Where the walk stands. -/
structure At (B b : Nat) (n all : Nat) (cs : List Nat) (v : Value) (wr : World) : Prop where
  row : ∃ zs, Row wr b 3 (nats cs ++ v :: zs) ∧ (nats cs ++ v :: zs).length = all
theorem At.set {B b n all : Nat} {cs : List Nat} {v : Value} {wr : World} (h : At B b n all cs v wr) (u : Value) : At B b n all cs u (wr.setCell ⟨b, cs.length, none⟩ u) := by
  obtain ⟨zs, h1, h2⟩ := h.row
  refine ⟨zs, ?_, by simpa using h2⟩
  have := h1.set cs.length u
  rwa [← nats_length cs, set_mid, nats_length] at this
theorem At.cell {B b n all : Nat} {cs : List Nat} {v : Value} {wr : World} (h : At B b n all cs v wr) : wr.cell? ⟨b, cs.length, none⟩ = some v ∧ wr.frozen? ⟨b, cs.length, none⟩ = false ∧ b < wr.heap.size := by
  obtain ⟨zs, h1, _⟩ := h.row
  refine ⟨?_, h1.frozen _, h1.lt⟩
  rw [h1.cell, ← nats_length cs, List.getElem?_append_right (Nat.le_refl _), Nat.sub_self]; rfl
theorem At.up {B b n all x : Nat} {cs : List Nat} {v : Value} {wr : World} (h : At B b n all (cs ++ [x]) v wr) : At B b n all cs (.int .i64 x) wr := by
  obtain ⟨zs, h1, h2⟩ := h.row
  rw [nats_snoc, List.append_assoc] at h1 h2
  exact ⟨v :: zs, h1, h2⟩
theorem At.down {B b n all x : Nat} {cs : List Nat} {wr : World} (h : At B b n all cs (.int .i64 x) wr) (hl : cs.length + 1 < all) : ∃ v, At B b n all (cs ++ [x]) v wr := by
  obtain ⟨zs, h1, h2⟩ := h.row
  cases zs with
  | nil => simp [nats_length] at h2; omega
  | cons v zs => exact ⟨v, ⟨zs, by rw [nats_snoc, List.append_assoc]; exact h1, by rw [nats_snoc, List.append_assoc]; exact h2⟩⟩
theorem At.cells {B b n all x : Nat} {cs : List Nat} {wr : World} (h : At B b n all cs (.int .i64 x) wr) : Cells wr (some ⟨b, 0, none⟩) (cs.length + 1) (fun i => .int .i64 ((casts (cs ++ [x])).getD i 0)) := fun i hi => by
  obtain ⟨zs, h1, h2⟩ := h.row
  refine ⟨b, 0, rfl, h1.lt, ?_⟩
  show _ = some (Value.int .i64 ((casts (cs ++ [x])).getD i 0))
  rw [Nat.zero_add, h1.cell, casts_get]
  have e : nats cs ++ Value.int .i64 x :: zs = nats (cs ++ [x]) ++ zs := by rw [nats_snoc, List.append_assoc]; rfl
  rw [e, List.getElem?_append_left (by rw [nats_length]; simp; omega)]
  unfold nats
  rw [List.getElem?_map, List.getD_eq_getElem?_getD, List.getElem?_eq_getElem (by simp; omega)]
  rfl
theorem At.all {B b n all x : Nat} {cs : List Nat} {wr : World} (h : At B b n all cs (.int .i64 x) wr) (hl : cs.length + 1 = all) : Row wr b 3 (nats (cs ++ [x])) := by
  obtain ⟨zs, h1, h2⟩ := h.row
  have : zs = [] := by
    cases zs with
    | nil => rfl
    | cons v zs => simp [nats_length] at h2; omega
  subst this
  rw [nats_snoc]; exact h1
theorem At.keep {B b n all : Nat} {cs : List Nat} {v : Value} {w w' : World} (h : At B b n all cs v w) (hb : Below w.heap.size w w') : At B b n all cs v w' := by
  obtain ⟨zs, h1, h2⟩ := h.row
  exact ⟨zs, h1.keep hb h1.lt, h2⟩
end Wg
end Go.Proofs.YthggpjpmjhaidaaDoor
