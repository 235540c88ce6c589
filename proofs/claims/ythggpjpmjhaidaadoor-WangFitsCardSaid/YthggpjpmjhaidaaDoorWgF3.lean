/- WALK: wang.Fill. -/
import Derived.Test.YthggpjpmjhaidaaDoorWgF2
namespace Go.Proofs.YthggpjpmjhaidaaDoor
set_option linter.unusedSimpArgs false
set_option linter.unusedVariables false
open Go.RowKit Go.Lib
namespace Wg
open Tld Mem

/-- What Fill hands back. -/
def FillR (B : Nat) (o : Option (List Nat)) (e : Ending) (w : World) : Prop :=
  match o with
  | none => e = .returned (.tuple #[.slice none 0 0, .iface 68 (.int .i64 5)])
  | some l => ∃ g c, e = .returned (.tuple #[.slice (some ⟨g, 0, none⟩) l.length c, .nilIface]) ∧ w.ownsRow B 3 1 (.slice (some ⟨g, 0, none⟩) l.length c) l.length (nats l)
theorem fillR_none {B : Nat} {o : Option (List Nat)} {w : World} (h : o = none) : FillR B o (.returned (.tuple #[.slice none 0 0, .iface 68 (.int .i64 5)])) w := by subst h; rfl
theorem fillR_some {B g c : Nat} {o : Option (List Nat)} {l : List Nat} {w : World} (h : o = some l) (ho : w.ownsRow B 3 1 (.slice (some ⟨g, 0, none⟩) l.length c) l.length (nats l)) : FillR B o (.returned (.tuple #[.slice (some ⟨g, 0, none⟩) l.length c, .nilIface])) w := by subst h; exact ⟨g, c, rfl, ho⟩
set_option maxHeartbeats 2000000 in
set_option maxRecDepth 100000 in
theorem Fill_bad (a : Option Addr) (n c : Nat) (ts : List Tl) (W H : Int) (ring : Bool) (w : World) (hT : Tiles w a n ts) (f : Int) (hf : f = zfault ts [W, H]) (hz : f ≠ 0) :
    Calls Tryd.prog 28 #[.slice a n c, .int .i64 W, .int .i64 H, .bool ring] w fun e w' => e = .returned (.tuple #[.slice none 0 0, .iface 68 (.int .i64 f)]) ∧ Below w.heap.size w w' := by
  have HCK := check_two a n c ts W H
  rw [← hf, errV_some hz] at HCK
  have HCK := Lib.hid HCK
  have HT := Lib.hid hT
  clear hT hz hf
  go_enter Tryd.func28, Tryd.ntmps28
  go_wp2_with fail
  have hB0 : Below w.heap.size w (w.alloc (.cells #[.int .i64 W, .int .i64 H] 3)) := (Below.refl _ _).alloc (Nat.le_refl _) _
  have hR0 := row_alloc w 3 [.int .i64 W, .int .i64 H]
  refine (HCK.out _ (HT.out.keep hB0) _ _ hR0).mono ?_
  rintro e1 w1 ⟨rfl, hb1⟩
  have hb1 := hB0.trans (hb1.mono hB0.size)
  have HB1 := Lib.hid hb1
  clear hB0 hR0 hb1
  go_wp2_with fail
  go_ret2
  exact ⟨rfl, HB1.out⟩

set_option maxHeartbeats 2000000 in
set_option maxRecDepth 100000 in
theorem Fill_ok (a : Option Addr) (n c : Nat) (ts : List Tl) (W H : Nat) (ring : Bool) (w : World) (hT : Tiles w a n ts) (hz : zfault ts [(W : Int), (H : Int)] = 0) :
    Calls Tryd.prog 28 #[.slice a n c, .int .i64 W, .int .i64 H, .bool ring] w fun e w' => FillR w.heap.size (fillS (fun i => ts.getD i noTile) n W H ring) e w' ∧ Below w.heap.size w w' := by
  obtain ⟨ht0, ⟨hW1, hW5⟩, hH1, hH5⟩ := zfault_two hz
  obtain ⟨hn1, hn16, hts⟩ := tfault_zero ht0
  rw [hT.len] at hn1 hn16
  obtain ⟨bt, ot, rfl, hbt⟩ := hT.some (by omega)
  have HCK := Lib.hid (check_two (some ⟨bt, ot, none⟩) n c ts W H)
  have HT := Lib.hid hT
  have HZ := Lib.hid hz
  have HTS := Lib.hid hts
  have hq1 : ∀ (w : World) (a : Option Addr) (l c : Nat), (binOp .eql 24 (.slice a l c) (.slice none 0 0)).run Tryd.prog w = .ok (.bool a.isNone) w := fun w a l c => Lib.run_eql_slice_nil w _ _ a l c 0 0 Tryd.underlying24
  clear hT hz hts ht0
  go_enter Tryd.func28, Tryd.ntmps28
  go_wp2_with fail
  have hB0 : Below w.heap.size w (w.alloc (.cells #[.int .i64 (W : Int), .int .i64 (H : Int)] 3)) := (Below.refl _ _).alloc (Nat.le_refl _) _
  have hR0 := row_alloc w 3 [.int .i64 (W : Int), .int .i64 (H : Int)]
  refine (HCK.out _ (HT.out.keep hB0) _ _ hR0).mono ?_
  rintro e1 w1 ⟨rfl, hb1⟩
  have hb1 := hB0.trans (hb1.mono hB0.size)
  have HB1 := Lib.hid hb1
  have hT1 := HT.out.keep hb1
  have hF := Lib.hid (fill_any bt ot n c W H ring ts w1 hT1 hn1 hn16 (by omega) (by omega) (by omega) (by omega) HTS.out)
  have hs1 := hb1.size
  clear hB0 hR0 hb1 hT1
  rw [errV_zero HZ.out]
  go_wp2_with fail
  refine hF.out.mono ?_
  rintro e2 w2 ⟨hd, hb2⟩
  have HB2 := Lib.hid (HB1.out.trans (hb2.mono hs1))
  clear hF hb2
  cases hf : fillS (fun i => ts.getD i noTile) n W H ring with
  | none =>
    rw [hf] at hd
    unfold Filled at hd
    subst hd
    have HFN := Lib.hid hf
    clear hf
    go_wp2_with fail
    go_ret2
    exact ⟨fillR_none HFN.out, HB2.out⟩
  | some l =>
    rw [hf] at hd
    obtain ⟨g, cc, rfl, hown⟩ := hd
    have HFN := Lib.hid hf
    have HOW := Lib.hid (own_base hown hs1)
    clear hf hown
    go_wp2_with fail
    go_ret2
    exact ⟨fillR_some HFN.out HOW.out, HB2.out⟩
end Wg
end Go.Proofs.YthggpjpmjhaidaaDoor
