/- WALK: plane.becomes. -/
import Derived.Test.YthipeeagpllfeaaDoorBlCk
import Derived.Test.YthipeeagpllfeaaDoorBlS
import Derived.Test.YthipeeagpllfeaaDoorPnG
namespace Go.Proofs.YthipeeagpllfeaaDoor
set_option linter.unusedSimpArgs false
set_option linter.unusedVariables false
open Go.RowKit
namespace Pn
open Tld Mem Bl

/-- A rule's seven cells. -/
def rulP (K B S st ra : Int) (ta : Option Addr) (tn tc : Nat) (tu : ByteArray) : List Value := [.int .i64 K, .int .i64 B, .int .i64 S, .int .i64 st, .int .i64 ra, .slice ta tn tc, .string tu]
theorem bit9_fin : ∀ i : Fin 10, ∀ v : Fin 512, bits .and .i64 ((v.val : Int) / 2 ^ i.val) 1 = ((bitN v.val i.val : Nat) : Int) := by decide +kernel
theorem bit9_of {v i : Nat} (hi : i < 10) (hv : v < 512) : bits .and .i64 ((v : Int) / 2 ^ i) 1 = ((bitN v i : Nat) : Int) := bit9_fin ⟨i, hi⟩ ⟨v, hv⟩

set_option maxRecDepth 100000 in
theorem becomes_any (K st ra : Int) (B S : Nat) (ta : Option Addr) (tn tc : Nat) (tu : ByteArray) (c n : Nat) (w : World) (hB : B < 512) (hS : S < 512) (hn : n < 10) (hc : c < 2) :
    Calls Tryd.prog 33 #[.agg #[.int .i64 K, .int .i64 B, .int .i64 S, .int .i64 st, .int .i64 ra, .slice ta tn tc, .string tu], .int .i64 c, .int .i64 n] w fun e w' => e = .returned (.int .i64 (bec B S c n : Nat)) ∧ Below w.heap.size w w' := by
  have h1 := bit9_of hn hB
  have h2 := bit9_of hn hS
  have HBC : Hid (∀ c, bec B S c n = bitN (if c = 1 then S else B) n) := Lib.hid fun c => rfl
  go_enter Tryd.func33, Tryd.ntmps33
  go_upto_region 1 with fail
  have HR0 : Row (w.alloc (.cells #[.int .i64 K, .int .i64 B, .int .i64 S, .int .i64 st, .int .i64 ra, .slice ta tn tc, .string tu] 24)) w.heap.size 24 (rulP K B S st ra ta tn tc tu) := row_alloc w _ _
  have HB0 : Below w.heap.size w (w.alloc (.cells #[.int .i64 K, .int .i64 B, .int .i64 S, .int .i64 st, .int .i64 ra, .slice ta tn tc, .string tu] 24)) := (Below.refl _ _).alloc (Nat.le_refl _) _
  generalize w.alloc (.cells #[.int .i64 K, .int .i64 B, .int .i64 S, .int .i64 st, .int .i64 ra, .slice ta tn tc, .string tu] 24) = w1 at *
  have f1 := HR0.cell 1
  have f2 := HR0.cell 2
  unfold rulP at f1 f2
  dsimp only [List.getElem?_cons_succ, List.getElem?_cons_zero] at f1 f2
  have HB := Lib.hid HB0
  clear HR0 HB0
  by_cases hc1 : c = 1
  · subst hc1
    go_wp2_with fail
    go_ret
    refine ⟨?_, HB.out⟩
    rw [HBC.out, if_pos rfl]
    first | rfl | (rw [h2]) | (simp [h2])
  · obtain rfl : c = 0 := by omega
    go_wp2_with fail
    go_ret
    refine ⟨?_, HB.out⟩
    rw [HBC.out, if_neg (by decide)]
    first | rfl | (rw [h1]) | (simp [h1])
end Pn
end Go.Proofs.YthipeeagpllfeaaDoor
