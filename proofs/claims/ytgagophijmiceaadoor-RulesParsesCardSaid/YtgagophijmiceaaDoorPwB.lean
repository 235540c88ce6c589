/- strings.Builder: WriteString, WriteByte; rows of other types stand as they stood. -/
import Derived.Test.YtgagophijmiceaaDoorBld
import Derived.Test.YtgagophijmiceaaDoorPwPl
import Derived.Test.YtgagophijmiceaaDoorPnE
import Derived.Lib.SmallJoins
import Derived.Lib.LaidTab
namespace Go.Proofs.YtgagophijmiceaaDoor
set_option linter.unusedSimpArgs false
set_option linter.unusedVariables false
open Go.RowKit
namespace Pw
open Tld Mem Bld Pn Bl

theorem own_stays {w w' : World} {B s : Nat} {e : TypeId} {v : Value} {n : Nat} {xs : List Value} (h : w.ownsRow B e s v n xs) (hb : Below w.heap.size w w') : w'.ownsRow B e s v n xs := by
  refine ⟨h.1, h.2.imp id ?_⟩
  rintro ⟨g, cap, cur, hv, hB, hg, h3⟩
  exact ⟨g, cap, cur, hv, hB, (hb.block g (Array.getElem?_eq_some_iff.1 hg).1).trans hg, h3⟩
/-- Rows of other types than bytes stand as they stood, a builder's own block aside. -/
def KeepsR (b : Nat) (w w' : World) : Prop := ∀ k T cs, k ≠ b → T ≠ 5 → Row w k T cs → Row w' k T cs
theorem KeepsR.refl (b : Nat) (w : World) : KeepsR b w w := fun _ _ _ _ _ h => h
theorem KeepsR.trans {b : Nat} {u v w : World} (h : KeepsR b u v) (k : KeepsR b v w) : KeepsR b u w := fun i T cs hi hT hr => k i T cs hi hT (h i T cs hi hT hr)
theorem keepsR_set (b j : Nat) (w : World) (v : Value) : KeepsR b w (w.setCell ⟨b, j, none⟩ v) := fun k T cs hk hT hr => hr.other (only_setCell w b j v) hk

theorem copyCheck2 (B b : Nat) (bs : List Value) (w : World) (h : Lib.IsBuilder 86 5 B b bs w) :
    Calls Tryd.prog 65 #[.pointer (some ⟨b, 0, none⟩)] w fun e w' => e = .returned (.tuple #[]) ∧ (Lib.BuilderAt 86 5 B b (.pointer (some ⟨b, 0, none⟩)) bs w' ∧ Below B w w' ∧ KeepsR b w w') := by
  rcases h with h | h
  · refine (copyCheck_fresh b w h.cell0 h.shape h.frozen0).mono ?_
    rintro e w' ⟨rfl, rfl⟩
    exact ⟨rfl, h.used _, (Below.refl B w).setCell (p := ⟨b, 0, none⟩) h.1 _, keepsR_set _ _ _ _⟩
  · refine (copyCheck_used b w h.cell0).mono ?_
    rintro e w' ⟨rfl, rfl⟩
    exact ⟨rfl, h, Below.refl B _, KeepsR.refl _ _⟩
theorem keepsR_grown {b B n : Nat} {w w' : World} {v : Value} {xs : List Value} (ho : w.ownsRow B 5 1 v n xs) (hg : w.grownBy w' v.ownBlock) : KeepsR b w w' := fun k T cs hk hT hr => by
  refine (hg.block k hr.lt (fun x => ?_)).trans hr
  rcases ho.2 with ⟨hv, _⟩ | ⟨g, cap, cur, hv, _, hgg, _⟩
  · rw [hv] at x; cases x
  · rw [hv] at x
    have e1 : k = g := Option.some.inj x
    subst e1
    unfold Row at hr
    rw [hr] at hgg
    cases hgg
    exact hT rfl
theorem keepsR_alloc (b : Nat) (w : World) (o : Obj) : KeepsR b w (w.alloc o) := fun k T cs hk hT hr => hr.keep ((Below.refl _ _).alloc (Nat.le_refl _) _) hr.lt

set_option maxHeartbeats 2000000 in
set_option maxRecDepth 100000 in
theorem ws0 (B b : Nat) (bs : List Value) (s : ByteArray) (w : World) (h : Lib.IsBuilder 86 5 B b bs w) (hlen : bs.length + s.size ≤ 140737488355328) (hBw : B ≤ w.heap.size) :
    Calls Tryd.prog 43 #[.pointer (some ⟨b, 0, none⟩), .string s] w fun e w' => e = .returned (.tuple #[.int .i64 s.size, .nilIface]) ∧ (Lib.BuilderAt 86 5 B b (.pointer (some ⟨b, 0, none⟩)) (bs ++ Lib.strCells s) w' ∧ Below B w w' ∧ KeepsR b w w') := by
  obtain ⟨i0, hi, hz0, hz1, hz2⟩ := info_parts info5
  go_enter Tryd.func43, Tryd.ntmps43
  go_wp2_with (go_at_call 65; refine (copyCheck2 B b bs _ h).mono ?_)
  rintro e w1 ⟨rfl, h1, hb1, hk1⟩
  obtain ⟨hB, v, hbk, hown, hne⟩ := h1
  have c0 : w1.cell? ⟨b, 0, none⟩ = some (.pointer (some ⟨b, 0, none⟩)) := by rw [Lib.cell_of_heap hbk]; rfl
  have c1 : w1.cell? ⟨b, 1, none⟩ = some v := by rw [Lib.cell_of_heap hbk]; rfl
  go_wp2_with (at_builtin; refine Lib.wpList_append_own_string _ rfl _ _ 84 9 rfl B 5 i0 Tryd.underlying84 Tryd.underlying9 hi hz0 hz1 hz2 _ _ _ rfl hown s rfl ?c3 ?c4 ?c5 ?_)
  case c3 => unfold maxLen; omega
  case c4 => omega
  case c5 => have := hb1.size; omega
  intro v' w2 hown' hgrow _
  have hlt : b < w1.heap.size := by
    rcases Nat.lt_or_ge b w1.heap.size with h' | h'
    · exact h'
    · simp [Array.getElem?_eq_none h'] at hbk
  have hb2 : w2.heap[b]? = some (.cells #[.pointer (some ⟨b, 0, none⟩), v] 86 (0, 0)) := by
    rw [hgrow.block b hlt (fun e => hne e.symm)]
    exact hbk
  have d0 : w2.cell? ⟨b, 0, none⟩ = some (.pointer (some ⟨b, 0, none⟩)) := by rw [Lib.cell_of_heap hb2]; rfl
  have d1 : w2.cell? ⟨b, 1, none⟩ = some v := by rw [Lib.cell_of_heap hb2]; rfl
  have f1 : w2.frozen? ⟨b, 1, none⟩ = false := Lib.frozen_of_heap hb2 1
  obtain ⟨ao, n', cap, rfl⟩ : ∃ ao n' cap, v' = .slice ao n' cap := by
    rcases hown'.2 with ⟨hv, _⟩ | ⟨g, cap, cur, hv, _⟩
    · exact ⟨_, _, _, hv⟩
    · exact ⟨_, _, _, hv⟩
  go_wp2
  go_ret2
  refine ⟨rfl, ?_, ?_, (hk1.trans (keepsR_grown hown hgrow)).trans (keepsR_set _ _ _ _)⟩
  · exact Lib.BuilderAt.put (T := 86) (e := 5) hB hb2 (bs' := bs ++ Lib.strCells s) (by simpa [Lib.strCells_length] using hown') (by decide)
  · exact (hb1.grown hgrow (by have := hb1.size; omega) (fun k hk => (hown.lt k hk).1)).setCell (p := ⟨b, 1, none⟩) hB _
theorem ws_any (B b : Nat) (l : List UInt8) (s : ByteArray) (w : World) (h : Is B b l w) (hlen : l.length + s.size ≤ 140737488355328) (hBw : B ≤ w.heap.size) :
    Calls Tryd.prog 43 #[.pointer (some ⟨b, 0, none⟩), .string s] w fun e w' => (∃ v, e = .returned v) ∧ Is B b (l ++ s.data.toList) w' ∧ Below B w w' ∧ KeepsR b w w' := by
  refine (ws0 B b (Lib.byteCells l) s w h (by rw [Lib.byteCells_length]; exact hlen) hBw).mono ?_
  rintro e w' ⟨rfl, h1, hb, hk⟩
  refine ⟨⟨_, rfl⟩, .inr ?_, hb, hk⟩
  have e : Lib.byteCells (l ++ s.data.toList) = Lib.byteCells l ++ Lib.strCells s := by
    simp [Lib.byteCells, Lib.strCells]
  rw [e]
  exact h1

set_option maxHeartbeats 2000000 in
set_option maxRecDepth 100000 in
theorem wb0 (B b : Nat) (bs : List Value) (c : Nat) (hc : c < 256) (w : World) (h : Lib.IsBuilder 86 5 B b bs w) (hlen : bs.length + 1 ≤ 140737488355328) (hBw : B ≤ w.heap.size) :
    Calls Tryd.prog 67 #[.pointer (some ⟨b, 0, none⟩), .int .u8 c] w fun e w' => e = .returned .nilIface ∧ (Lib.BuilderAt 86 5 B b (.pointer (some ⟨b, 0, none⟩)) (bs ++ [.int .u8 c]) w' ∧ Below B w w' ∧ KeepsR b w w') := by
  obtain ⟨i0, hi, hz0, hz1, hz2⟩ := info_parts info5
  go_enter Tryd.func67, Tryd.ntmps67
  go_wp2_with (go_at_call 65; refine (copyCheck2 B b bs _ h).mono ?_)
  rintro e w1 ⟨rfl, h1, hb1, hk1⟩
  obtain ⟨hB, v, hbk, hown, hne⟩ := h1
  have hlt : b < w1.heap.size := by
    rcases Nat.lt_or_ge b w1.heap.size with h' | h'
    · exact h'
    · simp [Array.getElem?_eq_none h'] at hbk
  have c0 : w1.cell? ⟨b, 0, none⟩ = some (.pointer (some ⟨b, 0, none⟩)) := by rw [Lib.cell_of_heap hbk]; rfl
  have c1 : w1.cell? ⟨b, 1, none⟩ = some v := by rw [Lib.cell_of_heap hbk]; rfl
  have hal : Below w1.heap.size w1 (w1.alloc (.cells #[.int .u8 c] 5)) := (Below.refl _ _).alloc (Nat.le_refl _) _
  have hown1 := own_stays hown hal
  have hrow := row_alloc w1 5 [.int .u8 c]
  have hsz : B ≤ (w1.alloc (.cells #[.int .u8 c] 5)).heap.size := by have := hb1.size; have := hal.size; omega
  have hbk1 : (w1.alloc (.cells #[.int .u8 c] 5)).heap[b]? = some (.cells #[.pointer (some ⟨b, 0, none⟩), v] 86 (0, 0)) := (hal.block b hlt).trans hbk
  go_wp2_with (at_builtin; refine Ops.wpList_append1 rfl _ _ 84 rfl B 5 i0 (.int .u8 0) 1 Tryd.underlying84 hi hz0 rfl hz1 hz2 _ _ _ rfl hown1 ⟨w1.heap.size, 0, none⟩ 1 (.int .u8 c) rfl (hrow.cell 0) rfl ?c3 ?c4 hsz ?_)
  case c3 => unfold maxLen; omega
  case c4 => omega
  intro ao cap w2 hown' hgrow
  have hlt1 : b < (w1.alloc (.cells #[.int .u8 c] 5)).heap.size := Nat.lt_of_lt_of_le hlt hal.size
  have hb2 : w2.heap[b]? = some (.cells #[.pointer (some ⟨b, 0, none⟩), v] 86 (0, 0)) := by
    rw [hgrow.block b hlt1 (fun e => hne e.symm)]
    exact hbk1
  have d0 : w2.cell? ⟨b, 0, none⟩ = some (.pointer (some ⟨b, 0, none⟩)) := by rw [Lib.cell_of_heap hb2]; rfl
  have d1 : w2.cell? ⟨b, 1, none⟩ = some v := by rw [Lib.cell_of_heap hb2]; rfl
  have f1 : w2.frozen? ⟨b, 1, none⟩ = false := Lib.frozen_of_heap hb2 1
  go_wp2
  go_ret
  refine ⟨rfl, ?_, ?_, ((hk1.trans (keepsR_alloc _ _ _)).trans (keepsR_grown hown1 hgrow)).trans (keepsR_set _ _ _ _)⟩
  · exact Lib.BuilderAt.put (T := 86) (e := 5) hB hb2 (bs' := bs ++ [.int .u8 c]) (by simpa using hown') (by decide)
  · exact ((hb1.alloc (by have := hb1.size; omega) _).grown hgrow hsz (fun k hk => (hown1.lt k hk).1)).setCell (p := ⟨b, 1, none⟩) hB _
theorem wb_any (B b : Nat) (l : List UInt8) (c : UInt8) (w : World) (h : Is B b l w) (hlen : l.length + 1 ≤ 140737488355328) (hBw : B ≤ w.heap.size) :
    Calls Tryd.prog 67 #[.pointer (some ⟨b, 0, none⟩), .int .u8 (c.toNat : Nat)] w fun e w' => e = .returned .nilIface ∧ Is B b (l ++ [c]) w' ∧ Below B w w' ∧ KeepsR b w w' := by
  refine (wb0 B b (Lib.byteCells l) c.toNat c.toNat_lt w h (by rw [Lib.byteCells_length]; exact hlen) hBw).mono ?_
  rintro e w' ⟨rfl, h1, hb, hk⟩
  refine ⟨rfl, .inr ?_, hb, hk⟩
  have e : Lib.byteCells (l ++ [c]) = Lib.byteCells l ++ [.int .u8 (c.toNat : Nat)] := by
    simp [Lib.byteCells]
  rw [e]
  exact h1
theorem keepsR_below {b : Nat} {w w' : World} (h : Below w.heap.size w w') : KeepsR b w w' := fun k T cs hk hT hr => hr.keep h hr.lt

/-- A loop's measure, by the number that the counter comes to. -/
theorem meas {H a b : Nat} {x : Int} (e : x = (b : Int)) (h : H - b < H - a) : H - (RowKit.intOf (.int .i64 x)).toNat < H - (RowKit.intOf (.int .i64 (a : Int))).toNat := by
  subst e
  exact h
/-- The table that strconv reads. -/
def Tab (w : World) : Prop := Lib.TabIs Tryd.prog w "internal/strconv.uint64pow10" .u64 Lib.pow10Tab
theorem Tab.keep {w w' : World} (h : Tab w) (hb : Below w.heap.size w w') : Tab w' := Joins.tab_stays (g := 4) (by kernel_rfl) h hb (Nat.le_refl _)
theorem grow_below (w : World) (k : Nat) (os : Array Obj) : Below w.heap.size w (Go.Sort.grow (w.drewN k) os) := by
  refine ⟨rfl, rfl, rfl, ?_, fun g h => ?_⟩
  · show w.heap.size ≤ (w.heap ++ os).size
    simp
  · show (w.heap ++ os)[g]? = w.heap[g]?
    exact Array.getElem?_append_left h
theorem itoa_any (n : Nat) (hn : n ≤ 1000000) (w : World) (ht : Tab w) : Calls Tryd.prog 44 #[.int .i64 n] w fun e w' => e = .returned (.string ⟨(Lib.decDigits n).toArray⟩) ∧ Below w.heap.size w w' := by
  refine (Tryd.strconv_Itoa n (by omega) (by omega) w ht).mono ?_
  rintro e w' ⟨rfl, k, os, rfl⟩
  refine ⟨?_, grow_below _ _ _⟩
  unfold Lib.itoa
  rw [if_neg (by omega), Int.toNat_natCast]

set_option maxHeartbeats 4000000 in
set_option maxRecDepth 1000000 in
theorem item_any (B b n : Nat) (t : UInt8) (l : List UInt8) (w : World) (hn : n ≤ 999) (ht : Tab w) (h : Is B b l w) (hlen : l.length ≤ 1000000) (hBw : B ≤ w.heap.size) (hB : b < w.heap.size) :
    Calls Tryd.prog 45 #[.pointer (some ⟨b, 0, none⟩), .int .i64 n, .int .u8 (t.toNat : Nat)] w fun e w' => e = .returned (.tuple #[]) ∧ Is B b (l ++ item n t) w' ∧ Below B w w' ∧ KeepsR b w w' := by
  have HIT : Hid (item n t = if n = 0 then [] else if n = 1 then [t] else Lib.decDigits n ++ [t]) := Lib.hid rfl
  have HI := Lib.hid h
  have HLN := Lib.hid hlen
  have HBW := Lib.hid hBw
  have HCI := Lib.hid (itoa_any n (by omega) w ht)
  clear h ht hlen hBw
  by_cases h0 : n = 0
  · subst h0
    go_enter Tryd.func45, Tryd.ntmps45
    go_wp2_with fail
    go_end0
    rw [show item 0 t = [] from rfl, List.append_nil]
    exact ⟨rfl, HI.out, Below.refl _ _, KeepsR.refl _ _⟩
  · by_cases h1 : n = 1
    · subst h1
      have HWB := Lib.hid (wb_any B b l t w HI.out (by have := HLN.out; omega) HBW.out)
      go_enter Tryd.func45, Tryd.ntmps45
      go_wp2_with fail
      refine HWB.out.mono ?_
      rintro e1 w1 ⟨rfl, hi1, hb1, hk1⟩
      have HI1 := Lib.hid hi1
      have HB1 := Lib.hid hb1
      have HK1 := Lib.hid hk1
      clear hi1 hb1 hk1 HWB
      go_wp2_with fail
      go_end0
      rw [show item 1 t = [t] from rfl]
      exact ⟨rfl, HI1.out, HB1.out, HK1.out⟩
    · have g1 : (1 : Int) < (n : Int) := by omega
      have g0 : (0 : Int) < (n : Int) := by omega
      have HN := Lib.hid h1
      have HN0 := Lib.hid h0
      have hdl := dec_len hn
      have HDL := Lib.hid hdl
      have HSZ : Hid (l.length + (ByteArray.mk (Lib.decDigits n).toArray).size ≤ 140737488355328) := Lib.hid (by rw [show (ByteArray.mk (Lib.decDigits n).toArray).size = (Lib.decDigits n).length from by simp [ByteArray.size]]; have := HLN.out; omega)
      clear hdl h0 h1
      go_enter Tryd.func45, Tryd.ntmps45
      go_wp2_with fail
      refine HCI.out.mono ?_
      rintro e1 w1 ⟨rfl, hb1⟩
      have HWS := Lib.hid (ws_any B b l ⟨(Lib.decDigits n).toArray⟩ w1 (HI.out.keep hb1) HSZ.out (Nat.le_trans HBW.out hb1.size))
      have HB1 := Lib.hid (hb1.mono HBW.out)
      have HK1 := Lib.hid (keepsR_below (b := b) hb1)
      clear hb1
      go_wp2_with fail
      refine HWS.out.mono ?_
      rintro e2 w2 ⟨⟨v2, rfl⟩, hi2, hb2, hk2⟩
      have HB2 := Lib.hid (HB1.out.trans hb2)
      have HK2 := Lib.hid (HK1.out.trans hk2)
      have HWB := Lib.hid (wb_any B b (l ++ Lib.decDigits n) t w2 hi2 (by have := HLN.out; have := HDL.out; rw [List.length_append]; omega) (Nat.le_trans HBW.out HB2.out.size))
      clear hb2 hk2 hi2 HWS
      go_wp2_with fail
      refine HWB.out.mono ?_
      rintro e3 w3 ⟨rfl, hi3, hb3, hk3⟩
      have HI3 := Lib.hid hi3
      have HB3 := Lib.hid (HB2.out.trans hb3)
      have HK3 := Lib.hid (HK2.out.trans hk3)
      clear hi3 hb3 hk3 HWB
      go_wp2_with fail
      go_end0
      rw [HIT.out, if_neg HN0.out, if_neg HN.out, ← List.append_assoc]
      exact ⟨rfl, HI3.out, HB3.out, HK3.out⟩
end Pw
end Go.Proofs.YtgagophijmiceaaDoor
