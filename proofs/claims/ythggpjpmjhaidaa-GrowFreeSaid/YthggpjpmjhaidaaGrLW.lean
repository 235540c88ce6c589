/- WALK: grow.Letter. -/
import Derived.Test.YthggpjpmjhaidaaGrC
import Derived.Test.YthggpjpmjhaidaaGrL
import Derived.Maps.RangeWalk
namespace Go.Proofs.Ythggpjpmjhaidaa
open Go.RowKit
namespace Gr
open Tld Mem

theorem letter_bad (a : Option Addr) (n c : Nat) (ss : List ByteArray) (word : ByteArray) (k at_ : Int) (w : World) (hS : Sys w a n ss) (hw : word.size ≤ maxLen) (h : fault ss word k ≠ 0) :
    Calls Try.prog 19 #[.slice a n c, .string word, .int .i64 k, .int .i64 at_] w fun e w' => e = .returned (.tuple #[.string ⟨#[]⟩, .iface 57 (.int .i64 (fault ss word k))]) ∧ Below w.heap.size w w' := by
  go_enter Try.func19, Try.ntmps19
  go_wp2_with (go_at_call 18; refine (count_bad a n c ss word k _ hS hw h).mono ?_; rintro e1 w1 ⟨rfl, hb1⟩)
  go_ret2
  exact ⟨rfl, hb1⟩

theorem letter_full (a : Option Addr) (n c : Nat) (ss : List ByteArray) (word : ByteArray) (k : Nat) (at_ : Int) (w : World) (hS : Sys w a n ss) (hw : word.size ≤ maxLen) (h : fault ss word k = 0) (hc : countTo ss k (cnt word.data.toList) = none) :
    Calls Try.prog 19 #[.slice a n c, .string word, .int .i64 k, .int .i64 at_] w fun e w' => e = .returned (.tuple #[.string ⟨#[]⟩, .iface 57 (.int .i64 4)]) ∧ Below w.heap.size w w' := by
  have HC := Lib.hid (count_ok a n c ss word k w hS hw h)
  rw [hc] at HC
  clear h hc
  go_enter Try.func19, Try.ntmps19
  go_wp2_with fail
  refine HC.out.mono ?_
  rintro e1 w1 ⟨⟨v, rfl, hv⟩, hb1⟩
  obtain rfl : v = _ := hv
  go_wp2
  go_ret2
  exact ⟨rfl, hb1⟩

set_option maxHeartbeats 2000000 in
set_option maxRecDepth 100000 in
theorem letter_range (a : Option Addr) (n c : Nat) (ss : List ByteArray) (word : ByteArray) (k : Nat) (at_ : Int) (g : Nat → Nat) (w : World) (hS : Sys w a n ss) (hw : word.size ≤ maxLen) (h : fault ss word k = 0) (hc : countTo ss k (cnt word.data.toList) = some g) (hsum : sumTo g n ≤ most) (hat : at_ < 0 ∨ (sumTo g n : Nat) ≤ at_) :
    Calls Try.prog 19 #[.slice a n c, .string word, .int .i64 k, .int .i64 at_] w fun e w' => e = .returned (.tuple #[.string ⟨#[]⟩, .iface 57 (.int .i64 1)]) ∧ Below w.heap.size w w' := by
  have HC := Lib.hid (count_ok a n c ss word k w hS hw h)
  have hn8 := images_le (fault_zero h).1
  rw [hS.len] at hn8
  obtain ⟨hn1, hn2⟩ := hn8
  rw [hc] at HC
  unfold most at hsum
  have HM := Lib.hid (fun i (hi : i ≤ n) => sumTo_mono g hi)
  have HA := Lib.hid hat
  clear h hc hat
  go_enter Try.func19, Try.ntmps19
  go_wp2_with fail
  refine HC.out.mono ?_
  rintro e1 w1 ⟨⟨v, rfl, hv⟩, hb1⟩
  obtain ⟨q, hq, rfl, hR⟩ := hv
  have HR := Lib.hid hR
  clear hR
  go_wp2
  go_loop [12, 39] (fun x v => ∃ i : Nat, i ≤ n ∧ v = .int .i64 i ∧ x = .int .i64 (sumTo g i : Nat)) (fun _ v => n - (intOf v).toNat)
  case atStart => exact ⟨0, Nat.zero_le _, rfl, rfl⟩
  case round =>
    obtain ⟨i, hi, rfl, rfl⟩ := hrel
    by_cases hlt : i < n
    · have hci : w1.cell? ⟨q, i, none⟩ = some (.int .i64 (g i : Nat)) := (HR.out.cell _).trans (arr_get _ (by omega))
      have h1 := HM.out (i + 1) hlt
      have h2 : ((sumTo g (i + 1) : Nat) : Int) = (sumTo g i : Nat) + (g i : Nat) := by simp [sumTo]
      have H2 := Lib.hid h2
      have h3 : ((sumTo g i : Nat) : Int) + (g i : Nat) ≤ 1000000000000000000 := by omega
      clear h2 h1
      go_wp2
      go_round
      case rel => exact ⟨i + 1, by omega, by go_num, by rw [H2.out]⟩
      case measure => simp [intOf]; omega
    · have : i = n := by omega
      subst this
      rcases HA.out with hat | hat
      all_goals
        go_wp2
        go_ret2
        exact ⟨rfl, hb1⟩

/-- The table of lengths: its rows, and the row of rows. -/
def rowV (n q : Nat) : Value := .slice (some ⟨q, 0, none⟩) n n
structure Tbl (w : World) (ss : List ByteArray) (n B g co : Nat) (qs : List Nat) : Prop where
  own : w.ownsRow B 27 1 (.slice (some ⟨g, 0, none⟩) qs.length co) qs.length (qs.map (rowV n))
  rows : ∀ i q, qs[i]? = some q → Row w q 3 (arrN n (tab ss i)) ∧ B ≤ q
theorem Tbl.keep {w w' : World} {ss : List ByteArray} {n B g co : Nat} {qs : List Nat} (h : Tbl w ss n B g co qs) (hb : Below w.heap.size w w') : Tbl w' ss n B g co qs :=
  ⟨own_keep h.own hb, fun i q hq => ⟨(h.rows i q hq).1.keep hb (h.rows i q hq).1.lt, (h.rows i q hq).2⟩⟩
theorem Tbl.other {w w' : World} {ss : List ByteArray} {n B g co p : Nat} {qs : List Nat} {cs : List Value} (h : Tbl w ss n B g co qs) (ho : Only p w w') (hR : Row w p 3 cs) (hp : p ∉ qs) : Tbl w' ss n B g co qs :=
  ⟨own_only h.own ho (own_ne h.own hR (by decide)), fun i q hq => ⟨(h.rows i q hq).1.other ho (fun e => hp (e ▸ List.mem_of_getElem? hq)), (h.rows i q hq).2⟩⟩
theorem Tbl.iter {w w' : World} {ss : List ByteArray} {n B g co b y : Nat} {s : ByteArray} {qs : List Nat} (h : Tbl w ss n B g co qs) (hit : w.heap[b]? = some (.stringIter s y)) (ho : Only b w w') : Tbl w' ss n B g co qs := by
  refine ⟨own_only h.own ho fun hb => ?_, fun i q hq => ⟨(h.rows i q hq).1.other ho fun e => ?_, (h.rows i q hq).2⟩⟩
  · simp only [Value.ownBlock, Option.some.injEq] at hb
    rcases h.own.2 with ⟨hv, _⟩ | ⟨g2, cap, cur, hv, _, hg, _⟩
    · cases hv
    · cases hv
      rw [hb, hit] at hg
      cases hg
  · have := (h.rows i q hq).1
    unfold Row at this
    rw [e, hit] at this
    cases this
theorem Tbl.cell {w : World} {ss : List ByteArray} {n B g co : Nat} {qs : List Nat} (h : Tbl w ss n B g co qs) {i : Nat} (hi : i < qs.length) : w.cell? ⟨g, i, none⟩ = some (.slice (some ⟨qs.getD i 0, 0, none⟩) n n) :=
  own_cell h.own (by rw [List.getElem?_map, List.getElem?_eq_getElem hi, List.getD_eq_getElem?_getD, List.getElem?_eq_getElem hi]; rfl)
theorem Tbl.row {w : World} {ss : List ByteArray} {n B g co : Nat} {qs : List Nat} (h : Tbl w ss n B g co qs) {i : Nat} (hi : i < qs.length) : Row w (qs.getD i 0) 3 (arrN n (tab ss i)) :=
  (h.rows i _ (by rw [List.getD_eq_getElem?_getD, List.getElem?_eq_getElem hi]; rfl)).1
theorem Tbl.lt {w : World} {ss : List ByteArray} {n B g co : Nat} {qs : List Nat} (h : Tbl w ss n B g co qs) : ∀ q ∈ qs, q < w.heap.size := fun q hq => by
  obtain ⟨i, hi⟩ := List.getElem?_of_mem hq
  exact (h.rows i q hi).1.lt

theorem infoIntL : (Try.prog.info? 3).map (fun i => (i.zero, i.size, i.bytes)) = some (some (.int .i64 0), 1, 8) := by kernel_rfl
theorem infoInts : (Try.prog.info? 27).map (fun i => (i.zero, i.size, i.bytes)) = some (some (.slice none 0 0), 1, 24) := by kernel_rfl

/-- Numbers of a row that is being filled: up to i by f, at i x, behind it 0. -/
def fillN (f : Nat → Nat) (i x : Nat) (j : Nat) : Nat := if j < i then f j else if j = i then x else 0
theorem fillN_zero (f : Nat → Nat) : (fun _ => 0) = fillN f 0 0 := by funext j; simp [fillN]
theorem fillN_next (f : Nat → Nat) (i : Nat) : fillN f i (f i) = fillN f (i + 1) 0 := by
  funext j
  unfold fillN
  by_cases h : j < i
  · rw [if_pos h, if_pos (by omega)]
  · by_cases e : j = i
    · subst e; simp
    · rw [if_neg h, if_neg e, if_neg (by omega)]; simp
theorem fillN_at (f : Nat → Nat) (i x : Nat) : fillN f i x i = x := by simp [fillN]
theorem fillN_set {n : Nat} (f : Nat → Nat) {i : Nat} (x y : Nat) (hi : i < n) : (arrN n (fillN f i x)).set i (.int .i64 (y : Nat)) = arrN n (fillN f i y) := by
  have := arrN_set (n := n) (fillN f i x) (fillN f i y) hi (fun j hj => by unfold fillN; simp [hj])
  rw [fillN_at] at this
  exact this
theorem arrN_congr {n : Nat} {f g : Nat → Nat} (h : ∀ i, i < n → f i = g i) : arrN n f = arrN n g := by
  unfold arrN
  apply List.map_congr_left
  intro i hi
  rw [h i (List.mem_range.1 hi)]
theorem fillN_end {n : Nat} (f : Nat → Nat) : arrN n (fillN f n 0) = arrN n f := arrN_congr fun i hi => by unfold fillN; rw [if_pos hi]
theorem extract_one (s : ByteArray) (j : Nat) (h : j < s.size) : s.extract j (j + 1) = ⟨#[s.data.toList.getD j 0]⟩ := by
  rw [Lib.extract_eq]
  have hj : j < s.data.toList.length := by rw [← Lib.size_eq]; exact h
  rw [List.drop_eq_getElem_cons hj, List.getD_eq_getElem?_getD, List.getElem?_eq_getElem hj]
  simp

theorem min_cap (a b : Nat) : (if (2000000000000000000 : Int) < (a : Int) + (b : Int) then (2000000000000000000 : Int) else (a : Int) + (b : Int)) = ((min (a + b) cap : Nat) : Int) := by
  unfold cap
  split <;> omega

set_option maxHeartbeats 16000000 in
set_option maxRecDepth 100000 in
theorem letter_ok (a : Option Addr) (n c : Nat) (ss : List ByteArray) (word : ByteArray) (k at_ : Nat) (g : Nat → Nat) (x : UInt8) (w : World) (hS : Sys w a n ss) (hw : word.size ≤ maxLen) (h : fault ss word k = 0) (hc : countTo ss k (cnt word.data.toList) = some g) (hsum : sumTo g n ≤ most) (hlt : at_ < sumTo g n) (hx : At ss k word.data.toList at_ x) :
    Calls Try.prog 19 #[.slice a n c, .string word, .int .i64 k, .int .i64 at_] w fun e w' => e = .returned (.tuple #[.string ⟨#[x]⟩, .nilIface]) ∧ Below w.heap.size w w' := by
  have HC := Lib.hid (count_ok a n c ss word k w hS hw h)
  obtain ⟨h0, h1, h2, _, h4⟩ := fault_zero h
  have hk : k ≤ 60 := by omega
  obtain ⟨i0, hI0, hz0, hz1, hz2⟩ := info_parts infoIntL
  obtain ⟨i1, hI1, hy0, hy1, hy2⟩ := info_parts infoInts
  have hn8 := images_le h0
  have HN := Lib.hid hS.len
  rw [hS.len] at hn8
  obtain ⟨hn1, hn2⟩ := hn8
  have H0 := Lib.hid h0
  have H2 := Lib.hid h2
  rw [hc] at HC
  unfold most at hsum
  have HM := Lib.hid (fun i (hi : i ≤ n) => sumTo_mono g hi)
  have HX := Lib.hid hx
  clear h hc hx h0 h2
  go_enter Try.func19, Try.ntmps19
  go_wp2_with fail
  refine HC.out.mono ?_
  rintro e1 w1 ⟨⟨v, rfl, hv⟩, hb1⟩
  obtain ⟨q, hq, rfl, hR⟩ := hv
  have HR := Lib.hid hR
  clear hR HC
  go_wp2
  go_loop [12, 39] (fun x v => ∃ i : Nat, i ≤ n ∧ v = .int .i64 i ∧ x = .int .i64 (sumTo g i : Nat)) (fun _ v => n - (intOf v).toNat)
  case atStart => exact ⟨0, Nat.zero_le _, rfl, rfl⟩
  case round =>
    obtain ⟨i, hin, rfl, rfl⟩ := hrel
    by_cases hlti : i < n
    · have hci : w1.cell? ⟨q, i, none⟩ = some (.int .i64 (g i : Nat)) := (HR.out.cell _).trans (arr_get _ (by omega))
      have h1 := HM.out (i + 1) hlti
      have h2 : ((sumTo g (i + 1) : Nat) : Int) = (sumTo g i : Nat) + (g i : Nat) := by simp [sumTo]
      have H2 := Lib.hid h2
      have h3 : ((sumTo g i : Nat) : Int) + (g i : Nat) ≤ 1000000000000000000 := by omega
      clear h2 h1
      go_wp2
      go_round
      case rel => exact ⟨i + 1, by omega, by go_num, by rw [H2.out]⟩
      case measure => simp [intOf]; omega
    · have : i = n := by omega
      subst this
      clear HR HM
      go_wp2_with (refine Ops.wpList_make rfl 27 _ _ rfl 3 i0 (.int .i64 0) Try.underlying27 hI0 hz0 rfl hz1 (by omega) i rfl rfl (by omega) ?_; intro q0 w2 hq0 hb2 hR2)
      rw [arrN_zero] at hR2
      have hb2' := hb1.trans (hb2.mono hb1.size)
      have hBq0 : w.heap.size ≤ q0 := by have := hb1.size; omega
      have hBr : w.heap.size ≤ w2.heap.size := hb2'.size
      have hO3 := own_made (B := w.heap.size) (row_alloc w2 27 [rowV i q0]) hBr (by simp [maxLen])
      have hb3 := hb2'.alloc hBr (.cells [rowV i q0].toArray 27)
      have hR3 := hR2.keep (w' := w2.alloc (.cells [rowV i q0].toArray 27)) ((Below.refl w2.heap.size w2).alloc (Nat.le_refl _) _) hR2.lt
      have HO3 := Lib.hid hO3
      have HR3 := Lib.hid hR3
      have HB3 := Lib.hid hb3
      clear hq0 hb2 hR2 hb2' hO3 hb3 hR3 hBr
      go_loopw [62] (fun v w4 => ∃ j : Nat, j ≤ i ∧ v = .int .i64 j ∧ w4.ownsRow w.heap.size 27 1 (.slice (some ⟨w2.heap.size, 0, none⟩) 1 1) 1 [rowV i q0] ∧ Row w4 q0 3 (arrN i (fillN (tab ss 0) j 0)) ∧ Below w.heap.size w w4) (fun v _ => i - (intOf v).toNat)
      case atStart => exact ⟨0, Nat.zero_le _, rfl, HO3.out, by rw [← fillN_zero]; exact HR3.out, HB3.out⟩
      case round =>
        clear HO3 HR3 HB3
        obtain ⟨j, hj, rfl, hO, hRj, hbel⟩ := hrel
        have HO := Lib.hid hO
        have HRj := Lib.hid hRj
        clear hO hRj
        generalize w2.heap.size = r at *
        have hcr : wr.cell? ⟨r, 0, none⟩ = some (.slice (some ⟨q0, 0, none⟩) i i) := own_cell HO.out rfl
        by_cases hji : j < i
        · have hfs := fillN_set (n := i) (tab ss 0) 0 1 hji
          have hfn := fillN_next (tab ss 0) j
          rw [tab_zero] at hfn
          rw [hfn] at hfs
          have hcj : wr.cell? ⟨q0, j, none⟩ = some (.int .i64 0) := by
            have := (HRj.out.cell j).trans (arrN_get _ hji)
            rw [fillN_at] at this
            exact this
          have hfz : wr.frozen? ⟨q0, j, none⟩ = false := HRj.out.frozen j
          have hRS := HRj.out.set j (.int .i64 1)
          have hRS' : Row (wr.setCell ⟨q0, j, none⟩ (.int .i64 1)) q0 3 (arrN i (fillN (tab ss 0) (j + 1) 0)) := by rw [← hfs]; exact hRS
          have HRS := Lib.hid hRS'
          have HON := Lib.hid (only_setCell wr q0 j (.int .i64 1))
          have HO5 := Lib.hid (own_only HO.out HON.out (own_ne HO.out HRj.out (by decide)))
          clear hfs hfn hRS hRS'
          go_wp2
          go_roundw
          case rel => exact ⟨j + 1, by omega, by go_num, HO5.out, HRS.out, hbel.trans (HON.out.below hBq0)⟩
          case measure => simp [intOf]; omega
        · have : j = i := by omega
          subst this
          clear hcr
          have hT : Tbl wr ss j w.heap.size r 1 [q0] := ⟨HO.out, fun i q hq => by
            match i, hq with
            | 0, hq =>
              simp at hq; subst hq
              refine ⟨?_, hBq0⟩
              have := HRj.out
              rw [fillN_end] at this
              exact this
            | i + 1, hq => simp at hq⟩
          have HT := Lib.hid hT
          clear hT HO HRj
          go_wp2
          obtain ⟨w3, rfl⟩ : ∃ w3 : World, w3 = wr := ⟨_, rfl⟩
          go_loopw [16, 18] (fun u v w4 => ∃ (m g co : Nat) (qs : List Nat), 1 ≤ m ∧ m ≤ k + 1 ∧ v = .int .i64 m ∧ u = .slice (some ⟨g, 0, none⟩) m co ∧ qs.length = m ∧ Tbl w4 ss j w.heap.size g co qs ∧ Below w.heap.size w w4) (fun _ v _ => k + 1 - (intOf v).toNat)
          case atStart => exact ⟨1, r, 1, [q0], Nat.le_refl _, by omega, rfl, rfl, rfl, HT.out, hbel⟩
          case round =>
            clear HT hbel
            obtain ⟨m, g', co, qs, hm1, hm2, rfl, rfl, hql, hT, hbel⟩ := hrel
            have HT := Lib.hid hT
            have HQL := Lib.hid hql
            clear hT hql
            by_cases hmk : m ≤ k
            · go_wp2_with (refine Ops.wpList_make rfl 27 _ _ rfl 3 i0 (.int .i64 0) Try.underlying27 hI0 hz0 rfl hz1 (by omega) j rfl rfl (by omega) ?_; intro p w5 hp hb5 hR5)
              rw [arrN_zero] at hR5
              have hb5' := hbel.trans (hb5.mono hbel.size)
              have hBp : w.heap.size ≤ p := by have := hbel.size; omega
              have hpq : p ∉ qs := fun hmem => by have := HT.out.lt p hmem; omega
              have HT5 := Lib.hid (HT.out.keep hb5)
              have HPQ := Lib.hid hpq
              have HR5 : Hid (Row w5 p 3 (arrN j (fillN (tab ss m) 0 0))) := by rw [← fillN_zero]; exact hR5
              clear hp hb5 hR5 hpq HT
              go_loopw [81] (fun v w6 => ∃ y : Nat, y ≤ j ∧ v = .int .i64 y ∧ Tbl w6 ss j w.heap.size g' co qs ∧ Row w6 p 3 (arrN j (fillN (tab ss m) y 0)) ∧ Below w.heap.size w w6) (fun v _ => j - (intOf v).toNat)
              case atStart => exact ⟨0, Nat.zero_le _, rfl, HT5.out, HR5.out, hb5'⟩
              case round =>
                clear HT5 HR5 hb5' hbel
                obtain ⟨y, hy, rfl, hT, hRy, hbel⟩ := hrel
                have HT := Lib.hid hT
                have HRy := Lib.hid hRy
                clear hT hRy
                by_cases hyj : y < j
                · have hiss : y < ss.length := by rw [HN.out]; exact hyj
                  have hmem := images_mem H0.out _ (getD_mem_ss hiss)
                  have HML := Lib.hid hmem.2
                  have hsz := hmem.1
                  have HIM : Hid (img ss y = (ss.getD y ByteArray.empty).data.toList) := rfl
                  obtain ⟨b', off, rfl, hbl, hc'⟩ := (hS.keep hbel).cells y hyj
                  dsimp only at hc'
                  clear hmem hiss
                  generalize ss.getD y ByteArray.empty = s at *
                  go_wp2_with (refine Ops.wpList_bytes _ rfl 9 69 5 _ rfl Try.underlying9 Try.underlying69 Try.underlying5 _ rfl ?_; intro cpp b C w7 hb hsl hb7 hcell)
                  have HC := Lib.hid hcell
                  have hbp : b ≠ p := by have := HRy.out.lt; omega
                  have hbB : w.heap.size ≤ b := by have := hbel.size; omega
                  have HSL := Lib.hid hsl
                  have HT7 := Lib.hid (HT.out.keep hb7)
                  have HRy7 := Lib.hid (HRy.out.keep hb7 HRy.out.lt)
                  have hb7' := hbel.trans (hb7.mono hbel.size)
                  clear hcell hsl hb7 hb HT HRy
                  go_loopw [89] (fun v w8 => ∃ t : Nat, t ≤ s.size ∧ v = .int .i64 t ∧ Tbl w8 ss j w.heap.size g' co qs ∧ Row w8 p 3 (arrN j (fillN (tab ss m) y (tabP ss (m - 1) y t))) ∧ Sealed w8 b C ∧ Below w.heap.size w w8) (fun v _ => s.size - (intOf v).toNat)
                  case atStart => exact ⟨0, Nat.zero_le _, rfl, HT7.out, by rw [tabP_zero]; exact HRy7.out, HSL.out, hb7'⟩
                  case round =>
                    clear HT7 HRy7 HSL hb7' hbel
                    obtain ⟨t, ht, rfl, hT, hRt, hsl, hbel⟩ := hrel
                    have HT := Lib.hid hT
                    have HRt := Lib.hid hRt
                    have HSL := Lib.hid hsl
                    clear hT hRt hsl
                    by_cases htl : t < s.size
                    · have htl' : t < (img ss y).length := by rw [HIM.out, ← Lib.size_eq]; exact htl
                      have hc : wr.cell? ⟨b, t, none⟩ = some (.int .u8 (((img ss y).getD t 0).toNat : Int)) := by rw [HIM.out]; exact (HSL.out.cell t).trans (HC.out t htl)
                      have hlt' := isLetter_lt (letters_mem HML.out (by rw [← HIM.out]; exact getD_mem htl'))
                      have HTP := Lib.hid (fun h97 => tabP_next (ss := ss) (k := m - 1) htl' h97)
                      generalize (img ss y).getD t 0 = x2 at *
                      have hx : x2.toNat < 256 := x2.toNat_lt
                      obtain ⟨hx1, hx2⟩ := hlt'
                      rw [HN.out] at hx2
                      have HTN := Lib.hid (HTP.out hx1)
                      have hql := HQL.out
                      have hcg : wr.cell? ⟨g', m - 1, none⟩ = some (.slice (some ⟨qs.getD (m - 1) 0, 0, none⟩) j j) := HT.out.cell (by omega)
                      have hcx : wr.cell? ⟨qs.getD (m - 1) 0, x2.toNat - 97, none⟩ = some (.int .i64 (tab ss (m - 1) (x2.toNat - 97) : Nat)) := ((HT.out.row (i := m - 1) (by omega)).cell _).trans (arrN_get _ hx2)
                      have hcp : wr.cell? ⟨p, y, none⟩ = some (.int .i64 (tabP ss (m - 1) y t : Nat)) := by
                        have := (HRt.out.cell y).trans (arrN_get _ hyj)
                        rw [fillN_at] at this
                        exact this
                      have hfp : wr.frozen? ⟨p, y, none⟩ = false := HRt.out.frozen y
                      have ht1 := tab_le ss (m - 1) (x2.toNat - 97)
                      have ht2 := tabP_le ss (m - 1) y t
                      unfold cap at ht1 ht2
                      clear hql HTP
                      generalize qs.getD (m - 1) 0 = qq at *
                      generalize tab ss (m - 1) (x2.toNat - 97) = u1 at *
                      have HRt' := HRt
                      generalize hu2 : tabP ss (m - 1) y t = u2 at hcp ht2 HTN
                      have HU2 := Lib.hid hu2
                      clear hu2
                      go_wp2
                      go_region
                      rw [min_cap]
                      have hR9 := HRt.out.set y (.int .i64 ((min (u2 + u1) cap : Nat) : Int))
                      rw [HTN.out, fillN_set _ _ _ hyj] at hR9
                      have HO9 := Lib.hid (only_drew (only_setCell wr p y (.int .i64 ((min (u2 + u1) cap : Nat) : Int))))
                      have HT9 := Lib.hid (HT.out.other HO9.out HRt.out HPQ.out)
                      have HS9 := Lib.hid (HSL.out.other HO9.out hbp)
                      have HB9 := Lib.hid (hbel.trans (HO9.out.below hBp))
                      rw [HTN.out] at HO9 HT9 HS9 HB9 ⊢
                      have HR9 := Lib.hid hR9.drew
                      clear hR9 HO9
                      generalize ((wr.setCell ⟨p, y, none⟩ (.int .i64 (tabP ss (m - 1) y (t + 1) : Nat))).drew) = w9 at *
                      clear hc hc' hcg hcx hcp hfp
                      go_wp2
                      go_roundw
                      case rel => exact ⟨t + 1, by omega, by go_num, HT9.out, HR9.out, HS9.out, HB9.out⟩
                      case measure => simp [intOf]; omega
                    · have hte : (img ss y).length ≤ t := by rw [HIM.out, ← Lib.size_eq]; omega
                      have HE := Lib.hid (tabP_end (ss := ss) (k := m - 1) hte (by omega))
                      have HRE : Hid (Row wr p 3 (arrN j (fillN (tab ss m) (y + 1) 0))) := by
                        have := HRt.out
                        rw [HE.out, show m - 1 + 1 = m from by omega, fillN_next] at this
                        exact this
                      clear hte hc'
                      go_wp2
                      go_roundw
                      case rel => exact ⟨y + 1, by omega, by go_num, HT.out, HRE.out, hbel⟩
                      case measure => simp [intOf]; omega
                · have : y = j := by omega
                  subst this
                  have hRE := HRy.out
                  rw [fillN_end] at hRE
                  have HRE := Lib.hid hRE
                  have HQL' := HQL.out
                  have hrow := row_alloc wr 27 [rowV y p]
                  have hcel := hrow.cell 0
                  have hBA : Below wr.heap.size wr (wr.alloc (.cells [rowV y p].toArray 27)) := (Below.refl _ _).alloc (Nat.le_refl _) _
                  have hTA := HT.out.keep hBA
                  have hREA := hRE.keep hBA hRE.lt
                  have hBW := hbel.trans (hBA.mono hbel.size)
                  have hsz : w.heap.size ≤ (wr.alloc (.cells [rowV y p].toArray 27)).heap.size := hBW.size
                  have HCEL := Lib.hid hcel
                  have HTA := Lib.hid hTA
                  have HREA := Lib.hid hREA
                  have HBW := Lib.hid hBW
                  have hmx : m ≤ 61 := by omega
                  have HSZ := Lib.hid hsz
                  have hown := hTA.own
                  rw [HQL'] at hown
                  have HOWN := Lib.hid hown
                  clear hRE hrow hcel hBA hTA hREA hBW hsz hown HQL'
                  go_wp2_with (at_builtin; go_must (refine Ops.wpList_append1 rfl _ _ 80 rfl w.heap.size 27 i1 (.slice none 0 0) 24 Try.underlying80 hI1 hy0 rfl hy1 hy2 _ m _ rfl HOWN.out ⟨wr.heap.size, 0, none⟩ 1 (rowV y p) rfl HCEL.out rfl ?c1 ?c2 HSZ.out ?_))
                  case c1 => unfold maxLen; omega
                  case c2 => omega
                  intro ao co' w9 hO9 hg9
                  have hgl : ∃ g9, ao = some ⟨g9, 0, none⟩ := by
                    rcases hO9.2 with ⟨_, h0⟩ | ⟨g9, cap9, cur9, hv9, _⟩
                    · omega
                    · cases hv9; exact ⟨g9, rfl⟩
                  obtain ⟨g9, rfl⟩ := hgl
                  have hT9 : Tbl w9 ss y w.heap.size g9 co' (qs ++ [p]) := by
                    refine ⟨?_, fun i q hq => ?_⟩
                    · rw [List.length_append, List.map_append, HQL.out]
                      exact hO9
                    · by_cases hi' : i < qs.length
                      · rw [List.getElem?_append_left hi'] at hq
                        exact ⟨row_grown HOWN.out hg9 (HTA.out.rows i q hq).1 (by decide), (HTA.out.rows i q hq).2⟩
                      · rw [List.getElem?_append_right (by omega)] at hq
                        have h0 : i - qs.length = 0 := by
                          rcases Nat.eq_zero_or_pos (i - qs.length) with h | h
                          · exact h
                          · rw [List.getElem?_eq_none (by simp; omega)] at hq; cases hq
                        rw [h0] at hq
                        simp at hq; subst hq
                        have him : i = m := by have := HQL.out; omega
                        rw [him]
                        exact ⟨row_grown HOWN.out hg9 HREA.out (by decide), hBp⟩
                  have hb9 := HBW.out.grown hg9 HSZ.out (fun q hq => (HOWN.out.lt q hq).1)
                  have HT9 := Lib.hid hT9
                  have HB9 := Lib.hid hb9
                  have HL9 : Hid ((qs ++ [p]).length = m + 1) := by rw [List.length_append, HQL.out]; rfl
                  clear hO9 hg9 hT9 hb9 HCEL HTA HREA HBW HSZ HOWN
                  generalize qs ++ [p] = qs' at *
                  go_wp2
                  go_roundw
                  case rel => exact ⟨m + 1, g9, co', qs', by omega, by omega, by go_num, by go_num, HL9.out, HT9.out, HB9.out⟩
                  case measure => simp [intOf]; omega
            · go_wp2
              go_loopw [1, 3, 24] (fun u v t w4 => ∃ (kk at' : Nat) (s : ByteArray), kk ≤ k ∧ t = .int .i64 kk ∧ v = .int .i64 at' ∧ u = .string s ∧ at' ≤ 1000000000000000000 ∧ s.size ≤ 40000 ∧ letters ss.length s.data.toList = true ∧ At ss kk s.data.toList at' x ∧ Tbl w4 ss j w.heap.size g' co qs ∧ Below w.heap.size w w4) (fun _ _ t _ => (intOf t).toNat)
              case atStart => exact ⟨k, at_, word, Nat.le_refl _, rfl, rfl, rfl, by omega, h1, H2.out, HX.out, HT.out, hbel⟩
              case round =>
                clear HT hbel HX
                obtain ⟨kk, at', s, hkk, rfl, rfl, rfl, hat, hs4, hlet, hAt, hT, hbel⟩ := hrel
                have HLET := Lib.hid hlet
                have HAT := Lib.hid hAt
                have HT := Lib.hid hT
                clear hlet hAt hT
                go_wp2_with (refine Ops.wpList_range_string rfl 9 _ rfl Try.underlying9 s rfl ?_; intro b w7 hb hb7 hit)
                have HT7 := Lib.hid (HT.out.keep hb7)
                have hbB : w.heap.size ≤ b := by have := hbel.size; omega
                have hb7' := hbel.trans (hb7.mono hbel.size)
                have hbq : ∀ q ∈ qs, q ≠ b := fun q hq => by have := HT.out.lt q hq; omega
                have HBQ := Lib.hid hbq
                have HIT := Lib.hid hit
                clear hb hb7 hbq hit HT
                obtain ⟨w6, rfl⟩ : ∃ w6 : World, w6 = wr := ⟨_, rfl⟩
                go_frame
                go_loopw [1, 3] (fun u v w8 => ∃ (y at'' : Nat), y ≤ s.size ∧ u = .string s ∧ v = .int .i64 at'' ∧ at'' ≤ 1000000000000000000 ∧ w8.heap[b]? = some (.stringIter s y) ∧ At ss kk (s.data.toList.drop y) at'' x ∧ Tbl w8 ss j w.heap.size g' co qs ∧ Below w.heap.size w w8) (fun _ _ w8 => s.size - w8.iterPos b)
                case atStart => exact ⟨0, at', Nat.zero_le _, rfl, rfl, hat, HIT.out, HAT.out, HT7.out, hb7'⟩
                case round =>
                  clear HIT HAT HT7 hb7' hbel
                  obtain ⟨y, at'', hy, rfl, rfl, hat2, hit, hAt, hT, hbel⟩ := hrel
                  have hpos : wr.iterPos b = y := iterPos_of hit
                  have HPOS := Lib.hid hpos
                  have HIT := Lib.hid hit
                  have HAT := Lib.hid hAt
                  have HT := Lib.hid hT
                  clear hpos hit hAt hT
                  by_cases hys : y < s.size
                  · have hys' : y < s.data.toList.length := by rw [← Lib.size_eq]; exact hys
                    have hg : s[y]'hys = s.data.toList.getD y 0 := get_getD s y hys
                    have HG := Lib.hid hg
                    have hlt' := isLetter_lt (letters_mem HLET.out (getD_mem hys'))
                    have HA2 := Lib.hid (HAT.out.drop hys')
                    have HEX := Lib.hid (extract_one s y hys)
                    have hil := Lib.hid (letters_mem HLET.out (getD_mem hys'))
                    clear hys'
                    generalize hxx : s.data.toList.getD y 0 = x2 at *
                    have hx : x2.toNat < 256 := x2.toNat_lt
                    clear hxx
                    obtain ⟨hx1, hx2⟩ := hlt'
                    rw [HN.out] at hx2
                    have hasc : (s[y]'hys).toNat < 128 := by rw [HG.out]; omega
                    have HASC := Lib.hid hasc
                    have hql : qs.length = m := HQL.out
                    have HT9 : Hid (∀ w9, Only b wr w9 → Tbl w9 ss j w.heap.size g' co qs) := fun w9 h9 => HT.out.iter HIT.out h9
                    have HCG : Hid (∀ w9, Only b wr w9 → w9.cell? ⟨g', kk, none⟩ = some (.slice (some ⟨qs.getD kk 0, 0, none⟩) j j)) := fun w9 h9 => (HT9.out w9 h9).cell (by omega)
                    have HCX : Hid (∀ w9, Only b wr w9 → w9.cell? ⟨qs.getD kk 0, x2.toNat - 97, none⟩ = some (.int .i64 (tab ss kk (x2.toNat - 97) : Nat))) := fun w9 h9 => (((HT9.out w9 h9).row (i := kk) (by omega)).cell _).trans (arrN_get _ hx2)
                    have htab : tab ss kk (x2.toNat - 97) = min (lenL ss kk x2) 2000000000000000000 := by unfold tab cap; rw [letr_of hx1]
                    have HTAB := Lib.hid htab
                    clear hasc hql htab
                    generalize qs.getD kk 0 = qq at *
                    generalize tab ss kk (x2.toNat - 97) = tb at *
                    by_cases hin : at'' < lenL ss kk x2
                    · have hin' : at'' < tb := by rw [HTAB.out]; omega
                      by_cases hk0 : kk = 0
                      · have hxe : x2 = x := by
                          have h3 := HA2.out
                          rw [hk0] at h3 hin
                          exact h3.here hin
                        have HXE := Lib.hid hxe
                        subst hk0
                        clear hin hxe
                        go_wp2_with (refine Ops.wpList_next_ascii rfl _ rfl b rfl s y HIT.out hys HASC.out ?_; intro w9 hit9 hO9; have hcg9 := HCG.out w9 hO9; have hcx9 := HCX.out w9 hO9; have HO9 := Lib.hid hO9; clear hit9 hO9)
                        go_ret2
                        refine ⟨congrArg Ending.returned ?_, hbel.trans (HO9.out.below hbB)⟩
                        rw [← HXE.out, ← HEX.out]
                        rfl
                      · obtain ⟨k1, rfl⟩ : ∃ k1, kk = k1 + 1 := ⟨kk - 1, by omega⟩
                        have HDN := Lib.hid (HA2.out.down hin)
                        have hmem := images_mem H0.out _ (getD_mem_ss (k := x2.toNat - 97) (by rw [HN.out]; exact hx2))
                        have hsz2 := hmem.1
                        have HL2 := Lib.hid hmem.2
                        have HCS : Hid (∀ w9 : World, Below w.heap.size w w9 → ∃ b off, a = some ⟨b, off, none⟩ ∧ b < w9.heap.size ∧ w9.cell? ⟨b, off + (x2.toNat - 97), none⟩ = some (.string (ss.getD (x2.toNat - 97) ByteArray.empty))) := fun w9 h9 => (hS.keep h9).cells _ hx2
                        have HDN2 : Hid (At ss k1 (ss.getD (x2.toNat - 97) ByteArray.empty).data.toList at'' x) := HDN.out
                        clear hmem hin HDN
                        generalize ss.getD (x2.toNat - 97) ByteArray.empty = s2 at *
                        obtain ⟨b5, off5, rfl, hbl5, hc5⟩ := HCS.out wr hbel
                        have HCS2 : Hid (∀ w9, Only b wr w9 → w9.cell? ⟨b5, off5 + (x2.toNat - 97), none⟩ = some (.string s2)) := fun w9 h9 => by
                          obtain ⟨b6, off6, e6, _, hc6⟩ := HCS.out w9 (hbel.trans (h9.below hbB))
                          cases e6
                          exact hc6
                        clear hc5
                        go_wp2_with (refine Ops.wpList_next_ascii rfl _ rfl b rfl s y HIT.out hys HASC.out ?_; intro w9 hit9 hO9; have hcg9 := HCG.out w9 hO9; have hcx9 := HCX.out w9 hO9; have hcs9 := HCS2.out w9 hO9; have HO9 := Lib.hid hO9; clear hit9 hO9)
                        go_roundw
                        case rel => exact ⟨k1, at'', s2, by omega, by go_num, rfl, rfl, hat2, by omega, HL2.out, HDN2.out, HT9.out _ HO9.out, hbel.trans (HO9.out.below hbB)⟩
                        case measure => simp [intOf]
                    · have htl : tb = lenL ss kk x2 := by rw [HTAB.out]; omega
                      have hin' : ¬ at'' < tb := by omega
                      have HSK := Lib.hid (HA2.out.skip (by omega))
                      rw [← htl] at HSK
                      have hsub : (at'' : Int) - (tb : Int) = ((at'' - tb : Nat) : Int) := by omega
                      have HSUB := Lib.hid hsub
                      clear hin htl hsub
                      go_wp2_with (refine Ops.wpList_next_ascii rfl _ rfl b rfl s y HIT.out hys HASC.out ?_; intro w9 hit9 hO9; have hcg9 := HCG.out w9 hO9; have hcx9 := HCX.out w9 hO9; have HIT9 := Lib.hid hit9; have HO9 := Lib.hid hO9; clear hit9 hO9)
                      go_roundw
                      case rel => exact ⟨y + 1, at'' - tb, by omega, rfl, by rw [HSUB.out], by omega, HIT9.out, HSK.out, HT9.out _ HO9.out, hbel.trans (HO9.out.below hbB)⟩
                      case measure => rw [iterPos_of HIT9.out, HPOS.out]; omega
                  · exfalso
                    have := HAT.out
                    rw [List.drop_of_length_le (by rw [← Lib.size_eq]; omega)] at this
                    exact this.nil
end Gr
end Go.Proofs.Ythggpjpmjhaidaa
