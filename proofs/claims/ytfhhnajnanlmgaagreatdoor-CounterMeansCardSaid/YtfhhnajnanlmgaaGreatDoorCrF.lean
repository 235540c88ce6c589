/- WALK: counter.Fractions, edenref5.Fractions: the fractions of a machine. -/
import Derived.Test.YtfhhnajnanlmgaaGreatDoorCrP
namespace Go.Proofs.YtfhhnajnanlmgaaGreatDoor
set_option linter.unusedSimpArgs false
set_option linter.unusedVariables false
open Go.RowKit
namespace Cr
open Tld Mem

/-- The i-th of a machine's primes. -/
def pz (m i : Nat) : Int := (prim (4 + 2 * m)).getD i 0
theorem pz_range {m i : Nat} (hm : m ≤ 12) (hi : i < 4 + 2 * m) : 2 ≤ pz m i ∧ pz m i ≤ 107 := prim_get (4 + 2 * m) (by omega) i hi
/-- A line's fractions, cell by cell. -/
def frL (f : Nat → Nat → Int) (m k : Nat) : List Int :=
  if f k 0 = 1 then [pz m (f k 1).toNat * pz m (5 + 2 * (f k 2).toNat), pz m (4 + 2 * k)]
  else if f k 0 = 2 then [pz m (5 + 2 * (f k 2).toNat), pz m (4 + 2 * k) * pz m (f k 1).toNat, pz m (5 + 2 * (f k 3).toNat), pz m (4 + 2 * k)] else []
def tlL (m k : Nat) : List Int := [pz m (4 + 2 * k), pz m (5 + 2 * k)]
def frs (f : Nat → Nat → Int) (m i : Nat) : List Int := (List.range i).flatMap (frL f m)
def tls (m i : Nat) : List Int := (List.range i).flatMap (tlL m)
def cnt (f : Nat → Nat → Int) (k : Nat) : Nat := if f k 0 = 1 then 1 else if f k 0 = 2 then 2 else 0
theorem frL_len (f : Nat → Nat → Int) (m k : Nat) : (frL f m k).length = 2 * cnt f k := by
  unfold frL cnt
  by_cases h1 : f k 0 = 1
  · rw [if_pos h1, if_pos h1]; rfl
  · rw [if_neg h1, if_neg h1]
    by_cases h2 : f k 0 = 2
    · rw [if_pos h2, if_pos h2]; rfl
    · rw [if_neg h2, if_neg h2]; rfl
theorem frs_next (f : Nat → Nat → Int) (m i : Nat) : frs f m (i + 1) = frs f m i ++ frL f m i := by
  unfold frs; rw [List.range_succ, List.flatMap_append]; simp
theorem tls_next (m i : Nat) : tls m (i + 1) = tls m i ++ tlL m i := by
  unfold tls; rw [List.range_succ, List.flatMap_append]; simp
def num (f : Nat → Nat → Int) : Nat → Nat
  | 0 => 0
  | i + 1 => num f i + cnt f i
theorem num_le (f : Nat → Nat → Int) : ∀ i, num f i ≤ 2 * i
  | 0 => Nat.le_refl _
  | i + 1 => by
    have h := num_le f i
    have hc : cnt f i ≤ 2 := by
      unfold cnt
      split
      · omega
      · split <;> omega
    show num f i + cnt f i ≤ 2 * (i + 1)
    omega
theorem frs_len (f : Nat → Nat → Int) (m : Nat) : ∀ i, (frs f m i).length = 2 * num f i
  | 0 => rfl
  | i + 1 => by rw [frs_next, List.length_append, frs_len f m i, frL_len]; show 2 * num f i + 2 * cnt f i = 2 * (num f i + cnt f i); omega
theorem tls_len (m : Nat) : ∀ i, (tls m i).length = 2 * i
  | 0 => rfl
  | i + 1 => by rw [tls_next, List.length_append, tls_len m i]; unfold tlL; simp; omega
/-- All of a machine's fractions. -/
def allF (f : Nat → Nat → Int) (m : Nat) : List Int := frs f m m ++ tls m m

theorem is_get {w : World} {a : Option Addr} {m i : Nat} {z : Int} (h : Ints.Is w a (4 + 2 * m) (prim (4 + 2 * m))) (hi : i < 4 + 2 * m) (hz : z = pz m i) : ∃ b off, a = some ⟨b, off, none⟩ ∧ b < w.heap.size ∧ w.cell? ⟨b, off + i, none⟩ = some (.int .i64 z) := by
  obtain ⟨b, off, e, hl, hc⟩ := h.cells i hi
  exact ⟨b, off, e, hl, by rw [hz]; exact hc⟩

theorem wr2 {k : Nat} (h : k < 12) : wrap64 (2 * (k : Int)) = ((2 * k : Nat) : Int) := by unfold wrap64; omega
theorem wr4 {k : Nat} (h : k < 24) : wrap64 (4 + (k : Int)) = ((4 + k : Nat) : Int) := by unfold wrap64; omega
theorem wr5 {k : Nat} (h : k < 24) : wrap64 (5 + (k : Int)) = ((5 + k : Nat) : Int) := by unfold wrap64; omega
set_option maxHeartbeats 1000000 in
theorem qr_aux (k n j k2 pb b off c : Nat) (z : Int) (w : World) (hb : w.cell? ⟨pb, 0, none⟩ = some (.slice (some ⟨b, off, none⟩) n c)) (hc : w.cell? ⟨b, off + j, none⟩ = some (.int .i64 z)) (e1 : wrap64 (2 * (k : Int)) = (k2 : Int)) (e2 : wrap64 (4 + (k2 : Int)) = (j : Int)) (hj : j < n) :
    Calls Tryz.prog 31 #[.int .i64 k, .pointer (some ⟨pb, 0, none⟩)] w fun e w' => e = .returned (.int .i64 z) ∧ w' = w := by
  have hjn : (j : Int) < (n : Int) := by omega
  go_enter Tryz.func31, Tryz.ntmps31
  go_wp2_with fail
  go_ret
  exact ⟨rfl, rfl⟩
set_option maxHeartbeats 1000000 in
theorem r_aux (k n j k2 pb b off c : Nat) (z : Int) (w : World) (hb : w.cell? ⟨pb, 0, none⟩ = some (.slice (some ⟨b, off, none⟩) n c)) (hc : w.cell? ⟨b, off + j, none⟩ = some (.int .i64 z)) (e1 : wrap64 (2 * (k : Int)) = (k2 : Int)) (e2 : wrap64 (5 + (k2 : Int)) = (j : Int)) (hj : j < n) :
    Calls Tryz.prog 32 #[.int .i64 k, .pointer (some ⟨pb, 0, none⟩)] w fun e w' => e = .returned (.int .i64 z) ∧ w' = w := by
  have hjn : (j : Int) < (n : Int) := by omega
  go_enter Tryz.func32, Tryz.ntmps32
  go_wp2_with fail
  go_ret
  exact ⟨rfl, rfl⟩
theorem idx4 {m k : Nat} (h : k < m) : 4 + 2 * k < 4 + 2 * m := by omega
theorem idx5 {m k : Nat} (h : k < m) : 5 + 2 * k < 4 + 2 * m := by omega
theorem q_any (m k pb : Nat) (a : Option Addr) (c : Nat) (w : World) (hm : m ≤ 12) (hk : k < m) (hb : w.cell? ⟨pb, 0, none⟩ = some (.slice a (4 + 2 * m) c)) (hP : Ints.Is w a (4 + 2 * m) (prim (4 + 2 * m))) :
    Calls Tryz.prog 31 #[.int .i64 k, .pointer (some ⟨pb, 0, none⟩)] w fun e w' => e = .returned (.int .i64 (pz m (4 + 2 * k))) ∧ w' = w := by
  obtain ⟨b, off, e, hl, hc⟩ := is_get (i := 4 + 2 * k) hP (idx4 hk) rfl
  subst e
  exact qr_aux k (4 + 2 * m) (4 + 2 * k) (2 * k) pb b off c _ w hb hc (wr2 (Nat.lt_of_lt_of_le hk hm)) (wr4 (by omega)) (idx4 hk)
theorem r_any (m k pb : Nat) (a : Option Addr) (c : Nat) (w : World) (hm : m ≤ 12) (hk : k < m) (hb : w.cell? ⟨pb, 0, none⟩ = some (.slice a (4 + 2 * m) c)) (hP : Ints.Is w a (4 + 2 * m) (prim (4 + 2 * m))) :
    Calls Tryz.prog 32 #[.int .i64 k, .pointer (some ⟨pb, 0, none⟩)] w fun e w' => e = .returned (.int .i64 (pz m (5 + 2 * k))) ∧ w' = w := by
  obtain ⟨b, off, e, hl, hc⟩ := is_get (i := 5 + 2 * k) hP (idx5 hk) rfl
  subst e
  exact r_aux k (4 + 2 * m) (5 + 2 * k) (2 * k) pb b off c _ w hb hc (wr2 (Nat.lt_of_lt_of_le hk hm)) (wr5 (by omega)) (idx5 hk)

/-- An append in a region that draws. -/
theorem step_app {P : Program} {ops : Array Oper} {o : Oper} {a : Act} {w : World} {K : Act → World → Prop} {Q : Exit → Act → World → Prop} {E : Prop} (hgd : o.guard = none) (x y : Operand) (t : TypeId)
    (ho : o.op = .call { callee := .builtin .append, args := #[x, y], argTypes := #[t, t] })
    (B : Nat) (e : TypeId) (i : TypeInfo) (z : Value) (size bytes : Nat) (ht : P.underlying t = some (.slice e)) (hi : P.info? e = some i) (hz : i.zero = some z) (hsize : i.size = size) (hby : i.bytes = bytes) (hzs : z.cells.size = size) (hsz : 0 < size)
    (v : Value) (n : Nat) (xs : List Value) (hs : a.eval x = v) (hown : w.ownsRow B e size v n xs) (b m c : Nat) (news : List Value) (hy : a.eval y = .slice (some ⟨b, 0, none⟩) m c) (hl : news.length = m * size) (hnews : Row w b e news) (h1 : ∀ u ∈ news, u.oneCell' = true)
    (h63 : n + m ≤ maxLen) (hbytes : (n + m) * bytes ≤ 140737488355328) (hB : B ≤ w.heap.size) (hm : 0 < m)
    (hK : ∀ ao co w', w'.ownsRow B e size (.slice ao (n + m) co) (n + m) (xs ++ news) → w.grownBy w' v.ownBlock → K (a.put o.dst (.slice ao (n + m) co)) w') :
    if Region.wanted o (yielded ops a.tmps) = true then Oper.wp P o a w K Q else E := by
  have hw : Region.wanted o (yielded ops a.tmps) = true := by simp [Region.wanted, hgd]
  rw [if_pos hw]
  refine wp_append_own w x y t ho B e i z size bytes ht hi hz hsize hby hzs hsz v n xs hs hown ⟨b, 0, none⟩ m c news hy hl (fun j q hj => ?_) h1 h63 hbytes hB fun v' w' ho' hg _ => ?_
  · have ea : (⟨b, 0, none⟩ : Addr).add j = ⟨b, j, none⟩ := (Addr.add_mid b 0 j).trans (by rw [Nat.zero_add])
    rw [ea, hnews.cell]
    exact hj
  · rcases ho'.2 with ⟨_, h0⟩ | ⟨g, cap, cur, hv, _⟩
    · omega
    · subst hv
      exact hK _ _ _ ho' hg
theorem wpList_app {P : Program} {ops : Array Oper} {rest : List Oper} {o : Oper} {a : Act} {w : World} {Q : Exit → Act → World → Prop} (hgd : o.guard = none) (x y : Operand) (t : TypeId)
    (ho : o.op = .call { callee := .builtin .append, args := #[x, y], argTypes := #[t, t] })
    (B : Nat) (e : TypeId) (i : TypeInfo) (z : Value) (size bytes : Nat) (ht : P.underlying t = some (.slice e)) (hi : P.info? e = some i) (hz : i.zero = some z) (hsize : i.size = size) (hby : i.bytes = bytes) (hzs : z.cells.size = size) (hsz : 0 < size)
    (v : Value) (n : Nat) (xs : List Value) (hs : a.eval x = v) (hown : w.ownsRow B e size v n xs) (b m c : Nat) (news : List Value) (hy : a.eval y = .slice (some ⟨b, 0, none⟩) m c) (hl : news.length = m * size) (hnews : Row w b e news) (h1 : ∀ u ∈ news, u.oneCell' = true)
    (h63 : n + m ≤ maxLen) (hbytes : (n + m) * bytes ≤ 140737488355328) (hB : B ≤ w.heap.size) (hm : 0 < m)
    (hK : ∀ ao co w', w'.ownsRow B e size (.slice ao (n + m) co) (n + m) (xs ++ news) → w.grownBy w' v.ownBlock → wpList P ops Q rest (a.put o.dst (.slice ao (n + m) co)) w') :
    wpList P ops Q (o :: rest) a w := by
  refine wpList_append_own w hgd x y t ho B e i z size bytes ht hi hz hsize hby hzs hsz v n xs hs hown ⟨b, 0, none⟩ m c news hy hl (fun j q hj => ?_) h1 h63 hbytes hB fun v' w' ho' hg _ => ?_
  · have ea : (⟨b, 0, none⟩ : Addr).add j = ⟨b, j, none⟩ := (Addr.add_mid b 0 j).trans (by rw [Nat.zero_add])
    rw [ea, hnews.cell]
    exact hj
  · rcases ho'.2 with ⟨_, h0⟩ | ⟨g, cap, cur, hv, _⟩
    · omega
    · subst hv
      exact hK _ _ _ ho' hg
/-- The primes, in a row of the call's own. -/
def PRow (w : World) (gb m : Nat) : Prop := ∃ cs, Row w gb 3 cs ∧ ∀ i, i < 4 + 2 * m → cs[i]? = some (.int .i64 (pz m i))
theorem PRow.cell {w : World} {gb m i : Nat} (h : PRow w gb m) (hi : i < 4 + 2 * m) : w.cell? ⟨gb, i, none⟩ = some (.int .i64 (pz m i)) := by
  obtain ⟨cs, hr, hc⟩ := h
  rw [hr.cell]; exact hc i hi
theorem PRow.lt {w : World} {gb m : Nat} (h : PRow w gb m) : gb < w.heap.size := by
  obtain ⟨cs, hr, _⟩ := h
  exact hr.lt
theorem PRow.keep {w w' : World} {gb m : Nat} (h : PRow w gb m) (hb : Below w.heap.size w w') : PRow w' gb m := by
  obtain ⟨cs, hr, hc⟩ := h
  exact ⟨cs, hr.keep hb hr.lt, hc⟩
theorem PRow.grown {w w' : World} {gb m B n : Nat} {v : Value} {xs : List Value} (h : PRow w gb m) (ho : w.ownsRow B 75 2 v n xs) (hg : w.grownBy w' v.ownBlock) : PRow w' gb m := by
  obtain ⟨cs, hr, hc⟩ := h
  exact ⟨cs, row_grown ho hg hr (by decide), hc⟩
theorem PRow.of {w : World} {B m : Nat} {v : Value} (h : w.ownsRow B 3 1 v (4 + 2 * m) ((prim (4 + 2 * m)).map (Value.int .i64))) (hm : m ≤ 12) : ∃ gb c, v = .slice (some ⟨gb, 0, none⟩) (4 + 2 * m) c ∧ PRow w gb m := by
  have hl := prim_len (n := 4 + 2 * m) (by omega)
  rcases h.2 with ⟨hv, h0⟩ | ⟨g, cap, cur, hv, hB, hg, hnc, hcm, hcs, ht⟩
  · omega
  · refine ⟨g, cap, hv, cur.toList, by unfold Row; simpa using hg, fun i hi => ?_⟩
    have h3 : (cur.toList.take ((4 + 2 * m) * 1))[i]? = ((prim (4 + 2 * m)).map (Value.int .i64))[i]? := by rw [ht]
    rw [List.getElem?_take_of_lt (by omega)] at h3
    rw [h3, List.getElem?_map, List.getElem?_eq_getElem (by rw [hl]; exact hi)]
    unfold pz
    rw [List.getD_eq_getElem?_getD, List.getElem?_eq_getElem (by rw [hl]; exact hi)]
    rfl

theorem mul_wrap {x y : Int} (hx : 2 ≤ x ∧ x ≤ 107) (hy : 2 ≤ y ∧ y ≤ 107) : IntKind.i64.wrap (x * y) = x * y ∧ wrap64 (x * y) = x * y := by
  have h1 : 0 ≤ x * y := Int.mul_nonneg (by omega) (by omega)
  have h2 : x * y ≤ 107 * 107 := Int.mul_le_mul hx.2 hy.2 (by omega) (by omega)
  refine ⟨by rw [IntKind.wrap_i64]; omega, by unfold wrap64; omega⟩

end Cr
end Go.Proofs.YtfhhnajnanlmgaaGreatDoor
