/- OPERATIONS THAT MAKE MEMORY, AS LAWS FOR A WALK: the world behind each is a variable, with what is known of it; over any program. -/
import Derived.Test.YtgagophijmiceaaDoorMem
import Derived.Maps.OwnOps
import Derived.Laws.IdiomStrings
import Derived.Laws.MakeOwn
import Derived.Lib.Strings
import Derived.Lib.AppendStr
import Derived.Lib.OthersKept
import Derived.Laws.RangeString
import Derived.Lib.Builder
import Derived.Laws.BytesString
namespace Go.Proofs.YtgagophijmiceaaDoor
set_option linter.unusedSimpArgs false
set_option linter.unusedVariables false
open Go.RowKit
namespace Ops
section
variable {P : Program}

/-- '[]byte(s)': a new row of the text's bytes. -/
theorem bytes_run (w : World) (src dst e : TypeId) (s : ByteArray) (hs : P.underlying src = some .string) (hd : P.underlying dst = some (.slice e)) (he : P.underlying e = some (.int .u8)) :
    ∃ cap C w1, (convert src dst (.string s)).run P w = .ok (.slice (some ⟨w.heap.size, 0, none⟩) s.size cap) w1 ∧ Below w.heap.size w w1 ∧ w.heap.size < w1.heap.size ∧
      Mem.Sealed w1 w.heap.size C ∧ ∀ i, i < s.size → C[i]? = some (.int .u8 ((s.data.toList.getD i 0).toNat : Int)) := by
  refine ⟨_, bytesRow s (grownCap w s.size 0 e), _, run_bytes_of_string w src dst e s hs hd he, (Below.refl _ _).drew.alloc (by exact Nat.le_refl _) _, by simp, ?_, fun i hi => ?_⟩
  · refine ⟨e, ((bytesRow s (grownCap w s.size 0 e)).size, (bytesRow s (grownCap w s.size 0 e)).size + 1), ?_, ?_⟩
    · show (w.heap.push _)[w.heap.size]? = _
      simp
    · intro h
      simp at h
  · have hi' : i < s.data.size := hi
    unfold bytesRow
    rw [Array.getElem?_append_left (by simpa using hi'), Array.getElem?_map, Array.getElem?_eq_getElem hi', List.getD_eq_getElem?_getD, Array.getElem?_toList, Array.getElem?_eq_getElem hi']
    rfl

theorem wpList_bytes (w : World) {ops : Array Oper} {rest : List Oper} {o : Oper} {a : Act} {Q : Exit → Act → World → Prop}
    (hg : o.guard = none) (src dst e : TypeId) (x : Operand) (hop : o.op = Op.convert src dst x)
    (hs : P.underlying src = some .string) (hd : P.underlying dst = some (.slice e)) (he : P.underlying e = some (.int .u8)) (s : ByteArray) (hx : a.eval x = .string s)
    (hK : ∀ cap b C w1, w.heap.size ≤ b → Mem.Sealed w1 b C → Below w.heap.size w w1 → (∀ i, i < s.size → C[i]? = some (.int .u8 ((s.data.toList.getD i 0).toNat : Int))) →
      wpList P ops Q rest (a.put o.dst (.slice (some ⟨b, 0, none⟩) s.size cap)) w1) :
    wpList P ops Q (o :: rest) a w := by
  obtain ⟨cap, C, w1, hrun, hb, hlt, hS, hc⟩ := bytes_run w src dst e s hs hd he
  refine wpList_plain hg fun K' hK' => ?_
  unfold Oper.wp
  simp [execOp, hop, hx, hrun, Result.andThen]
  exact hK' _ _ (hK cap _ C w1 (Nat.le_refl _) hS hb hc)

/-- A whole array is read out of a variable. -/
theorem wpList_load_arr {ops : Array Oper} {rest : List Oper} {o : Oper} {a : Act} {w : World} {Q : Exit → Act → World → Prop} (hgd : o.guard = none) (ty : TypeId) (x : Operand) (ho : o.op = .load ty x)
    (n : Nat) (e : TypeId) (hu : P.underlying ty = some (.array n e)) (g : Nat) (hx : a.eval x = .pointer (some ⟨g, 0, none⟩)) (t : TypeId) (cs : List Value) (hg : Mem.Row w g t cs)
    (hi : (P.info? ty).map (·.size) = some cs.length)
    (h : wpList P ops Q rest (a.put o.dst (.agg cs.toArray)) w) : wpList P ops Q (o :: rest) a w :=
  wpList_load_row hgd ty x ho g hx t cs.toArray (0, 0) _ hg hu rfl (by simpa using hi) h

/-- A whole array is stored into a variable. -/
theorem wpList_store_arr {ops : Array Oper} {rest : List Oper} {o : Oper} {a : Act} {w : World} {Q : Exit → Act → World → Prop} (hgd : o.guard = none) (ty : TypeId) (x y : Operand) (ho : o.op = .store ty x y)
    (g : Nat) (hx : a.eval x = .pointer (some ⟨g, 0, none⟩)) (t : TypeId) (cs vs : List Value) (hy : a.eval y = .agg vs.toArray) (hg : Mem.Row w g t cs) (hl : vs.length = cs.length)
    (hi : (P.info? ty).map (·.size) = some vs.length) (h1 : ∀ v ∈ vs, v.oneCell' = true)
    (h : ∀ w', Mem.Row w' g t vs → Mem.Only g w w' → wpList P ops Q rest (a.put o.dst undef) w') : wpList P ops Q (o :: rest) a w := by
  have hs := Mem.row_setCells (T := t) vs 0 w cs hg (by omega)
  rw [List.take_zero, List.nil_append] at hs
  refine wpList_store_mid hgd ty x y ho g 0 vs.toArray hx hy (fun j hj => ?_) (by simpa using hi) (all_oneCell_toArray h1) ?_
  · rw [Nat.zero_add]
    refine ⟨?_, hg.frozen j⟩
    rw [hg.cell j, List.getElem?_eq_getElem (by simp at hj; omega)]
    rfl
  · have := h _ hs.1 hs.2
    simpa using this

/-- 'c[:h:m]' of an array variable of k elements. -/
theorem wpList_slice_arr3 {ops : Array Oper} {rest : List Oper} {o : Oper} {a : Act} {w : World} {Q : Exit → Act → World → Prop} (hgd : o.guard = none) (ty : TypeId) (x y z : Operand) (ho : o.op = .slice ty x none (some y) (some z))
    (k : Nat) (e : TypeId) (hu : P.underlying ty = some (.array k e)) (q : Nat) (hx : a.eval x = .pointer (some ⟨q, 0, none⟩)) (h : Nat) (hy : a.eval y = .int .i64 h) (hz : a.eval z = .int .i64 h) (hk : h ≤ k) (h0 : h ≠ 0)
    (he : (P.info? e).isSome)
    (hK : wpList P ops Q rest (a.put o.dst (.slice (some ⟨q, 0, none⟩) h h)) w) : wpList P ops Q (o :: rest) a w := by
  obtain ⟨i, hi⟩ := Option.isSome_iff_exists.1 he
  refine wpList_plain hgd fun K' hK' => ?_
  unfold Oper.wp
  have hb : ∀ (c : BoundsCode) (m : Nat), h ≤ m → (Instr.sliceBound (.int .i64 (h : Int)) m c).run P w = .ok h w := fun c m hm => by
    simp [Instr.sliceBound, asIntOf, hm]
  simp [execOp, ho, hx, hy, hz, Instr.sliceAt, Instr.sureAddr, Addr.add, run_underlying hu, Instr.sliceBounds, hb, hk, Instr.slice, asAddr, sizeOf, typeInfo, hi, h0, Result.andThen]
  exact hK' _ _ hK

theorem madeCells_one (z : Value) (hz : z.cells = #[z]) (n : Nat) : madeCells z.cells n = (List.replicate n z).toArray := by
  apply Array.ext
  · simp [madeCells]
  · intro i h1 h2
    simp [madeCells, hz, Nat.mod_one]

/-- 'make([]T, n)', elements of one cell. -/
theorem wpList_make {ops : Array Oper} {rest : List Oper} {o : Oper} {a : Act} {w : World} {Q : Exit → Act → World → Prop} (hgd : o.guard = none) (t : TypeId) (x y : Operand) (ho : o.op = .makeSlice t x y)
    (e : TypeId) (i : TypeInfo) (z : Value) (ht : P.underlying t = some (.slice e)) (hi : P.info? e = some i) (hz : i.zero = some z) (hz1 : z.cells = #[z]) (hs : i.size = 1) (hby : i.bytes ≤ 16)
    (n : Nat) (hx : a.eval x = .int .i64 n) (hy : a.eval y = .int .i64 n) (hn : n ≤ 10000000000)
    (hK : ∀ b w1, w.heap.size ≤ b → Below w.heap.size w w1 → Mem.Row w1 b e (List.replicate n z) → wpList P ops Q rest (a.put o.dst (.slice (some ⟨b, 0, none⟩) n n)) w1) :
    wpList P ops Q (o :: rest) a w := by
  have hb : (i.bytes : Int) * (n : Int) ≤ 281474976710656 := by
    have h1 : i.bytes * n ≤ 16 * 10000000000 := Nat.mul_le_mul hby hn
    have h2 : (i.bytes : Int) * (n : Int) = ((i.bytes * n : Nat) : Int) := by simp
    omega
  have hr := run_make (P := P) w t e i z ht hi hz .i64 .i64 n n (by omega) (Int.le_refl _) hb (by omega)
  rw [Int.toNat_natCast, hs, Nat.mul_one, madeCells_one z hz1] at hr
  refine wpList_plain hgd fun K' hK' => ?_
  unfold Oper.wp
  simp only [execOp, ho, hx, hy]
  simp [hr, Result.andThen]
  exact hK' _ _ (hK _ _ (Nat.le_refl _) ((Below.refl _ _).alloc (Nat.le_refl _) _) (Mem.row_alloc w e _))

/-- 'string(b)' of a slice of bytes. -/
theorem wpList_string {ops : Array Oper} {rest : List Oper} {o : Oper} {a : Act} {w : World} {Q : Exit → Act → World → Prop} (hgd : o.guard = none) (src dst e : TypeId) (x : Operand) (ho : o.op = .convert src dst x)
    (hs : P.underlying src = some (.slice e)) (he : P.underlying e = some (.int .u8)) (hd : P.underlying dst = some .string)
    (ad : Option Addr) (c : Nat) (s : ByteArray) (hx : a.eval x = .slice ad s.size c) (hc : Mem.Cells w ad s.size (fun i => .int .u8 ((s.data.toList.getD i 0).toNat : Int))) (hnil : ad = none → s.size = 0)
    (hK : wpList P ops Q rest (a.put o.dst (.string s)) w) : wpList P ops Q (o :: rest) a w := by
  have hrun : (convert src dst (.slice ad s.size c)).run P w = .ok (.string s) w := by
    rw [run_convert_bytes_string w src dst e ad s.size c hs he hd]
    rcases Nat.eq_zero_or_pos s.size with h0 | hpos
    · have e0 : s = ByteArray.empty := by
        obtain ⟨⟨l⟩⟩ := s
        cases l with
        | nil => rfl
        | cons _ _ => simp [ByteArray.size] at h0
      subst e0
      cases ad with
      | none => simp [Conv.bytesToString]
      | some p =>
        have := run_bytesToString (P := P) w p 0 c [] (run_loadCells_list w p [] (fun j v hv => by simp at hv))
        simpa using this
    · obtain ⟨b, off, rfl, hb, h0c⟩ := hc 0 hpos
      have hl : (loadCells ⟨b, off, none⟩ s.size).run P w = .ok ((s.data.toList.map fun x => (x.toNat : Int)).map (Value.int .u8)).toArray w := by
        have hz : s.size = ((s.data.toList.map fun x => (x.toNat : Int)).map (Value.int .u8)).length := by rw [List.length_map, List.length_map]; exact Lib.size_eq s
        rw [hz]
        refine run_loadCells_list w ⟨b, off, none⟩ _ fun j v hv => ?_
        have hj := (List.getElem?_eq_some_iff.1 hv).1
        rw [← hz] at hj
        obtain ⟨b', off', e', _, hcj⟩ := hc j hj
        cases e'
        rw [Addr.add_mid, hcj, ← hv]
        have hj' : j < s.data.toList.length := by rw [← Lib.size_eq]; exact hj
        simp [List.getD_eq_getElem?_getD, List.getElem?_eq_getElem hj']
      have := run_bytesToString (P := P) w ⟨b, off, none⟩ s.size c _ hl
      rw [this]
      congr 2
      have hfold : ∀ (l : List UInt8) (r : ByteArray), ((l.map fun x => (x.toNat : Int)).foldl (fun r n => r.push (UInt8.ofNat n.toNat)) r).data.toList = r.data.toList ++ l := by
        intro l
        induction l with
        | nil => intro r; simp
        | cons x l ih =>
          intro r
          rw [List.map_cons, List.foldl_cons, ih]
          simp [ByteArray.push]
      have h2 := hfold s.data.toList ByteArray.empty
      have h3 : ∀ (u v : ByteArray), u.data.toList = v.data.toList → u = v := by
        intro u v h
        obtain ⟨⟨u⟩⟩ := u
        obtain ⟨⟨v⟩⟩ := v
        simp at h
        subst h
        rfl
      exact h3 _ _ (by rw [h2]; simp)
  refine wpList_plain hgd fun K' hK' => ?_
  unfold Oper.wp
  simp [execOp, ho, hx, hrun, Result.andThen]
  exact hK' _ _ hK

/-- Own bytes as cells that can be read. -/
theorem own_cells {w : World} {B : Nat} {e : TypeId} {ad : Option Addr} {n c : Nat} {l : List UInt8} (h : w.ownsRow B e 1 (.slice ad n c) n (Lib.byteCells l)) (hl : l.length = n) :
    Mem.Cells w ad n (fun i => .int .u8 ((l.getD i 0).toNat : Int)) ∧ (ad = none → n = 0) := by
  obtain ⟨_, h2⟩ := h
  rcases h2 with ⟨hv, h0⟩ | ⟨g, cap, cur, hv, hB, hg, hnc, hcm, hcs, ht⟩
  · cases hv
    exact ⟨fun i hi => absurd hi (Nat.not_lt_zero _), fun _ => rfl⟩
  · cases hv
    refine ⟨fun i hi => ⟨g, 0, rfl, (Array.getElem?_eq_some_iff.1 hg).1, ?_⟩, fun x => by cases x⟩
    have h1 : w.cell? ⟨g, 0 + i, none⟩ = cur[i]? := by simp [World.cell?, hg]
    rw [h1]
    have h3 : (cur.toList.take (n * 1))[i]? = (Lib.byteCells l)[i]? := by rw [ht]
    rw [List.getElem?_take_of_lt (by omega), Array.getElem?_toList] at h3
    rw [h3]
    have hi' : i < l.length := by omega
    simp [Lib.byteCells, List.getElem?_eq_getElem hi', List.getD_eq_getElem?_getD]

/-! ### a range over a string -/
theorem wpList_range_string {ops : Array Oper} {rest : List Oper} {o : Oper} {a : Act} {w : World} {Q : Exit → Act → World → Prop} (hgd : o.guard = none) (t : TypeId) (x : Operand) (ho : o.op = .range t x)
    (ht : P.underlying t = some .string) (s : ByteArray) (hx : a.eval x = .string s)
    (hK : ∀ b w1, w.heap.size ≤ b → Below w.heap.size w w1 → w1.heap[b]? = some (.stringIter s 0) → wpList P ops Q rest (a.put o.dst (.pointer (some ⟨b, 0, none⟩))) w1) :
    wpList P ops Q (o :: rest) a w := by
  refine wpList_plain hgd fun K' hK' => ?_
  unfold Oper.wp
  simp [execOp, ho, hx, run_range_string w t s ht, Result.andThen]
  exact hK' _ _ (hK _ _ (Nat.le_refl _) ((Below.refl _ _).alloc (Nat.le_refl _) _) (World.iter_heap w s 0))

theorem only_iterAt (w : World) (b : Nat) (s : ByteArray) (p : Nat) : Mem.Only b w (w.iterAt b s p) :=
  ⟨rfl, rfl, rfl, Lib.iterAt_size _ _ _ _, fun k hk => Lib.iterAt_other _ _ _ _ _ hk⟩

theorem wpList_next_ascii {ops : Array Oper} {rest : List Oper} {o : Oper} {a : Act} {w : World} {Q : Exit → Act → World → Prop} (hgd : o.guard = none) (x : Operand) (ho : o.op = .next x true)
    (b : Nat) (hx : a.eval x = .pointer (some ⟨b, 0, none⟩)) (s : ByteArray) (pos : Nat) (hb : w.heap[b]? = some (.stringIter s pos)) (h : pos < s.size) (ha : (s[pos]'h).toNat < 128)
    (hK : ∀ w1, w1.heap[b]? = some (.stringIter s (pos + 1)) → Mem.Only b w w1 → wpList P ops Q rest (a.put o.dst (.tuple #[.bool true, .int .i64 pos, .int .i32 (s[pos]'h).toNat])) w1) :
    wpList P ops Q (o :: rest) a w := by
  have hrun : (Instr.next (.pointer (some ⟨b, 0, none⟩)) true o.type).run P w = .ok (.tuple #[.bool true, .int .i64 pos, .int .i32 (s[pos]'h).toNat]) (w.iterAt b s (pos + 1)) := by
    simp only [Instr.next, getObj, setObj, Sem.run_bind, Sem.run, hb, Result.andThen, h, if_true, decode_ascii s pos h ha]
    simp [goInt, Sem.run, hb, World.iterAt]
  refine wpList_plain hgd fun K' hK' => ?_
  unfold Oper.wp
  simp [execOp, ho, hx, hrun, Result.andThen]
  exact hK' _ _ (hK _ (Lib.iterAt_heap w b s pos (pos + 1) hb) (only_iterAt w b s (pos + 1)))

theorem wpList_next_end {ops : Array Oper} {rest : List Oper} {o : Oper} {a : Act} {w : World} {Q : Exit → Act → World → Prop} (hgd : o.guard = none) (x : Operand) (ho : o.op = .next x true)
    (b : Nat) (hx : a.eval x = .pointer (some ⟨b, 0, none⟩)) (s : ByteArray) (pos : Nat) (hb : w.heap[b]? = some (.stringIter s pos)) (h : ¬ pos < s.size)
    (hK : wpList P ops Q rest (a.put o.dst (.tuple #[.bool false])) w) :
    wpList P ops Q (o :: rest) a w := by
  have hrun : (Instr.next (.pointer (some ⟨b, 0, none⟩)) true o.type).run P w = .ok (.tuple #[.bool false]) w := by
    simp [Instr.next, getObj, Sem.run, hb, h]
  refine wpList_plain hgd fun K' hK' => ?_
  unfold Oper.wp
  simp [execOp, ho, hx, hrun, Result.andThen]
  exact hK' _ _ hK

/-! ### an append of one value of one cell to a slice that the call owns -/
theorem wpList_append1 {ops : Array Oper} {rest : List Oper} {o : Oper} {a : Act} {w : World} {Q : Exit → Act → World → Prop} (hgd : o.guard = none) (x y : Operand) (t : TypeId)
    (ho : o.op = .call { callee := .builtin .append, args := #[x, y], argTypes := #[t, t] })
    (B : Nat) (e : TypeId) (i : TypeInfo) (z : Value) (bytes : Nat) (ht : P.underlying t = some (.slice e)) (hi : P.info? e = some i) (hz : i.zero = some z) (hz1 : z.cells.size = 1) (hsize : i.size = 1) (hby : i.bytes = bytes)
    (v : Value) (n : Nat) (xs : List Value) (hs : a.eval x = v) (hown : w.ownsRow B e 1 v n xs) (ad : Addr) (c : Nat) (u : Value) (hy : a.eval y = .slice (some ad) 1 c) (hu : w.cell? ad = some u) (h1 : u.oneCell' = true)
    (h63 : n + 1 ≤ maxLen) (hbytes : (n + 1) * bytes ≤ 140737488355328) (hB : B ≤ w.heap.size)
    (hK : ∀ ao co w', w'.ownsRow B e 1 (.slice ao (n + 1) co) (n + 1) (xs ++ [u]) → w.grownBy w' v.ownBlock → wpList P ops Q rest (a.put o.dst (.slice ao (n + 1) co)) w') :
    wpList P ops Q (o :: rest) a w := by
  refine wpList_append_own w hgd x y t ho B e i z 1 bytes ht hi hz hsize hby hz1 (by decide) v n xs hs hown ad 1 c [u] hy rfl (fun j q hj => ?_) (fun q hq => by simp at hq; subst hq; exact h1) h63 hbytes hB fun v' w' ho' hg _ => ?_
  · match j, hj with
    | 0, hj =>
      simp at hj; subst hj
      have : ad.add 0 = ad := by simp [Addr.add]
      rw [this]; exact hu
    | j + 1, hj => simp at hj
  · rcases ho'.2 with ⟨_, h0⟩ | ⟨g, cap, cur, hv, _⟩
    · omega
    · subst hv
      exact hK _ _ _ ho' hg
end
end Ops
end Go.Proofs.YtgagophijmiceaaDoor
