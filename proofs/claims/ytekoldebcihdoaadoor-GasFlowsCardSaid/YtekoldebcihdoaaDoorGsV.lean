/- MEMORY OF GASES: rows of numbers by a function; slices.Clone; what is wrong with a run. -/
import Derived.Test.YtekoldebcihdoaaDoorGsB
import Derived.Maps.AppendAt
import Derived.Lib.SliceRun
import Derived.OwnWalk
namespace Go.Proofs.YtekoldebcihdoaaDoor
set_option linter.unusedSimpArgs false
set_option linter.unusedVariables false
open Go.RowKit
namespace Gs
open Tld Mem

/-- A row of numbers of the call's own: the first P are F. -/
structure Vec (w : World) (b P : Nat) (F : Nat → Nat) : Prop where
  row : ∃ cs, Row w b 3 cs ∧ ∀ k, k < P → cs[k]? = some (.int .i64 (F k : Nat))
theorem Vec.cell {w : World} {b P : Nat} {F : Nat → Nat} (h : Vec w b P F) {k : Nat} (hk : k < P) : w.cell? ⟨b, k, none⟩ = some (.int .i64 (F k : Nat)) := by
  obtain ⟨cs, hr, hc⟩ := h.row
  rw [hr.cell k]; exact hc k hk
theorem Vec.frozen {w : World} {b P : Nat} {F : Nat → Nat} (h : Vec w b P F) (k : Nat) : w.frozen? ⟨b, k, none⟩ = false := by
  obtain ⟨cs, hr, hc⟩ := h.row
  exact hr.frozen k
theorem Vec.lt {w : World} {b P : Nat} {F : Nat → Nat} (h : Vec w b P F) : b < w.heap.size := by
  obtain ⟨cs, hr, hc⟩ := h.row
  exact hr.lt
theorem Vec.congr {w : World} {b P : Nat} {F G : Nat → Nat} (h : Vec w b P F) (e : ∀ k, k < P → G k = F k) : Vec w b P G := by
  obtain ⟨cs, hr, hc⟩ := h.row
  exact ⟨⟨cs, hr, fun k hk => by rw [hc k hk, e k hk]⟩⟩
theorem Vec.set {w : World} {b P : Nat} {F G : Nat → Nat} (h : Vec w b P F) {i v : Nat} (hi : i < P) (hG : ∀ k, k < P → k ≠ i → G k = F k) (hv : G i = v) : Vec (w.setCell ⟨b, i, none⟩ (.int .i64 (v : Nat))) b P G := by
  obtain ⟨cs, hr, hc⟩ := h.row
  refine ⟨⟨_, hr.set i (.int .i64 (v : Nat)), fun k hk => ?_⟩⟩
  by_cases e : k = i
  · subst e
    have hl := (List.getElem?_eq_some_iff.1 (hc k hk)).1
    rw [List.getElem?_set_self hl, hv]
  · rw [List.getElem?_set_ne (fun h => e h.symm), hG k hk e]; exact hc k hk
theorem Vec.other {w w' : World} {b c P : Nat} {F : Nat → Nat} (h : Vec w b P F) (k : Only c w w') (hne : b ≠ c) : Vec w' b P F := by
  obtain ⟨cs, hr, hc⟩ := h.row
  exact ⟨⟨cs, hr.other k hne, hc⟩⟩
theorem Vec.keep {w w' : World} {b P : Nat} {F : Nat → Nat} (h : Vec w b P F) (k : Below w.heap.size w w') : Vec w' b P F := by
  obtain ⟨cs, hr, hc⟩ := h.row
  exact ⟨⟨cs, hr.keep k hr.lt, hc⟩⟩
theorem Vec.drewN {w : World} {b P : Nat} {F : Nat → Nat} (h : Vec w b P F) (n : Nat) : Vec (w.drewN n) b P F := by
  obtain ⟨cs, hr, hc⟩ := h.row
  exact ⟨⟨cs, hr.drewN n, hc⟩⟩
theorem vec_made {w : World} {b P : Nat} (h : Row w b 3 (List.replicate P (.int .i64 0))) : Vec w b P fun _ => 0 :=
  ⟨⟨_, h, fun k hk => by rw [List.getElem?_replicate, if_pos hk]; rfl⟩⟩
def lstN (P : Nat) (F : Nat → Nat) : List Int := (List.range P).map fun k => ((F k : Nat) : Int)
theorem lstN_len {P : Nat} {F : Nat → Nat} : (lstN P F).length = P := by simp [lstN]
theorem lstN_get {P k : Nat} {F : Nat → Nat} (h : k < P) : (lstN P F).getD k 0 = ((F k : Nat) : Int) := by
  simp [lstN, List.getD_eq_getElem?_getD, List.getElem?_range h]
theorem Vec.is {w : World} {b P : Nat} {F : Nat → Nat} (h : Vec w b P F) (hP : P ≤ maxLen) : Ints.Is w (some ⟨b, 0, none⟩) P (lstN P F) where
  len := lstN_len
  cells := fun i hi => ⟨b, 0, rfl, h.lt, by rw [Nat.zero_add]; dsimp only; rw [lstN_get hi]; exact h.cell hi⟩
  le := hP

/-- A gas's cells, coins. -/
def cN (zs : List Int) (k : Nat) : Nat := (zs.getD k 0).toNat
def coinN (cs : List Int) (N s k : Nat) : Nat := if cs.length = 0 then 0 else (cs.getD ((s * N + k) % cs.length) 0).toNat
theorem gfault_zero {K W H : Int} {zs : List Int} (h : gfault K W H zs = 0) : sidesOk K W H ∧ ¬ shapeBad K W H zs.length ∧ zs.any (gbad K) = false := by
  unfold gfault at h
  split at h
  · cases h
  · rename_i h1
    split at h
    · cases h
    · rename_i h2
      split at h
      · cases h
      · rename_i h3
        exact ⟨Decidable.of_not_not h1, h2, Bool.eq_false_iff.2 h3⟩
theorem cell_rng {K W H : Nat} {zs : List Int} (ho : Ok K W H) (h : zs.any (gbad (K : Int)) = false) (k : Nat) : 0 ≤ zs.getD k 0 ∧ cN zs k < 2 ^ K := by
  have hp : 0 < 2 ^ K := Nat.two_pow_pos K
  unfold cN
  rcases Nat.lt_or_ge k zs.length with hk | hk
  · rw [List.any_eq_false] at h
    have h1 := h _ (int_mem hk)
    unfold gbad at h1
    have h2 : ¬ (zs.getD k 0 < 0 ∨ top K ≤ zs.getD k 0) := fun x => h1 (decide_eq_true x)
    refine ⟨by omega, ?_⟩
    rcases ho.k with rfl | ⟨rfl, _⟩
    · have : top (4 : Nat) = 16 := rfl
      rw [this] at h2
      show _ < 16
      omega
    · have : top (6 : Nat) = 64 := rfl
      rw [this] at h2
      show _ < 64
      omega
  · rw [List.getD_eq_getElem?_getD, List.getElem?_eq_none hk]
    exact ⟨Int.le_refl 0, hp⟩
theorem ok_of {K W H : Nat} {n : Nat} (h : sidesOk K W H) (h2 : ¬ shapeBad K W H n) : Ok K W H ∧ n = W * H ∧ W ≤ 100 ∧ H ≤ 100 := by
  obtain ⟨hk, h3, h4, h5, h6⟩ := h
  unfold shapeBad at h2
  have hn : (n : Int) = (W : Int) * (H : Int) := by omega
  have hn2 : n = W * H := by
    have : ((W * H : Nat) : Int) = (W : Int) * (H : Int) := by push_cast; rfl
    omega
  refine ⟨⟨by omega, by omega, ?_⟩, hn2, by omega, by omega⟩
  rcases hk with hk | hk
  · left; omega
  · right; exact ⟨by omega, by omega⟩
/-- What is wrong with a run. -/
def rfault (K W H : Int) (zs cs : List Int) (n : Int) : Int :=
  if gfault K W H zs ≠ 0 then gfault K W H zs else if n < 0 ∨ 100000 < n ∨ cs.any coinbad = true then 1 else if K = 6 ∧ cs.length = 0 then 3 else 0
theorem rfault_zero {K W H : Int} {zs cs : List Int} {n : Int} (h : rfault K W H zs cs n = 0) : gfault K W H zs = 0 ∧ 0 ≤ n ∧ n ≤ 100000 ∧ cs.any coinbad = false ∧ ¬ (K = 6 ∧ cs.length = 0) := by
  unfold rfault at h
  split at h
  · rename_i h1; exact absurd h h1
  · rename_i h1
    split at h
    · cases h
    · rename_i h2
      split at h
      · cases h
      · rename_i h3
        refine ⟨Decidable.of_not_not h1, by omega, by omega, ?_, h3⟩
        cases hc : cs.any coinbad
        · rfl
        · exact absurd (.inr (.inr hc)) h2
theorem coin_rng {cs : List Int} (h : cs.any coinbad = false) (k : Nat) : cs.getD k 0 = 0 ∨ cs.getD k 0 = 1 := by
  rcases Nat.lt_or_ge k cs.length with hk | hk
  · rw [List.any_eq_false] at h
    have h1 := h _ (int_mem hk)
    unfold coinbad at h1
    have h2 : ¬ (cs.getD k 0 ≠ 0 ∧ cs.getD k 0 ≠ 1) := fun x => h1 (decide_eq_true x)
    omega
  · rw [List.getD_eq_getElem?_getD, List.getElem?_eq_none hk]
    exact .inl rfl
theorem coinN_lt {cs : List Int} (h : cs.any coinbad = false) (N s k : Nat) : coinN cs N s k < 2 := by
  unfold coinN
  split
  · omega
  · have := coin_rng h ((s * N + k) % cs.length)
    omega

theorem infoInt1 : (Tryd.prog.info? 3).map (fun i => (i.zero, i.size, i.bytes)) = some (some (.int .i64 0), 1, 8) := by kernel_rfl
theorem infoGas : (Tryd.prog.info? 24).map (·.size) = some 4 := by kernel_rfl
theorem Is.get {w : World} {x : Addr} {n : Nat} {zs : List Int} (h : Ints.Is w (some x) n zs) {j : Nat} (hj : j < n) : w.cell? (x.add j) = some (.int .i64 (zs.getD j 0)) := by
  obtain ⟨b, off, e, _, hc⟩ := h.cells j hj
  cases e
  rw [Addr.add_mid]
  exact hc
set_option maxHeartbeats 2000000 in
set_option maxRecDepth 100000 in
/-- slices.Clone: the same numbers, in memory of the call's own. -/
theorem clone_any (x : Addr) (n c : Nat) (F : Nat → Nat) (zs : List Int) (w : World) (hn : 1 ≤ n) (hs : n ≤ 1000000) (hZ : Ints.Is w (some x) n zs) (hF : ∀ k, k < n → zs.getD k 0 = (F k : Nat)) :
    Calls Tryd.prog 20 #[.slice (some x) n c] w fun e w' => (∃ g c', e = .returned (.slice (some ⟨g, 0, none⟩) n c') ∧ w.heap.size ≤ g ∧ Vec w' g n F) ∧ Below w.heap.size w w' := by
  have qT : ∀ (w : World) (a : Option Addr) (n c n' c' : Nat), (binOp .eql 22 (.slice a n c) (.slice none n' c')).run Tryd.prog w = .ok (.bool a.isNone) w := fun w a n c n' c' => Lib.run_eql_slice_nil w _ _ a n c n' c' Tryd.underlying22
  obtain ⟨i0, hI0, hz0, hz1, hz2⟩ := info_parts infoInt1
  have HZ := Lib.hid hZ
  have HL := Lib.hid hZ.len
  have HF := Lib.hid hF
  clear hZ hF
  go_enter Tryd.func20, Tryd.ntmps20
  go_wp2_with (at_builtin; refine wpList_append_own _ rfl _ _ 22 rfl w.heap.size 3 i0 (.int .i64 0) 1 8 Tryd.underlying22 hI0 hz0 hz1 hz2 rfl (by decide) _ _ _ rfl (World.ownsRow_made w #[] 0 (Nat.le_refl _) (Nat.zero_le _) rfl) x n c (zs.map (Value.int .i64)) rfl ?qc1 ?qc2 ?qc3 ?qc4 ?qc5 ?qc6 ?_)
  case qc1 => simp [HL.out]
  case qc2 =>
    intro j u hj
    have hjn : j < n := by
      have := (List.getElem?_eq_some_iff.1 hj).1
      rw [List.length_map, HL.out] at this
      exact this
    have h1 := Is.get HZ.out hjn
    refine Lib.cell?_alloc_some _ ?_
    rw [h1]
    have e : (zs.map (Value.int .i64))[j]? = some (Value.int .i64 (zs.getD j 0)) := by simp [List.getD_eq_getElem?_getD, List.getElem?_eq_getElem (show j < zs.length from by rw [HL.out]; exact hjn)]
    rw [e] at hj
    exact hj
  case qc3 => intro u hu; obtain ⟨x, _, rfl⟩ := List.mem_map.1 hu; rfl
  case qc4 => unfold maxLen; omega
  case qc5 => omega
  case qc6 => simp
  intro v' w1 hown hgrow hnil'
  go_wp2
  go_ret
  have hb : Below w.heap.size w w1 := ((Below.refl _ w).alloc (Nat.le_refl _) _).grown hgrow (by simp) (by intro k hk; simp [Value.ownBlock] at hk; omega)
  refine ⟨?_, hb⟩
  rcases hown.2 with ⟨hv, h0⟩ | ⟨g, cap, cur, hv, hB, hg, hnc, hcm, hcs, ht⟩
  · omega
  · refine ⟨g, cap, congrArg Ending.returned hv, hB, ⟨⟨cur.toList, ?_, fun k hk => ?_⟩⟩⟩
    · unfold Row; simpa using hg
    · have h3 : (cur.toList.take (n * 1))[k]? = (zs.map (Value.int .i64))[k]? := by rw [ht]
      rw [List.getElem?_take_of_lt (by omega)] at h3
      rw [h3, List.getElem?_map, List.getElem?_eq_getElem (by rw [HL.out]; exact hk), ← HF.out k hk, List.getD_eq_getElem?_getD, List.getElem?_eq_getElem (by rw [HL.out]; exact hk)]
      rfl
theorem two_new (w : World) (T U : TypeId) (c1 c2 : List Value) : Row ((w.alloc (.cells c1.toArray T)).alloc (.cells c2.toArray U)) w.heap.size T c1 ∧ Row ((w.alloc (.cells c1.toArray T)).alloc (.cells c2.toArray U)) (w.heap.size + 1) U c2 ∧ Below w.heap.size w ((w.alloc (.cells c1.toArray T)).alloc (.cells c2.toArray U)) := by
  refine ⟨?_, ?_, ((Below.refl _ _).alloc (Nat.le_refl _) _).alloc (by simp) _⟩
  · exact (row_alloc w T c1).keep ((Below.refl _ _).alloc (Nat.le_refl _) (.cells c2.toArray U)) (by simp)
  · have := row_alloc (w.alloc (.cells c1.toArray T)) U c2
    rwa [World.size_alloc] at this
theorem row_range {w : World} {b : Nat} {T : TypeId} {cs : List Value} (h : Row w b T cs) : w.rangeAt b 0 cs := fun j v hv => by
  rw [Nat.zero_add, h.cell, hv]
theorem boxG_one (K W H : Int) (a : Option Addr) (n c : Nat) : ∀ v ∈ boxG K W H a n c, v.oneCell' = true := by simp [boxG, Value.oneCell']
def noGas : List Value := [.int .i64 0, .int .i64 0, .int .i64 0, .slice none 0 0]
theorem noGas_one : ∀ v ∈ noGas, v.oneCell' = true := by simp [noGas, Value.oneCell']
/-- A function whose results are a gas in a cell and an error. -/
theorem results_gas {fn : Func} {t u : Tmp} (hr : fn.results = #[.cell t 24, .tmp u]) (tmps : Array Value) (w : World) {q : Nat} {V : List Value} {e : Value} (h : Row w q 24 V) (hV : V.length = 4) (h8 : tmps.getD t undef = .pointer (some ⟨q, 0, none⟩)) (h9 : tmps.getD u undef = e) :
    (results fn tmps).run Tryd.prog w = .ok (.tuple #[.agg V.toArray, e]) w := by
  have hl := run_loadVar_row (P := Tryd.prog) w q 24 24 V.toArray (0, 0) _ h Tryd.underlying24 rfl (by rw [List.size_toArray, hV]; exact infoGas)
  have h8' : tmps[t]?.getD undef = .pointer (some ⟨q, 0, none⟩) := by simpa using h8
  have h9' : tmps[u]?.getD undef = e := by simpa using h9
  simp [results, hr, h8', h9', asAddr, hl]
/-- Bits by the machine's words. -/
theorem and_fin : ∀ d : Nat, d < 6 → ∀ m : Nat, m < 64 → bits .and .i64 ((m : Int) / 2 ^ d) 1 = ((bit m d : Nat) : Int) := by decide +kernel
theorem or_fin : ∀ d : Nat, d < 6 → ∀ m : Nat, m < 64 → bit m d = 0 → bits .or .i64 (m : Int) (2 ^ d : Int) = ((m + 2 ^ d : Nat) : Int) := by decide +kernel
theorem pow_fin : ∀ d : Nat, d < 6 → wrap64 (2 ^ d : Int) = (2 ^ d : Int) := by decide +kernel
theorem pow_fin2 : ∀ d : Nat, d < 6 → IntKind.i64.wrap (2 ^ d : Int) = (2 ^ d : Int) := by decide +kernel
theorem pow_lt {K W H x : Nat} (h : Ok K W H) (hx : x < 2 ^ K) : x < 64 := by
  rcases h.k with rfl | ⟨rfl, _⟩
  · have : (2 : Nat) ^ 4 = 16 := rfl
    omega
  · have : (2 : Nat) ^ 6 = 64 := rfl
    omega
theorem outS_skip {K W H : Nat} {r f : Nat → Nat} {k d : Nat} (h : Ok K W H) (hr : Ord K r) (hk : k < W * H) (hd : d < K) (hb : bit (f k) d = 0) {j : Nat} (hj : j < W * H) : outS K W H r f k (d + 1) j = outS K W H r f k d j := by
  by_cases e : j = nxt K W H k (r d)
  · rw [e, outS_at h hr hk hd, hb]; simp
  · exact outS_else h hr hk hj hd e
theorem outS_hit {K W H : Nat} {r f : Nat → Nat} {k d : Nat} (h : Ok K W H) (hr : Ord K r) (hk : k < W * H) (hd : d < K) (hb : bit (f k) d = 1) : outS K W H r f k (d + 1) (nxt K W H k (r d)) = outS K W H r f k d (nxt K W H k (r d)) + 2 ^ r d := by
  rw [outS_at h hr hk hd, hb, Nat.one_mul]
end Gs
end Go.Proofs.YtekoldebcihdoaaDoor
