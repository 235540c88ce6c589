/- Several texts laid together: PrN Pc PrH1 PrH2 PrH3 PrH. -/
import Derived.Test.YtgagophijmiceaaDoorPrPl
import Derived.Test.YtgagophijmiceaaDoorRdN
import Derived.WalkKit
import Derived.Test.YtgagophijmiceaaDoorPwRuns
import Derived.Test.YtgagophijmiceaaDoorPnO
/- TEXTS AS PATTERNS, plain: numbers cut at ten millions, how far a word stands, the head side by side. -/
namespace Go.Proofs.YtgagophijmiceaaDoor
set_option linter.unusedSimpArgs false
set_option linter.unusedVariables false
namespace Pr
open Rd

def mst (a : Int) (b : UInt8) : Int := min (a * 10 + ((b.toNat : Int) - 48)) 10000000
def macc (ds : List UInt8) : Int := ds.foldl mst 0
theorem macc_next {ds : List UInt8} {j : Nat} (h : j < ds.length) : macc (ds.take (j + 1)) = mst (macc (ds.take j)) (ds.getD j 0) := by
  unfold macc
  rw [List.take_succ_eq_append_getElem h, List.foldl_append, List.getD_eq_getElem?_getD, List.getElem?_eq_getElem h]
  rfl
theorem dig_num {b : UInt8} (h : digB b = true) : 48 ≤ b.toNat ∧ b.toNat ≤ 57 := by
  unfold digB at h
  exact of_decide_eq_true h
theorem mst_b {a : Int} {b : UInt8} (h : digB b = true) (h0 : 0 ≤ a) : 0 ≤ mst a b ∧ mst a b ≤ 10000000 := by
  have := dig_num h
  unfold mst
  omega
theorem macc_ge : ∀ (ds : List UInt8) (a : Int), (∀ b ∈ ds, digB b = true) → 0 ≤ a → a ≤ 10000000 → 0 ≤ ds.foldl mst a ∧ ds.foldl mst a ≤ 10000000
  | [], a, _, h0, h1 => ⟨h0, h1⟩
  | b :: ds, a, hd, h0, h1 => by
    have h := mst_b (hd b List.mem_cons_self) h0
    exact macc_ge ds _ (fun x hx => hd x (List.mem_cons_of_mem _ hx)) h.1 h.2
theorem macc_b {ds : List UInt8} (h : ∀ b ∈ ds, digB b = true) (j : Nat) : 0 ≤ macc (ds.take j) ∧ macc (ds.take j) ≤ 10000000 := macc_ge _ 0 (fun b hb => h b (List.mem_of_mem_take hb)) (by omega) (by omega)
theorem fold_same : ∀ (ds : List UInt8) (M : Nat) (a : Int), (∀ b ∈ ds, digB b = true) → 0 ≤ a → a < (M : Int) → M * 10 ^ ds.length ≤ 1000000 → ds.foldl mst a = ds.foldl val1 a
  | [], _, _, _, _, _, _ => rfl
  | b :: ds, M, a, hd, h0, h1, hM => by
    have hb := dig_num (hd b List.mem_cons_self)
    rw [List.length_cons, Nat.pow_succ, Nat.mul_comm _ 10, ← Nat.mul_assoc] at hM
    have hp : M * 10 ≤ M * 10 * 10 ^ ds.length := Nat.le_mul_of_pos_right _ (Nat.pow_pos (by decide))
    have e : mst a b = val1 a b := by
      unfold mst val1
      rw [if_pos (by omega)]
      omega
    rw [List.foldl_cons, List.foldl_cons, e]
    have hv : val1 a b = a * 10 + (b.toNat : Int) - 48 := by unfold val1; rw [if_pos (by omega)]
    exact fold_same ds (M * 10) _ (fun x hx => hd x (List.mem_cons_of_mem _ hx)) (by rw [hv]; omega) (by rw [hv]; push_cast; omega) hM
theorem macc_val {ds : List UInt8} (h : ∀ b ∈ ds, digB b = true) (hl : ds.length ≤ 6) : macc ds = val ds :=
  fold_same ds 1 0 h (by omega) (by decide) (by rw [Nat.one_mul]; exact Nat.le_trans (Nat.pow_le_pow_right (by decide) hl) (by decide))
theorem dgs_digs (s : ByteArray) (i : Nat) : dgs s.data.toList i = digs s i := rfl
theorem numv_num (ds : List UInt8) : numv ds = num ds := rfl

/-- So far a word stands there. -/
def Mt (l ws : List UInt8) (i k : Nat) : Prop := ∀ j, j < k → i + j < l.length ∧ l.getD (i + j) 0 = ws.getD j 0
theorem far_hit {l ws : List UInt8} {i : Nat} : ∀ k, Mt l ws i k → far l ws i k = k
  | 0, _ => rfl
  | k + 1, h => by
    unfold far
    rw [if_pos ⟨far_hit k (fun j hj => h j (by omega)), h k (by omega)⟩]
theorem far_miss {l ws : List UInt8} {i k : Nat} (hm : Mt l ws i k) (hn : ¬ (i + k < l.length ∧ l.getD (i + k) 0 = ws.getD k 0)) : ∀ n, k < n → far l ws i n = k
  | 0, h => absurd h (Nat.not_lt_zero _)
  | n + 1, h => by
    unfold far
    by_cases hk : k = n
    · subst hk
      rw [if_neg (fun x => hn x.2)]
      exact far_hit k hm
    · rw [far_miss hm hn n (by omega), if_neg (fun x => by omega)]
theorem word_hit {l ws : List UInt8} {i : Nat} {K : Nat → Hd} (h : Mt l ws i ws.length) : word l ws i K = K (i + ws.length) := by
  unfold word
  rw [far_hit _ h, if_neg (Nat.lt_irrefl _)]
theorem word_miss {l ws : List UInt8} {i k : Nat} {K : Nat → Hd} (hk : k < ws.length) (hm : Mt l ws i k) (hn : ¬ (i + k < l.length ∧ l.getD (i + k) 0 = ws.getD k 0)) : word l ws i K = .bad (i + k) 2 := by
  unfold word
  rw [far_miss hm hn _ hk, if_pos hk]
/-- What is left of the head. -/
def rest2 (l : List UInt8) (W H i : Nat) : Hd := word l w3 i fun i => .ok W H i
def rest1 (l : List UInt8) (W i : Nat) : Hd := word l w2 i fun i => side l i (dgs l i) fun H i => rest2 l W H i
theorem head_rest (l : List UInt8) : head l = word l w1 0 fun i => side l i (dgs l i) fun W i => rest1 l W i := rfl
theorem side_no {l : List UInt8} {i : Nat} {ds : List UInt8} {K : Nat → Nat → Hd} (h : numv ds < 0 ∨ 6 < ds.length) : side l i ds K = .bad i 2 := by
  unfold side
  rw [if_pos h]
theorem side_far {l : List UInt8} {i : Nat} {ds : List UInt8} {K : Nat → Nat → Hd} (h : ¬ (numv ds < 0 ∨ 6 < ds.length)) (h2 : 100 < numv ds) : side l i ds K = .bad i 1 := by
  unfold side
  rw [if_neg h, if_pos h2]
theorem side_ok {l : List UInt8} {i : Nat} {ds : List UInt8} {K : Nat → Nat → Hd} {v : Nat} (h : ¬ (numv ds < 0 ∨ 6 < ds.length)) (h2 : ¬ 100 < numv ds) (hv : numv ds = v) : side l i ds K = K v (i + ds.length) := by
  unfold side
  rw [if_neg h, if_neg h2, hv]
  rfl
theorem numv_nil : numv [] = -1 := rfl
theorem numv_zero {ds : List UInt8} {b : UInt8} (h : ds.head? = some b) (hb : b = 48) (hl : 1 < ds.length) : numv ds = -1 := by
  unfold numv goodN
  rw [if_neg]
  rw [decide_eq_true_iff]
  rintro ⟨_, hh⟩
  exact hh ⟨by rw [h, hb], hl⟩
theorem numv_val {ds : List UInt8} {b : UInt8} (h : ds.head? = some b) (hg : b ≠ 48 ∨ ds.length ≤ 1) : numv ds = val ds := by
  unfold numv goodN
  rw [if_pos]
  rw [decide_eq_true_iff]
  refine ⟨fun e => (by rw [e] at h; cases h), fun hh => ?_⟩
  rw [h] at hh
  rcases hg with hg | hg
  · exact hg (Option.some.inj hh.1)
  · omega
/-- A text's head, as the program hands it on. -/
def HdP (l : List UInt8) (e : Ending) : Prop := match head l with
  | .bad p ev => ∃ A B : Int, e = .returned (.tuple #[.agg #[.int .i64 A, .int .i64 B, .slice none 0 0], .int .i64 0, .agg #[.int .i64 (p : Nat), .iface 59 (.int .i64 ev)]])
  | .ok W H i => e = .returned (.tuple #[.agg #[.int .i64 (W : Nat), .int .i64 (H : Nat), .slice none 0 0], .int .i64 (i : Nat), .agg #[.int .i64 0, .nilIface]])
theorem hdP_bad {l : List UInt8} {p : Nat} {ev A B : Int} (h : head l = .bad p ev) : HdP l (.returned (.tuple #[.agg #[.int .i64 A, .int .i64 B, .slice none 0 0], .int .i64 0, .agg #[.int .i64 (p : Nat), .iface 59 (.int .i64 ev)]])) := by
  unfold HdP
  rw [h]
  exact ⟨A, B, rfl⟩
theorem hdP_ok {l : List UInt8} {W H i : Nat} (h : head l = .ok W H i) : HdP l (.returned (.tuple #[.agg #[.int .i64 (W : Nat), .int .i64 (H : Nat), .slice none 0 0], .int .i64 (i : Nat), .agg #[.int .i64 0, .nilIface]])) := by
  unfold HdP
  rw [h]
end Pr
end Go.Proofs.YtgagophijmiceaaDoor

/- PIECES of a function's code, found by their regions' numbers: a great walk in several theorems. -/
namespace Go.Proofs.YtgagophijmiceaaDoor
set_option linter.unusedSimpArgs false
set_option linter.unusedVariables false
namespace Pc
/-- The code from region n on, in the sequence in which it stands. -/
def frm (n : Nat) : Code → Option Code
  | .seq (.region i o d) b => match i == n with
    | true => some (.seq (.region i o d) b)
    | false => frm n b
  | .seq a b => match frm n a with
    | some c => some c
    | none => frm n b
  | .block _ c => frm n c
  | .scope c => frm n c
  | .loop c => frm n c
  | .cond _ a b => match frm n a with
    | some c => some c
    | none => frm n b
  | _ => none
/-- Block n, whole. -/
def blk (n : Nat) : Code → Option Code
  | .block i c => match i == n with
    | true => some (.block i c)
    | false => blk n c
  | .seq a b => match blk n a with
    | some c => some c
    | none => blk n b
  | .scope c => blk n c
  | .loop c => blk n c
  | .cond _ a b => match blk n a with
    | some c => some c
    | none => blk n b
  | _ => none
end Pc
end Go.Proofs.YtgagophijmiceaaDoor

/- WALK, PIECES: pattern.header: a word. -/
namespace Go.Proofs.YtgagophijmiceaaDoor
set_option linter.unusedSimpArgs false
set_option linter.unusedVariables false
open Go.RowKit
namespace Pr
open Tld Mem Bl Pn Pw Rd

theorem set_same {l : List Value} {t : Nat} {v : Value} (h : l[t]? = some v) : l.set t v = l := by
  apply List.ext_getElem?
  intro j
  by_cases hj : t = j
  · subst hj
    rw [List.getElem?_set_self (List.getElem?_eq_some_iff.1 h).1, h]
  · rw [List.getElem?_set_ne hj]
theorem u8_in {z : Int} (h0 : 0 ≤ z) (h1 : z < 256) : IntKind.u8.wrap z = z := by
  simp [IntKind.wrap, IntKind.signed, IntKind.bits]
  omega
theorem wr_big {z : Int} (h0 : -1000000000000 ≤ z) (h1 : z ≤ 1000000000000) : wrap64 z = z := by unfold wrap64; omega
theorem infoStop : (Tryd.prog.info? 72).map (·.size) = some 2 := by kernel_rfl
theorem infoPart : (Tryd.prog.info? 104).map (·.size) = some 2 := by kernel_rfl
def stp (p : Int) (e : Value) : List Value := [.int .i64 p, e]
theorem stp_one (p n : Int) : ∀ v ∈ stp p (.iface 59 (.int .i64 n)), v.oneCell' = true := by simp [stp, Value.oneCell']
theorem stp_one0 (p : Int) : ∀ v ∈ stp p .nilIface, v.oneCell' = true := by simp [stp, Value.oneCell']
def prt (ws : ByteArray) (b t : Nat) : List Value := [.string ws, .pointer (some ⟨b, t, none⟩)]
theorem prt_one (ws : ByteArray) (b t : Nat) : ∀ v ∈ prt ws b t, v.oneCell' = true := by simp [prt, Value.oneCell']
def noPrt : List Value := [.string ⟨#[]⟩, .pointer none]
theorem results_hd {fn : Func} {t u z : Tmp} (hr : fn.results = #[.cell t 35, .tmp u, .cell z 72]) (tmps : Array Value) (w : World) {q r : Nat} {V Z : List Value} {e : Value} (h : Row w q 35 V) (hV : V.length = 3) (k : Row w r 72 Z) (hZ : Z.length = 2) (h8 : tmps.getD t undef = .pointer (some ⟨q, 0, none⟩)) (h9 : tmps.getD u undef = e) (h10 : tmps.getD z undef = .pointer (some ⟨r, 0, none⟩)) :
    (results fn tmps).run Tryd.prog w = .ok (.tuple #[.agg V.toArray, e, .agg Z.toArray]) w := by
  have hl := run_loadVar_row (P := Tryd.prog) w q 35 35 V.toArray (0, 0) _ h Tryd.underlying35 rfl (by rw [List.size_toArray, hV]; exact infoPat)
  have hl2 := run_loadVar_row (P := Tryd.prog) w r 72 72 Z.toArray (0, 0) _ k Tryd.underlying72 rfl (by rw [List.size_toArray, hZ]; exact infoStop)
  have h8' : tmps[t]?.getD undef = .pointer (some ⟨q, 0, none⟩) := by simpa using h8
  have h9' : tmps[u]?.getD undef = e := by simpa using h9
  have h10' : tmps[z]?.getD undef = .pointer (some ⟨r, 0, none⟩) := by simpa using h10
  simp [results, hr, h8', h9', h10', asAddr, hl, hl2]

set_option maxHeartbeats 8000000 in
set_option maxRecDepth 1000000 in
theorem hd_word (w0 w : World) (s : ByteArray) (pb sb tb t : Nat) (pl : List Value) (hs : s.size ≤ 40000) (hP : Row w pb 35 pl) (hpl : pl.length = 3) (hp1 : ∀ v ∈ pl, v.oneCell' = true) (hS : Row w sb 72 (stp 0 .nilIface)) (hne : w0.heap.size ≤ pb ∧ sb ≠ pb ∧ w0.heap.size ≤ sb) (hb : Below w0.heap.size w0 w) (wb : ByteArray) (ws : List UInt8) (n i : Nat) (hwb : wb.data.toList = ws) (hn : n = wb.size) (hn2 : n ≤ 10) (hi : i ≤ s.size) (hT : Row w tb 104 (prt wb pb t))
    (c1 c3 c6 c8 c9 c10 c11 c12 c13 c14 c15 c16 c17 c18 c19 c20 c21 c24 c25 c26 c27 c28 c29 c30 c31 c32 c33 c34 c35 c36 c37 c38 c39 c40 c41 c42 c43 c44 c45 c46 c47 c48 c49 c50 c51 c52 c53 c54 c55 c56 c57 c58 c59 c60 c61 c62 c63 c64 c65 c66 c67 c68 c69 c70 c71 c72 c73 c74 c75 c76 c77 c78 c79 c80 c81 c82 c83 c84 c85 c86 c87 c88 c89 c90 c91 c92 c93 c94 c95 c96 c97 c98 c99 c100 c101 c102 c103 c104 c105 c106 c107 c108 c109 c110 c111 c112 c113 c114 c115 c116 c117 c118 c119 c120 c121 c122 c123 c124 c125 c126 c127 c128 c129 c130 c131 c132 c133 c134 c135 c136 c137 c138 c139 : Value) (Q : Exit → Act → World → Prop)
    (hnext : ∀ {u3 u8 u23 u24 u25 u26 u27 u28 u29 u30 u31 u32 u33 u34 u35 u36 u37 u38 u39 u40 u41 u42 u43 u44 u45 u46 : Value} {w' : World}, Mt s.data.toList ws i n → (∃ q, w' = World.drewN w q) → Q .normal ⟨#[.string s, c1, .pointer (some ⟨pb, 0, none⟩), u3, .pointer (some ⟨sb, 0, none⟩), .int .i64 ((i + n : Nat) : Int), c6, .pointer (some ⟨tb, 0, none⟩), u8, c9, c10, c11, c12, c13, c14, c15, c16, c17, c18, c19, c20, c21, .int .i64 ((n : Nat) : Int), u23, u24, u25, u26, u27, u28, u29, u30, u31, u32, u33, u34, u35, u36, u37, u38, u39, u40, u41, u42, u43, u44, u45, u46, c47, c48, c49, c50, c51, c52, c53, c54, c55, c56, c57, c58, c59, c60, c61, c62, c63, c64, c65, c66, c67, c68, c69, c70, c71, c72, c73, c74, c75, c76, c77, c78, c79, c80, c81, c82, c83, c84, c85, c86, c87, c88, c89, c90, c91, c92, c93, c94, c95, c96, c97, c98, c99, c100, c101, c102, c103, c104, c105, c106, c107, c108, c109, c110, c111, c112, c113, c114, c115, c116, c117, c118, c119, c120, c121, c122, c123, c124, c125, c126, c127, c128, c129, c130, c131, c132, c133, c134, c135, c136, c137, c138, c139], []⟩ w')
    (hret : ∀ (a' : Act) (w' : World) (v : Value), (results Tryd.f36 a'.tmps).run Tryd.prog w' = .ok v w' → a'.defers = [] → (∃ k, k < n ∧ Mt s.data.toList ws i k ∧ ¬ (i + k < s.data.toList.length ∧ s.data.toList.getD (i + k) 0 = ws.getD k 0) ∧ v = .tuple #[.agg pl.toArray, .int .i64 (0), .agg #[.int .i64 ((i + k : Nat) : Int), .iface 59 (.int .i64 2)]]) → Below w0.heap.size w0 w' → Q .ret a' w')
    : Code.wp Tryd.prog ((Pc.blk 2 (Tryd.f36.body.getD .skip)).getD .skip) Q ⟨#[.string s, c1, .pointer (some ⟨pb, 0, none⟩), c3, .pointer (some ⟨sb, 0, none⟩), .int .i64 ((i : Nat) : Int), c6, .pointer (some ⟨tb, 0, none⟩), c8, c9, c10, c11, c12, c13, c14, c15, c16, c17, c18, c19, c20, c21, .int .i64 ((n : Nat) : Int), .int .i64 0, c24, c25, c26, c27, c28, c29, c30, c31, c32, c33, c34, c35, c36, c37, c38, c39, c40, c41, c42, c43, c44, c45, c46, c47, c48, c49, c50, c51, c52, c53, c54, c55, c56, c57, c58, c59, c60, c61, c62, c63, c64, c65, c66, c67, c68, c69, c70, c71, c72, c73, c74, c75, c76, c77, c78, c79, c80, c81, c82, c83, c84, c85, c86, c87, c88, c89, c90, c91, c92, c93, c94, c95, c96, c97, c98, c99, c100, c101, c102, c103, c104, c105, c106, c107, c108, c109, c110, c111, c112, c113, c114, c115, c116, c117, c118, c119, c120, c121, c122, c123, c124, c125, c126, c127, c128, c129, c130, c131, c132, c133, c134, c135, c136, c137, c138, c139], []⟩ w := by
  conv => arg 2; whnf
  have HSZ := Lib.hid hs
  have HP := Lib.hid hP
  have HPL := Lib.hid hpl
  have HP3 : Hid ((Tryd.prog.info? 35).map (·.size) = some pl.length) := Lib.hid (by rw [hpl]; exact infoPat)
  have HP1 := Lib.hid hp1
  have HS := Lib.hid hS
  have HNE := Lib.hid hne
  have HB := Lib.hid hb
  clear hs hP hpl hp1 hS hne hb
  have HT := Lib.hid hT
  have HI := Lib.hid hi
  have HN := Lib.hid hn
  have HN2 := Lib.hid hn2
  have HW := Lib.hid hwb
  clear hT hi hn hn2 hwb
  go_wp2_with fail
  go_loopw [5, 23] (fun v5 v23 wx => ∃ k q : Nat, k ≤ n ∧ v23 = .int .i64 ((k : Nat) : Int) ∧ v5 = .int .i64 ((i + k : Nat) : Int) ∧ Mt s.data.toList ws i k ∧ wx = World.drewN w q) (fun _ v _ => 100 - (RowKit.intOf v).toNat)
  case atStart => exact ⟨0, 0, Nat.zero_le _, rfl, rfl, fun j hj => absurd hj (Nat.not_lt_zero _), rfl⟩
  case round =>
    obtain ⟨k, q, hk, rfl, rfl, hmt, rfl⟩ := hrel
    have HMT := Lib.hid hmt
    have hdn : Below w.heap.size w (World.drewN w q) := below_dn (Below.refl _ _) q
    have HP := Lib.hid (HP.out.keep hdn HP.out.lt)
    have HS := Lib.hid (HS.out.keep hdn HS.out.lt)
    have HT := Lib.hid (HT.out.keep hdn HT.out.lt)
    have HB := Lib.hid (HB.out.trans (hdn.mono HB.out.size))
    clear hmt hdn
    generalize hwk : World.drewN w q = wk at *
    obtain ⟨z, hz⟩ : ∃ z, z = i + k := ⟨_, rfl⟩
    rw [← hz]
    have HZE := Lib.hid hz
    by_cases hkn0 : k < n
    · have hkn : (k : Int) < (n : Int) := by omega
      have HK := Lib.hid hkn0
      have hkw : k < wb.size := by rw [← HN.out]; exact hkn0
      have hgw := get_drop wb hkw
      rw [HW.out] at hgw
      obtain ⟨y, hy⟩ : ∃ y, y = ws.getD k 0 := ⟨_, rfl⟩
      rw [← hy] at hgw
      have HY := Lib.hid hy
      have t0 := HT.out.cell 0
      unfold prt at t0
      dsimp only [List.getElem?_cons_succ, List.getElem?_cons_zero] at t0
      have E2 : Hid (wrap64 ((k : Int) + 1) = ((k + 1 : Nat) : Int)) := Lib.hid (wr_nat (by push_cast; rfl) (by have := HN2.out; omega))
      have E3 : Hid (((z + 1 : Nat) : Int) = ((i + (k + 1) : Nat) : Int)) := Lib.hid (by rw [HZE.out]; rfl)
      clear hy hk
      by_cases hzs : z < s.size
      · have hg := get_drop s hzs
        obtain ⟨x, hx⟩ : ∃ x, x = s.data.toList.getD z 0 := ⟨_, rfl⟩
        rw [← hx] at hg
        have HX := Lib.hid hx
        have hzi : ¬ (z : Int) = (s.size : Int) := by omega
        have hzb : ((z : Int) == (s.size : Int)) = false := by rw [beq_eq_false_iff_ne]; exact hzi
        have HZS := Lib.hid hzs
        have E1 : Hid (wrap64 ((z : Int) + 1) = ((z + 1 : Nat) : Int)) := Lib.hid (wr_nat (by push_cast; rfl) (by have := HSZ.out; omega))
        clear hx hz
        by_cases hxy : x = y
        · have HM2 : Hid (Mt s.data.toList ws i (k + 1)) := Lib.hid (fun j hj => by
            by_cases hjk : j < k
            · exact HMT.out j hjk
            · obtain rfl : j = k := by omega
              rw [← HZE.out, ← HX.out, ← HY.out]
              exact ⟨by rw [← Lib.size_eq]; exact HZS.out, hxy⟩)
          subst hxy
          go_upto_region 8 with fail
          go_big_quiet (fail)
          go_wp2_with fail
          go_roundw
          case rel => exact ⟨k + 1, _, HK.out, congrArg (Value.int .i64) E2.out, congrArg (Value.int .i64) (E1.out.trans E3.out), HM2.out, by rw [← hwk]; exact drewN_add _ _ _⟩
          case measure => exact meas E2.out (by have := HK.out; have := HN2.out; omega)
        · have hxb : ((x.toNat : Int) == (y.toNat : Int)) = false := by rw [beq_eq_false_iff_ne]; intro h; exact hxy (UInt8.toNat_inj.1 (by exact_mod_cast h))
          have hxi : ¬ (x.toNat : Int) = (y.toNat : Int) := by intro h; exact hxy (UInt8.toNat_inj.1 (by exact_mod_cast h))
          have HBAD : Hid (¬ (i + k < s.data.toList.length ∧ s.data.toList.getD (i + k) 0 = ws.getD k 0)) := Lib.hid (fun h => hxy (by rw [HX.out, HY.out, HZE.out]; exact h.2))
          clear hxy
          go_upto_region 8 with fail
          go_big_quiet (fail)
          go_upto_region 9 with fail
          generalize hw2 : World.drewN wk _ = wk2 at *
          have hdn : Below wk.heap.size wk wk2 := by rw [← hw2]; exact below_dn (Below.refl _ _) _
          have HP := Lib.hid (HP.out.keep hdn HP.out.lt)
          have HS := Lib.hid (HS.out.keep hdn HS.out.lt)
          have HB := Lib.hid (HB.out.trans (hdn.mono HB.out.size))
          clear hdn hw2
          have l6 := row_range HP.out
          go_wp2_with (first | (refine wpList_load_mid rfl 35 _ rfl pb 0 rfl _ _ l6 Tryd.underlying35 rfl HP3.out ?_) | (refine Ops.wpList_store_arr rfl 35 _ _ rfl pb rfl 35 pl pl rfl HP.out rfl HP3.out HP1.out ?_; intro w6 hr6 ho6) | (refine Ops.wpList_store_arr rfl 72 _ _ rfl sb rfl 72 (stp 0 .nilIface) (stp ((z : Nat) : Int) (.iface 59 (.int .i64 2))) rfl (HS.out.other ho6 HNE.out.2.1) rfl infoStop (stp_one _ _) ?_; intro w7 hr7 ho7))
          refine hret _ _ _ (results_hd (t := 2) (u := 3) (z := 4) (e := .int .i64 (0)) rfl _ _ (hr6.other ho7 (Ne.symm HNE.out.2.1)) HPL.out hr7 rfl rfl rfl rfl) rfl ?_ ((HB.out.trans (ho6.below HNE.out.1)).trans (ho7.below HNE.out.2.2))
          exact ⟨k, HK.out, HMT.out, HBAD.out, by rw [← HZE.out]; rfl⟩
      · have hzn : z = s.size := by
          have h9 := HMT.out
          clear hgw
          rcases Nat.eq_zero_or_pos k with h | h
          · have := HI.out; omega
          · have h2 := (h9 (k - 1) (by omega)).1
            rw [← Lib.size_eq] at h2
            omega
        have HBAD : Hid (¬ (i + k < s.data.toList.length ∧ s.data.toList.getD (i + k) 0 = ws.getD k 0)) := Lib.hid (fun h => by have h1 := h.1; rw [← Lib.size_eq, ← HZE.out] at h1; omega)
        clear hz hzs hgw hkw
        subst hzn
        go_upto_region 8 with fail
        go_big_quiet (fail)
        go_upto_region 9 with fail
        generalize hw2 : World.drewN wk _ = wk2 at *
        have hdn : Below wk.heap.size wk wk2 := by rw [← hw2]; exact below_dn (Below.refl _ _) _
        have HP := Lib.hid (HP.out.keep hdn HP.out.lt)
        have HS := Lib.hid (HS.out.keep hdn HS.out.lt)
        have HB := Lib.hid (HB.out.trans (hdn.mono HB.out.size))
        clear hdn hw2
        have l6 := row_range HP.out
        go_wp2_with (first | (refine wpList_load_mid rfl 35 _ rfl pb 0 rfl _ _ l6 Tryd.underlying35 rfl HP3.out ?_) | (refine Ops.wpList_store_arr rfl 35 _ _ rfl pb rfl 35 pl pl rfl HP.out rfl HP3.out HP1.out ?_; intro w6 hr6 ho6) | (refine Ops.wpList_store_arr rfl 72 _ _ rfl sb rfl 72 (stp 0 .nilIface) (stp ((s.size : Nat) : Int) (.iface 59 (.int .i64 2))) rfl (HS.out.other ho6 HNE.out.2.1) rfl infoStop (stp_one _ _) ?_; intro w7 hr7 ho7))
        refine hret _ _ _ (results_hd (t := 2) (u := 3) (z := 4) (e := .int .i64 (0)) rfl _ _ (hr6.other ho7 (Ne.symm HNE.out.2.1)) HPL.out hr7 rfl rfl rfl rfl) rfl ?_ ((HB.out.trans (ho6.below HNE.out.1)).trans (ho7.below HNE.out.2.2))
        exact ⟨k, HK.out, HMT.out, HBAD.out, by rw [← HZE.out]; rfl⟩
    · obtain rfl : k = n := by omega
      have hki : ¬ (k : Int) < (k : Int) := by omega
      have HMQ : Hid (∃ q, wk = World.drewN w q) := Lib.hid ⟨q, hwk.symm⟩
      clear hk hz hwk
      go_wp2_with fail
      obtain rfl := HZE.out
      exact hnext HMT.out HMQ.out
end Pr
end Go.Proofs.YtgagophijmiceaaDoor

/- WALK, PIECES: pattern.header: digits. -/
namespace Go.Proofs.YtgagophijmiceaaDoor
set_option linter.unusedSimpArgs false
set_option linter.unusedVariables false
open Go.RowKit
namespace Pr
open Tld Mem Bl Pn Pw Rd

set_option maxHeartbeats 8000000 in
set_option maxRecDepth 1000000 in
theorem hd_digits (w0 w : World) (s : ByteArray) (pb sb tb t : Nat) (pl : List Value) (hs : s.size ≤ 40000) (hP : Row w pb 35 pl) (hpl : pl.length = 3) (hp1 : ∀ v ∈ pl, v.oneCell' = true) (hS : Row w sb 72 (stp 0 .nilIface)) (hne : w0.heap.size ≤ pb ∧ sb ≠ pb ∧ w0.heap.size ≤ sb) (hb : Below w0.heap.size w0 w) (wb : ByteArray) (ds : List UInt8) (i1 : Nat) (hi : i1 ≤ s.size) (hds : ds = dgs s.data.toList i1) (ht3 : t < 3) (hp0 : pl[t]? = some (.int .i64 0)) (hT : Row w tb 104 (prt wb pb t)) (hnt : tb ≠ pb)
    (c1 c2 c3 c4 c6 c8 c9 c10 c11 c12 c13 c14 c15 c16 c17 c18 c19 c20 c21 c22 c23 c24 c25 c26 c27 c28 c29 c30 c31 c32 c33 c34 c35 c36 c37 c38 c39 c40 c41 c42 c43 c44 c45 c46 c47 c48 c49 c50 c51 c52 c53 c54 c55 c56 c57 c58 c59 c60 c61 c62 c63 c64 c65 c66 c67 c68 c69 c70 c71 c72 c73 c74 c75 c76 c77 c78 c79 c80 c81 c82 c83 c84 c85 c86 c87 c88 c89 c90 c91 c92 c93 c94 c95 c96 c97 c98 c99 c100 c101 c102 c103 c104 c105 c106 c107 c108 c109 c110 c111 c112 c113 c114 c115 c116 c117 c118 c119 c120 c121 c122 c123 c124 c125 c126 c127 c128 c129 c130 c131 c132 c133 c134 c135 c136 c137 c138 c139 : Value) (Q : Exit → Act → World → Prop)
    (hnext : ∀ {u48 u49 u50 u51 u52 u53 u54 u55 u56 u57 u58 u59 u60 u61 u62 u63 u64 u65 u66 u67 u68 u69 u70 u71 u72 u73 u74 u75 u76 u77 u78 u79 u80 : Value} {w' : World}, Row w' pb 35 (pl.set t (.int .i64 (macc ds))) → (∀ b T cs, b ≠ pb → Row w b T cs → Row w' b T cs) → Below w0.heap.size w0 w' → Q .normal ⟨#[.string s, c1, c2, c3, c4, .int .i64 ((i1 + ds.length : Nat) : Int), c6, .pointer (some ⟨tb, 0, none⟩), c8, c9, c10, c11, c12, c13, c14, c15, c16, c17, c18, c19, c20, c21, c22, c23, c24, c25, c26, c27, c28, c29, c30, c31, c32, c33, c34, c35, c36, c37, c38, c39, c40, c41, c42, c43, c44, c45, c46, c47, u48, u49, u50, u51, u52, u53, u54, u55, u56, u57, u58, u59, u60, u61, u62, u63, u64, u65, u66, u67, u68, u69, u70, u71, u72, u73, u74, u75, u76, u77, u78, u79, u80, c81, c82, c83, c84, c85, c86, c87, c88, c89, c90, c91, c92, c93, c94, c95, c96, c97, c98, c99, c100, c101, c102, c103, c104, c105, c106, c107, c108, c109, c110, c111, c112, c113, c114, c115, c116, c117, c118, c119, c120, c121, c122, c123, c124, c125, c126, c127, c128, c129, c130, c131, c132, c133, c134, c135, c136, c137, c138, c139], []⟩ w')
    : Code.wp Tryd.prog ((Pc.blk 4 (Tryd.f36.body.getD .skip)).getD .skip) Q ⟨#[.string s, c1, c2, c3, c4, .int .i64 ((i1 : Nat) : Int), c6, .pointer (some ⟨tb, 0, none⟩), c8, c9, c10, c11, c12, c13, c14, c15, c16, c17, c18, c19, c20, c21, c22, c23, c24, c25, c26, c27, c28, c29, c30, c31, c32, c33, c34, c35, c36, c37, c38, c39, c40, c41, c42, c43, c44, c45, c46, c47, c48, c49, c50, c51, c52, c53, c54, c55, c56, c57, c58, c59, c60, c61, c62, c63, c64, c65, c66, c67, c68, c69, c70, c71, c72, c73, c74, c75, c76, c77, c78, c79, c80, c81, c82, c83, c84, c85, c86, c87, c88, c89, c90, c91, c92, c93, c94, c95, c96, c97, c98, c99, c100, c101, c102, c103, c104, c105, c106, c107, c108, c109, c110, c111, c112, c113, c114, c115, c116, c117, c118, c119, c120, c121, c122, c123, c124, c125, c126, c127, c128, c129, c130, c131, c132, c133, c134, c135, c136, c137, c138, c139], []⟩ w := by
  conv => arg 2; whnf
  have HSZ := Lib.hid hs
  have HP := Lib.hid hP
  have HPL := Lib.hid hpl
  have HP3 : Hid ((Tryd.prog.info? 35).map (·.size) = some pl.length) := Lib.hid (by rw [hpl]; exact infoPat)
  have HP1 := Lib.hid hp1
  have HS := Lib.hid hS
  have HNE := Lib.hid hne
  have HB := Lib.hid hb
  clear hs hP hpl hp1 hS hne hb
  have HT := Lib.hid hT
  have HNT := Lib.hid hnt
  have HT3 := Lib.hid ht3
  have HALL : Hid (∀ b ∈ ds, digB b = true) := Lib.hid (by rw [hds]; exact digs_all s i1)
  have HLT : Hid (∀ j, j < ds.length → i1 + j < s.size ∧ ds.getD j 0 = s.data.toList.getD (i1 + j) 0 ∧ digB (s.data.toList.getD (i1 + j) 0) = true) := Lib.hid (by rw [hds]; exact fun j hj => digs_lt hj)
  have HEND : Hid (i1 + ds.length < s.size → digB (s.data.toList.getD (i1 + ds.length) 0) = false) := Lib.hid (by rw [hds]; exact digs_end)
  have HP0 : Hid (Row w pb 35 (pl.set t (.int .i64 0))) := Lib.hid (by
    rw [set_same hp0]
    exact HP.out)
  clear hT hnt ht3 hds hp0 hi
  go_wp2_with fail
  go_loopw [5] (fun v5 wx => ∃ j : Nat, ∃ m : Int, v5 = .int .i64 ((i1 + j : Nat) : Int) ∧ j ≤ ds.length ∧ m = macc (ds.take j) ∧ Row wx pb 35 (pl.set t (.int .i64 m)) ∧ (∀ b T cs, b ≠ pb → Row w b T cs → Row wx b T cs) ∧ Below w0.heap.size w0 wx) (fun v _ => s.size + 2 - (RowKit.intOf v).toNat)
  case atStart => exact ⟨0, 0, rfl, Nat.zero_le _, rfl, HP0.out, fun _ _ _ _ h => h, HB.out⟩
  case round =>
    clear HB HP0
    obtain ⟨j, m, rfl, hj, hm, hp, hk, hb⟩ := hrel
    have HPr := Lib.hid hp
    have HKK := Lib.hid hk
    have HB := Lib.hid hb
    have HM := Lib.hid hm
    have hmb := macc_b HALL.out j
    rw [← hm] at hmb
    have hmb1 := hmb.1
    have hmb2 := hmb.2
    clear hp hk hb hm hmb
    obtain ⟨z, hz⟩ : ∃ z, z = i1 + j := ⟨_, rfl⟩
    rw [← hz]
    have HZE := Lib.hid hz
    by_cases hjl : j < ds.length
    · have h3 := HLT.out j hjl
      rw [← hz] at h3
      have hzs := h3.1
      have hzi : (z : Int) < (s.size : Int) := by omega
      have hg := get_drop s hzs
      have hd := dig_num h3.2.2
      obtain ⟨x, hx⟩ : ∃ x, x = s.data.toList.getD z 0 := ⟨_, rfl⟩
      rw [← hx] at hg hd
      have hx1 : (48 : Int) ≤ (x.toNat : Int) := by omega
      have hx2 : (x.toNat : Int) ≤ 57 := by omega
      obtain ⟨m2, hm2⟩ : ∃ m2, m2 = mst m x := ⟨_, rfl⟩
      have HM2 : Hid (m2 = macc (ds.take (j + 1))) := Lib.hid (by rw [macc_next hjl, ← HM.out, hm2, h3.2.1, hx])
      have HJ : Hid (j + 1 ≤ ds.length) := Lib.hid hjl
      have E1 : Hid (wrap64 ((z : Int) + 1) = ((i1 + (j + 1) : Nat) : Int)) := Lib.hid (wr_nat (by rw [hz]; push_cast; omega) (by have := HSZ.out; omega))
      have hdr : Below wr.heap.size wr wr.drew := (Below.refl _ _).drew
      have HPd := Lib.hid (HPr.out.keep hdr HPr.out.lt)
      have HKd : Hid (∀ b T cs, b ≠ pb → Row w b T cs → Row wr.drew b T cs) := Lib.hid (fun b T cs hbn h => (HKK.out b T cs hbn h).keep hdr (HKK.out b T cs hbn h).lt)
      have HBd := Lib.hid (HB.out.trans (hdr.mono HB.out.size))
      have HTd := Lib.hid ((HKd.out tb 104 _ HNT.out HT.out).cell 1)
      have HMd : Hid (wr.drew.cell? ⟨pb, t, none⟩ = some (.int .i64 m)) := Lib.hid (by
        rw [HPd.out.cell t, List.getElem?_set_self (by rw [HPL.out]; exact HT3.out)])
      unfold mst at hm2
      have HMD := Lib.hid hm2
      have W1 : Hid (IntKind.i64.wrap (m * 10) = m * 10) := Lib.hid (wr_same (wr_big (by omega) (by omega)))
      have W8 : Hid (IntKind.u8.wrap ((x.toNat : Int) - 48) = (x.toNat : Int) - 48) := Lib.hid (u8_in (by omega) (by omega))
      have W2 : Hid (IntKind.i64.wrap (m * 10 + IntKind.i64.wrap ((x.toNat : Int) - 48)) = m * 10 + ((x.toNat : Int) - 48)) := Lib.hid (by rw [wr_same (wr_in (z := (x.toNat : Int) - 48) (by omega) (by omega))]; exact wr_same (wr_big (by omega) (by omega)))
      clear h3 hd hx hz hdr hjl hm2
      go_upto_region 14 with fail
      refine wp_region_noPanic ?_
      refine Rt.region_Cn (Sc2 (fun w2 => w2.cell? ⟨tb, 1, none⟩ = some (.pointer (some ⟨pb, t, none⟩)) ∧ True) (fun w2 => w2.cell? ⟨pb, t, none⟩ = some (.int .i64 m)) 15) 16 #[false, false, false, false, false, false, false, false, false, false, false, false, false, false, false, false] (by kernel_rfl) (by kernel_rfl) (by kernel_rfl) ?_
      have hS1 : ∀ o, Sc2 (fun w2 => w2.cell? ⟨tb, 1, none⟩ = some (.pointer (some ⟨pb, t, none⟩)) ∧ True) (fun w2 => w2.cell? ⟨pb, t, none⟩ = some (.int .i64 m)) 15 o wr.drew := Sc2.of ⟨HTd.out, trivial⟩ HMd.out
      refine Rt.C_take (none) (i := 0) (oi := _) (v := ?_) rfl (by kernel_rfl) (by kernel_rfl) (by kernel_rfl) (by kernel_rfl) (fun _ _ _ h => h) (Sc2.other (by decide)) (Or.inl ⟨by rfl, ?_⟩) (fun o' _ => hS1 o') ?_
      rotate_left
      · intro w2 hSw
        obtain ⟨s0, s1⟩ := hSw
        go_simp
        try with_reducible rfl
      simp only [Act.put, List.getElem_toArray, List.getElem_cons_succ, List.getElem_cons_zero, List.setIfInBounds_toArray, List.set_cons_zero, List.set_cons_succ]
      refine Rt.C_take (none) (i := 1) (oi := _) (v := ?_) rfl (by kernel_rfl) (by kernel_rfl) (by kernel_rfl) (by kernel_rfl) (fun _ _ _ h => h) (Sc2.other (by decide)) (Or.inl ⟨by rfl, ?_⟩) (fun o' _ => hS1 o') ?_
      rotate_left
      · intro w2 hSw
        obtain ⟨s0, s1⟩ := hSw
        go_simp
        try with_reducible rfl
      simp only [Act.put, List.getElem_toArray, List.getElem_cons_succ, List.getElem_cons_zero, List.setIfInBounds_toArray, List.set_cons_zero, List.set_cons_succ]
      refine Rt.C_take (none) (i := 2) (oi := _) (v := ?_) rfl (by kernel_rfl) (by kernel_rfl) (by kernel_rfl) (by kernel_rfl) (fun _ _ _ h => h) (Sc2.other (by decide)) (Or.inl ⟨by rfl, ?_⟩) (fun o' _ => hS1 o') ?_
      rotate_left
      · intro w2 hSw
        obtain ⟨s0, s1⟩ := hSw
        go_simp
        try with_reducible rfl
      simp only [Act.put, List.getElem_toArray, List.getElem_cons_succ, List.getElem_cons_zero, List.setIfInBounds_toArray, List.set_cons_zero, List.set_cons_succ]
      refine Rt.C_take (none) (i := 3) (oi := _) (v := ?_) rfl (by kernel_rfl) (by kernel_rfl) (by kernel_rfl) (by kernel_rfl) (fun _ _ _ h => h) (Sc2.other (by decide)) (Or.inl ⟨by rfl, ?_⟩) (fun o' _ => hS1 o') ?_
      rotate_left
      · intro w2 hSw
        obtain ⟨s0, s1⟩ := hSw
        go_simp
        try with_reducible rfl
      simp only [Act.put, List.getElem_toArray, List.getElem_cons_succ, List.getElem_cons_zero, List.setIfInBounds_toArray, List.set_cons_zero, List.set_cons_succ]
      refine Rt.C_take (none) (i := 4) (oi := _) (v := ?_) rfl (by kernel_rfl) (by kernel_rfl) (by kernel_rfl) (by kernel_rfl) (fun _ _ _ h => h) (Sc2.other (by decide)) (Or.inl ⟨by rfl, ?_⟩) (fun o' _ => hS1 o') ?_
      rotate_left
      · intro w2 hSw
        obtain ⟨s0, s1⟩ := hSw
        go_simp
        try with_reducible rfl
      simp only [Act.put, List.getElem_toArray, List.getElem_cons_succ, List.getElem_cons_zero, List.setIfInBounds_toArray, List.set_cons_zero, List.set_cons_succ]
      refine Rt.C_take (some 15) (i := 5) (oi := _) (v := ?_) rfl (by kernel_rfl) (by kernel_rfl) (by kernel_rfl) (by kernel_rfl) (fun _ _ _ h => h) (Sc2.other (by decide)) (Or.inl ⟨by rfl, ?_⟩) (fun o' _ => hS1 o') ?_
      rotate_left
      · intro w2 hSw
        have s0 := hSw rfl
        go_simp
        try with_reducible rfl
      simp only [Act.put, List.getElem_toArray, List.getElem_cons_succ, List.getElem_cons_zero, List.setIfInBounds_toArray, List.set_cons_zero, List.set_cons_succ]
      refine Rt.C_take (none) (i := 6) (oi := _) (v := ?_) rfl (by kernel_rfl) (by kernel_rfl) (by kernel_rfl) (by kernel_rfl) (fun _ _ _ h => h) (Sc2.other (by decide)) (Or.inl ⟨by rfl, ?_⟩) (fun o' _ => hS1 o') ?_
      rotate_left
      · intro w2 hSw
        obtain ⟨s0, s1⟩ := hSw
        go_simp
        try with_reducible rfl
      simp only [Act.put, List.getElem_toArray, List.getElem_cons_succ, List.getElem_cons_zero, List.setIfInBounds_toArray, List.set_cons_zero, List.set_cons_succ]
      refine Rt.C_take (none) (i := 7) (oi := _) (v := ?_) rfl (by kernel_rfl) (by kernel_rfl) (by kernel_rfl) (by kernel_rfl) (fun _ _ _ h => h) (Sc2.other (by decide)) (Or.inl ⟨by rfl, ?_⟩) (fun o' _ => hS1 o') ?_
      rotate_left
      · intro w2 hSw
        obtain ⟨s0, s1⟩ := hSw
        go_simp
        try with_reducible rfl
      simp only [Act.put, List.getElem_toArray, List.getElem_cons_succ, List.getElem_cons_zero, List.setIfInBounds_toArray, List.set_cons_zero, List.set_cons_succ]
      refine Rt.C_take (none) (i := 8) (oi := _) (v := ?_) rfl (by kernel_rfl) (by kernel_rfl) (by kernel_rfl) (by kernel_rfl) (fun _ _ _ h => h) (Sc2.other (by decide)) (Or.inl ⟨by rfl, ?_⟩) (fun o' _ => hS1 o') ?_
      rotate_left
      · intro w2 hSw
        obtain ⟨s0, s1⟩ := hSw
        go_simp
        try with_reducible rfl
      simp only [Act.put, List.getElem_toArray, List.getElem_cons_succ, List.getElem_cons_zero, List.setIfInBounds_toArray, List.set_cons_zero, List.set_cons_succ]
      refine Rt.C_take (none) (i := 9) (oi := _) (v := ?_) rfl (by kernel_rfl) (by kernel_rfl) (by kernel_rfl) (by kernel_rfl) (fun _ _ _ h => h) (Sc2.other (by decide)) (Or.inl ⟨by rfl, ?_⟩) (fun o' _ => hS1 o') ?_
      rotate_left
      · intro w2 hSw
        obtain ⟨s0, s1⟩ := hSw
        go_simp
        try with_reducible rfl
      simp only [Act.put, List.getElem_toArray, List.getElem_cons_succ, List.getElem_cons_zero, List.setIfInBounds_toArray, List.set_cons_zero, List.set_cons_succ]
      refine Rt.C_take (none) (i := 10) (oi := _) (v := ?_) rfl (by kernel_rfl) (by kernel_rfl) (by kernel_rfl) (by kernel_rfl) (fun _ _ _ h => h) (Sc2.other (by decide)) (Or.inl ⟨by rfl, ?_⟩) (fun o' _ => hS1 o') ?_
      rotate_left
      · intro w2 hSw
        obtain ⟨s0, s1⟩ := hSw
        go_simp
        try with_reducible rfl
      simp only [Act.put, List.getElem_toArray, List.getElem_cons_succ, List.getElem_cons_zero, List.setIfInBounds_toArray, List.set_cons_zero, List.set_cons_succ]
      refine Rt.C_take (none) (i := 11) (oi := _) (v := ?_) rfl (by kernel_rfl) (by kernel_rfl) (by kernel_rfl) (by kernel_rfl) (fun _ _ _ h => h) (Sc2.other (by decide)) (Or.inl ⟨by rfl, ?_⟩) (fun o' _ => hS1 o') ?_
      rotate_left
      · intro w2 hSw
        obtain ⟨s0, s1⟩ := hSw
        go_simp
        try with_reducible rfl
      simp only [Act.put, List.getElem_toArray, List.getElem_cons_succ, List.getElem_cons_zero, List.setIfInBounds_toArray, List.set_cons_zero, List.set_cons_succ]
      refine Rt.C_take (none) (i := 12) (oi := _) (v := ?_) rfl (by kernel_rfl) (by kernel_rfl) (by kernel_rfl) (by kernel_rfl) (fun _ _ _ h => h) (Sc2.other (by decide)) (Or.inl ⟨by rfl, ?_⟩) (fun o' _ => hS1 o') ?_
      rotate_left
      · intro w2 hSw
        obtain ⟨s0, s1⟩ := hSw
        go_simp
        try with_reducible rfl
      simp only [Act.put, List.getElem_toArray, List.getElem_cons_succ, List.getElem_cons_zero, List.setIfInBounds_toArray, List.set_cons_zero, List.set_cons_succ]
      refine Rt.C_take (none) (i := 13) (oi := _) (v := (.int .i64 m2)) rfl (by kernel_rfl) (by kernel_rfl) (by kernel_rfl) (by kernel_rfl) (fun _ _ _ h => h) (Sc2.other (by decide)) (Or.inl ⟨by rfl, ?_⟩) (fun o' _ => hS1 o') ?_
      · intro w2 hSw
        go_simp
        rw [W1.out, W8.out, W2.out]
        exact HMD.out.symm
      simp only [Act.put, List.getElem_toArray, List.getElem_cons_succ, List.getElem_cons_zero, List.setIfInBounds_toArray, List.set_cons_zero, List.set_cons_succ]
      refine Rt.C_take (none) (i := 14) (oi := _) (v := ?_) rfl (by kernel_rfl) (by kernel_rfl) (by kernel_rfl) (by kernel_rfl) (fun _ _ _ h => h) (Sc2.other (by decide)) (Or.inl ⟨by rfl, ?_⟩) (fun o' _ => hS1 o') ?_
      rotate_left
      · intro w2 hSw
        obtain ⟨s0, s1⟩ := hSw
        go_simp
        try with_reducible rfl
      simp only [Act.put, List.getElem_toArray, List.getElem_cons_succ, List.getElem_cons_zero, List.setIfInBounds_toArray, List.set_cons_zero, List.set_cons_succ]
      clear hS1
      generalize wr.drew = wd at *
      refine Rt.C_ready (rs := [15]) (by kernel_rfl) (by simp) ?_
      refine Rt.AllC.cons (i := 15) (o := _) rfl (by rfl) (fun K' hK => ?_) ?_
      · skip
        have c5 := HMd.out
        have z5 := HPd.out.frozen t
        go_simp
        have hon := only_setCell wd pb t (.int .i64 m2)
        have HP9 : Hid (Row (wd.setCell ⟨pb, t, none⟩ (.int .i64 m2)) pb 35 (pl.set t (.int .i64 m2))) := Lib.hid (by
          have h := HPd.out.set t (.int .i64 m2)
          rw [List.set_set] at h
          exact h)
        have HK9 : Hid (∀ b T cs, b ≠ pb → Row w b T cs → Row (wd.setCell ⟨pb, t, none⟩ (.int .i64 m2)) b T cs) := Lib.hid (fun b T cs hbn h => (HKd.out b T cs hbn h).other hon hbn)
        have HB9 := Lib.hid (HBd.out.trans (hon.below HNE.out.1))
        have HT9 := Lib.hid ((HK9.out tb 104 _ HNT.out HT.out).cell 1)
        clear hon
        refine hK _ _ (fun o hl => Sc2.late ⟨HT9.out, trivial⟩ (by rfl) o hl) ?_
        clear hK K'
        simp only [Act.put, List.getElem_toArray, List.getElem_cons_succ, List.getElem_cons_zero, List.setIfInBounds_toArray, List.set_cons_zero, List.set_cons_succ]
        refine Rt.C_done (by kernel_rfl) ?_ _
        refine NoPanic.normal ?_
        clear c5 z5 HPd HKd HTd HBd HMd HT9
        generalize wd.setCell ⟨pb, t, none⟩ (.int .i64 m2) = w9 at *
        go_wp2_with fail
        go_roundw
        case rel => exact ⟨j + 1, m2, congrArg (Value.int .i64) E1.out, HJ.out, HM2.out, HP9.out, HK9.out, HB9.out⟩
        case measure => exact meas E1.out (by have := HJ.out; have := HZE.out; omega)
      exact Rt.AllC.nil
    · obtain rfl : j = ds.length := by omega
      have HPN : Hid (Row wr pb 35 (pl.set t (.int .i64 (macc ds)))) := Lib.hid (by have h := HM.out; rw [List.take_length] at h; rw [← h]; exact HPr.out)
      clear hjl hj
      by_cases hzs : z < s.size
      · have hg := get_drop s hzs
        have hd := HEND.out (by rw [← hz]; exact hzs)
        rw [← hz] at hd
        obtain ⟨x, hx⟩ : ∃ x, x = s.data.toList.getD z 0 := ⟨_, rfl⟩
        rw [← hx] at hg hd
        have hnd : (x.toNat : Int) < 48 ∨ (57 : Int) < (x.toNat : Int) := by
          unfold digB at hd
          have := of_decide_eq_false hd
          omega
        have hzi : (z : Int) < (s.size : Int) := by omega
        clear hx hd hz
        rcases hnd with hnd | hnd
        · have hn2 : ¬ (48 : Int) ≤ (x.toNat : Int) := by omega
          go_wp2_with fail
          obtain rfl := HZE.out
          exact hnext HPN.out HKK.out HB.out
        · have h48 : (48 : Int) ≤ (x.toNat : Int) := by omega
          have hn2 : ¬ (x.toNat : Int) ≤ 57 := by omega
          go_wp2_with fail
          obtain rfl := HZE.out
          exact hnext HPN.out HKK.out HB.out
      · have hzi : ¬ (z : Int) < (s.size : Int) := by omega
        clear hz
        go_wp2_with fail
        obtain rfl := HZE.out
        exact hnext HPN.out HKK.out HB.out
end Pr
end Go.Proofs.YtgagophijmiceaaDoor

/- WALK, PIECES: pattern.header: a side. -/
namespace Go.Proofs.YtgagophijmiceaaDoor
set_option linter.unusedSimpArgs false
set_option linter.unusedVariables false
open Go.RowKit
namespace Pr
open Tld Mem Bl Pn Pw Rd

set_option maxHeartbeats 8000000 in
set_option maxRecDepth 1000000 in
theorem hd_side (w0 w : World) (s : ByteArray) (pb sb tb t : Nat) (pl : List Value) (hs : s.size ≤ 40000) (hP : Row w pb 35 pl) (hpl : pl.length = 3) (hp1 : ∀ v ∈ pl, v.oneCell' = true) (hS : Row w sb 72 (stp 0 .nilIface)) (hne : w0.heap.size ≤ pb ∧ sb ≠ pb ∧ w0.heap.size ≤ sb) (hb : Below w0.heap.size w0 w) (wb : ByteArray) (ds : List UInt8) (i1 z : Nat) (m : Int) (hi : i1 ≤ s.size) (hds : ds = dgs s.data.toList i1) (hz : z = i1 + ds.length) (hm : m = macc ds) (hpm : pl[t]? = some (.int .i64 m)) (hT : Row w tb 104 (prt wb pb t))
    (c1 c3 c6 c8 c10 c11 c12 c13 c14 c15 c16 c17 c18 c19 c20 c21 c22 c23 c24 c25 c26 c27 c28 c29 c30 c31 c32 c33 c34 c35 c36 c37 c38 c39 c40 c41 c42 c43 c44 c45 c46 c47 c48 c49 c50 c51 c52 c53 c54 c55 c56 c57 c58 c59 c60 c61 c62 c63 c64 c65 c66 c67 c68 c69 c70 c71 c72 c73 c74 c75 c76 c77 c78 c79 c80 c81 c82 c83 c84 c85 c86 c87 c88 c89 c90 c91 c92 c93 c94 c95 c96 c97 c98 c99 c100 c101 c102 c103 c104 c105 c106 c107 c108 c109 c110 c111 c112 c113 c114 c115 c116 c117 c118 c119 c120 c121 c122 c123 c124 c125 c126 c127 c128 c129 c130 c131 c132 c133 c134 c135 c136 c137 c138 c139 : Value) (Q : Exit → Act → World → Prop)
    (hnext : ∀ {u3 u81 u82 u83 u84 u85 u86 u87 u88 u89 u90 u91 u92 u93 u94 u95 u96 u97 u98 u99 u100 u101 u102 u103 u104 u105 u106 u107 u108 u109 u110 u111 u112 u113 u114 u115 u116 u117 u118 u119 u120 : Value} {w' : World}, (∃ v : Nat, m = v ∧ numv ds = v ∧ ¬ 100 < numv ds) → ¬ (numv ds < 0 ∨ 6 < ds.length) → w' = w → Q .normal ⟨#[.string s, c1, .pointer (some ⟨pb, 0, none⟩), u3, .pointer (some ⟨sb, 0, none⟩), .int .i64 ((z : Nat) : Int), c6, .pointer (some ⟨tb, 0, none⟩), c8, .int .i64 ((i1 : Nat) : Int), c10, c11, c12, c13, c14, c15, c16, c17, c18, c19, c20, c21, c22, c23, c24, c25, c26, c27, c28, c29, c30, c31, c32, c33, c34, c35, c36, c37, c38, c39, c40, c41, c42, c43, c44, c45, c46, c47, c48, c49, c50, c51, c52, c53, c54, c55, c56, c57, c58, c59, c60, c61, c62, c63, c64, c65, c66, c67, c68, c69, c70, c71, c72, c73, c74, c75, c76, c77, c78, c79, c80, u81, u82, u83, u84, u85, u86, u87, u88, u89, u90, u91, u92, u93, u94, u95, u96, u97, u98, u99, u100, u101, u102, u103, u104, u105, u106, u107, u108, u109, u110, u111, u112, u113, u114, u115, u116, u117, u118, u119, u120, c121, c122, c123, c124, c125, c126, c127, c128, c129, c130, c131, c132, c133, c134, c135, c136, c137, c138, c139], []⟩ w')
    (hret : ∀ (a' : Act) (w' : World) (v : Value), (results Tryd.f36 a'.tmps).run Tryd.prog w' = .ok v w' → a'.defers = [] → (∃ e : Int, ((e = 2 ∧ (numv ds < 0 ∨ 6 < ds.length)) ∨ (e = 1 ∧ ¬ (numv ds < 0 ∨ 6 < ds.length) ∧ 100 < numv ds)) ∧ v = .tuple #[.agg pl.toArray, .int .i64 (0), .agg #[.int .i64 ((i1 : Nat) : Int), .iface 59 (.int .i64 e)]]) → Below w0.heap.size w0 w' → Q .ret a' w')
    : Code.wp Tryd.prog ((Pc.blk 6 (Tryd.f36.body.getD .skip)).getD .skip) Q ⟨#[.string s, c1, .pointer (some ⟨pb, 0, none⟩), c3, .pointer (some ⟨sb, 0, none⟩), .int .i64 ((z : Nat) : Int), c6, .pointer (some ⟨tb, 0, none⟩), c8, .int .i64 ((i1 : Nat) : Int), c10, c11, c12, c13, c14, c15, c16, c17, c18, c19, c20, c21, c22, c23, c24, c25, c26, c27, c28, c29, c30, c31, c32, c33, c34, c35, c36, c37, c38, c39, c40, c41, c42, c43, c44, c45, c46, c47, c48, c49, c50, c51, c52, c53, c54, c55, c56, c57, c58, c59, c60, c61, c62, c63, c64, c65, c66, c67, c68, c69, c70, c71, c72, c73, c74, c75, c76, c77, c78, c79, c80, c81, c82, c83, c84, c85, c86, c87, c88, c89, c90, c91, c92, c93, c94, c95, c96, c97, c98, c99, c100, c101, c102, c103, c104, c105, c106, c107, c108, c109, c110, c111, c112, c113, c114, c115, c116, c117, c118, c119, c120, c121, c122, c123, c124, c125, c126, c127, c128, c129, c130, c131, c132, c133, c134, c135, c136, c137, c138, c139], []⟩ w := by
  conv => arg 2; whnf
  have HSZ := Lib.hid hs
  have HP := Lib.hid hP
  have HPL := Lib.hid hpl
  have HP3 : Hid ((Tryd.prog.info? 35).map (·.size) = some pl.length) := Lib.hid (by rw [hpl]; exact infoPat)
  have HP1 := Lib.hid hp1
  have HS := Lib.hid hS
  have HNE := Lib.hid hne
  have HB := Lib.hid hb
  clear hs hP hpl hp1 hS hne hb
  have HT := Lib.hid hT
  have HM := Lib.hid hm
  have HPM : Hid (w.cell? ⟨pb, t, none⟩ = some (.int .i64 m)) := Lib.hid (by rw [HP.out.cell t]; exact hpm)
  have HALL : Hid (∀ b ∈ ds, digB b = true) := Lib.hid (by rw [hds]; exact digs_all s i1)
  have HLT : Hid (∀ j, j < ds.length → i1 + j < s.size ∧ ds.getD j 0 = s.data.toList.getD (i1 + j) 0 ∧ digB (s.data.toList.getD (i1 + j) 0) = true) := Lib.hid (by rw [hds]; exact fun j hj => digs_lt hj)
  have hib : i1 ≤ 40000 := Nat.le_trans hi HSZ.out
  clear hT hm hpm hds hi
  by_cases hds0 : ds = []
  · have hzi : z = i1 := by rw [hz, hds0]; rfl
    have HBAD : Hid (numv ds < 0) := Lib.hid (by rw [hds0, numv_nil]; decide)
    clear hz
    subst hzi
    clear hds0
    have l6 := row_range HP.out
    go_wp2_with (first | (refine wpList_load_mid rfl 35 _ rfl pb 0 rfl _ _ l6 Tryd.underlying35 rfl HP3.out ?_) | (refine Ops.wpList_store_arr rfl 35 _ _ rfl pb rfl 35 pl pl rfl HP.out rfl HP3.out HP1.out ?_; intro w6 hr6 ho6) | (refine Ops.wpList_store_arr rfl 72 _ _ rfl sb rfl 72 (stp 0 .nilIface) (stp ((z : Nat) : Int) (.iface 59 (.int .i64 2))) rfl (HS.out.other ho6 HNE.out.2.1) rfl infoStop (stp_one _ _) ?_; intro w7 hr7 ho7))
    refine hret _ _ _ (results_hd (t := 2) (u := 3) (z := 4) (e := .int .i64 (0)) rfl _ _ (hr6.other ho7 (Ne.symm HNE.out.2.1)) HPL.out hr7 rfl rfl rfl rfl) rfl ?_ ((HB.out.trans (ho6.below HNE.out.1)).trans (ho7.below HNE.out.2.2))
    exact ⟨2, .inl ⟨rfl, .inl HBAD.out⟩, rfl⟩
  · have hlen : 0 < ds.length := List.length_pos_iff.2 hds0
    have h0 := HLT.out 0 hlen
    rw [Nat.add_zero] at h0
    have hzn : ¬ (z : Int) = (i1 : Int) := by omega
    have hznb : ((z : Int) == (i1 : Int)) = false := by rw [beq_eq_false_iff_ne]; exact hzn
    have hi0 := h0.1
    have hg0 := get_drop s hi0
    obtain ⟨b0, hb0⟩ : ∃ b0, b0 = s.data.toList.getD i1 0 := ⟨_, rfl⟩
    rw [← hb0] at hg0
    have HD : Hid (ds.head? = some b0) := Lib.hid (by
      rw [hb0, ← h0.2.1]
      rcases ds with _ | ⟨c, r⟩
      · exact absurd rfl hds0
      · rfl)
    clear h0 hb0 hds0
    by_cases h48 : b0 = 48
    · have hq : ((b0.toNat : Int) == 48) = true := by rw [h48]; rfl
      by_cases hl1 : 1 < ds.length
      · have HBAD : Hid (numv ds < 0) := Lib.hid (by rw [numv_zero HD.out h48 hl1]; decide)
        have hgt : (i1 : Int) + 1 < (z : Int) := by omega
        clear h48 hl1 hz hlen
        have l6 := row_range HP.out
        go_wp2_with (first | (refine wpList_load_mid rfl 35 _ rfl pb 0 rfl _ _ l6 Tryd.underlying35 rfl HP3.out ?_) | (refine Ops.wpList_store_arr rfl 35 _ _ rfl pb rfl 35 pl pl rfl HP.out rfl HP3.out HP1.out ?_; intro w6 hr6 ho6) | (refine Ops.wpList_store_arr rfl 72 _ _ rfl sb rfl 72 (stp 0 .nilIface) (stp ((i1 : Nat) : Int) (.iface 59 (.int .i64 2))) rfl (HS.out.other ho6 HNE.out.2.1) rfl infoStop (stp_one _ _) ?_; intro w7 hr7 ho7))
        refine hret _ _ _ (results_hd (t := 2) (u := 3) (z := 4) (e := .int .i64 (0)) rfl _ _ (hr6.other ho7 (Ne.symm HNE.out.2.1)) HPL.out hr7 rfl rfl rfl rfl) rfl ?_ ((HB.out.trans (ho6.below HNE.out.1)).trans (ho7.below HNE.out.2.2))
        exact ⟨2, .inl ⟨rfl, .inl HBAD.out⟩, rfl⟩
      · have HV : Hid (numv ds = val ds) := Lib.hid (numv_val HD.out (.inr (by omega)))
        have HL6 : Hid (ds.length ≤ 6) := Lib.hid (by omega)
        have hgt : ¬ (i1 : Int) + 1 < (z : Int) := by omega
        have hgt6 : ¬ (i1 : Int) + 6 < (z : Int) := by omega
        clear h48 hl1 hz hlen
        have HMV : Hid (numv ds = m) := Lib.hid (by rw [HV.out, HM.out]; exact (macc_val HALL.out HL6.out).symm)
        have hm0 : 0 ≤ m := by rw [HM.out]; have h := macc_b HALL.out ds.length; rw [List.take_length] at h; exact h.1
        have t1 := HT.out.cell 1
        unfold prt at t1
        dsimp only [List.getElem?_cons_succ, List.getElem?_cons_zero] at t1
        have p1 := HPM.out
        have HNN : Hid (¬ (numv ds < 0 ∨ 6 < ds.length)) := Lib.hid (fun h => by rcases h with h | h; (rw [HMV.out] at h; omega); (have := HL6.out; omega))
        by_cases h100 : 100 < m
        · have H100 : Hid (100 < numv ds) := Lib.hid (by rw [HMV.out]; exact h100)
          have hsd : decide (0 ≤ m ∧ m ≤ 100) = false := decide_eq_false (by omega)
          go_upto_region 20 with fail
          go_wp2_with fail
          refine (side_any m _).mono ?_
          rintro e8 w8 ⟨rfl, rfl⟩
          rw [hsd]
          clear t1 p1 h100
          have l6 := row_range HP.out
          go_wp2_with (first | (refine wpList_load_mid rfl 35 _ rfl pb 0 rfl _ _ l6 Tryd.underlying35 rfl HP3.out ?_) | (refine Ops.wpList_store_arr rfl 35 _ _ rfl pb rfl 35 pl pl rfl HP.out rfl HP3.out HP1.out ?_; intro w6 hr6 ho6) | (refine Ops.wpList_store_arr rfl 72 _ _ rfl sb rfl 72 (stp 0 .nilIface) (stp ((i1 : Nat) : Int) (.iface 59 (.int .i64 1))) rfl (HS.out.other ho6 HNE.out.2.1) rfl infoStop (stp_one _ _) ?_; intro w7 hr7 ho7))
          refine hret _ _ _ (results_hd (t := 2) (u := 3) (z := 4) (e := .int .i64 (0)) rfl _ _ (hr6.other ho7 (Ne.symm HNE.out.2.1)) HPL.out hr7 rfl rfl rfl rfl) rfl ?_ ((HB.out.trans (ho6.below HNE.out.1)).trans (ho7.below HNE.out.2.2))
          exact ⟨1, .inr ⟨rfl, HNN.out, H100.out⟩, rfl⟩
        · have hsd : decide (0 ≤ m ∧ m ≤ 100) = true := decide_eq_true (by omega)
          have HNX : Hid (∃ v : Nat, m = v ∧ numv ds = v ∧ ¬ 100 < numv ds) := Lib.hid ⟨m.toNat, by omega, by rw [HMV.out]; omega, by rw [HMV.out]; exact h100⟩
          go_upto_region 20 with fail
          go_wp2_with fail
          refine (side_any m _).mono ?_
          rintro e8 w8 ⟨rfl, rfl⟩
          rw [hsd]
          clear t1 p1 h100
          go_wp2_with fail
          exact hnext HNX.out HNN.out rfl
    · have hq : ((b0.toNat : Int) == 48) = false := by rw [beq_eq_false_iff_ne]; intro h; exact h48 (UInt8.toNat_inj.1 (by exact_mod_cast h))
      by_cases hl6 : 6 < ds.length
      · have HBAD : Hid (6 < ds.length) := Lib.hid hl6
        have hgt6 : (i1 : Int) + 6 < (z : Int) := by omega
        clear h48 hl6 hz hlen
        have l6 := row_range HP.out
        go_wp2_with (first | (refine wpList_load_mid rfl 35 _ rfl pb 0 rfl _ _ l6 Tryd.underlying35 rfl HP3.out ?_) | (refine Ops.wpList_store_arr rfl 35 _ _ rfl pb rfl 35 pl pl rfl HP.out rfl HP3.out HP1.out ?_; intro w6 hr6 ho6) | (refine Ops.wpList_store_arr rfl 72 _ _ rfl sb rfl 72 (stp 0 .nilIface) (stp ((i1 : Nat) : Int) (.iface 59 (.int .i64 2))) rfl (HS.out.other ho6 HNE.out.2.1) rfl infoStop (stp_one _ _) ?_; intro w7 hr7 ho7))
        refine hret _ _ _ (results_hd (t := 2) (u := 3) (z := 4) (e := .int .i64 (0)) rfl _ _ (hr6.other ho7 (Ne.symm HNE.out.2.1)) HPL.out hr7 rfl rfl rfl rfl) rfl ?_ ((HB.out.trans (ho6.below HNE.out.1)).trans (ho7.below HNE.out.2.2))
        exact ⟨2, .inl ⟨rfl, .inr HBAD.out⟩, rfl⟩
      · have HV : Hid (numv ds = val ds) := Lib.hid (numv_val HD.out (.inl h48))
        have HL6 : Hid (ds.length ≤ 6) := Lib.hid (by omega)
        have hgt6 : ¬ (i1 : Int) + 6 < (z : Int) := by omega
        clear h48 hl6 hz hlen
        have HMV : Hid (numv ds = m) := Lib.hid (by rw [HV.out, HM.out]; exact (macc_val HALL.out HL6.out).symm)
        have hm0 : 0 ≤ m := by rw [HM.out]; have h := macc_b HALL.out ds.length; rw [List.take_length] at h; exact h.1
        have t1 := HT.out.cell 1
        unfold prt at t1
        dsimp only [List.getElem?_cons_succ, List.getElem?_cons_zero] at t1
        have p1 := HPM.out
        have HNN : Hid (¬ (numv ds < 0 ∨ 6 < ds.length)) := Lib.hid (fun h => by rcases h with h | h; (rw [HMV.out] at h; omega); (have := HL6.out; omega))
        by_cases h100 : 100 < m
        · have H100 : Hid (100 < numv ds) := Lib.hid (by rw [HMV.out]; exact h100)
          have hsd : decide (0 ≤ m ∧ m ≤ 100) = false := decide_eq_false (by omega)
          go_upto_region 20 with fail
          go_wp2_with fail
          refine (side_any m _).mono ?_
          rintro e8 w8 ⟨rfl, rfl⟩
          rw [hsd]
          clear t1 p1 h100
          have l6 := row_range HP.out
          go_wp2_with (first | (refine wpList_load_mid rfl 35 _ rfl pb 0 rfl _ _ l6 Tryd.underlying35 rfl HP3.out ?_) | (refine Ops.wpList_store_arr rfl 35 _ _ rfl pb rfl 35 pl pl rfl HP.out rfl HP3.out HP1.out ?_; intro w6 hr6 ho6) | (refine Ops.wpList_store_arr rfl 72 _ _ rfl sb rfl 72 (stp 0 .nilIface) (stp ((i1 : Nat) : Int) (.iface 59 (.int .i64 1))) rfl (HS.out.other ho6 HNE.out.2.1) rfl infoStop (stp_one _ _) ?_; intro w7 hr7 ho7))
          refine hret _ _ _ (results_hd (t := 2) (u := 3) (z := 4) (e := .int .i64 (0)) rfl _ _ (hr6.other ho7 (Ne.symm HNE.out.2.1)) HPL.out hr7 rfl rfl rfl rfl) rfl ?_ ((HB.out.trans (ho6.below HNE.out.1)).trans (ho7.below HNE.out.2.2))
          exact ⟨1, .inr ⟨rfl, HNN.out, H100.out⟩, rfl⟩
        · have hsd : decide (0 ≤ m ∧ m ≤ 100) = true := decide_eq_true (by omega)
          have HNX : Hid (∃ v : Nat, m = v ∧ numv ds = v ∧ ¬ 100 < numv ds) := Lib.hid ⟨m.toNat, by omega, by rw [HMV.out]; omega, by rw [HMV.out]; exact h100⟩
          go_upto_region 20 with fail
          go_wp2_with fail
          refine (side_any m _).mono ?_
          rintro e8 w8 ⟨rfl, rfl⟩
          rw [hsd]
          clear t1 p1 h100
          go_wp2_with fail
          exact hnext HNX.out HNN.out rfl
end Pr
end Go.Proofs.YtgagophijmiceaaDoor

/- WALK: pattern.header: a text's two sides. -/
namespace Go.Proofs.YtgagophijmiceaaDoor
set_option linter.unusedSimpArgs false
set_option linter.unusedVariables false
open Go.RowKit
namespace Pr
open Tld Mem Bl Pn Pw Rd

theorem part_range0 {w : World} {ab pb : Nat} (h : Row w ab 104 [.string ⟨#[120, 32, 61, 32]⟩, .pointer (some ⟨pb, 0, none⟩), .string ⟨#[44, 32, 121, 32, 61, 32]⟩, .pointer (some ⟨pb, 1, none⟩)]) : w.rangeAt ab 0 (prt ⟨#[120, 32, 61, 32]⟩ pb 0) := fun j v hv => by
  rw [Nat.zero_add, h.cell]
  match j, hv with
  | 0, hv => exact hv
  | 1, hv => exact hv
theorem part_range1 {w : World} {ab pb : Nat} (h : Row w ab 104 [.string ⟨#[120, 32, 61, 32]⟩, .pointer (some ⟨pb, 0, none⟩), .string ⟨#[44, 32, 121, 32, 61, 32]⟩, .pointer (some ⟨pb, 1, none⟩)]) : w.rangeAt ab 2 (prt ⟨#[44, 32, 121, 32, 61, 32]⟩ pb 1) := fun j v hv => by
  rw [h.cell]
  match j, hv with
  | 0, hv => exact hv
  | 1, hv => exact hv
/-- Where the reading of the two sides stands. -/
def StH (l : List UInt8) (t i A B : Nat) : Prop := (t = 0 ∧ i = 0 ∧ A = 0 ∧ B = 0) ∨ (t = 1 ∧ B = 0 ∧ head l = rest1 l A i) ∨ (t = 2 ∧ head l = rest2 l A B i)

set_option maxHeartbeats 16000000 in
set_option maxRecDepth 1000000 in
theorem header_any (s : ByteArray) (w : World) (hs : s.size ≤ 40000) : Calls Tryd.prog 36 #[.string s] w fun e w' => HdP s.data.toList e ∧ Below w.heap.size w w' := by
  have HSZ := Lib.hid hs
  clear hs
  go_enter Tryd.func36, Tryd.ntmps36
  go_upto_region 1 with fail
  obtain ⟨hr2, hr3, hb2⟩ := two_new w 35 72 noPat (stp 0 .nilIface)
  have HP : Hid (Row ((w.alloc (.cells #[.int .i64 0, .int .i64 0, .slice none 0 0] 35)).alloc (.cells #[.int .i64 0, .nilIface] 72)) w.heap.size 35 (boxP 0 0 none 0 0)) := hr2
  have HS : Hid (Row ((w.alloc (.cells #[.int .i64 0, .int .i64 0, .slice none 0 0] 35)).alloc (.cells #[.int .i64 0, .nilIface] 72)) (w.heap.size + 1) 72 (stp 0 .nilIface)) := hr3
  have HB : Hid (Below w.heap.size w ((w.alloc (.cells #[.int .i64 0, .int .i64 0, .slice none 0 0] 35)).alloc (.cells #[.int .i64 0, .nilIface] 72))) := hb2
  clear hr2 hr3 hb2
  generalize (w.alloc (.cells #[.int .i64 0, .int .i64 0, .slice none 0 0] 35)).alloc (.cells #[.int .i64 0, .nilIface] 72) = w1 at *
  obtain ⟨pb, hpb⟩ : ∃ pb, pb = w.heap.size := ⟨_, rfl⟩
  rw [← hpb] at HP HS ⊢
  obtain ⟨sb, hsb⟩ : ∃ sb, sb = pb + 1 := ⟨_, rfl⟩
  rw [← hsb] at HS ⊢
  have HNE : Hid (w.heap.size ≤ pb ∧ sb ≠ pb ∧ w.heap.size ≤ sb) := Lib.hid (by omega)
  clear hpb hsb
  have hnew := row_alloc w1 104 [.string ⟨#[120, 32, 61, 32]⟩, .pointer (some ⟨pb, 0, none⟩), .string ⟨#[44, 32, 121, 32, 61, 32]⟩, .pointer (some ⟨pb, 1, none⟩)]
  have hbn : Below w1.heap.size w1 (w1.alloc (.cells [.string ⟨#[120, 32, 61, 32]⟩, .pointer (some ⟨pb, 0, none⟩), .string ⟨#[44, 32, 121, 32, 61, 32]⟩, .pointer (some ⟨pb, 1, none⟩)].toArray 104)) := (Below.refl _ _).alloc (Nat.le_refl _) _
  have hpl := HP.out.lt
  have HP := Lib.hid (HP.out.keep hbn HP.out.lt)
  have HS := Lib.hid (HS.out.keep hbn HS.out.lt)
  have HB := Lib.hid (HB.out.trans (hbn.mono HB.out.size))
  have HA := Lib.hid hnew
  clear hnew hbn
  go_upto_region 3 with fail
  generalize hwa : w1.alloc (.cells [.string ⟨#[120, 32, 61, 32]⟩, .pointer (some ⟨pb, 0, none⟩), .string ⟨#[44, 32, 121, 32, 61, 32]⟩, .pointer (some ⟨pb, 1, none⟩)].toArray 104) = wa at *
  obtain ⟨ab, hab⟩ : ∃ ab, ab = w1.heap.size := ⟨_, rfl⟩
  rw [← hab] at HA ⊢
  have HNA : Hid (ab ≠ pb) := Lib.hid (by omega)
  clear hab hpl
  try rw [show w1.alloc (.cells #[.string ⟨#[120, 32, 61, 32]⟩, .pointer (some ⟨pb, 0, none⟩), .string ⟨#[44, 32, 121, 32, 61, 32]⟩, .pointer (some ⟨pb, 1, none⟩)] 104) = wa from hwa]
  clear hwa
  go_loopw [5, 16] (fun v5 v16 wr => ∃ t i A B : Nat, v16 = .int .i64 ((t : Nat) : Int) ∧ v5 = .int .i64 ((i : Nat) : Int) ∧ i ≤ s.size ∧ StH s.data.toList t i A B ∧ Row wr pb 35 (boxP (A : Nat) (B : Nat) none 0 0) ∧ Row wr sb 72 (stp 0 .nilIface) ∧ Row wr ab 104 [.string ⟨#[120, 32, 61, 32]⟩, .pointer (some ⟨pb, 0, none⟩), .string ⟨#[44, 32, 121, 32, 61, 32]⟩, .pointer (some ⟨pb, 1, none⟩)] ∧ Below w.heap.size w wr) (fun _ v _ => 2 - (RowKit.intOf v).toNat)
  case atStart => exact ⟨0, 0, 0, 0, rfl, rfl, Nat.zero_le _, .inl ⟨rfl, rfl, rfl, rfl⟩, HP.out, HS.out, HA.out, HB.out⟩
  case round =>
    clear HP HS HA HB
    obtain ⟨t, i, A, B, rfl, rfl, hi, hst, hp, hs, ha, hb⟩ := hrel
    have HP := Lib.hid hp
    have HS := Lib.hid hs
    have HA := Lib.hid ha
    have HB := Lib.hid hb
    have HI := Lib.hid hi
    clear hp hs ha hb hi
    rcases hst with ⟨rfl, hi0, rfl, rfl⟩ | ⟨rfl, rfl, hst⟩ | ⟨rfl, hst⟩
    · skip
      have HHD : Hid (head s.data.toList = word s.data.toList Pr.w1 i fun i => side s.data.toList i (dgs s.data.toList i) fun v i => rest1 s.data.toList v i) := Lib.hid (by rw [hi0]; exact head_rest _)
      clear hi0
      have l0 : wr.rangeAt ab 0 (prt ⟨#[120, 32, 61, 32]⟩ pb 0) := part_range0 HA.out
      have hnew : Row (wr.alloc (.cells #[.string ⟨#[]⟩, .pointer none] 104)) wr.heap.size 104 noPrt := row_alloc wr _ noPrt
      have hpl := HP.out.lt
      have hsl := HS.out.lt
      have hal := HA.out.lt
      have hbl := HB.out.size
      go_upto_region 5 with (first | (refine wpList_load_mid rfl 104 _ rfl ab (0) (by first | rfl | (go_simp; done)) _ _ l0 Tryd.underlying104 rfl infoPart ?_) | (refine Ops.wpList_store_arr rfl 104 _ _ rfl wr.heap.size rfl 104 (noPrt) (prt ⟨#[120, 32, 61, 32]⟩ pb 0) rfl hnew rfl infoPart (prt_one _ _ _) ?_; intro w1 hr1 ho1))
      have hb4 : Below wr.heap.size wr w1 := ((Below.refl _ _).alloc (Nat.le_refl _) _).trans (ho1.below (Nat.le_refl _))
      have HP := Lib.hid (HP.out.keep hb4 HP.out.lt)
      have HS := Lib.hid (HS.out.keep hb4 HS.out.lt)
      have HA := Lib.hid (HA.out.keep hb4 HA.out.lt)
      have HB := Lib.hid (HB.out.trans (hb4.mono HB.out.size))
      have HT := Lib.hid hr1
      obtain ⟨tb, htb⟩ : ∃ tb, tb = wr.heap.size := ⟨_, rfl⟩
      rw [← htb] at HT ⊢
      have HNT : Hid (tb ≠ pb) := Lib.hid (by omega)
      clear hb4 ho1 hr1 hpl hsl hal hbl l0 hnew htb
      have t0 := HT.out.cell 0
      unfold prt at t0
      dsimp only [List.getElem?_cons_succ, List.getElem?_cons_zero] at t0
      go_upto_block 2 with fail
      clear t0
      apply hd_word (w0 := w) (s := s) (pb := pb) (sb := sb) (tb := tb) (t := 0) (pl := (boxP (0 : Nat) (0 : Nat) none 0 0)) (wb := ⟨#[120, 32, 61, 32]⟩) (ws := Pr.w1) (n := 4) (i := i)
      case hs => exact HSZ.out
      case hP => exact HP.out
      case hpl => rfl
      case hp1 => exact boxP_one _ _ _ _ _
      case hS => exact HS.out
      case hne => exact HNE.out
      case hb => exact HB.out
      case hwb => rfl
      case hn => rfl
      case hn2 => decide
      case hi => exact HI.out
      case hT => exact HT.out
      case hret =>
        rintro a' w' v hr hd ⟨k, hk, hm, hbad, rfl⟩ hbl
        show bodyPost Tryd.prog Tryd.f36 (fun e w' => HdP s.data.toList e ∧ Below w.heap.size w w') .ret a' w'
        exact bodyPost_ret hr hd ⟨hdP_bad (by rw [HHD.out, word_miss hk hm hbad]), hbl⟩
      case hnext =>
        intro u3 u8 u23 u24 u25 u26 u27 u28 u29 u30 u31 u32 u33 u34 u35 u36 u37 u38 u39 u40 u41 u42 u43 u44 u45 u46 w2 hmt hq
        obtain ⟨q, rfl⟩ := hq
        have HMT := Lib.hid hmt
        have hdn : Below w1.heap.size w1 (World.drewN w1 q) := below_dn (Below.refl _ _) q
        have HP := Lib.hid (HP.out.keep hdn HP.out.lt)
        have HS := Lib.hid (HS.out.keep hdn HS.out.lt)
        have HA := Lib.hid (HA.out.keep hdn HA.out.lt)
        have HT := Lib.hid (HT.out.keep hdn HT.out.lt)
        have HB := Lib.hid (HB.out.trans (hdn.mono HB.out.size))
        clear hmt hdn
        generalize World.drewN w1 q = w2 at *
        obtain ⟨i1, hi1⟩ : ∃ i1, i1 = i + 4 := ⟨_, rfl⟩
        rw [← hi1]
        have HH1 : Hid (head s.data.toList = side s.data.toList i1 (dgs s.data.toList i1) fun v i => rest1 s.data.toList v i) := Lib.hid (by rw [HHD.out, word_hit HMT.out, hi1]; rfl)
        have HI1 : Hid (i1 ≤ s.size) := Lib.hid (by have h := (HMT.out 3 (by decide)).1; rw [← Lib.size_eq] at h; omega)
        obtain ⟨ds, hds⟩ : ∃ ds, ds = dgs s.data.toList i1 := ⟨_, rfl⟩
        have HDS := Lib.hid hds
        rw [← hds] at HH1
        have HLE : Hid (i1 + ds.length ≤ s.size) := Lib.hid (by rw [hds]; exact digs_le s i1 HI1.out)
        clear hi1 hds HHD HMT
        go_upto_block 4 with fail
        apply hd_digits (w0 := w) (s := s) (pb := pb) (sb := sb) (tb := tb) (t := 0) (pl := (boxP (0 : Nat) (0 : Nat) none 0 0)) (wb := ⟨#[120, 32, 61, 32]⟩) (ds := ds) (i1 := i1)
        case hs => exact HSZ.out
        case hP => exact HP.out
        case hpl => rfl
        case hp1 => exact boxP_one _ _ _ _ _
        case hS => exact HS.out
        case hne => exact HNE.out
        case hb => exact HB.out
        case hi => exact HI1.out
        case hds => exact HDS.out
        case ht3 => decide
        case hp0 => rfl
        case hT => exact HT.out
        case hnt => exact HNT.out
        case hnext =>
          intro u48 u49 u50 u51 u52 u53 u54 u55 u56 u57 u58 u59 u60 u61 u62 u63 u64 u65 u66 u67 u68 u69 u70 u71 u72 u73 u74 u75 u76 u77 u78 u79 u80 w3 hp3 hk3 hb3
          obtain ⟨m, hm⟩ : ∃ m, m = macc ds := ⟨_, rfl⟩
          rw [← hm] at hp3
          have HM := Lib.hid hm
          have HP := Lib.hid hp3
          have HS := Lib.hid (hk3 _ _ _ HNE.out.2.1 HS.out)
          have HA := Lib.hid (hk3 _ _ _ HNA.out HA.out)
          have HT := Lib.hid (hk3 _ _ _ HNT.out HT.out)
          have HB := Lib.hid hb3
          clear hm hp3 hk3 hb3
          obtain ⟨z, hz⟩ : ∃ z, z = i1 + ds.length := ⟨_, rfl⟩
          rw [← hz]
          have HZ := Lib.hid hz
          clear hz
          go_upto_block 6 with fail
          apply hd_side (w0 := w) (s := s) (pb := pb) (sb := sb) (tb := tb) (t := 0) (pl := (((boxP (0 : Nat) (0 : Nat) none 0 0)).set 0 (.int .i64 m))) (wb := ⟨#[120, 32, 61, 32]⟩) (ds := ds) (i1 := i1) (z := z) (m := m)
          case hs => exact HSZ.out
          case hP => exact HP.out
          case hpl => rfl
          case hp1 => exact boxP_one _ _ _ _ _
          case hS => exact HS.out
          case hne => exact HNE.out
          case hb => exact HB.out
          case hi => exact HI1.out
          case hds => exact HDS.out
          case hz => exact HZ.out
          case hm => exact HM.out
          case hpm => rfl
          case hT => exact HT.out
          case hret =>
            rintro a' w' v hr hd ⟨e, he, rfl⟩ hbl
            rcases he with ⟨rfl, he⟩ | ⟨rfl, he, hf⟩
            · show bodyPost Tryd.prog Tryd.f36 (fun e w' => HdP s.data.toList e ∧ Below w.heap.size w w') .ret a' w'
              exact bodyPost_ret hr hd ⟨hdP_bad (by rw [HH1.out, side_no he]), hbl⟩
            · show bodyPost Tryd.prog Tryd.f36 (fun e w' => HdP s.data.toList e ∧ Below w.heap.size w w') .ret a' w'
              exact bodyPost_ret hr hd ⟨hdP_bad (by rw [HH1.out, side_far he hf]), hbl⟩
          case hnext =>
            intro u3 u81 u82 u83 u84 u85 u86 u87 u88 u89 u90 u91 u92 u93 u94 u95 u96 u97 u98 u99 u100 u101 u102 u103 u104 u105 u106 u107 u108 u109 u110 u111 u112 u113 u114 u115 u116 u117 u118 u119 u120 w4 hv hnn hw4
            obtain ⟨v, rfl, hnv, h100⟩ := hv
            subst hw4
            have HOK : Hid (head s.data.toList = rest1 s.data.toList v z) := Lib.hid (by rw [HH1.out, side_ok hnn h100 hnv, HZ.out])
            have HZS : Hid (z ≤ s.size) := Lib.hid (by rw [HZ.out]; exact HLE.out)
            clear hnv h100 hnn
            go_wp2_with fail
            go_roundw
            case rel => exact ⟨1, z, v, 0, by rfl, rfl, HZS.out, .inr (.inl ⟨rfl, rfl, HOK.out⟩), HP.out, HS.out, HA.out, HB.out⟩
            case measure => decide
    · skip
      have HHD : Hid (head s.data.toList = word s.data.toList Pr.w2 i fun i => side s.data.toList i (dgs s.data.toList i) fun v i => rest2 s.data.toList A v i) := Lib.hid (hst)
      clear hst
      have l0 : wr.rangeAt ab 2 (prt ⟨#[44, 32, 121, 32, 61, 32]⟩ pb 1) := part_range1 HA.out
      have hnew : Row (wr.alloc (.cells #[.string ⟨#[]⟩, .pointer none] 104)) wr.heap.size 104 noPrt := row_alloc wr _ noPrt
      have hpl := HP.out.lt
      have hsl := HS.out.lt
      have hal := HA.out.lt
      have hbl := HB.out.size
      go_upto_region 5 with (first | (refine wpList_load_mid rfl 104 _ rfl ab (2) (by first | rfl | (go_simp; done)) _ _ l0 Tryd.underlying104 rfl infoPart ?_) | (refine Ops.wpList_store_arr rfl 104 _ _ rfl wr.heap.size rfl 104 (noPrt) (prt ⟨#[44, 32, 121, 32, 61, 32]⟩ pb 1) rfl hnew rfl infoPart (prt_one _ _ _) ?_; intro w1 hr1 ho1))
      have hb4 : Below wr.heap.size wr w1 := ((Below.refl _ _).alloc (Nat.le_refl _) _).trans (ho1.below (Nat.le_refl _))
      have HP := Lib.hid (HP.out.keep hb4 HP.out.lt)
      have HS := Lib.hid (HS.out.keep hb4 HS.out.lt)
      have HA := Lib.hid (HA.out.keep hb4 HA.out.lt)
      have HB := Lib.hid (HB.out.trans (hb4.mono HB.out.size))
      have HT := Lib.hid hr1
      obtain ⟨tb, htb⟩ : ∃ tb, tb = wr.heap.size := ⟨_, rfl⟩
      rw [← htb] at HT ⊢
      have HNT : Hid (tb ≠ pb) := Lib.hid (by omega)
      clear hb4 ho1 hr1 hpl hsl hal hbl l0 hnew htb
      have t0 := HT.out.cell 0
      unfold prt at t0
      dsimp only [List.getElem?_cons_succ, List.getElem?_cons_zero] at t0
      go_upto_block 2 with fail
      clear t0
      apply hd_word (w0 := w) (s := s) (pb := pb) (sb := sb) (tb := tb) (t := 1) (pl := (boxP (A : Nat) (0 : Nat) none 0 0)) (wb := ⟨#[44, 32, 121, 32, 61, 32]⟩) (ws := Pr.w2) (n := 6) (i := i)
      case hs => exact HSZ.out
      case hP => exact HP.out
      case hpl => rfl
      case hp1 => exact boxP_one _ _ _ _ _
      case hS => exact HS.out
      case hne => exact HNE.out
      case hb => exact HB.out
      case hwb => rfl
      case hn => rfl
      case hn2 => decide
      case hi => exact HI.out
      case hT => exact HT.out
      case hret =>
        rintro a' w' v hr hd ⟨k, hk, hm, hbad, rfl⟩ hbl
        show bodyPost Tryd.prog Tryd.f36 (fun e w' => HdP s.data.toList e ∧ Below w.heap.size w w') .ret a' w'
        exact bodyPost_ret hr hd ⟨hdP_bad (by rw [HHD.out, word_miss hk hm hbad]), hbl⟩
      case hnext =>
        intro u3 u8 u23 u24 u25 u26 u27 u28 u29 u30 u31 u32 u33 u34 u35 u36 u37 u38 u39 u40 u41 u42 u43 u44 u45 u46 w2 hmt hq
        obtain ⟨q, rfl⟩ := hq
        have HMT := Lib.hid hmt
        have hdn : Below w1.heap.size w1 (World.drewN w1 q) := below_dn (Below.refl _ _) q
        have HP := Lib.hid (HP.out.keep hdn HP.out.lt)
        have HS := Lib.hid (HS.out.keep hdn HS.out.lt)
        have HA := Lib.hid (HA.out.keep hdn HA.out.lt)
        have HT := Lib.hid (HT.out.keep hdn HT.out.lt)
        have HB := Lib.hid (HB.out.trans (hdn.mono HB.out.size))
        clear hmt hdn
        generalize World.drewN w1 q = w2 at *
        obtain ⟨i1, hi1⟩ : ∃ i1, i1 = i + 6 := ⟨_, rfl⟩
        rw [← hi1]
        have HH1 : Hid (head s.data.toList = side s.data.toList i1 (dgs s.data.toList i1) fun v i => rest2 s.data.toList A v i) := Lib.hid (by rw [HHD.out, word_hit HMT.out, hi1]; rfl)
        have HI1 : Hid (i1 ≤ s.size) := Lib.hid (by have h := (HMT.out 5 (by decide)).1; rw [← Lib.size_eq] at h; omega)
        obtain ⟨ds, hds⟩ : ∃ ds, ds = dgs s.data.toList i1 := ⟨_, rfl⟩
        have HDS := Lib.hid hds
        rw [← hds] at HH1
        have HLE : Hid (i1 + ds.length ≤ s.size) := Lib.hid (by rw [hds]; exact digs_le s i1 HI1.out)
        clear hi1 hds HHD HMT
        go_upto_block 4 with fail
        apply hd_digits (w0 := w) (s := s) (pb := pb) (sb := sb) (tb := tb) (t := 1) (pl := (boxP (A : Nat) (0 : Nat) none 0 0)) (wb := ⟨#[44, 32, 121, 32, 61, 32]⟩) (ds := ds) (i1 := i1)
        case hs => exact HSZ.out
        case hP => exact HP.out
        case hpl => rfl
        case hp1 => exact boxP_one _ _ _ _ _
        case hS => exact HS.out
        case hne => exact HNE.out
        case hb => exact HB.out
        case hi => exact HI1.out
        case hds => exact HDS.out
        case ht3 => decide
        case hp0 => rfl
        case hT => exact HT.out
        case hnt => exact HNT.out
        case hnext =>
          intro u48 u49 u50 u51 u52 u53 u54 u55 u56 u57 u58 u59 u60 u61 u62 u63 u64 u65 u66 u67 u68 u69 u70 u71 u72 u73 u74 u75 u76 u77 u78 u79 u80 w3 hp3 hk3 hb3
          obtain ⟨m, hm⟩ : ∃ m, m = macc ds := ⟨_, rfl⟩
          rw [← hm] at hp3
          have HM := Lib.hid hm
          have HP := Lib.hid hp3
          have HS := Lib.hid (hk3 _ _ _ HNE.out.2.1 HS.out)
          have HA := Lib.hid (hk3 _ _ _ HNA.out HA.out)
          have HT := Lib.hid (hk3 _ _ _ HNT.out HT.out)
          have HB := Lib.hid hb3
          clear hm hp3 hk3 hb3
          obtain ⟨z, hz⟩ : ∃ z, z = i1 + ds.length := ⟨_, rfl⟩
          rw [← hz]
          have HZ := Lib.hid hz
          clear hz
          go_upto_block 6 with fail
          apply hd_side (w0 := w) (s := s) (pb := pb) (sb := sb) (tb := tb) (t := 1) (pl := (((boxP (A : Nat) (0 : Nat) none 0 0)).set 1 (.int .i64 m))) (wb := ⟨#[44, 32, 121, 32, 61, 32]⟩) (ds := ds) (i1 := i1) (z := z) (m := m)
          case hs => exact HSZ.out
          case hP => exact HP.out
          case hpl => rfl
          case hp1 => exact boxP_one _ _ _ _ _
          case hS => exact HS.out
          case hne => exact HNE.out
          case hb => exact HB.out
          case hi => exact HI1.out
          case hds => exact HDS.out
          case hz => exact HZ.out
          case hm => exact HM.out
          case hpm => rfl
          case hT => exact HT.out
          case hret =>
            rintro a' w' v hr hd ⟨e, he, rfl⟩ hbl
            rcases he with ⟨rfl, he⟩ | ⟨rfl, he, hf⟩
            · show bodyPost Tryd.prog Tryd.f36 (fun e w' => HdP s.data.toList e ∧ Below w.heap.size w w') .ret a' w'
              exact bodyPost_ret hr hd ⟨hdP_bad (by rw [HH1.out, side_no he]), hbl⟩
            · show bodyPost Tryd.prog Tryd.f36 (fun e w' => HdP s.data.toList e ∧ Below w.heap.size w w') .ret a' w'
              exact bodyPost_ret hr hd ⟨hdP_bad (by rw [HH1.out, side_far he hf]), hbl⟩
          case hnext =>
            intro u3 u81 u82 u83 u84 u85 u86 u87 u88 u89 u90 u91 u92 u93 u94 u95 u96 u97 u98 u99 u100 u101 u102 u103 u104 u105 u106 u107 u108 u109 u110 u111 u112 u113 u114 u115 u116 u117 u118 u119 u120 w4 hv hnn hw4
            obtain ⟨v, rfl, hnv, h100⟩ := hv
            subst hw4
            have HOK : Hid (head s.data.toList = rest2 s.data.toList A v z) := Lib.hid (by rw [HH1.out, side_ok hnn h100 hnv, HZ.out])
            have HZS : Hid (z ≤ s.size) := Lib.hid (by rw [HZ.out]; exact HLE.out)
            clear hnv h100 hnn
            go_wp2_with fail
            go_roundw
            case rel => exact ⟨2, z, A, v, by rfl, rfl, HZS.out, .inr (.inr ⟨rfl, HOK.out⟩), HP.out, HS.out, HA.out, HB.out⟩
            case measure => decide
    · have hx2 : ¬ (((2 : Nat) : Int) < 2) := by decide
      have HH2 : Hid (head s.data.toList = word s.data.toList Pr.w3 i fun i => .ok A B i) := Lib.hid hst
      clear hst
      have hib := Nat.le_trans HI.out HSZ.out
      by_cases hzs : i < s.size
      · have hg := get_drop s hzs
        obtain ⟨x, hx⟩ : ∃ x, x = s.data.toList.getD i 0 := ⟨_, rfl⟩
        rw [← hx] at hg
        have hzi : ¬ (i : Int) = (s.size : Int) := by omega
        have hzb : ((i : Int) == (s.size : Int)) = false := by rw [beq_eq_false_iff_ne]; exact hzi
        by_cases h10 : x = 10
        · have HOK : Hid (head s.data.toList = .ok A B (i + 1)) := Lib.hid (by
            rw [HH2.out, word_hit (fun j hj => by
              obtain rfl : j = 0 := by have : j < 1 := hj; omega
              rw [Nat.add_zero, ← hx]
              exact ⟨by rw [← Lib.size_eq]; exact hzs, h10⟩)]
            rfl)
          have hq : ((x.toNat : Int) != 10) = false := by rw [h10]; rfl
          clear h10 hx
          go_upto_region 25 with fail
          have l6 := row_range HP.out
          go_wp2_with (first | (refine wpList_load_mid rfl 35 _ rfl pb (0) (by first | rfl | (go_simp; done)) _ _ l6 Tryd.underlying35 rfl infoPat ?_) | (refine Ops.wpList_store_arr rfl 35 _ _ rfl pb rfl 35 _ (boxP (A : Nat) (B : Nat) none 0 0) rfl HP.out rfl infoPat (boxP_one _ _ _ _ _) ?_; intro w6 hr6 ho6) | (refine Ops.wpList_store_arr rfl 72 _ _ rfl sb rfl 72 (stp 0 .nilIface) (stp 0 .nilIface) rfl (HS.out.other ho6 HNE.out.2.1) rfl infoStop (stp_one0 _) ?_; intro w7 hr7 ho7))
          exact bodyPost_ret (results_hd (t := 2) (u := 3) (z := 4) (e := .int .i64 (((i + 1 : Nat) : Int))) rfl _ _ (hr6.other ho7 (Ne.symm HNE.out.2.1)) rfl hr7 rfl rfl rfl rfl) rfl ⟨hdP_ok HOK.out, (HB.out.trans (ho6.below HNE.out.1)).trans (ho7.below HNE.out.2.2)⟩
        · have HBAD : Hid (head s.data.toList = .bad i 2) := Lib.hid (by
            rw [HH2.out, word_miss (k := 0) (by decide) (fun j hj => absurd hj (Nat.not_lt_zero _)) (fun h => h10 (by rw [hx]; exact h.2))]
            rfl)
          have hq : ((x.toNat : Int) != 10) = true := by rw [bne_iff_ne]; intro h; exact h10 (UInt8.toNat_inj.1 (by exact_mod_cast h))
          clear h10 hx
          go_upto_region 24 with fail
          have l6 := row_range HP.out
          go_wp2_with (first | (refine wpList_load_mid rfl 35 _ rfl pb (0) (by first | rfl | (go_simp; done)) _ _ l6 Tryd.underlying35 rfl infoPat ?_) | (refine Ops.wpList_store_arr rfl 35 _ _ rfl pb rfl 35 _ (boxP (A : Nat) (B : Nat) none 0 0) rfl HP.out rfl infoPat (boxP_one _ _ _ _ _) ?_; intro w6 hr6 ho6) | (refine Ops.wpList_store_arr rfl 72 _ _ rfl sb rfl 72 (stp 0 .nilIface) (stp ((i : Nat) : Int) (.iface 59 (.int .i64 2))) rfl (HS.out.other ho6 HNE.out.2.1) rfl infoStop (stp_one _ _) ?_; intro w7 hr7 ho7))
          exact bodyPost_ret (results_hd (t := 2) (u := 3) (z := 4) (e := .int .i64 (0)) rfl _ _ (hr6.other ho7 (Ne.symm HNE.out.2.1)) rfl hr7 rfl rfl rfl rfl) rfl ⟨hdP_bad HBAD.out, (HB.out.trans (ho6.below HNE.out.1)).trans (ho7.below HNE.out.2.2)⟩
      · have hzi : i = s.size := by have := HI.out; omega
        have HBAD : Hid (head s.data.toList = .bad i 2) := Lib.hid (by
          rw [HH2.out, word_miss (k := 0) (by decide) (fun j hj => absurd hj (Nat.not_lt_zero _)) (fun h => by have h1 := h.1; rw [← Lib.size_eq] at h1; omega)]
          rfl)
        subst hzi
        go_upto_region 24 with fail
        have l6 := row_range HP.out
        go_wp2_with (first | (refine wpList_load_mid rfl 35 _ rfl pb (0) (by first | rfl | (go_simp; done)) _ _ l6 Tryd.underlying35 rfl infoPat ?_) | (refine Ops.wpList_store_arr rfl 35 _ _ rfl pb rfl 35 _ (boxP (A : Nat) (B : Nat) none 0 0) rfl HP.out rfl infoPat (boxP_one _ _ _ _ _) ?_; intro w6 hr6 ho6) | (refine Ops.wpList_store_arr rfl 72 _ _ rfl sb rfl 72 (stp 0 .nilIface) (stp ((s.size : Nat) : Int) (.iface 59 (.int .i64 2))) rfl (HS.out.other ho6 HNE.out.2.1) rfl infoStop (stp_one _ _) ?_; intro w7 hr7 ho7))
        exact bodyPost_ret (results_hd (t := 2) (u := 3) (z := 4) (e := .int .i64 (0)) rfl _ _ (hr6.other ho7 (Ne.symm HNE.out.2.1)) rfl hr7 rfl rfl rfl rfl) rfl ⟨hdP_bad HBAD.out, (HB.out.trans (ho6.below HNE.out.1)).trans (ho7.below HNE.out.2.2)⟩
end Pr
end Go.Proofs.YtgagophijmiceaaDoor
