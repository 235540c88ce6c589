/- WALK: the reader's rule: small laws, what it hands back. -/
import Derived.Test.YtgagophijmiceaaDoorRuR3
import Derived.Test.YtgagophijmiceaaDoorShelf
namespace Go.Proofs.YtgagophijmiceaaDoor
set_option linter.unusedSimpArgs false
set_option linter.unusedVariables false
open Go.RowKit
namespace Pr
open Tld Mem Bl Pn Pw Rd

theorem hasPrefix_one (l : List UInt8) (c : UInt8) : Lib.hasPrefix l [c] = decide (l.head? = some c) := by
  cases l with
  | nil => rfl
  | cons x l =>
    rw [Bool.eq_iff_iff]
    simp [Lib.hasPrefix, List.isPrefixOf]
    exact ⟨fun h => h.symm, fun h => h.symm⟩
theorem RN.on_ok {o : RN} {n i : Nat} {F : Nat → Nat → RU} (h : o = .ok n i) : o.on F = F n i := by rw [h]; rfl
theorem RN.on_bad {o : RN} {p : Nat} {F : Nat → Nat → RU} (h : o = .bad p) : o.on F = .bad p := by rw [h]; rfl
theorem wantO_ok {l : List UInt8} {i : Nat} {c : UInt8} {K : RU} (h : i < l.length ∧ l.getD i 0 = c) : wantO l i c K = K := by unfold wantO; rw [if_pos h]
theorem wantO_bad {l : List UInt8} {i : Nat} {c : UInt8} {K : RU} (h : ¬ (i < l.length ∧ l.getD i 0 = c)) : wantO l i c K = .bad i := by unfold wantO; rw [if_neg h]
theorem endO_ok {s : ByteArray} {i : Nat} {K : RU} (h : ¬ i < s.size) : endO s.data.toList i K = K := by unfold endO; rw [if_neg (by rw [← Lib.size_eq]; exact h)]
theorem endO_bad {s : ByteArray} {i : Nat} {K : RU} (h : i < s.size) : endO s.data.toList i K = .bad i := by unfold endO; rw [if_pos (by rw [← Lib.size_eq]; exact h)]
theorem numO_ok {l : List UInt8} {i n j : Nat} {lo hi : Int} (hlo : 0 ≤ lo) (h : numO l i lo hi = .ok n j) : lo ≤ (n : Int) ∧ (n : Int) ≤ hi := by
  unfold numO at h
  split at h
  · cases h
  · cases h
    omega
theorem ext_two {s : ByteArray} {i z n : Nat} (h : z - i = n) : s.extract i z = ⟨((s.data.toList.drop i).take n).toArray⟩ := by
  apply ByteArray.ext
  rw [ByteArray.data_extract]
  apply Array.ext'
  rw [Array.toList_extract, List.extract_eq_take_drop, h]
theorem head_lt {s : ByteArray} {c : UInt8} (h : s.data.toList.head? = some c) : 0 < s.size := by
  rw [Lib.size_eq]
  rcases hl : s.data.toList with _ | ⟨x, l⟩
  · rw [hl] at h
    exact absurd h (by simp)
  · exact Nat.succ_pos _
theorem pre_any (s : ByteArray) (c : UInt8) (w : World) (q : Bool) (hq : decide (s.data.toList.head? = some c) = q) : Calls Tryd.prog 55 #[.string s, .string ⟨#[c]⟩] w fun e w' => e = .returned (.bool q) ∧ w' = w := by
  have h := Tryd.strings_HasPrefix s ⟨#[c]⟩ w
  rw [show (ByteArray.mk #[c]).data.toList = [c] from rfl, hasPrefix_one, hq] at h
  exact h
section
variable {w0 wr w2 : World} {ob b : Nat} {K Bo S st ra : Int} {tu s : ByteArray} {i : Nat} {zs : List Int} {vs : Value}
theorem RSt.went (h : RSt w0 wr ob b K Bo S st ra tu s i zs vs) (ho : Only b wr w2) (hr : Row w2 b 62 (rdr s i)) : RSt w0 w2 ob b K Bo S st ra tu s i zs vs := h.read ho hr
theorem RSt.all {K' Bo' S' st' ra' : Int} {tu' : ByteArray} (h : RSt w0 wr ob b K Bo S st ra tu s i [] vs) (ho : Only ob wr w2) (hq : Row w2 ob 24 (rbox K' Bo' S' st' ra' (.slice none 0 0) tu')) : RSt w0 w2 ob b K' Bo' S' st' ra' tu' s i [] (.slice none 0 0) :=
  ⟨hq, h.r.other ho (by have := h.ne; omega), ⟨rfl, .inl ⟨rfl, rfl⟩⟩, h.bl.trans (ho.below (by have := h.ne; omega)), by rw [ho.size]; exact h.sz, h.ne⟩
theorem RSt.oth {k : Nat} {v : Value} {K' Bo' S' st' ra' : Int} {tu' : ByteArray} (h : RSt w0 wr ob b K Bo S st ra tu s i zs vs) (e : (rbox K Bo S st ra vs tu).set k v = rbox K' Bo' S' st' ra' vs tu') : RSt w0 (wr.setCell ⟨ob, k, none⟩ v) ob b K' Bo' S' st' ra' tu' s i zs vs := by
  have ho := only_setCell wr ob k v
  refine ⟨by rw [← e]; exact h.q.set k v, h.r.other ho (by have := h.ne; omega), own_only h.o ho (own_ne h.o h.q (by decide)), h.bl.trans (ho.below (by have := h.ne; omega)), by rw [ho.size]; exact h.sz, h.ne⟩
theorem RSt.set0 (h : RSt w0 wr ob b K Bo S st ra tu s i zs vs) (v : Int) : RSt w0 (wr.setCell ⟨ob, 0, none⟩ (.int .i64 v)) ob b v Bo S st ra tu s i zs vs := h.oth rfl
theorem RSt.set1 (h : RSt w0 wr ob b K Bo S st ra tu s i zs vs) (v : Int) : RSt w0 (wr.setCell ⟨ob, 1, none⟩ (.int .i64 v)) ob b K v S st ra tu s i zs vs := h.oth rfl
theorem RSt.set2 (h : RSt w0 wr ob b K Bo S st ra tu s i zs vs) (v : Int) : RSt w0 (wr.setCell ⟨ob, 2, none⟩ (.int .i64 v)) ob b K Bo v st ra tu s i zs vs := h.oth rfl
theorem RSt.set4 (h : RSt w0 wr ob b K Bo S st ra tu s i zs vs) (v : Int) : RSt w0 (wr.setCell ⟨ob, 4, none⟩ (.int .i64 v)) ob b K Bo S st v tu s i zs vs := h.oth rfl
theorem RSt.set6 (h : RSt w0 wr ob b K Bo S st ra tu s i zs vs) (v : ByteArray) : RSt w0 (wr.setCell ⟨ob, 6, none⟩ (.string v)) ob b K Bo S st ra v s i zs vs := h.oth rfl
end
/-- What rule hands back. -/
def RuP (l : List UInt8) (B0 : Nat) (e : Ending) (w' : World) : Prop := match ruleO l with
  | .bad p => e = (.panicked [{ v := .iface 57 (.agg #[.int .i64 ((p : Nat) : Int)]), recovered := false }])
  | .ok K B S st ra zs tu => ∃ a n c, e = .returned (.agg #[.int .i64 (K : Nat), .int .i64 (B : Nat), .int .i64 (S : Nat), .int .i64 (st : Nat), .int .i64 (ra : Nat), .slice a n c, .string ⟨tu.toArray⟩]) ∧ Ints.Is w' a n zs ∧ ∀ b o, a = some ⟨b, o, none⟩ → B0 ≤ b
theorem ruP_ok {l : List UInt8} {B0 : Nat} {w' : World} {K B S st ra : Nat} {zs : List Int} {tu : List UInt8} {a : Option Addr} {n c : Nat} {v : Value} (h : ruleO l = .ok K B S st ra zs tu) (hv : v = .agg #[.int .i64 (K : Nat), .int .i64 (B : Nat), .int .i64 (S : Nat), .int .i64 (st : Nat), .int .i64 (ra : Nat), .slice a n c, .string ⟨tu.toArray⟩]) (hi : Ints.Is w' a n zs ∧ ∀ b o, a = some ⟨b, o, none⟩ → B0 ≤ b) : RuP l B0 (.returned v) w' := by
  unfold RuP
  rw [h]
  exact ⟨a, n, c, by rw [hv], hi⟩
theorem infoRul : (Tryd.prog.info? 24).map (·.size) = some 7 := by kernel_rfl
theorem rbox_one (K Bo S st ra : Int) (a : Option Addr) (n c : Nat) (tu : ByteArray) : ∀ v ∈ rbox K Bo S st ra (.slice a n c) tu, v.oneCell' = true := by simp [rbox, Value.oneCell']
theorem results_rule {fn : Func} {t : Tmp} (hr : fn.results = #[.cell t 24]) (tmps : Array Value) (w : World) {q : Nat} {V : List Value} (h : Row w q 24 V) (hV : V.length = 7) (h8 : tmps.getD t undef = .pointer (some ⟨q, 0, none⟩)) :
    (results fn tmps).run Tryd.prog w = .ok (.agg V.toArray) w := by
  have hl := run_loadVar_row (P := Tryd.prog) w q 24 24 V.toArray (0, 0) _ h Tryd.underlying24 rfl (by rw [List.size_toArray, hV]; exact infoRul)
  have h8' : tmps[t]?.getD undef = .pointer (some ⟨q, 0, none⟩) := by simpa using h8
  simp [results, hr, h8', asAddr, hl]
theorem ruP_bad {l : List UInt8} {B0 : Nat} {w' : World} {p : Nat} (h : ruleO l = .bad p) : RuP l B0 (.panicked [{ v := .iface 57 (.agg #[.int .i64 ((p : Nat) : Int)]), recovered := false }]) w' := by
  unfold RuP
  rw [h]
end Pr
end Go.Proofs.YtgagophijmiceaaDoor
