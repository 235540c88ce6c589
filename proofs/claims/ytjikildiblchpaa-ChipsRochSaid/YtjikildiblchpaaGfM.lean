/- MEMORY OF GRAPHS: rows of numbers by a function, a net; slices.Contains, slices.ContainsFunc of a pile. -/
import Derived.Test.YtjikildiblchpaaChecked
import Derived.Test.YtjikildiblchpaaOps
import Derived.Test.YtjikildiblchpaaErr
import Derived.Test.YtjikildiblchpaaInts
import Derived.Test.YtjikildiblchpaaOpenI
import Derived.Test.YtjikildiblchpaaGfPl
import Derived.WalkSpells
import Derived.WalkLawsBesides
import Derived.Lib.Hide
import Derived.BigQuiet
import Derived.Deep.QuietTactic
import Derived.Deep.DeepCutAuto
import Derived.Deep.RegionHeld3
import Derived.Deep.RegionWith
namespace Go.Proofs.Ytjikildiblchpaa
set_option linter.unusedSimpArgs false
set_option linter.unusedVariables false
open Go.RowKit Go.Lib
namespace Rt
open Tld Mem

/-- A row of numbers of the call's own: the first P are F. -/
structure Vec (w : World) (b P : Nat) (F : Nat → Int) : Prop where
  row : ∃ cs, Row w b 3 cs ∧ ∀ k, k < P → cs[k]? = some (.int .i64 (F k))
theorem Vec.cell {w : World} {b P : Nat} {F : Nat → Int} (h : Vec w b P F) {k : Nat} (hk : k < P) : w.cell? ⟨b, k, none⟩ = some (.int .i64 (F k)) := by
  obtain ⟨cs, hr, hc⟩ := h.row
  rw [hr.cell k]; exact hc k hk
theorem Vec.frozen {w : World} {b P : Nat} {F : Nat → Int} (h : Vec w b P F) (k : Nat) : w.frozen? ⟨b, k, none⟩ = false := by
  obtain ⟨cs, hr, hc⟩ := h.row
  exact hr.frozen k
theorem Vec.lt {w : World} {b P : Nat} {F : Nat → Int} (h : Vec w b P F) : b < w.heap.size := by
  obtain ⟨cs, hr, hc⟩ := h.row
  exact hr.lt
theorem Vec.congr {w : World} {b P : Nat} {F G : Nat → Int} (h : Vec w b P F) (e : ∀ k, k < P → F k = G k) : Vec w b P G := by
  obtain ⟨cs, hr, hc⟩ := h.row
  exact ⟨⟨cs, hr, fun k hk => by rw [hc k hk, e k hk]⟩⟩
def upd (F : Nat → Int) (i : Nat) (v : Int) (k : Nat) : Int := if k = i then v else F k
theorem upd_at {F : Nat → Int} {i : Nat} {v : Int} : upd F i v i = v := if_pos rfl
theorem upd_no {F : Nat → Int} {i k : Nat} {v : Int} (h : k ≠ i) : upd F i v k = F k := if_neg h
theorem Vec.set {w : World} {b P : Nat} {F : Nat → Int} (h : Vec w b P F) {i : Nat} (hi : i < P) (v : Int) : Vec (w.setCell ⟨b, i, none⟩ (.int .i64 v)) b P (upd F i v) := by
  obtain ⟨cs, hr, hc⟩ := h.row
  refine ⟨⟨_, hr.set i (.int .i64 v), fun k hk => ?_⟩⟩
  by_cases e : k = i
  · subst e
    have hl := (List.getElem?_eq_some_iff.1 (hc k hk)).1
    rw [List.getElem?_set_self hl, upd_at]
  · rw [List.getElem?_set_ne (fun h => e h.symm), upd_no e]; exact hc k hk
theorem Vec.other {w w' : World} {b c P : Nat} {F : Nat → Int} (h : Vec w b P F) (k : Only c w w') (hne : b ≠ c) : Vec w' b P F := by
  obtain ⟨cs, hr, hc⟩ := h.row
  exact ⟨⟨cs, hr.other k hne, hc⟩⟩
theorem Vec.keep {w w' : World} {b B P : Nat} {F : Nat → Int} (h : Vec w b P F) (k : Below B w w') (hlt : b < B) : Vec w' b P F := by
  obtain ⟨cs, hr, hc⟩ := h.row
  exact ⟨⟨cs, hr.keep k hlt, hc⟩⟩
theorem Vec.drewN {w : World} {b P : Nat} {F : Nat → Int} (h : Vec w b P F) (n : Nat) : Vec (w.drewN n) b P F := by
  obtain ⟨cs, hr, hc⟩ := h.row
  exact ⟨⟨cs, hr.drewN n, hc⟩⟩
def lstF (P : Nat) (F : Nat → Int) : List Int := (List.range P).map F
theorem lstF_len {P : Nat} {F : Nat → Int} : (lstF P F).length = P := by simp [lstF]
theorem lstF_get {P k : Nat} {F : Nat → Int} (h : k < P) : (lstF P F).getD k 0 = F k := by
  simp [lstF, List.getD_eq_getElem?_getD, List.getElem?_range h]
theorem lstF_congr {P : Nat} {F G : Nat → Int} (h : ∀ k, k < P → F k = G k) : lstF P F = lstF P G := List.map_congr_left fun k hk => h k (List.mem_range.1 hk)
theorem lstF_of {P : Nat} {zs : List Int} (h : zs.length = P) : lstF P (fun k => zs.getD k 0) = zs := by
  apply List.ext_getElem (by rw [lstF_len, h])
  intro i h1 h2
  simp [lstF, List.getD_eq_getElem?_getD, List.getElem?_eq_getElem h2]
theorem Vec.is {w : World} {b P : Nat} {F : Nat → Int} (h : Vec w b P F) (hP : P ≤ maxLen) : Ints.Is w (some ⟨b, 0, none⟩) P (lstF P F) where
  len := lstF_len
  cells := fun i hi => ⟨b, 0, rfl, h.lt, by rw [Nat.zero_add]; dsimp only; rw [lstF_get hi]; exact h.cell hi⟩
  le := hP
theorem row_made {w : World} {b P : Nat} (h : Row w b 3 (List.replicate P (.int .i64 0))) : Vec w b P fun _ => 0 :=
  ⟨⟨_, h, fun k hk => by rw [List.getElem?_replicate, if_pos hk]⟩⟩
theorem vec_own {w : World} {B b P c : Nat} {zs : List Int} (h : w.ownsRow B 3 1 (.slice (some ⟨b, 0, none⟩) P c) P (zs.map (Value.int .i64))) (hz : zs.length = P) : Vec w b P fun k => zs.getD k 0 := by
  rcases h.2 with ⟨hv, _⟩ | ⟨g, cap, cur, hv, hB, hg, hnc, hcm, hcs, ht⟩
  · cases hv
  · cases hv
    refine ⟨⟨cur.toList, ?_, fun k hk => ?_⟩⟩
    · unfold Row; simpa using hg
    · have h3 : (cur.toList.take (P * 1))[k]? = (zs.map (Value.int .i64))[k]? := by rw [ht]
      rw [List.getElem?_take_of_lt (by omega)] at h3
      rw [h3, List.getElem?_map, List.getElem?_eq_getElem (by omega), List.getD_eq_getElem?_getD, List.getElem?_eq_getElem (by omega)]
      rfl

theorem int_mem {zs : List Int} {k : Nat} (h : k < zs.length) : zs.getD k 0 ∈ zs := by
  rw [List.getD_eq_getElem?_getD, List.getElem?_eq_getElem h]
  exact List.getElem_mem h
theorem any_no {zs : List Int} {p : Int → Bool} (h : ∀ k, k < zs.length → p (zs.getD k 0) = false) : zs.any p = false := by
  rw [List.any_eq_false]
  intro z hz
  obtain ⟨k, hk, rfl⟩ := List.getElem_of_mem hz
  have := h k hk
  rw [List.getD_eq_getElem?_getD, List.getElem?_eq_getElem hk] at this
  exact Bool.eq_false_iff.1 this
theorem any_yes {zs : List Int} {p : Int → Bool} {k : Nat} (hk : k < zs.length) (h : p (zs.getD k 0) = true) : zs.any p = true :=
  List.any_eq_true.2 ⟨_, int_mem hk, h⟩
/-- A number that is none of chips. -/
def pbad (z : Int) : Bool := decide (z < 0 ∨ 10000 < z)
set_option maxHeartbeats 1000000 in
theorem ptest_any (z : Int) (w : World) : Calls Try.prog 43 #[.int .i64 z] w fun e w' => e = .returned (.bool (pbad z)) ∧ w = w' := by
  go_enter Try.func43, Try.ntmps43
  by_cases h0 : z < 0
  · have : pbad z = true := by unfold pbad; simp; omega
    rw [this]
    go_wp2
    go_ret
    exact ⟨rfl, rfl⟩
  · by_cases h1 : 10000 < z
    · have : pbad z = true := by unfold pbad; simp; omega
      rw [this]
      go_wp2
      go_ret
      exact ⟨rfl, rfl⟩
    · have : pbad z = false := by unfold pbad; simp; omega
      rw [this]
      go_wp2
      go_ret
      exact ⟨rfl, rfl⟩
set_option maxHeartbeats 2000000 in
theorem pindex_any (sa : Option Addr) (sn sc : Nat) (zs : List Int) (w : World) (hz : zs.length = sn) (hs : sn ≤ 9223372036854775807) (hZ : Cells w sa sn (fun i => .int .i64 (zs.getD i 0))) :
    Calls Try.prog 46 #[.slice sa sn sc, .func (.func 43) #[] #[]] w fun e w' => (∃ k : Int, e = .returned (.int .i64 k) ∧ decide (0 ≤ k) = zs.any pbad) ∧ w = w' := by
  have HZ := Lib.hid hZ
  have HG := Lib.hid (fun z => ptest_any z w)
  have HZL := Lib.hid hz
  clear hZ hz
  go_enter Try.func46, Try.ntmps46
  go_wp2
  go_loop [8] (fun v => ∃ i : Nat, i ≤ sn ∧ v = .int .i64 i ∧ (∀ k, k < i → pbad (zs.getD k 0) = false)) (fun v => sn - (intOf v).toNat)
  case atStart => exact ⟨0, Nat.zero_le _, rfl, fun k hk => absurd hk (Nat.not_lt_zero _)⟩
  case round =>
    obtain ⟨i, hi, rfl, hok⟩ := hrel
    have HOK := Lib.hid hok
    clear hok
    by_cases hlt : i < sn
    · obtain ⟨b, off', rfl, hbl, hc⟩ := HZ.out i hlt
      dsimp only at hc
      have HY := Lib.hid (fun h => any_yes (zs := zs) (p := pbad) (k := i) (by rw [HZL.out]; exact hlt) h)
      have HOK2 : Hid (pbad (zs.getD i 0) = false → ∀ k, k < i + 1 → pbad (zs.getD k 0) = false) := fun h k hk => by
        by_cases hki : k = i
        · subst hki; exact h
        · exact HOK.out k (by omega)
      have HG2 := Lib.hid (HG.out (zs.getD i 0))
      generalize hz : zs.getD i 0 = z at *
      clear hz
      generalize hp : pbad z = q at *
      clear hp
      go_wp2_with fail
      refine HG2.out.mono ?_
      rintro e1 w1 ⟨rfl, rfl⟩
      cases q
      · go_wp2_with fail
        go_round
        case rel => exact ⟨i + 1, by omega, by go_num, HOK2.out (by first | rfl | trivial)⟩
        case measure => simp [intOf]; omega
      · go_wp2_with fail
        go_ret
        exact ⟨⟨i, rfl, by rw [HY.out (by first | rfl | trivial)]; simp⟩, rfl⟩
    · have HN := Lib.hid (any_no (zs := zs) (p := pbad) fun k hk => HOK.out k (by rw [HZL.out] at hk; omega))
      go_wp2
      go_ret
      exact ⟨⟨-1, rfl, by rw [HN.out]; rfl⟩, rfl⟩
theorem pcontains_any (sa : Option Addr) (sn sc : Nat) (zs : List Int) (w : World) (hz : zs.length = sn) (hs : sn ≤ 9223372036854775807) (hZ : Cells w sa sn (fun i => .int .i64 (zs.getD i 0))) :
    Calls Try.prog 35 #[.slice sa sn sc, .func (.func 43) #[] #[]] w fun e w' => e = .returned (.bool (zs.any pbad)) ∧ w = w' := by
  have HI := Lib.hid (pindex_any sa sn sc zs w hz hs hZ)
  clear hZ
  go_enter Try.func35, Try.ntmps35
  go_wp2_with fail
  refine HI.out.mono ?_
  rintro e1 w1 ⟨⟨k, rfl, hk⟩, rfl⟩
  have HK := Lib.hid hk
  clear hk
  go_wp2
  go_ret
  exact ⟨congrArg (fun b => Ending.returned (.bool b)) HK.out, rfl⟩

/-- Is a number among others? -/
def has (zs : List Int) (z : Int) : Bool := zs.any fun x => decide (x = z)
set_option maxHeartbeats 2000000 in
theorem index_any (sa : Option Addr) (sn sc : Nat) (zs : List Int) (t : Int) (w : World) (hz : zs.length = sn) (hs : sn ≤ 9223372036854775807) (hZ : Cells w sa sn (fun i => .int .i64 (zs.getD i 0))) :
    Calls Try.prog 48 #[.slice sa sn sc, .int .i64 t] w fun e w' => (∃ k : Int, e = .returned (.int .i64 k) ∧ decide (0 ≤ k) = has zs t) ∧ w = w' := by
  have HZ := Lib.hid hZ
  have HZL := Lib.hid hz
  clear hZ hz
  go_enter Try.func48, Try.ntmps48
  go_wp2
  go_loop [8] (fun v => ∃ i : Nat, i ≤ sn ∧ v = .int .i64 i ∧ (∀ k, k < i → decide (zs.getD k 0 = t) = false)) (fun v => sn - (intOf v).toNat)
  case atStart => exact ⟨0, Nat.zero_le _, rfl, fun k hk => absurd hk (Nat.not_lt_zero _)⟩
  case round =>
    obtain ⟨i, hi, rfl, hok⟩ := hrel
    have HOK := Lib.hid hok
    clear hok
    by_cases hlt : i < sn
    · obtain ⟨b, off', rfl, hbl, hc⟩ := HZ.out i hlt
      dsimp only at hc
      have HY := Lib.hid (fun h => any_yes (zs := zs) (p := fun x => decide (x = t)) (k := i) (by rw [HZL.out]; exact hlt) h)
      have HOK2 : Hid (decide (zs.getD i 0 = t) = false → ∀ k, k < i + 1 → decide (zs.getD k 0 = t) = false) := fun h k hk => by
        by_cases hki : k = i
        · subst hki; exact h
        · exact HOK.out k (by omega)
      generalize hz : zs.getD i 0 = z at *
      clear hz
      obtain ⟨q, hq⟩ : ∃ q, q = decide (z = t) := ⟨_, rfl⟩
      have hbe : (t == z) = q := by
        rw [hq, Bool.eq_iff_iff, beq_iff_eq, decide_eq_true_iff]; exact eq_comm
      have HQ := Lib.hid hq
      clear hq
      cases q
      · go_wp2_with fail
        go_round
        case rel => exact ⟨i + 1, by omega, by go_num, HOK2.out HQ.out.symm⟩
        case measure => simp [intOf]; omega
      · go_wp2_with fail
        go_ret
        refine ⟨⟨i, rfl, ?_⟩, rfl⟩
        have := HY.out HQ.out.symm
        unfold has
        rw [this]; simp
    · have HN := Lib.hid (any_no (zs := zs) (p := fun x => decide (x = t)) fun k hk => HOK.out k (by rw [HZL.out] at hk; omega))
      go_wp2
      go_ret
      refine ⟨⟨-1, rfl, ?_⟩, rfl⟩
      unfold has
      rw [HN.out]; rfl
theorem contains_any (sa : Option Addr) (sn sc : Nat) (zs : List Int) (t : Int) (w : World) (hz : zs.length = sn) (hs : sn ≤ 9223372036854775807) (hZ : Cells w sa sn (fun i => .int .i64 (zs.getD i 0))) :
    Calls Try.prog 45 #[.slice sa sn sc, .int .i64 t] w fun e w' => e = .returned (.bool (has zs t)) ∧ w = w' := by
  have HI := Lib.hid (index_any sa sn sc zs t w hz hs hZ)
  clear hZ
  go_enter Try.func45, Try.ntmps45
  go_wp2_with fail
  refine HI.out.mono ?_
  rintro e1 w1 ⟨⟨k, rfl, hk⟩, rfl⟩
  have HK := Lib.hid hk
  clear hk
  go_wp2
  go_ret
  exact ⟨congrArg (fun b => Ending.returned (.bool b)) HK.out, rfl⟩
end Rt
end Go.Proofs.Ytjikildiblchpaa
