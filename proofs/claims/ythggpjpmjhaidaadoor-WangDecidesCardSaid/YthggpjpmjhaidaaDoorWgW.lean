/- WALK: wang's colour, Check, check, Fits. -/
import Derived.Test.YthggpjpmjhaidaaDoorWgPl
import Derived.Test.YthggpjpmjhaidaaDoorMem
import Derived.Test.YthggpjpmjhaidaaDoorErr
import Derived.Test.YthggpjpmjhaidaaDoorOps
import Derived.Test.YthggpjpmjhaidaaDoorChecked
import Derived.Lib.Hide
namespace Go.Proofs.YthggpjpmjhaidaaDoor
set_option linter.unusedSimpArgs false
set_option linter.unusedVariables false
open Go.RowKit Go.Lib
namespace Wg
open Tld Mem

def tcell (t : Tl) : Nat → Int
  | 0 => t.u
  | 1 => t.r
  | 2 => t.d
  | _ => t.l
/-- Tiles that came in. -/
structure Tiles (w : World) (a : Option Addr) (n : Nat) (ts : List Tl) : Prop where
  len : ts.length = n
  rows : Mem.Rows w a n 4 (fun i j => .int .i64 (tcell (ts.getD i noTile) j))
  le : n ≤ maxLen
theorem Tiles.below {w w' : World} {a : Option Addr} {n : Nat} {ts : List Tl} {B : Nat} (h : Tiles w a n ts) (hb : Below B w w') (hB : w.heap.size ≤ B) : Tiles w' a n ts := ⟨h.len, h.rows.below hb hB, h.le⟩
theorem Tiles.keep {w w' : World} {a : Option Addr} {n : Nat} {ts : List Tl} (h : Tiles w a n ts) (hb : Below w.heap.size w w') : Tiles w' a n ts := h.below hb (Nat.le_refl _)
/-- A tile, as a value. -/
def tv (t : Tl) : Value := .agg #[.int .i64 t.u, .int .i64 t.r, .int .i64 t.d, .int .i64 t.l]
/-- Its four cells. -/
structure TAt (w : World) (b o : Nat) (t : Tl) : Prop where
  c0 : w.cell? ⟨b, o, none⟩ = some (.int .i64 t.u)
  c1 : w.cell? ⟨b, o + 1, none⟩ = some (.int .i64 t.r)
  c2 : w.cell? ⟨b, o + 2, none⟩ = some (.int .i64 t.d)
  c3 : w.cell? ⟨b, o + 3, none⟩ = some (.int .i64 t.l)
theorem Tiles.at {w : World} {a : Option Addr} {n : Nat} {ts : List Tl} (h : Tiles w a n ts) {i : Nat} (hi : i < n) : ∃ b off, a = some ⟨b, off, none⟩ ∧ b < w.heap.size ∧ TAt w b (off + i * 4) (ts.getD i noTile) := by
  obtain ⟨b, off, e, hlt, hc⟩ := h.rows i hi
  exact ⟨b, off, e, hlt, hc 0 (by omega), hc 1 (by omega), hc 2 (by omega), hc 3 (by omega)⟩

theorem colour_any (c : Int) (w : World) : Calls Tryd.prog 45 #[.int .i64 c] w fun e w' => e = .returned (.bool (col c)) ∧ w = w' := by
  go_enter Tryd.func45, Tryd.ntmps45
  by_cases h1 : 0 ≤ c
  · by_cases h2 : c ≤ 7
    · have : col c = true := by unfold col; simp [h1, h2]
      rw [this]
      go_wp2
      go_ret
      exact ⟨rfl, rfl⟩
    · have : col c = false := by unfold col; simp [h1, h2]
      rw [this]
      go_wp2
      go_ret
      exact ⟨rfl, rfl⟩
  · have : col c = false := by unfold col; simp [h1]
    rw [this]
    go_wp2
    go_ret
    exact ⟨rfl, rfl⟩

theorem infoTile : (Tryd.prog.info? 89).map (·.size) = some 4 := by kernel_rfl
theorem TAt.range {w : World} {b o : Nat} {t : Tl} (h : TAt w b o t) : w.rangeAt b o [.int .i64 t.u, .int .i64 t.r, .int .i64 t.d, .int .i64 t.l] := fun j v hv => by
  match j with
  | 0 => cases hv; exact h.c0
  | 1 => cases hv; exact h.c1
  | 2 => cases hv; exact h.c2
  | 3 => cases hv; exact h.c3
  | j + 4 => cases hv
theorem Tiles.range {w : World} {b off n : Nat} {ts : List Tl} (h : Tiles w (some ⟨b, off, none⟩) n ts) {i : Nat} (hi : i < n) : b < w.heap.size ∧ w.rangeAt b (off + i * 4) [.int .i64 (ts.getD i noTile).u, .int .i64 (ts.getD i noTile).r, .int .i64 (ts.getD i noTile).d, .int .i64 (ts.getD i noTile).l] := by
  obtain ⟨b', off', e, hlt, hc⟩ := h.at hi
  cases e
  exact ⟨hlt, hc.range⟩
theorem Tiles.some {w : World} {a : Option Addr} {n : Nat} {ts : List Tl} (h : Tiles w a n ts) (hn : 0 < n) : ∃ b off, a = Option.some ⟨b, off, none⟩ ∧ b < w.heap.size := by
  obtain ⟨b, off, e, hlt, _⟩ := h.at hn
  exact ⟨b, off, e, hlt⟩
theorem tfault_ok {ts : List Tl} (h1 : 1 ≤ ts.length) (h2 : ts.length ≤ 16) (h : ∀ k, k < ts.length → (ts.getD k noTile).ok = true) : tfault ts = 0 := by
  unfold tfault; rw [if_neg (by omega), if_pos (all_of_get h)]
theorem tfault_bad {ts : List Tl} (h1 : 1 ≤ ts.length) (h2 : ts.length ≤ 16) {k : Nat} (hk : k < ts.length) (h : (ts.getD k noTile).ok = false) : tfault ts = 1 := by
  unfold tfault; rw [if_neg (by omega), if_neg]
  rw [all_snoc_false (tl_mem hk) h]; exact Bool.false_ne_true
theorem tfault_range {ts : List Tl} (h : ¬ (1 ≤ ts.length ∧ ts.length ≤ 16)) : tfault ts = 4 := by
  unfold tfault; rw [if_pos (by omega)]

set_option maxHeartbeats 2000000 in
set_option maxRecDepth 100000 in
theorem check1_any (a : Option Addr) (n c : Nat) (ts : List Tl) (w : World) (hT : Tiles w a n ts) :
    Calls Tryd.prog 23 #[.slice a n c] w fun e w' => e = .returned (errV (tfault ts)) ∧ Below w.heap.size w w' := by
  have HT := Lib.hid hT
  have hnl := hT.len
  have hmx := hT.le
  unfold maxLen at hmx
  clear hT
  by_cases h16 : 1 ≤ n ∧ n ≤ 16
  · obtain ⟨h1, h2⟩ := h16
    have HTE := Lib.hid (tfault_ok (ts := ts) (by omega) (by omega))
    have HTB := Lib.hid (fun k hk h => tfault_bad (ts := ts) (by omega) (by omega) (k := k) hk h)
    have HNL := Lib.hid hnl
    clear hnl
    obtain ⟨b, off, rfl, hbl⟩ := HT.out.some (by omega)
    have hn0 : ((n : Int) == 0) = false := by rw [beq_eq_false_iff_ne]; omega
    go_enter Tryd.func23, Tryd.ntmps23
    go_wp2
    go_loopw [16] (fun v wr => ∃ i : Nat, i ≤ n ∧ v = .int .i64 i ∧ (∀ k, k < i → (ts.getD k noTile).ok = true) ∧ Below w.heap.size w wr) (fun v _ => n - (intOf v).toNat)
    case atStart => exact ⟨0, Nat.zero_le _, rfl, fun k hk => absurd hk (Nat.not_lt_zero _), Below.refl _ _⟩
    case round =>
      obtain ⟨i, hi, rfl, hok, hbel⟩ := hrel
      have HOK := Lib.hid hok
      clear hok
      by_cases hlt : i < n
      · obtain ⟨_, hr⟩ := (HT.out.keep hbel).range hlt
        have HR := Lib.hid hr
        have hbel2 := hbel.alloc (o := .cells #[.int .i64 (ts.getD i noTile).u, .int .i64 (ts.getD i noTile).r, .int .i64 (ts.getD i noTile).d, .int .i64 (ts.getD i noTile).l] 89) hbel.size
        have HBAD := Lib.hid (HTB.out i (by rw [HNL.out]; exact hlt))
        have HOK2 : Hid ((ts.getD i noTile).ok = true → ∀ k, k < i + 1 → (ts.getD k noTile).ok = true) := fun h k hk => by
          by_cases hki : k = i
          · subst hki; exact h
          · exact HOK.out k (by omega)
        clear hr
        generalize ts.getD i noTile = t at *
        obtain ⟨tu, tr, td, tl⟩ := t
        go_wp2_with (refine wpList_load_mid rfl 89 _ rfl b (off + i * 4) rfl _ _ HR.out Tryd.underlying89 rfl infoTile ?_)
        have HB2 := Lib.hid hbel2
        have hrow : Row (wr.alloc (.cells #[.int .i64 tu, .int .i64 tr, .int .i64 td, .int .i64 tl] 89)) wr.heap.size 89 [.int .i64 tu, .int .i64 tr, .int .i64 td, .int .i64 tl] := row_alloc wr 89 [.int .i64 tu, .int .i64 tr, .int .i64 td, .int .i64 tl]
        have hf1 := hrow.cell 1
        have hf2 := hrow.cell 2
        have hf3 := hrow.cell 3
        clear hbel2 hrow
        generalize wr.alloc (.cells #[.int .i64 tu, .int .i64 tr, .int .i64 td, .int .i64 tl] 89) = w2 at *
        refine (colour_any tu _).mono ?_
        rintro e1 w3 ⟨rfl, rfl⟩
        by_cases hu : col tu = true
        · rw [hu]
          go_wp2_with fail
          refine (colour_any tr _).mono ?_
          rintro e2 w4 ⟨rfl, rfl⟩
          by_cases hr : col tr = true
          · rw [hr]
            go_wp2_with fail
            refine (colour_any td _).mono ?_
            rintro e3 w5 ⟨rfl, rfl⟩
            by_cases hd : col td = true
            · rw [hd]
              go_wp2_with fail
              refine (colour_any tl _).mono ?_
              rintro e4 w6 ⟨rfl, rfl⟩
              by_cases hl : col tl = true
              · rw [hl]
                go_wp2_with fail
                go_roundw
                case rel => exact ⟨i + 1, by omega, by go_num, HOK2.out (by unfold Tl.ok; rw [hu, hr, hd, hl]; rfl), HB2.out⟩
                case measure => simp [intOf]; omega
              · have hl' : col tl = false := by simpa using hl
                rw [hl']
                go_wp2_with fail
                go_ret
                exact ⟨congrArg Ending.returned (errV_mk (HBAD.out (by unfold Tl.ok; simp [hl'])) (by decide)), HB2.out⟩
            · have hd' : col td = false := by simpa using hd
              rw [hd']
              go_wp2_with fail
              go_ret
              exact ⟨congrArg Ending.returned (errV_mk (HBAD.out (by unfold Tl.ok; simp [hd'])) (by decide)), HB2.out⟩
          · have hr' : col tr = false := by simpa using hr
            rw [hr']
            go_wp2_with fail
            go_ret
            exact ⟨congrArg Ending.returned (errV_mk (HBAD.out (by unfold Tl.ok; simp [hr'])) (by decide)), HB2.out⟩
        · have hu' : col tu = false := by simpa using hu
          rw [hu']
          go_wp2_with fail
          go_ret
          exact ⟨congrArg Ending.returned (errV_mk (HBAD.out (by unfold Tl.ok; simp [hu'])) (by decide)), HB2.out⟩
      · go_wp2
        go_ret
        exact ⟨congrArg Ending.returned (errV_nil (HTE.out fun k hk => HOK.out k (by rw [HNL.out] at hk; omega))), hbel⟩
  · have HTF := Lib.hid (tfault_range (ts := ts) (by rw [hnl]; exact h16))
    go_enter Tryd.func23, Tryd.ntmps23
    by_cases hn0 : n = 0
    · subst hn0
      go_wp2
      go_ret
      exact ⟨congrArg Ending.returned (errV_mk HTF.out (by decide)), Below.refl _ _⟩
    · have hn0' : ((n : Int) == 0) = false := by rw [beq_eq_false_iff_ne]; omega
      have hn1 : 16 < n := by omega
      go_wp2
      go_ret
      exact ⟨congrArg Ending.returned (errV_mk HTF.out (by decide)), Below.refl _ _⟩

/-- Tiles, and sides. -/
def zfault (ts : List Tl) (zs : List Int) : Int := if tfault ts ≠ 0 then tfault ts else if ∀ z ∈ zs, side z then 0 else 1
theorem zfault_tiles {ts : List Tl} {zs : List Int} (h : tfault ts ≠ 0) : zfault ts zs = tfault ts := if_pos h
theorem zfault_bad {ts : List Tl} {zs : List Int} (h : tfault ts = 0) {k : Nat} (hk : k < zs.length) (hz : ¬ side (zs.getD k 0)) : zfault ts zs = 1 := by
  unfold zfault; rw [if_neg (fun x => x h), if_neg (fun x => hz (x _ (int_mem hk)))]
theorem zfault_ok {ts : List Tl} {zs : List Int} (h : tfault ts = 0) (hz : ∀ k, k < zs.length → side (zs.getD k 0)) : zfault ts zs = 0 := by
  unfold zfault; rw [if_neg (fun x => x h), if_pos (ints_of_get hz)]

set_option maxHeartbeats 2000000 in
set_option maxRecDepth 100000 in
theorem check_any (a : Option Addr) (n c : Nat) (ts : List Tl) (sa : Option Addr) (sn sc : Nat) (zs : List Int) (w : World) (hT : Tiles w a n ts) (hz : zs.length = sn) (hs : sn ≤ 1000) (hZ : Cells w sa sn (fun i => .int .i64 (zs.getD i 0))) :
    Calls Tryd.prog 35 #[.slice a n c, .slice sa sn sc] w fun e w' => e = .returned (errV (zfault ts zs)) ∧ Below w.heap.size w w' := by
  have HCK := Lib.hid (check1_any a n c ts w hT)
  have HZ := Lib.hid hZ
  have HZL := Lib.hid hz
  clear hZ hz
  go_enter Tryd.func35, Tryd.ntmps35
  go_wp2_with fail
  refine HCK.out.mono ?_
  rintro e1 w1 ⟨rfl, hb1⟩
  by_cases ht : tfault ts = 0
  · rw [errV_zero ht]
    go_wp2_with fail
    go_loop [15] (fun v => ∃ i : Nat, i ≤ sn ∧ v = .int .i64 i ∧ (∀ k, k < i → side (zs.getD k 0))) (fun v => sn - (intOf v).toNat)
    case atStart => exact ⟨0, Nat.zero_le _, rfl, fun k hk => absurd hk (Nat.not_lt_zero _)⟩
    case round =>
      obtain ⟨i, hi, rfl, hok⟩ := hrel
      have HOK := Lib.hid hok
      clear hok
      by_cases hlt : i < sn
      · obtain ⟨b, off, rfl, hbl, hc⟩ := (HZ.out.keep hb1) i hlt
        dsimp only at hc
        have HBAD := Lib.hid (fun h => zfault_bad (ts := ts) (zs := zs) ht (k := i) (by rw [HZL.out]; exact hlt) h)
        have HOK2 : Hid (side (zs.getD i 0) → ∀ k, k < i + 1 → side (zs.getD k 0)) := fun h k hk => by
          by_cases hki : k = i
          · subst hki; exact h
          · exact HOK.out k (by omega)
        generalize zs.getD i 0 = z at *
        by_cases hs1 : 1 ≤ z ∧ z ≤ 5
        · obtain ⟨hs1, hs2⟩ := hs1
          go_wp2
          go_round
          case rel => exact ⟨i + 1, by omega, by go_num, HOK2.out ⟨hs1, hs2⟩⟩
          case measure => simp [intOf]; omega
        · have hs2 : z < 1 ∨ 5 < z := by omega
          by_cases hs3 : z < 1
          case' pos => skip
          case' neg => have hs4 : 5 < z := by omega
          all_goals
            go_wp2
            go_ret
            exact ⟨congrArg Ending.returned (errV_mk (HBAD.out hs1) (by decide)), hb1⟩
      · go_wp2
        go_ret
        exact ⟨congrArg Ending.returned (errV_nil (zfault_ok ht fun k hk => HOK.out k (by rw [HZL.out] at hk; omega))), hb1⟩
  · rw [errV_some ht]
    go_wp2_with fail
    go_ret
    exact ⟨congrArg Ending.returned (errV_mk (zfault_tiles ht) ht), hb1⟩

end Wg
end Go.Proofs.YthggpjpmjhaidaaDoor
