/- WALK: pattern.turned. -/
import Derived.Test.YtgagophijmiceaaDoorPnQ
import Derived.Test.YtgagophijmiceaaDoorShelf
namespace Go.Proofs.YtgagophijmiceaaDoor
set_option linter.unusedSimpArgs false
set_option linter.unusedVariables false
open Go.RowKit
namespace Pn
open Tld Mem Bl

/-- A stretch of a row is turned about. -/
def revAt (i0 W : Nat) (F : Nat → Nat) (k : Nat) : Nat := if i0 ≤ k ∧ k < i0 + W then F (i0 + (W - 1 - (k - i0))) else F k
theorem row_putRow {w : World} {g i0 q : Nat} {T : TypeId} {cs : List Value} {d : Array Int} (h : Row w g T cs) :
    Row (Go.Sort.putRow (Value.int .i64) (Go.Sort.ahead w q) g i0 d) g T (Go.Sort.putCells (Value.int .i64) i0 d cs.toArray).toList ∧ Only g w (Go.Sort.putRow (Value.int .i64) (Go.Sort.ahead w q) g i0 d) := by
  refine ⟨?_, rfl, rfl, rfl, by simp, fun k hk => ?_⟩
  · unfold Row at h ⊢
    show (w.heap.modify g (Go.Sort.onCells (Go.Sort.putCells (Value.int .i64) i0 d)))[g]? = _
    rw [Array.getElem?_modify, if_pos rfl, h]
    rfl
  · show (w.heap.modify g (Go.Sort.onCells (Go.Sort.putCells (Value.int .i64) i0 d)))[k]? = _
    rw [Array.getElem?_modify, if_neg (fun e => hk e.symm)]
theorem reverse_any (g i0 W n cap : Nat) (F : Nat → Nat) (w : World) (hv : Vec w g n F) (hs : i0 + W ≤ n) (hn : n ≤ 1000000) :
    Calls Tryd.prog 69 #[.slice (some ⟨g, i0, none⟩) W cap] w fun e w' => e = .returned (.tuple #[]) ∧ Vec w' g n (revAt i0 W F) ∧ Only g w w' := by
  obtain ⟨zs, hzs⟩ : ∃ zs : List Int, zs = (List.range W).map fun j => ((F (i0 + j) : Nat) : Int) := ⟨_, rfl⟩
  have hl : zs.length = W := by rw [hzs]; simp
  have hg : ∀ j, j < W → zs[j]? = some ((F (i0 + j) : Nat) : Int) := fun j hj => by rw [hzs]; simp [List.getElem?_range hj]
  have hH : Go.Sort.Holds (Value.int .i64) w g i0 zs.toArray := fun j hj => by
    have hj' : j < W := by rw [← hl]; simpa using hj
    refine ⟨?_, hv.frozen _⟩
    rw [hv.cell (show i0 + j < n by omega)]
    have h2 := hg j hj'
    rw [show zs.toArray[j]! = ((F (i0 + j) : Nat) : Int) by simp [getElem!_def, h2]]
  have hc := Tryd.slices_Reverse_int g i0 cap zs w hH (by omega)
  rw [hl] at hc
  refine hc.mono ?_
  rintro e w' ⟨rfl, q, rfl⟩
  obtain ⟨cs, hr, hcs⟩ := hv.row
  obtain ⟨hr2, ho⟩ := row_putRow (i0 := i0) (q := q) (d := zs.reverse.toArray) hr
  refine ⟨rfl, ⟨⟨_, hr2, fun k hk => ?_⟩⟩, ho⟩
  rw [← hr2.cell k]
  unfold revAt
  by_cases h : i0 ≤ k ∧ k < i0 + W
  · rw [if_pos h]
    have hj : k - i0 < zs.reverse.toArray.size := by simp [hl]; omega
    have h3 := Go.Sort.cell?_putRow (Value.int .i64) (Go.Sort.ahead w q) g i0 zs.toArray zs.reverse.toArray (Go.Sort.holds_ahead _ _ _ _ _ _ hH) (by simp) (k - i0) hj
    rw [show i0 + (k - i0) = k by omega] at h3
    rw [h3]
    have h4 : zs.reverse[k - i0]? = some ((F (i0 + (W - 1 - (k - i0))) : Nat) : Int) := by
      rw [List.getElem?_reverse (by rw [hl]; omega), hl]
      exact hg _ (by omega)
    have h5 : zs.reverse.toArray[k - i0]! = ((F (i0 + (W - 1 - (k - i0))) : Nat) : Int) := by simp only [getElem!_def, List.getElem?_toArray, h4]
    rw [h5]
  · rw [if_neg h, Go.Sort.cell?_putRow_other _ _ _ _ _ _ (by simp [hl]; omega)]
    have := hr.cell k
    exact this.trans (hcs k hk)
theorem own_slice {w : World} {B n : Nat} {v : Value} {zs : List Int} {F : Nat → Nat} (h : w.ownsRow B 3 1 v n (zs.map (Value.int .i64))) (hz : ∀ k, k < n → (zs.map (Value.int .i64))[k]? = some (.int .i64 (F k : Nat))) :
    ∃ a c g, v = .slice a n c ∧ n ≤ c ∧ c ≤ maxLen ∧ ((a = none ∧ n = 0) ∨ (a = some ⟨g, 0, none⟩ ∧ B ≤ g ∧ Vec w g n F)) := by
  rcases h.2 with ⟨rfl, h0⟩ | ⟨g, cap, cur, rfl, hB, hg, hnc, hcm, hcs, ht⟩
  · subst h0
    exact ⟨none, 0, 0, rfl, Nat.le_refl _, Nat.zero_le _, .inl ⟨rfl, rfl⟩⟩
  · refine ⟨_, _, g, rfl, hnc, hcm, .inr ⟨rfl, hB, ⟨⟨cur.toList, ?_, fun k hk => ?_⟩⟩⟩⟩
    · unfold Row
      simpa using hg
    · rw [← hz k hk, ← ht, List.getElem?_take_of_lt (by omega)]
/-- So many rows are mirrored. -/
def mpart (W : Nat) (f : Nat → Nat → Nat) (r k : Nat) : Nat := if k / W < r then f (W - 1 - k % W) (k / W) else f (k % W) (k / W)
theorem mpart_row {W H r k : Nat} {f : Nat → Nat → Nat} (hr : r < H) (hk : k < W * H) : mpart W f (r + 1) k = revAt (r * W) W (mpart W f r) k := by
  have hW : 0 < W := by
    rcases Nat.eq_zero_or_pos W with h | h
    · rw [h, Nat.zero_mul] at hk; omega
    · exact h
  have h1 := Nat.div_add_mod k W
  have h2 := Nat.mod_lt k hW
  unfold revAt
  by_cases h : r * W ≤ k ∧ k < r * W + W
  · rw [if_pos h]
    have e1 : k / W = r := by
      have a1 : r ≤ k / W := (Nat.le_div_iff_mul_le hW).2 h.1
      have a2 : k / W < r + 1 := (Nat.div_lt_iff_lt_mul hW).2 (by rw [Nat.succ_mul]; exact h.2)
      omega
    have e2 : k = r * W + k % W := by rw [e1, Nat.mul_comm] at h1; omega
    have e3 : r * W + (W - 1 - (k - r * W)) = r * W + (W - 1 - k % W) := by omega
    rw [e3]
    unfold mpart
    rw [at_div (show W - 1 - k % W < W by omega), at_mod (show W - 1 - k % W < W by omega), e1, if_pos (Nat.lt_succ_self r), if_neg (Nat.lt_irrefl r)]
  · rw [if_neg h]
    have e1 : k / W ≠ r := fun e => h (by rw [e, Nat.mul_comm] at h1; omega)
    unfold mpart
    by_cases h3 : k / W < r
    · rw [if_pos h3, if_pos (by omega)]
    · rw [if_neg h3, if_neg (by omega)]
theorem mpart_zero {W k : Nat} {f : Nat → Nat → Nat} : mpart W f 0 k = f (k % W) (k / W) := if_neg (Nat.not_lt_zero _)
theorem mpart_all {W H k : Nat} {f : Nat → Nat → Nat} (hk : k < W * H) : mpart W f H k = mir W f (k % W) (k / W) := by
  unfold mpart mir
  rw [if_pos (Nat.div_lt_of_lt_mul hk)]
theorem seg_nums {r W H n c : Nat} (hr : r < H) (hn : n = W * H) (hn2 : n ≤ 40000) (hH : H ≤ 200) (hc : n ≤ c) :
    ∃ r1 lo hi : Nat, r1 = r + 1 ∧ lo = r * W ∧ lo + W ≤ n ∧ lo ≤ hi ∧ hi - lo = W ∧ hi ≤ c ∧ (0 < W → ¬ c = lo) ∧ wrap64 ((r : Int) + 1) = (r1 : Int) ∧ wrap64 ((r : Int) * (W : Int)) = (lo : Int) ∧ wrap64 ((r1 : Int) * (W : Int)) = (hi : Int) := by
  have h1 : (r + 1) * W ≤ H * W := Nat.mul_le_mul_right W hr
  rw [Nat.succ_mul, Nat.mul_comm H W, ← hn] at h1
  have e2 : ((r + 1 : Nat) : Int) * (W : Int) = ((r * W + W : Nat) : Int) := by rw [← Nat.succ_mul]; push_cast; rfl
  exact ⟨r + 1, r * W, r * W + W, rfl, rfl, h1, Nat.le_add_right _ _, Nat.add_sub_cancel_left _ _, Nat.le_trans h1 hc, fun h => by omega, wr_nat (by push_cast; rfl) (by omega), wr_nat (by push_cast; rfl) (by omega), wr_nat e2 (by omega)⟩
theorem reverse_none {W : Nat} (hW : W = 0) (a : Option Addr) (cap : Nat) (w : World) : Calls Tryd.prog 69 #[.slice a W cap] w fun e w' => e = .returned (.tuple #[]) ∧ w' = w := by
  rw [hW]
  exact Tryd.slices_Reverse_int_empty a cap w
theorem is_other {w w' : World} {a : Option Addr} {n c : Nat} {zs : List Int} (h : Ints.Is w a n zs) (o : Only c w w') (hne : ∀ b off, a = some ⟨b, off, none⟩ → b ≠ c) : Ints.Is w' a n zs :=
  ⟨h.len, fun i hi => by
    obtain ⟨b, off, e, hlt, hc⟩ := h.cells i hi
    refine ⟨b, off, e, by rw [o.size]; exact hlt, ?_⟩
    rw [← hc]
    unfold World.cell?
    rw [show (⟨b, off + i, none⟩ : Addr).block = b from rfl, o.block b (hne b off e)], h.le⟩
/-- So many quarters. -/
def qW (W H : Nat) (k : Nat) : Nat := if k % 2 = 0 then W else H
def qH (W H : Nat) (k : Nat) : Nat := if k % 2 = 0 then H else W
def qF (W H : Nat) (f : Nat → Nat → Nat) : Nat → Nat → Nat → Nat
  | 0 => f
  | k + 1 => quart (qH W H k) (qF W H f k)
theorem q_next (W H k : Nat) : qW W H (k + 1) = qH W H k ∧ qH W H (k + 1) = qW W H k := by
  unfold qW qH
  rcases Nat.mod_two_eq_zero_or_one k with h | h
  · have h2 : (k + 1) % 2 = 1 := by omega
    simp [h, h2]
  · have h2 : (k + 1) % 2 = 0 := by omega
    simp [h, h2]
theorem q_mul (W H k : Nat) : qW W H k * qH W H k = W * H := by
  unfold qW qH
  rcases Nat.mod_two_eq_zero_or_one k with h | h
  · simp [h]
  · simp [h, Nat.mul_comm]
theorem q_le {W H M : Nat} (hW : W ≤ M) (hH : H ≤ M) (k : Nat) : qW W H k ≤ M ∧ qH W H k ≤ M := by
  unfold qW qH
  split <;> exact ⟨by assumption, by assumption⟩
/-- A pattern, turned. -/
def tF (W H : Nat) (f : Nat → Nat → Nat) (k : Nat) : Nat → Nat → Nat := qF W H (if 4 ≤ k then mir W f else f) (k % 4)

set_option maxHeartbeats 8000000 in
set_option maxRecDepth 1000000 in
theorem turned_any (W H k : Nat) (a : Option Addr) (n c : Nat) (f : Nat → Nat → Nat) (w : World) (hZ : Ints.Is w a n (flat W H f)) (hn : n = W * H) (hW : W ≤ 200) (hH : H ≤ 200) (hk : k < 8) :
    Calls Tryd.prog 48 #[pat W H a n c, .int .i64 k] w fun e w' => (∃ a' c', e = .returned (pat (qW W H (k % 4)) (qH W H (k % 4)) a' n c') ∧ n ≤ c' ∧ c' ≤ maxLen ∧ Ints.Is w' a' n (flat (qW W H (k % 4)) (qH W H (k % 4)) (tF W H f k)) ∧ ∀ b o, a' = some ⟨b, o, none⟩ → w.heap.size ≤ b) ∧ Below w.heap.size w w' := by
  have HZ := Lib.hid (fun w2 (h : Below w.heap.size w w2) => hZ.keep h)
  have hn2 : n ≤ 40000 := by rw [hn]; exact Nat.mul_le_mul hW hH
  have HN := Lib.hid hn
  have HWB := Lib.hid hW
  have HHB := Lib.hid hH
  clear hZ hn hW hH
  unfold pat
  go_enter Tryd.func48, Tryd.ntmps48
  go_upto_region 1 with fail
  obtain ⟨hr5, hr8, hb2⟩ := two_new w 35 35 (boxP W H a n c) noPat
  have HR5 : Hid (Row ((w.alloc (.cells #[.int .i64 W, .int .i64 H, .slice a n c] 35)).alloc (.cells #[.int .i64 0, .int .i64 0, .slice none 0 0] 35)) w.heap.size 35 (boxP W H a n c)) := hr5
  have HR8 : Hid (Row ((w.alloc (.cells #[.int .i64 W, .int .i64 H, .slice a n c] 35)).alloc (.cells #[.int .i64 0, .int .i64 0, .slice none 0 0] 35)) (w.heap.size + 1) 35 noPat) := hr8
  have HB : Hid (Below w.heap.size w ((w.alloc (.cells #[.int .i64 W, .int .i64 H, .slice a n c] 35)).alloc (.cells #[.int .i64 0, .int .i64 0, .slice none 0 0] 35))) := hb2
  clear hr5 hr8 hb2
  generalize (w.alloc (.cells #[.int .i64 W, .int .i64 H, .slice a n c] 35)).alloc (.cells #[.int .i64 0, .int .i64 0, .slice none 0 0] 35) = w1 at *
  obtain ⟨gb, hgb⟩ : ∃ gb, gb = w.heap.size := ⟨_, rfl⟩
  rw [← hgb] at HR5 HR8 ⊢
  obtain ⟨rb, hrb⟩ : ∃ rb, rb = gb + 1 := ⟨_, rfl⟩
  rw [← hrb] at HR8 ⊢
  have HGB := Lib.hid hgb
  have HRB := Lib.hid hrb
  clear hgb hrb
  have l5 := row_range HR5.out
  have hnew : Row (w1.alloc (.cells #[.int .i64 0, .int .i64 0, .slice none 0 0] 35)) w1.heap.size 35 noPat := row_alloc w1 _ noPat
  go_upto_region 2 with (first | (refine wpList_load_mid rfl 35 _ rfl gb 0 rfl _ _ l5 Tryd.underlying35 rfl infoPat ?_) | (refine Ops.wpList_store_arr rfl 35 _ _ rfl w1.heap.size rfl 35 noPat _ rfl hnew rfl infoPat (boxP_one _ _ _ _ _) ?_; intro w2 hq hon))
  clear l5 hnew
  have hl8 := HR8.out.lt
  have hb2 : Below w1.heap.size w1 w2 := ((Below.refl _ _).alloc (Nat.le_refl _) _).trans (hon.below (Nat.le_refl _))
  clear hon
  have HR5 := Lib.hid (HR5.out.keep hb2 HR5.out.lt)
  have HR8 := Lib.hid (HR8.out.keep hb2 HR8.out.lt)
  have HB := Lib.hid (HB.out.trans (hb2.mono HB.out.size))
  have HQ := Lib.hid hq
  obtain ⟨qb, hqb⟩ : ∃ qb, qb = w1.heap.size := ⟨_, rfl⟩
  have hsz := HB.out.size
  rw [← hqb] at HQ ⊢
  have HQB : Hid (qb ≠ gb ∧ qb ≠ rb ∧ w.heap.size ≤ qb) := Lib.hid (by have := HGB.out; have := HRB.out; omega)
  clear hqb hb2 hq hsz hl8
  have f2 := HR5.out.cell 2
  unfold boxP at f2
  dsimp only [List.getElem?_cons_succ, List.getElem?_cons_zero] at f2
  go_wp2_with fail
  refine (clone_any a n c (flat W H f) w2 (by rw [flat_len, HN.out]) (by omega) (HZ.out w2 HB.out).cells (fun ha => ?_)).mono ?_
  · rcases Nat.eq_zero_or_pos n with h | h
    · exact h
    · obtain ⟨b, off, e, _⟩ := (HZ.out w2 HB.out).cells 0 h
      rw [ha] at e; cases e
  rintro e3 w3 ⟨v', rfl, how, hb3⟩
  have hql := HQ.out.lt
  have HR5 := Lib.hid (HR5.out.keep hb3 HR5.out.lt)
  have HR8 := Lib.hid (HR8.out.keep hb3 HR8.out.lt)
  have HQ := Lib.hid (HQ.out.keep hb3 HQ.out.lt)
  obtain ⟨a3, c3, g, hv', hnc, hcm, hg⟩ : ∃ a3 c3 g, v' = .slice a3 n c3 ∧ n ≤ c3 ∧ c3 ≤ maxLen ∧ ((a3 = none ∧ n = 0) ∨ (a3 = some ⟨g, 0, none⟩ ∧ w2.heap.size ≤ g ∧ Vec w3 g n (mpart W f 0))) := own_slice how (fun k hk => by
    rw [mpart_zero, List.getElem?_map]
    have hk2 : k < W * H := by rw [← HN.out]; exact hk
    unfold flat
    simp [List.getElem?_range hk2])
  subst hv'
  have HA : Hid ((a3 = none ∧ n = 0) ∨ (a3 = some ⟨g, 0, none⟩ ∧ qb ≠ g ∧ gb ≠ g ∧ rb ≠ g ∧ w.heap.size ≤ g)) := by
    rcases hg with h | ⟨h1, h2, h3⟩
    · exact Lib.hid (.inl h)
    · have := HQB.out
      have := HGB.out
      have := HRB.out
      exact Lib.hid (.inr ⟨h1, by omega, by omega, by omega, by omega⟩)
  have HG : Hid (0 < n → Vec w3 g n (mpart W f 0)) := Lib.hid (fun h => by
    rcases hg with ⟨_, h0⟩ | ⟨_, _, h3⟩
    · omega
    · exact h3)
  have HB := Lib.hid (HB.out.trans (hb3.mono HB.out.size))
  clear how f2 hg hb3 hql
  unfold maxLen at hcm
  have f2 := HQ.out.cell 2
  have z2 := HQ.out.frozen 2
  unfold boxP at f2
  dsimp only [List.getElem?_cons_succ, List.getElem?_cons_zero] at f2
  have hO := only_setCell w3 qb 2 (.slice a3 n c3)
  have HQ : Hid (Row (w3.setCell ⟨qb, 2, none⟩ (.slice a3 n c3)) qb 35 (boxP W H a3 n c3)) := Lib.hid (HQ.out.set 2 (.slice a3 n c3))
  have HR5 := Lib.hid (HR5.out.other hO HQB.out.1.symm)
  have HR8 := Lib.hid (HR8.out.other hO HQB.out.2.1.symm)
  have HG : Hid (0 < n → Vec (w3.setCell ⟨qb, 2, none⟩ (.slice a3 n c3)) g n (mpart W f 0)) := Lib.hid (fun h => (HG.out h).other hO (by
    rcases HA.out with ⟨_, h0⟩ | ⟨_, h2, _⟩
    · omega
    · exact h2.symm))
  have HB := Lib.hid (HB.out.trans (hO.below HQB.out.2.2))
  clear hO
  go_upto_region 3 with fail
  clear f2 z2
  generalize w3.setCell ⟨qb, 2, none⟩ (.slice a3 n c3) = w4 at *
  --{mirror
  go_upto_if 13 with fail
  go_cut [] (fun wx => Row wx gb 35 (boxP W H a n c) ∧ Row wx rb 35 noPat ∧ Row wx qb 35 (boxP W H a3 n c3) ∧ Ints.Is wx a3 n (flat W H (if 4 ≤ k then mir W f else f)) ∧ Below w.heap.size w wx)
  case first =>
    by_cases hk4 : 4 ≤ k
    · have hki : (4 : Int) ≤ (k : Int) := by omega
      have HIF : Hid ((if 4 ≤ k then mir W f else f) = mir W f) := if_pos hk4
      have f1 := HQ.out.cell 1
      unfold boxP at f1
      dsimp only [List.getElem?_cons_succ, List.getElem?_cons_zero] at f1
      go_wp2_with fail
      clear f1 hk4 hki
      generalize decide ((4 : Int) ≤ (k : Int)) = q4 at *
      go_loopw [16] (fun v wr => ∃ r : Nat, r ≤ H ∧ v = .int .i64 (r : Nat) ∧ Row wr gb 35 (boxP W H a n c) ∧ Row wr rb 35 noPat ∧ Row wr qb 35 (boxP W H a3 n c3) ∧ (0 < n → Vec wr g n (mpart W f r)) ∧ Below w.heap.size w wr) (fun v _ => H - (RowKit.intOf v).toNat)
      case atStart => exact ⟨0, Nat.zero_le _, rfl, HR5.out, HR8.out, HQ.out, HG.out, HB.out⟩
      case round =>
        clear HR5 HR8 HQ HG HB
        obtain ⟨r, hr, rfl, h5, h8, hq, hv, hb⟩ := hrel
        have HR5 := Lib.hid h5
        have HR8 := Lib.hid h8
        have HQ := Lib.hid hq
        have HG := Lib.hid hv
        have HB := Lib.hid hb
        clear h5 h8 hq hv hb
        by_cases hrH : r < H
        · have hr2 : (r : Int) < (H : Int) := by omega
          have HRH := Lib.hid hrH
          obtain ⟨r1, lo, hi, hr1, hlo, hrn, hlh, hhd, hhc, hcl, a0, a1, a2⟩ := seg_nums hrH HN.out hn2 HHB.out hnc
          have HROW : Hid (∀ j, j < n → mpart W f (r + 1) j = revAt lo W (mpart W f r) j) := fun j hj => by rw [hlo]; exact mpart_row hrH (by rw [← HN.out]; exact hj)
          have HLO := Lib.hid hlo
          have HRN := Lib.hid hrn
          have f0 := HQ.out.cell 0
          have f2 := HQ.out.cell 2
          unfold boxP at f0 f2
          dsimp only [List.getElem?_cons_succ, List.getElem?_cons_zero] at f0 f2
          have HR1 := Lib.hid hr1
          clear hlo hrn hr1
          by_cases hW0 : W = 0
          · have HE := Lib.hid (reverse_none hW0)
            have HNZ : Hid (n = 0) := Lib.hid (by rw [HN.out, hW0, Nat.zero_mul])
            clear hW0 hcl
            rcases HA.out with ⟨rfl, h0⟩ | ⟨rfl, hn1, hn2', hn3, hn4⟩
            · clear h0
              go_wp2_with fail
              refine (HE.out _ _ _).mono ?_
              rintro e5 w5 ⟨rfl, rfl⟩
              clear f0 f2 a0 a1 a2 hhc hlh hhd
              have hH3 := HHB.out
              have hr3 := HRH.out
              go_wp2_with fail
              go_roundw
              case rel => exact ⟨r + 1, HRH.out, by go_num, HR5.out, HR8.out, HQ.out, fun h => by have := HNZ.out; omega, HB.out⟩
              case measure => have := HRH.out; simp [RowKit.intOf]; omega
            · clear hn1 hn2' hn3 hn4
              by_cases hc0 : lo = c3
              · subst hc0
                go_wp2_with fail
                refine (HE.out _ _ _).mono ?_
                rintro e5 w5 ⟨rfl, rfl⟩
                clear f0 f2 a0 a1 a2 hhc hlh hhd
                have hH3 := HHB.out
                have hr3 := HRH.out
                go_wp2_with fail
                go_roundw
                case rel => exact ⟨r + 1, HRH.out, by go_num, HR5.out, HR8.out, HQ.out, fun h => by have := HNZ.out; omega, HB.out⟩
                case measure => have := HRH.out; simp [RowKit.intOf]; omega
              · have hc1 : ¬ c3 = lo := fun e => hc0 e.symm
                go_wp2_with fail
                refine (HE.out _ _ _).mono ?_
                rintro e5 w5 ⟨rfl, rfl⟩
                clear f0 f2 a0 a1 a2 hhc hlh hhd
                have hH3 := HHB.out
                have hr3 := HRH.out
                go_wp2_with fail
                go_roundw
                case rel => exact ⟨r + 1, HRH.out, by go_num, HR5.out, HR8.out, HQ.out, fun h => by have := HNZ.out; omega, HB.out⟩
                case measure => have := HRH.out; simp [RowKit.intOf]; omega
          · replace hcl := hcl (Nat.pos_of_ne_zero hW0)
            have HNP : Hid (0 < n) := Lib.hid (Nat.lt_of_lt_of_le (Nat.lt_of_lt_of_le (Nat.pos_of_ne_zero hW0) (Nat.le_add_left _ _)) HRN.out)
            clear hW0
            rcases HA.out with ⟨_, h0⟩ | ⟨rfl, hn1, hn2', hn3, hn4⟩
            · exact absurd HNP.out (by rw [h0]; exact Nat.lt_irrefl 0)
            · have HNE : Hid (qb ≠ g ∧ gb ≠ g ∧ rb ≠ g ∧ w.heap.size ≤ g) := Lib.hid ⟨hn1, hn2', hn3, hn4⟩
              clear hn1 hn2' hn3 hn4
              go_wp2_with fail
              refine (reverse_any g lo W n (c3 - lo) (mpart W f r) wr (HG.out HNP.out) HRN.out (Nat.le_trans hn2 (by decide))).mono ?_
              rintro e5 w5 ⟨rfl, hv5, ho5⟩
              have HG5 : Hid (0 < n → Vec w5 g n (mpart W f (r + 1))) := Lib.hid (fun _ => hv5.congr HROW.out)
              have HR5 := Lib.hid (HR5.out.other ho5 HNE.out.2.1)
              have HR8 := Lib.hid (HR8.out.other ho5 HNE.out.2.2.1)
              have HQ := Lib.hid (HQ.out.other ho5 HNE.out.1)
              have HB := Lib.hid (HB.out.trans (ho5.below HNE.out.2.2.2))
              clear f0 f2 a0 a1 a2 hhc hlh hhd hcl hv5 ho5 HG
              have hH3 := HHB.out
              have hr3 := HRH.out
              go_wp2_with fail
              go_roundw
              case rel => exact ⟨r + 1, HRH.out, by go_num, HR5.out, HR8.out, HQ.out, HG5.out, HB.out⟩
              case measure => have := HRH.out; simp [RowKit.intOf]; omega
        · obtain rfl : r = H := by omega
          have hnl : ¬ (r : Int) < (r : Int) := by omega
          have HI : Hid (Ints.Is wr a3 n (flat W r (mir W f))) := by
            show _
            rcases HA.out with ⟨rfl, h0⟩ | ⟨rfl, hn1, hn2', hn3, hn4⟩
            · subst h0
              exact ⟨by rw [flat_len, ← HN.out], fun i hi => absurd hi (Nat.not_lt_zero _), Nat.zero_le _⟩
            · rcases Nat.eq_zero_or_pos n with h0 | h0
              · subst h0
                exact ⟨by rw [flat_len, ← HN.out], fun i hi => absurd hi (Nat.not_lt_zero _), Nat.zero_le _⟩
              · exact ((HG.out h0).congr fun j hj => (mpart_all (by rw [← HN.out]; exact hj)).symm).flat HN.out (by unfold maxLen; omega)
          clear HG
          go_wp2_with fail
          go_meet
          case rel => exact ⟨HR5.out, HR8.out, HQ.out, by rw [HIF.out]; exact HI.out, HB.out⟩
    · have hki : ¬ (4 : Int) ≤ (k : Int) := by omega
      have HIF : Hid ((if 4 ≤ k then mir W f else f) = f) := if_neg hk4
      have HI : Hid (Ints.Is w4 a3 n (flat W H f)) := by
        show _
        rcases HA.out with ⟨rfl, h0⟩ | ⟨rfl, hn1, hn2', hn3, hn4⟩
        · subst h0
          exact ⟨by rw [flat_len, ← HN.out], fun i hi => absurd hi (Nat.not_lt_zero _), Nat.zero_le _⟩
        · rcases Nat.eq_zero_or_pos n with h0 | h0
          · subst h0
            exact ⟨by rw [flat_len, ← HN.out], fun i hi => absurd hi (Nat.not_lt_zero _), Nat.zero_le _⟩
          · exact ((HG.out h0).congr fun j hj => mpart_zero.symm).flat HN.out (by unfold maxLen; omega)
      clear HG hk4
      go_wp2_with fail
      go_meet
      case rel => exact ⟨HR5.out, HR8.out, HQ.out, by rw [HIF.out]; exact HI.out, HB.out⟩
  case rest =>
  clear HR5 HR8 HQ HG HB
  obtain ⟨h5, h8, hq, hi, hb⟩ := hcut
  have HR5 := Lib.hid h5
  have HR8 := Lib.hid h8
  have HQ := Lib.hid hq
  have HI := Lib.hid hi
  have HB := Lib.hid hb
  have HAN : Hid (∀ b off, a3 = some ⟨b, off, none⟩ → b ≠ rb ∧ w.heap.size ≤ b) := Lib.hid (fun b off e => by
    rcases HA.out with ⟨h1, _⟩ | ⟨h1, _, _, h2, h3⟩
    · rw [h1] at e; cases e
    · rw [h1] at e; cases e; exact ⟨h2.symm, h3⟩)
  have HC3 : Hid (n ≤ c3 ∧ c3 ≤ maxLen) := Lib.hid ⟨hnc, by unfold maxLen; exact hcm⟩
  clear h5 h8 hq hi hb HA hnc hcm
  --}
  have hkm : (k : Int).tmod 4 = ((k % 4 : Nat) : Int) := Int.ofNat_tmod _ _
  obtain ⟨m, hm⟩ : ∃ m, m = k % 4 := ⟨_, rfl⟩
  rw [← hm] at hkm
  have hm4 : m < 4 := by omega
  have HTF : Hid (tF W H f k = qF W H (if 4 ≤ k then mir W f else f) m) := Lib.hid (by unfold tF; rw [hm])
  obtain ⟨f4, hf4⟩ : ∃ f4, f4 = (if 4 ≤ k then mir W f else f) := ⟨_, rfl⟩
  rw [← hf4] at HTF HI
  have hq0 : qW W H 0 = W ∧ qH W H 0 = H ∧ qF W H f4 0 = f4 := ⟨rfl, rfl, rfl⟩
  have HQ0 := Lib.hid hq0
  have HM := Lib.hid hm
  clear hm hf4 hq0
  go_wp2_with fail
  clear hkm
  go_loopw [35] (fun v wr => ∃ i : Nat, ∃ a4 c4, i ≤ m ∧ v = .int .i64 (i : Nat) ∧ Row wr gb 35 (boxP W H a n c) ∧ Row wr rb 35 noPat ∧ Row wr qb 35 (boxP (qW W H i : Nat) (qH W H i : Nat) a4 n c4) ∧ Ints.Is wr a4 n (flat (qW W H i) (qH W H i) (qF W H f4 i)) ∧ (∀ b off, a4 = some ⟨b, off, none⟩ → b ≠ rb ∧ w.heap.size ≤ b) ∧ (n ≤ c4 ∧ c4 ≤ maxLen) ∧ Below w.heap.size w wr) (fun v _ => m - (RowKit.intOf v).toNat)
  case atStart => exact ⟨0, a3, c3, Nat.zero_le _, rfl, HR5.out, HR8.out, HQ.out, HI.out, HAN.out, HC3.out, HB.out⟩
  case round =>
    clear HR5 HR8 HQ HI HB HAN HC3
    obtain ⟨i, a4, c4, hi, rfl, h5, h8, hq, hv, han, hc3, hb⟩ := hrel
    have HAN := Lib.hid han
    have HC3 := Lib.hid hc3
    clear han hc3
    have HR5 := Lib.hid h5
    have HR8 := Lib.hid h8
    have HQ := Lib.hid hq
    have HI := Lib.hid hv
    have HB := Lib.hid hb
    clear h5 h8 hq hv hb
    by_cases him : i < m
    · have hi2 : (i : Int) < (m : Int) := by omega
      have HIM := Lib.hid him
      have hle := q_le HWB.out HHB.out i
      have hqm : n = qW W H i * qH W H i := by rw [q_mul]; exact HN.out
      have l5 := row_range HQ.out
      have HQA := Lib.hid (quarter_any (qW W H i) (qH W H i) a4 n c4 (qF W H f4 i) wr HI.out hqm hle.1 hle.2)
      have HNX := Lib.hid (q_next W H i)
      have HFX : Hid (qF W H f4 (i + 1) = quart (qH W H i) (qF W H f4 i)) := Lib.hid rfl
      unfold pat at HQA
      clear hle hqm
      obtain ⟨u, hu⟩ : ∃ u, u = qW W H i := ⟨_, rfl⟩
      obtain ⟨v, hv⟩ : ∃ v, v = qH W H i := ⟨_, rfl⟩
      rw [← hu, ← hv] at HNX
      rw [← hu, ← hv] at HQA
      rw [← hu, ← hv] at HQ
      rw [← hu, ← hv] at l5
      rw [← hv] at HFX
      have HUV : Hid (n = u * v) := Lib.hid (by rw [hu, hv, q_mul]; exact HN.out)
      clear hu hv
      go_wp2_with (first | (refine wpList_load_mid rfl 35 _ rfl qb 0 rfl _ _ l5 Tryd.underlying35 rfl infoPat ?_) | fail)
      refine HQA.out.mono ?_
      rintro e6 w6 ⟨⟨g6, rfl, hg6, hv6⟩, hb6⟩
      have hql := HQ.out.lt
      have hrl := HR8.out.lt
      have hwr := HB.out.size
      have HR5 := Lib.hid (HR5.out.keep hb6 HR5.out.lt)
      have HR8 := Lib.hid (HR8.out.keep hb6 HR8.out.lt)
      have HQ := Lib.hid (HQ.out.keep hb6 HQ.out.lt)
      have HB := Lib.hid (HB.out.trans (hb6.mono HB.out.size))
      have hne : g6 ≠ qb := by omega
      have HNG6 : Hid (g6 ≠ rb ∧ w.heap.size ≤ g6) := Lib.hid (by omega)
      clear l5 hb6 HI HQA hql hg6 hrl hwr
      go_wp2_with (refine Ops.wpList_store_arr rfl 35 _ _ rfl qb rfl 35 _ (boxP v u (some ⟨g6, 0, none⟩) n n) rfl HQ.out rfl infoPat (boxP_one _ _ _ _ _) ?_; intro w7 hrow7 hon7)
      have HR5 := Lib.hid (HR5.out.other hon7 HQB.out.1.symm)
      have HR8 := Lib.hid (HR8.out.other hon7 HQB.out.2.1.symm)
      have HB := Lib.hid (HB.out.trans (hon7.below HQB.out.2.2))
      have HI : Hid (Ints.Is w7 (some ⟨g6, 0, none⟩) n (flat v u (qF W H f4 (i + 1)))) := Lib.hid (by
        rw [HFX.out]
        exact (hv6.other hon7 hne).flat (by rw [HUV.out, Nat.mul_comm]) (by unfold maxLen; omega))
      have HQ := Lib.hid hrow7
      clear hrow7 hon7 hv6 hne
      have hm3 : i < 4 := by omega
      go_roundw
      case rel => exact ⟨i + 1, some ⟨g6, 0, none⟩, n, HIM.out, by go_num, HR5.out, HR8.out, by rw [HNX.out.1, HNX.out.2]; exact HQ.out, by rw [HNX.out.1, HNX.out.2]; exact HI.out, fun b off e => by cases e; exact HNG6.out, ⟨Nat.le_refl _, by unfold maxLen; omega⟩, HB.out⟩
      case measure => have := HIM.out; simp [RowKit.intOf]; omega
    · obtain rfl : i = m := by omega
      have hnl : ¬ (i : Int) < (i : Int) := by omega
      have l5 := row_range HQ.out
      have HM2 := Lib.hid HM.out
      go_wp2_with (first | (refine wpList_load_mid rfl 35 _ rfl qb 0 rfl _ _ l5 Tryd.underlying35 rfl infoPat ?_) | (refine Ops.wpList_store_arr rfl 35 _ _ rfl rb rfl 35 _ _ rfl HR8.out rfl infoPat (boxP_one _ _ _ _ _) ?_; intro w5 hrow5 hon5))
      refine bodyPost_ret (results_pat1 (t := 4) rfl _ _ hrow5 rfl rfl) rfl ⟨⟨a4, c4, ?_, HC3.out.1, HC3.out.2, ?_⟩, HB.out.trans (hon5.below ?_)⟩
      · rw [← HM.out]; rfl
      · rw [← HM.out, HTF.out]
        exact ⟨is_other HI.out hon5 (fun b o e => (HAN.out b o e).1), fun b o e => (HAN.out b o e).2⟩
      · have := HGB.out
        have := HRB.out
        omega
end Pn
end Go.Proofs.YtgagophijmiceaaDoor
