/- WALK: plane.around. -/
import Derived.Test.YthipeeagpllfeaaDoorPnT
import Derived.Test.YthipeeagpllfeaaDoorPnO
import Derived.Laws.CopyOwn
namespace Go.Proofs.YthipeeagpllfeaaDoor
set_option linter.unusedSimpArgs false
set_option linter.unusedVariables false
open Go.RowKit
namespace Pn
open Tld Mem Bl

/-- A stretch of a row is another one. -/
def putAt (off W : Nat) (F : Nat → Nat) (f : Nat → Nat) (k : Nat) : Nat := if off ≤ k ∧ k < off + W then f (k - off) else F k
theorem vec_setRow {w : World} {g off n W : Nat} {F f : Nat → Nat} {cs vs : List Value} (hr : Row w g 3 cs) (hv : ∀ k, k < n → cs[k]? = some (.int .i64 (F k : Nat))) (hl : vs.length = W) (hvs : ∀ k, k < W → vs[k]? = some (.int .i64 (f k : Nat))) (hs : off + W ≤ n) :
    Vec (w.setRow g (cs.take off ++ vs ++ cs.drop (off + vs.length)).toArray) g n (putAt off W F f) ∧ Only g w (w.setRow g (cs.take off ++ vs ++ cs.drop (off + vs.length)).toArray) := by
  refine ⟨⟨⟨_, setRow_heap w g _ _ _ _ hr, fun k hk => ?_⟩⟩, rfl, rfl, rfl, by simp [World.setRow], fun k hk => setRow_other w g k _ hk⟩
  have hcl : n ≤ cs.length := by
    rcases Nat.lt_or_ge cs.length n with h | h
    · have := (List.getElem?_eq_some_iff.1 (hv cs.length h)).1
      omega
    · exact h
  have ht : (cs.take off).length = off := by rw [List.length_take]; omega
  unfold putAt
  by_cases h1 : k < off
  · rw [if_neg (by omega), List.append_assoc, List.getElem?_append_left (by omega), List.getElem?_take_of_lt h1]
    exact hv k hk
  · rw [List.append_assoc, List.getElem?_append_right (by omega), ht]
    by_cases h2 : k < off + W
    · rw [if_pos (by omega), List.getElem?_append_left (by omega)]
      exact hvs _ (by omega)
    · rw [if_neg (by omega), List.getElem?_append_right (by omega), List.getElem?_drop, hl, show off + W + (k - off - W) = k by omega]
      exact hv k hk
theorem wp_copy_vec {o : Oper} {a : Act} {w : World} {K : Act → World → Prop} {Q : Exit → Act → World → Prop} (d s : Operand)
    (ho : o.op = .call { callee := .builtin .copy, args := #[d, s], argTypes := #[22, 22] })
    (g off n dLen dCap sb so W sCap : Nat) (F f : Nat → Nat) (hd : a.eval d = .slice (some ⟨g, off, none⟩) dLen dCap) (hs : a.eval s = .slice (some ⟨sb, so, none⟩) W sCap)
    (hv : Vec w g n F) (hf : ∀ k, k < W → w.cell? ⟨sb, so + k, none⟩ = some (.int .i64 (f k : Nat))) (hfit : off + W ≤ n) (hdl : W ≤ dLen)
    (h : ∀ w', Vec w' g n (putAt off W F f) → Only g w w' → K (a.put o.dst (goInt W)) w') :
    Oper.wp Tryd.prog o a w K Q := by
  obtain ⟨cs, hr, hc⟩ := hv.row
  obtain ⟨vs, hvs⟩ : ∃ vs : List Value, vs = (List.range W).map fun k => Value.int .i64 (f k : Nat) := ⟨_, rfl⟩
  have hl : vs.length = W := by rw [hvs]; simp
  have hg : ∀ k, k < W → vs[k]? = some (.int .i64 (f k : Nat)) := fun k hk => by rw [hvs]; simp [List.getElem?_range hk]
  have hcl : n ≤ cs.length := by
    rcases Nat.lt_or_ge cs.length n with h | h
    · have := (List.getElem?_eq_some_iff.1 (hc cs.length h)).1
      omega
    · exact h
  have hrun := run_copy_row (P := Tryd.prog) w 22 22 o.type 3 g off dLen dCap ⟨sb, so, none⟩ W sCap cs.toArray 3 vs Tryd.underlying22 (by kernel_rfl) hr (by rw [hl]; exact (Nat.min_eq_left hdl).symm) (fun j v hj => by
    have hjW : j < W := by rw [← hl]; exact (List.getElem?_eq_some_iff.1 hj).1
    rw [hg j hjW] at hj
    rw [Addr.add_mid, ← hj]
    exact hf j hjW) (by rw [hl]; simp; omega) (fun v hv => by
    rw [hvs] at hv
    obtain ⟨k, _, rfl⟩ := List.mem_map.1 hv
    rfl)
  obtain ⟨h1, h2⟩ := vec_setRow hr hc hl hg hfit
  rw [← hl] at h
  unfold Oper.wp
  simp [execOp, ho, resolve, invoke, builtin, hd, hs, hrun, Result.andThen]
  exact h _ (by rw [hl]; simpa [hl] using h1) (by simpa [hl] using h2)

theorem around_nums {r W H n c : Nat} (hr : r < H) (hW0 : 0 < W) (hW : W ≤ 198) (hH : H ≤ 198) (hn : n = W * H) (hc : n ≤ c) :
    ∃ A D N r1 q1 off lo hi : Nat, A = W + 2 ∧ D = H + 2 ∧ N = A * D ∧ r1 = r + 1 ∧ off = (r + 1) * A + 1 ∧ off + W ≤ N ∧ off < N ∧ lo = r * W ∧ lo ≤ hi ∧ hi - lo = W ∧ hi ≤ c ∧ hi ≤ n ∧ ¬ c = lo ∧
      wrap64 ((r : Int) + 1) = (r1 : Int) ∧ wrap64 ((r1 : Int) * (A : Int)) = (q1 : Int) ∧ wrap64 ((q1 : Int) + 1) = (off : Int) ∧ wrap64 ((r : Int) * (W : Int)) = (lo : Int) ∧ wrap64 ((r1 : Int) * (W : Int)) = (hi : Int) := by
  have h1 : (r + 1) * W ≤ H * W := Nat.mul_le_mul_right W hr
  have h4 : H * W ≤ 198 * 198 := Nat.mul_le_mul hH hW
  rw [Nat.mul_comm H W, ← hn] at h1
  have h2 : (r + 1) * (W + 2) ≤ H * (W + 2) := Nat.mul_le_mul_right _ hr
  have h3 : (W + 2) * (H + 2) = H * (W + 2) + 2 * (W + 2) := by rw [Nat.mul_comm, Nat.add_mul]
  have h5 : H * (W + 2) ≤ 198 * 200 := Nat.mul_le_mul hH (by omega)
  have h6 : (r + 1) * W = r * W + W := Nat.succ_mul _ _
  rw [Nat.mul_comm H W, ← hn] at h4
  refine ⟨W + 2, H + 2, (W + 2) * (H + 2), r + 1, (r + 1) * (W + 2), (r + 1) * (W + 2) + 1, r * W, (r + 1) * W, rfl, rfl, rfl, rfl, rfl, by omega, by omega, rfl, by omega, by omega, by omega, h1, by omega, wr_nat (by push_cast; rfl) (by omega), wr_nat (by push_cast; rfl) (by omega), wr_nat (by push_cast; rfl) (by omega), wr_nat (by push_cast; rfl) (by omega), wr_nat (by push_cast; rfl) (by omega)⟩
/-- So many rows lie in their frame. -/
def apart (W H : Nat) (f : Nat → Nat → Nat) (r k : Nat) : Nat := if k / (W + 2) < r + 1 then pad W H f (k % (W + 2)) (k / (W + 2)) else 0
theorem apart_zero {W H k : Nat} {f : Nat → Nat → Nat} : apart W H f 0 k = 0 := by
  unfold apart pad
  by_cases h : k / (W + 2) < 0 + 1
  · rw [if_pos h, if_neg (by omega)]
  · rw [if_neg h]
theorem apart_row {W H r k : Nat} {f : Nat → Nat → Nat} (hr : r < H) : apart W H f (r + 1) k = putAt ((r + 1) * (W + 2) + 1) W (apart W H f r) (fun j => f j r) k := by
  have h1 := Nat.div_add_mod k (W + 2)
  have h2 := Nat.mod_lt k (show 0 < W + 2 by omega)
  unfold putAt
  by_cases h : (r + 1) * (W + 2) + 1 ≤ k ∧ k < (r + 1) * (W + 2) + 1 + W
  · rw [if_pos h]
    have e1 : k / (W + 2) = r + 1 := by
      have a1 : r + 1 ≤ k / (W + 2) := (Nat.le_div_iff_mul_le (by omega)).2 (by omega)
      have a2 : k / (W + 2) < r + 1 + 1 := (Nat.div_lt_iff_lt_mul (by omega)).2 (by rw [Nat.succ_mul (r + 1)]; omega)
      omega
    rw [e1, Nat.mul_comm] at h1
    unfold apart pad
    rw [e1, if_pos (Nat.lt_succ_self _), if_pos (by omega), Nat.add_sub_cancel]
    congr 1
    omega
  · rw [if_neg h]
    unfold apart
    by_cases h3 : k / (W + 2) < r + 1
    · rw [if_pos h3, if_pos (by omega)]
    · rw [if_neg h3]
      by_cases h4 : k / (W + 2) < r + 1 + 1
      · rw [if_pos h4]
        have e1 : k / (W + 2) = r + 1 := by omega
        rw [e1, Nat.mul_comm] at h1
        unfold pad
        rw [if_neg (by omega)]
      · rw [if_neg h4]
theorem apart_all {W H k : Nat} {f : Nat → Nat → Nat} : pad W H f (k % (W + 2)) (k / (W + 2)) = apart W H f H k := by
  unfold apart
  by_cases h : k / (W + 2) < H + 1
  · rw [if_pos h]
  · rw [if_neg h]
    unfold pad
    rw [if_neg (by omega)]

set_option maxHeartbeats 16000000 in
set_option maxRecDepth 1000000 in
theorem around_any (W H : Nat) (a : Option Addr) (n c : Nat) (f : Nat → Nat → Nat) (w : World) (hZ : Ints.Is w a n (flat W H f)) (hn : n = W * H) (hc : n ≤ c) (hW0 : 0 < W) (hH0 : 0 < H) (hW : W ≤ 198) (hH : H ≤ 198) :
    Calls Tryd.prog 46 #[pat W H a n c] w fun e w' => (∃ g, e = .returned (pat ((W + 2 : Nat) : Int) ((H + 2 : Nat) : Int) (some ⟨g, 0, none⟩) ((W + 2) * (H + 2)) ((W + 2) * (H + 2))) ∧ w.heap.size ≤ g ∧ Vec w' g ((W + 2) * (H + 2)) (fun k => pad W H f (k % (W + 2)) (k / (W + 2)))) ∧ Below w.heap.size w w' := by
  have hN : (W + 2) * (H + 2) ≤ 40000 := Nat.le_trans (Nat.mul_le_mul (show W + 2 ≤ 200 by omega) (show H + 2 ≤ 200 by omega)) (by decide)
  have hn0 : 0 < n := by rw [hn]; exact Nat.mul_pos hW0 hH0
  obtain ⟨ab, ao, rfl, _, _⟩ := hZ.cells 0 hn0
  have HZ := Lib.hid (fun w2 (h : Below w.heap.size w w2) => hZ.keep h)
  have HNU := Lib.hid (fun r (hr : r < H) => around_nums hr hW0 hW hH hn hc)
  have HAR := Lib.hid (fun r k (hr : r < H) => apart_row (W := W) (H := H) (f := f) (k := k) hr)
  obtain ⟨A, hA⟩ : ∃ A, A = W + 2 := ⟨_, rfl⟩
  obtain ⟨D, hD⟩ : ∃ D, D = H + 2 := ⟨_, rfl⟩
  obtain ⟨N, hNe⟩ : ∃ N, N = A * D := ⟨_, rfl⟩
  have a1 : wrap64 ((W : Int) + 2) = (A : Int) := wr_nat (by omega) (by omega)
  have a2 : wrap64 ((H : Int) + 2) = (D : Int) := wr_nat (by omega) (by omega)
  rw [← hA, ← hD, ← hNe] at hN ⊢
  have a3 : wrap64 ((A : Int) * (D : Int)) = (N : Int) := wr_nat (by rw [hNe]; push_cast; rfl) (by omega)
  have b1 := wr_same a1
  have b2 := wr_same a2
  have b3 := wr_same a3
  have hmk := fun w2 => mk_ints N (Nat.le_trans hN (by decide)) w2
  have HN := Lib.hid hn
  have HA := Lib.hid hA
  have HD := Lib.hid hD
  have HNE := Lib.hid hNe
  have HHB := Lib.hid hH
  have HNB := Lib.hid hN
  clear hZ hn hW hH hA hD hNe hN hn0 hc hW0 hH0
  unfold pat
  go_enter Tryd.func46, Tryd.ntmps46
  go_upto_region 1 with fail
  obtain ⟨hr5, hr8, hb2⟩ := two_new w 26 26 (boxP W H (some ⟨ab, ao, none⟩) n c) noPat
  have HR5 : Hid (Row ((w.alloc (.cells #[.int .i64 W, .int .i64 H, .slice (some ⟨ab, ao, none⟩) n c] 26)).alloc (.cells #[.int .i64 0, .int .i64 0, .slice none 0 0] 26)) w.heap.size 26 (boxP W H (some ⟨ab, ao, none⟩) n c)) := hr5
  have HR8 : Hid (Row ((w.alloc (.cells #[.int .i64 W, .int .i64 H, .slice (some ⟨ab, ao, none⟩) n c] 26)).alloc (.cells #[.int .i64 0, .int .i64 0, .slice none 0 0] 26)) (w.heap.size + 1) 26 noPat) := hr8
  have HB : Hid (Below w.heap.size w ((w.alloc (.cells #[.int .i64 W, .int .i64 H, .slice (some ⟨ab, ao, none⟩) n c] 26)).alloc (.cells #[.int .i64 0, .int .i64 0, .slice none 0 0] 26))) := hb2
  clear hr5 hr8 hb2
  generalize (w.alloc (.cells #[.int .i64 W, .int .i64 H, .slice (some ⟨ab, ao, none⟩) n c] 26)).alloc (.cells #[.int .i64 0, .int .i64 0, .slice none 0 0] 26) = w1 at *
  obtain ⟨gb, hgb⟩ : ∃ gb, gb = w.heap.size := ⟨_, rfl⟩
  rw [← hgb] at HR5 HR8 ⊢
  obtain ⟨rb, hrb⟩ : ∃ rb, rb = gb + 1 := ⟨_, rfl⟩
  rw [← hrb] at HR8 ⊢
  have HGB := Lib.hid hgb
  have HRB := Lib.hid hrb
  have HGR : Hid (w.heap.size ≤ rb ∧ rb ≠ gb) := Lib.hid (by clear a1 a2 a3 b1 b2 b3; omega)
  clear hgb hrb
  --{make
  have f0 := HR5.out.cell 0
  have f1 := HR5.out.cell 1
  unfold boxP at f0 f1
  dsimp only [List.getElem?_cons_succ, List.getElem?_cons_zero] at f0 f1
  have hl5 := HR5.out.lt
  have hl8 := HR8.out.lt
  have HL5 := Lib.hid hl5
  have HL8 := Lib.hid hl8
  go_cut [3] (fun v wx => ∃ qb ob, v = .pointer (some ⟨qb, 0, none⟩) ∧ Row wx qb 26 (boxP A D (some ⟨ob, 0, none⟩) N N) ∧ Vec wx ob N (fun _ => 0) ∧ qb ≠ ob ∧ w1.heap.size ≤ qb ∧ w1.heap.size ≤ ob ∧ Below w1.heap.size w1 wx)
  case first =>
    go_region
    · obtain ⟨h1, h2, h3⟩ := two_new w1 3 26 (List.replicate N (.int .i64 0)) (boxP A D (some ⟨w1.heap.size, 0, none⟩) N N)
      rw [List.toArray_replicate] at h1 h2 h3
      clear a1 a2 a3 b1 b2 b3
      go_wp2_with fail
      go_meet
      case rel => exact ⟨w1.heap.size + 1, w1.heap.size, rfl, h2.keep (Below.refl _ _).drew h2.lt, (vec_made h1).keep (Below.refl _ _).drew, Nat.succ_ne_self _, Nat.le_succ _, Nat.le_refl _, h3.drew⟩
    · obtain ⟨h1, h2, h3⟩ := two_new w1 26 3 (boxP A D (some ⟨w1.heap.size + 1, 0, none⟩) N N) (List.replicate N (.int .i64 0))
      rw [List.toArray_replicate] at h1 h2 h3
      clear a1 a2 a3 b1 b2 b3
      go_wp2_with fail
      go_meet
      case rel => exact ⟨w1.heap.size, w1.heap.size + 1, rfl, h1.keep (Below.refl _ _).drew h1.lt, (vec_made h2).keep (Below.refl _ _).drew, (Nat.succ_ne_self _).symm, Nat.le_refl _, Nat.le_succ _, h3.drew⟩
  case rest =>
  clear a1 a2 a3 b1 b2 b3 hmk f0 f1 hl5 hl8
  obtain ⟨qb, ob, rfl, hq, hv, hqo, hqw, how, hb⟩ := hcut
  have HR5 := Lib.hid (HR5.out.keep hb HR5.out.lt)
  have HR8 := Lib.hid (HR8.out.keep hb HR8.out.lt)
  have HNG : Hid (gb ≠ ob ∧ rb ≠ ob ∧ qb ≠ ob) := Lib.hid (by have := HL5.out; have := HL8.out; omega)
  have HOW : Hid (w.heap.size ≤ ob) := Lib.hid (Nat.le_trans HB.out.size how)
  have HB := Lib.hid (HB.out.trans (hb.mono HB.out.size))
  have HQ := Lib.hid hq
  have HV : Hid (Vec _ ob N (apart W H f 0)) := Lib.hid (hv.congr fun k hk => apart_zero)
  clear hq hv hqo hqw how hb
  have f1 := HR5.out.cell 1
  unfold boxP at f1
  dsimp only [List.getElem?_cons_succ, List.getElem?_cons_zero] at f1
  go_wp2_with fail
  clear f1
  --}
  go_loopw [22] (fun v wr => ∃ r : Nat, r ≤ H ∧ v = .int .i64 (r : Nat) ∧ Row wr gb 26 (boxP W H (some ⟨ab, ao, none⟩) n c) ∧ Row wr rb 26 noPat ∧ Row wr qb 26 (boxP A D (some ⟨ob, 0, none⟩) N N) ∧ Vec wr ob N (apart W H f r) ∧ Below w.heap.size w wr) (fun v _ => H - (RowKit.intOf v).toNat)
  case atStart => exact ⟨0, Nat.zero_le _, rfl, HR5.out, HR8.out, HQ.out, HV.out, HB.out⟩
  case round =>
    clear HR5 HR8 HQ HV HB
    obtain ⟨r, hr, rfl, h5, h8, hq, hv, hb⟩ := hrel
    have HR5 := Lib.hid h5
    have HR8 := Lib.hid h8
    have HQ := Lib.hid hq
    have HV := Lib.hid hv
    have HB := Lib.hid hb
    clear h5 h8 hq hv hb
    by_cases hrH : r < H
    · --{row
      have hr2 : (r : Int) < (H : Int) := by omega
      have HRH := Lib.hid hrH
      obtain ⟨A', D', N', r1, q1, off, lo, hi, hA', hD', hN', hr1, hoff, hfit, hoN, hlo, hlh, hhd, hhc, hhn, hcl, e1, e2, e3, e4, e5⟩ := HNU.out r hrH
      have HE := Lib.hid (And.intro e1 (And.intro e2 (And.intro e3 (And.intro e4 e5))))
      clear e1 e2 e3 e4 e5
      have eA : A' = A := by rw [hA', HA.out]
      subst eA
      have eD : D' = D := by rw [hD', HD.out]
      subst eD
      have eN : N' = N := by rw [hN', HNE.out]
      subst eN
      have HV2F : Hid (∀ k, k < N' → apart W H f (r + 1) k = putAt off W (apart W H f r) (fun j => f j r) k) := Lib.hid (fun k _ => by rw [hoff, hA']; exact HAR.out r k hrH)
      have hsrc : ∀ w2, Below wr.heap.size wr w2 → ∀ k, k < W → w2.cell? ⟨ab, ao + lo + k, none⟩ = some (.int .i64 (f k r : Nat)) := fun w2 hb2 k hk => by
        have hkn : lo + k < n := by omega
        obtain ⟨b', o', hbe, _, cg⟩ := (HZ.out w2 (HB.out.trans (hb2.mono HB.out.size))).cells (lo + k) hkn
        cases hbe
        dsimp only at cg
        rw [Nat.add_assoc, cg, hlo, flat_at hk hrH]
      have HSRC := Lib.hid hsrc
      have HFIT := Lib.hid hfit
      have hdl : W ≤ N' - off := by omega
      have HDL := Lib.hid hdl
      have hno : ¬ N' = off := by omega
      have hon : off ≤ N' := by omega
      have hHI := HHB.out
      obtain ⟨e1, e2, e3, e4, e5⟩ := HE.out
      have e1' := wr_same e1
      have e2' := wr_same e2
      have e3' := wr_same e3
      have e4' := wr_same e4
      have e5' := wr_same e5
      have f0 := HR5.out.cell 0
      have f2 := HR5.out.cell 2
      have g0 := HQ.out.cell 0
      have g2 := HQ.out.cell 2
      unfold boxP at f0 f2 g0 g2
      dsimp only [List.getElem?_cons_succ, List.getElem?_cons_zero] at f0 f2 g0 g2
      clear hA' hD' hN' hr1 hoff hfit hoN hlo hsrc hdl hhn hrH
      have hdr : Below wr.heap.size wr wr.drew := (Below.refl _ _).drew
      go_upto_region 5 with fail
      refine wp_region_noPanic ?_
      refine Rt.region_Cn (Sc2 (fun w2 => w2.cell? ⟨gb, 0, none⟩ = some (.int .i64 W) ∧ w2.cell? ⟨gb, 2, none⟩ = some (.slice (some ⟨ab, ao, none⟩) n c) ∧ w2.cell? ⟨qb, 0, none⟩ = some (.int .i64 A') ∧ w2.cell? ⟨qb, 2, none⟩ = some (.slice (some ⟨ob, 0, none⟩) N' N')) (fun w2 => True) 999) 22 #[false, false, false, false, false, false, false, false, false, false, false, false, false, false, false, false, false, false, false, false, false, false] (by kernel_rfl) (by kernel_rfl) (by kernel_rfl) ?_
      have hS1 : ∀ o, Sc2 (fun w2 => w2.cell? ⟨gb, 0, none⟩ = some (.int .i64 W) ∧ w2.cell? ⟨gb, 2, none⟩ = some (.slice (some ⟨ab, ao, none⟩) n c) ∧ w2.cell? ⟨qb, 0, none⟩ = some (.int .i64 A') ∧ w2.cell? ⟨qb, 2, none⟩ = some (.slice (some ⟨ob, 0, none⟩) N' N')) (fun w2 => True) 999 o wr.drew := Sc2.of ⟨f0, f2, g0, g2⟩ trivial
      refine Rt.C_take (none) (i := 0) (oi := _) (v := ?_) rfl (by kernel_rfl) (by kernel_rfl) (by kernel_rfl) (by kernel_rfl) (fun _ _ _ h => h) (Sc2.other (by decide)) (Or.inl ⟨by rfl, ?_⟩) (fun o' _ => hS1 o') ?_
      rotate_left
      · intro w2 hSw
        obtain ⟨s0, s1, s2, s3⟩ := hSw
        go_simp
        try with_reducible rfl
      simp only [Act.put, List.getElem_toArray, List.getElem_cons_succ, List.getElem_cons_zero, List.setIfInBounds_toArray, List.set_cons_zero, List.set_cons_succ]
      refine Rt.C_take (none) (i := 1) (oi := _) (v := ?_) rfl (by kernel_rfl) (by kernel_rfl) (by kernel_rfl) (by kernel_rfl) (fun _ _ _ h => h) (Sc2.other (by decide)) (Or.inl ⟨by rfl, ?_⟩) (fun o' _ => hS1 o') ?_
      rotate_left
      · intro w2 hSw
        obtain ⟨s0, s1, s2, s3⟩ := hSw
        go_simp
        try with_reducible rfl
      simp only [Act.put, List.getElem_toArray, List.getElem_cons_succ, List.getElem_cons_zero, List.setIfInBounds_toArray, List.set_cons_zero, List.set_cons_succ]
      refine Rt.C_take (none) (i := 2) (oi := _) (v := ?_) rfl (by kernel_rfl) (by kernel_rfl) (by kernel_rfl) (by kernel_rfl) (fun _ _ _ h => h) (Sc2.other (by decide)) (Or.inl ⟨by rfl, ?_⟩) (fun o' _ => hS1 o') ?_
      rotate_left
      · intro w2 hSw
        obtain ⟨s0, s1, s2, s3⟩ := hSw
        go_simp
        try with_reducible rfl
      simp only [Act.put, List.getElem_toArray, List.getElem_cons_succ, List.getElem_cons_zero, List.setIfInBounds_toArray, List.set_cons_zero, List.set_cons_succ]
      refine Rt.C_take (none) (i := 3) (oi := _) (v := ?_) rfl (by kernel_rfl) (by kernel_rfl) (by kernel_rfl) (by kernel_rfl) (fun _ _ _ h => h) (Sc2.other (by decide)) (Or.inl ⟨by rfl, ?_⟩) (fun o' _ => hS1 o') ?_
      rotate_left
      · intro w2 hSw
        obtain ⟨s0, s1, s2, s3⟩ := hSw
        go_simp
        try with_reducible rfl
      simp only [Act.put, List.getElem_toArray, List.getElem_cons_succ, List.getElem_cons_zero, List.setIfInBounds_toArray, List.set_cons_zero, List.set_cons_succ]
      refine Rt.C_take (none) (i := 4) (oi := _) (v := ?_) rfl (by kernel_rfl) (by kernel_rfl) (by kernel_rfl) (by kernel_rfl) (fun _ _ _ h => h) (Sc2.other (by decide)) (Or.inl ⟨by rfl, ?_⟩) (fun o' _ => hS1 o') ?_
      rotate_left
      · intro w2 hSw
        obtain ⟨s0, s1, s2, s3⟩ := hSw
        go_simp
        try with_reducible rfl
      simp only [Act.put, List.getElem_toArray, List.getElem_cons_succ, List.getElem_cons_zero, List.setIfInBounds_toArray, List.set_cons_zero, List.set_cons_succ]
      refine Rt.C_take (none) (i := 5) (oi := _) (v := ?_) rfl (by kernel_rfl) (by kernel_rfl) (by kernel_rfl) (by kernel_rfl) (fun _ _ _ h => h) (Sc2.other (by decide)) (Or.inl ⟨by rfl, ?_⟩) (fun o' _ => hS1 o') ?_
      rotate_left
      · intro w2 hSw
        obtain ⟨s0, s1, s2, s3⟩ := hSw
        go_simp
        try with_reducible rfl
      simp only [Act.put, List.getElem_toArray, List.getElem_cons_succ, List.getElem_cons_zero, List.setIfInBounds_toArray, List.set_cons_zero, List.set_cons_succ]
      refine Rt.C_take (none) (i := 6) (oi := _) (v := ?_) rfl (by kernel_rfl) (by kernel_rfl) (by kernel_rfl) (by kernel_rfl) (fun _ _ _ h => h) (Sc2.other (by decide)) (Or.inl ⟨by rfl, ?_⟩) (fun o' _ => hS1 o') ?_
      rotate_left
      · intro w2 hSw
        obtain ⟨s0, s1, s2, s3⟩ := hSw
        go_simp
        try with_reducible rfl
      simp only [Act.put, List.getElem_toArray, List.getElem_cons_succ, List.getElem_cons_zero, List.setIfInBounds_toArray, List.set_cons_zero, List.set_cons_succ]
      refine Rt.C_take (none) (i := 7) (oi := _) (v := ?_) rfl (by kernel_rfl) (by kernel_rfl) (by kernel_rfl) (by kernel_rfl) (fun _ _ _ h => h) (Sc2.other (by decide)) (Or.inl ⟨by rfl, ?_⟩) (fun o' _ => hS1 o') ?_
      rotate_left
      · intro w2 hSw
        obtain ⟨s0, s1, s2, s3⟩ := hSw
        go_simp
        try with_reducible rfl
      simp only [Act.put, List.getElem_toArray, List.getElem_cons_succ, List.getElem_cons_zero, List.setIfInBounds_toArray, List.set_cons_zero, List.set_cons_succ]
      refine Rt.C_take (none) (i := 8) (oi := _) (v := (.slice (some ⟨ob, off, none⟩) (N' - off) (N' - off))) rfl (by kernel_rfl) (by kernel_rfl) (by kernel_rfl) (by kernel_rfl) (fun _ _ _ h => h) (Sc2.other (by decide)) (Or.inl ⟨by rfl, ?_⟩) (fun o' _ => hS1 o') ?_
      · intro w2 hSw
        obtain ⟨s0, s1, s2, s3⟩ := hSw
        go_simp
        try with_reducible rfl
      simp only [Act.put, List.getElem_toArray, List.getElem_cons_succ, List.getElem_cons_zero, List.setIfInBounds_toArray, List.set_cons_zero, List.set_cons_succ]
      refine Rt.C_take (none) (i := 9) (oi := _) (v := ?_) rfl (by kernel_rfl) (by kernel_rfl) (by kernel_rfl) (by kernel_rfl) (fun _ _ _ h => h) (Sc2.other (by decide)) (Or.inl ⟨by rfl, ?_⟩) (fun o' _ => hS1 o') ?_
      rotate_left
      · intro w2 hSw
        obtain ⟨s0, s1, s2, s3⟩ := hSw
        go_simp
        try with_reducible rfl
      simp only [Act.put, List.getElem_toArray, List.getElem_cons_succ, List.getElem_cons_zero, List.setIfInBounds_toArray, List.set_cons_zero, List.set_cons_succ]
      refine Rt.C_take (none) (i := 10) (oi := _) (v := ?_) rfl (by kernel_rfl) (by kernel_rfl) (by kernel_rfl) (by kernel_rfl) (fun _ _ _ h => h) (Sc2.other (by decide)) (Or.inl ⟨by rfl, ?_⟩) (fun o' _ => hS1 o') ?_
      rotate_left
      · intro w2 hSw
        obtain ⟨s0, s1, s2, s3⟩ := hSw
        go_simp
        try with_reducible rfl
      simp only [Act.put, List.getElem_toArray, List.getElem_cons_succ, List.getElem_cons_zero, List.setIfInBounds_toArray, List.set_cons_zero, List.set_cons_succ]
      refine Rt.C_take (none) (i := 11) (oi := _) (v := ?_) rfl (by kernel_rfl) (by kernel_rfl) (by kernel_rfl) (by kernel_rfl) (fun _ _ _ h => h) (Sc2.other (by decide)) (Or.inl ⟨by rfl, ?_⟩) (fun o' _ => hS1 o') ?_
      rotate_left
      · intro w2 hSw
        obtain ⟨s0, s1, s2, s3⟩ := hSw
        go_simp
        try with_reducible rfl
      simp only [Act.put, List.getElem_toArray, List.getElem_cons_succ, List.getElem_cons_zero, List.setIfInBounds_toArray, List.set_cons_zero, List.set_cons_succ]
      refine Rt.C_take (none) (i := 12) (oi := _) (v := ?_) rfl (by kernel_rfl) (by kernel_rfl) (by kernel_rfl) (by kernel_rfl) (fun _ _ _ h => h) (Sc2.other (by decide)) (Or.inl ⟨by rfl, ?_⟩) (fun o' _ => hS1 o') ?_
      rotate_left
      · intro w2 hSw
        obtain ⟨s0, s1, s2, s3⟩ := hSw
        go_simp
        try with_reducible rfl
      simp only [Act.put, List.getElem_toArray, List.getElem_cons_succ, List.getElem_cons_zero, List.setIfInBounds_toArray, List.set_cons_zero, List.set_cons_succ]
      refine Rt.C_take (none) (i := 13) (oi := _) (v := ?_) rfl (by kernel_rfl) (by kernel_rfl) (by kernel_rfl) (by kernel_rfl) (fun _ _ _ h => h) (Sc2.other (by decide)) (Or.inl ⟨by rfl, ?_⟩) (fun o' _ => hS1 o') ?_
      rotate_left
      · intro w2 hSw
        obtain ⟨s0, s1, s2, s3⟩ := hSw
        go_simp
        try with_reducible rfl
      simp only [Act.put, List.getElem_toArray, List.getElem_cons_succ, List.getElem_cons_zero, List.setIfInBounds_toArray, List.set_cons_zero, List.set_cons_succ]
      refine Rt.C_take (none) (i := 14) (oi := _) (v := ?_) rfl (by kernel_rfl) (by kernel_rfl) (by kernel_rfl) (by kernel_rfl) (fun _ _ _ h => h) (Sc2.other (by decide)) (Or.inl ⟨by rfl, ?_⟩) (fun o' _ => hS1 o') ?_
      rotate_left
      · intro w2 hSw
        obtain ⟨s0, s1, s2, s3⟩ := hSw
        go_simp
        try with_reducible rfl
      simp only [Act.put, List.getElem_toArray, List.getElem_cons_succ, List.getElem_cons_zero, List.setIfInBounds_toArray, List.set_cons_zero, List.set_cons_succ]
      refine Rt.C_take (none) (i := 15) (oi := _) (v := ?_) rfl (by kernel_rfl) (by kernel_rfl) (by kernel_rfl) (by kernel_rfl) (fun _ _ _ h => h) (Sc2.other (by decide)) (Or.inl ⟨by rfl, ?_⟩) (fun o' _ => hS1 o') ?_
      rotate_left
      · intro w2 hSw
        obtain ⟨s0, s1, s2, s3⟩ := hSw
        go_simp
        try with_reducible rfl
      simp only [Act.put, List.getElem_toArray, List.getElem_cons_succ, List.getElem_cons_zero, List.setIfInBounds_toArray, List.set_cons_zero, List.set_cons_succ]
      refine Rt.C_take (none) (i := 16) (oi := _) (v := ?_) rfl (by kernel_rfl) (by kernel_rfl) (by kernel_rfl) (by kernel_rfl) (fun _ _ _ h => h) (Sc2.other (by decide)) (Or.inl ⟨by rfl, ?_⟩) (fun o' _ => hS1 o') ?_
      rotate_left
      · intro w2 hSw
        obtain ⟨s0, s1, s2, s3⟩ := hSw
        go_simp
        try with_reducible rfl
      simp only [Act.put, List.getElem_toArray, List.getElem_cons_succ, List.getElem_cons_zero, List.setIfInBounds_toArray, List.set_cons_zero, List.set_cons_succ]
      refine Rt.C_take (none) (i := 17) (oi := _) (v := ?_) rfl (by kernel_rfl) (by kernel_rfl) (by kernel_rfl) (by kernel_rfl) (fun _ _ _ h => h) (Sc2.other (by decide)) (Or.inl ⟨by rfl, ?_⟩) (fun o' _ => hS1 o') ?_
      rotate_left
      · intro w2 hSw
        obtain ⟨s0, s1, s2, s3⟩ := hSw
        go_simp
        try with_reducible rfl
      simp only [Act.put, List.getElem_toArray, List.getElem_cons_succ, List.getElem_cons_zero, List.setIfInBounds_toArray, List.set_cons_zero, List.set_cons_succ]
      refine Rt.C_take (none) (i := 18) (oi := _) (v := ?_) rfl (by kernel_rfl) (by kernel_rfl) (by kernel_rfl) (by kernel_rfl) (fun _ _ _ h => h) (Sc2.other (by decide)) (Or.inl ⟨by rfl, ?_⟩) (fun o' _ => hS1 o') ?_
      rotate_left
      · intro w2 hSw
        obtain ⟨s0, s1, s2, s3⟩ := hSw
        go_simp
        try with_reducible rfl
      simp only [Act.put, List.getElem_toArray, List.getElem_cons_succ, List.getElem_cons_zero, List.setIfInBounds_toArray, List.set_cons_zero, List.set_cons_succ]
      refine Rt.C_take (none) (i := 19) (oi := _) (v := ?_) rfl (by kernel_rfl) (by kernel_rfl) (by kernel_rfl) (by kernel_rfl) (fun _ _ _ h => h) (Sc2.other (by decide)) (Or.inl ⟨by rfl, ?_⟩) (fun o' _ => hS1 o') ?_
      rotate_left
      · intro w2 hSw
        obtain ⟨s0, s1, s2, s3⟩ := hSw
        go_simp
        try with_reducible rfl
      simp only [Act.put, List.getElem_toArray, List.getElem_cons_succ, List.getElem_cons_zero, List.setIfInBounds_toArray, List.set_cons_zero, List.set_cons_succ]
      refine Rt.C_take (none) (i := 20) (oi := _) (v := (.slice (some ⟨ab, ao + lo, none⟩) W (c - lo))) rfl (by kernel_rfl) (by kernel_rfl) (by kernel_rfl) (by kernel_rfl) (fun _ _ _ h => h) (Sc2.other (by decide)) (Or.inl ⟨by rfl, ?_⟩) (fun o' _ => hS1 o') ?_
      · intro w2 hSw
        obtain ⟨s0, s1, s2, s3⟩ := hSw
        go_simp
        try with_reducible rfl
      simp only [Act.put, List.getElem_toArray, List.getElem_cons_succ, List.getElem_cons_zero, List.setIfInBounds_toArray, List.set_cons_zero, List.set_cons_succ]
      clear hS1
      refine Rt.C_ready (rs := [21]) (by kernel_rfl) (by simp) ?_
      refine Rt.AllC.cons (i := 21) (o := _) rfl (by rfl) (fun K' hK => ?_) ?_
      · skip
        refine wp_copy_vec _ _ rfl ob off N' (N' - off) (N' - off) ab (ao + lo) W (c - lo) (apart W H f r) (fun j => f j r) (by rfl) (by rfl) (HV.out.keep hdr) (HSRC.out _ hdr) HFIT.out HDL.out ?_
        intro w7 hv7 ho7
        have HR57 := Lib.hid ((HR5.out.keep hdr HR5.out.lt).other ho7 HNG.out.1)
        have HR87 := Lib.hid ((HR8.out.keep hdr HR8.out.lt).other ho7 HNG.out.2.1)
        have HQ7 := Lib.hid ((HQ.out.keep hdr HQ.out.lt).other ho7 HNG.out.2.2)
        have HV7 : Hid (Vec w7 ob N' (apart W H f (r + 1))) := Lib.hid (hv7.congr fun k hk => HV2F.out k hk)
        have HB7 := Lib.hid ((HB.out.trans (hdr.mono HB.out.size)).trans (ho7.below HOW.out))
        refine hK _ _ (fun o hl => Sc2.late ⟨HR57.out.cell 0, HR57.out.cell 2, HQ7.out.cell 0, HQ7.out.cell 2⟩ (by rfl) o hl) ?_
        clear hK K'
        simp only [Act.put, List.getElem_toArray, List.getElem_cons_succ, List.getElem_cons_zero, List.setIfInBounds_toArray, List.set_cons_zero, List.set_cons_succ]
        refine Rt.C_done (by kernel_rfl) ?_ _
        refine NoPanic.normal ?_
        clear hv7 ho7 hdr e1 e2 e3 e4 e5 e1' e2' e3' e4' e5' f0 f2 g0 g2 hhd hhc hcl hlh hno hon hHI HR5 HR8 HQ HV HB
        have hH3 := HHB.out
        have hr3 := HRH.out
        go_wp2_with fail
        go_roundw
        case rel => exact ⟨r + 1, HRH.out, by go_num, HR57.out, HR87.out, HQ7.out, HV7.out, HB7.out⟩
        case measure => have := HRH.out; simp [RowKit.intOf]; omega
      exact Rt.AllC.nil
      --}
    · --{done
      obtain rfl : r = H := by omega
      have hnl : ¬ (r : Int) < (r : Int) := by omega
      have HV2 : Hid (Vec wr ob N (fun k => pad W r f (k % A) (k / A))) := Lib.hid (HV.out.congr fun k hk => by rw [HA.out]; exact apart_all)
      have l5 := row_range HQ.out
      go_wp2_with (first | (refine wpList_load_mid rfl 26 _ rfl qb 0 rfl _ _ l5 Tryd.underlying26 rfl infoPat ?_) | (refine Ops.wpList_store_arr rfl 26 _ _ rfl rb rfl 26 _ _ rfl HR8.out rfl infoPat (boxP_one _ _ _ _ _) ?_; intro w5 hrow5 hon5))
      refine bodyPost_ret (results_pat1 (t := 2) rfl _ _ hrow5 rfl rfl) rfl ⟨⟨ob, rfl, HOW.out, HV2.out.other hon5 (fun e => HNG.out.2.1 e.symm)⟩, HB.out.trans (hon5.below HGR.out.1)⟩
      --}
end Pn
end Go.Proofs.YthipeeagpllfeaaDoor
