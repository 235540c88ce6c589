/- WALK: pattern.Trim, pattern.Canon. -/
import Derived.Test.YtgagophijmiceaaDoorPwOm
import Derived.Test.YtgagophijmiceaaDoorPwTd
import Derived.Test.YtgagophijmiceaaDoorPwTr
import Derived.Test.YtgagophijmiceaaDoorPnR
namespace Go.Proofs.YtgagophijmiceaaDoor
set_option linter.unusedSimpArgs false
set_option linter.unusedVariables false
open Go.RowKit
namespace Pw
open Tld Mem Bl Pn

set_option maxHeartbeats 8000000 in
set_option maxRecDepth 1000000 in
theorem Trim_bad (W H : Int) (a : Option Addr) (n c : Nat) (zs : List Int) (w : World) (hZ : Ints.Is w a n zs) (hf : pfault W H zs ≠ 0) :
    Calls Tryd.prog 20 #[.agg #[.int .i64 W, .int .i64 H, .slice a n c]] w fun e w' => e = .returned (.tuple #[.agg #[.int .i64 0, .int .i64 0, .slice none 0 0], .int .i64 0, .int .i64 0, errV (pfault W H zs)]) ∧ Below w.heap.size w w' := by
  have HK := Lib.hid (fun w2 (h : Below w.heap.size w w2) => pcheck_any W H a n c zs w2 hZ.len (by have := hZ.le; unfold maxLen at this; omega) (hZ.keep h).cells)
  rw [errV_some hf] at HK ⊢
  generalize pfault W H zs = pv at *
  clear hZ hf
  go_enter Tryd.func20, Tryd.ntmps20
  go_upto_region 1 with fail
  obtain ⟨hr2, hr3, hb2⟩ := two_new w 35 35 (boxP W H a n c) noPat
  have HP : Hid (Row ((w.alloc (.cells #[.int .i64 W, .int .i64 H, .slice a n c] 35)).alloc (.cells #[.int .i64 0, .int .i64 0, .slice none 0 0] 35)) w.heap.size 35 (boxP W H a n c)) := hr2
  have HR : Hid (Row ((w.alloc (.cells #[.int .i64 W, .int .i64 H, .slice a n c] 35)).alloc (.cells #[.int .i64 0, .int .i64 0, .slice none 0 0] 35)) (w.heap.size + 1) 35 noPat) := hr3
  have HB : Hid (Below w.heap.size w ((w.alloc (.cells #[.int .i64 W, .int .i64 H, .slice a n c] 35)).alloc (.cells #[.int .i64 0, .int .i64 0, .slice none 0 0] 35))) := hb2
  clear hr2 hr3 hb2
  generalize (w.alloc (.cells #[.int .i64 W, .int .i64 H, .slice a n c] 35)).alloc (.cells #[.int .i64 0, .int .i64 0, .slice none 0 0] 35) = w1 at *
  obtain ⟨pb, hpb⟩ : ∃ pb, pb = w.heap.size := ⟨_, rfl⟩
  rw [← hpb] at HP HR ⊢
  obtain ⟨rb, hrb⟩ : ∃ rb, rb = pb + 1 := ⟨_, rfl⟩
  rw [← hrb] at HR ⊢
  have HRB : Hid (w.heap.size ≤ rb) := Lib.hid (by omega)
  clear hpb hrb
  have l6 := row_range HP.out
  go_wp2_with (refine wpList_load_mid rfl 35 _ rfl pb 0 rfl _ _ l6 Tryd.underlying35 rfl infoPat ?_)
  refine (HK.out _ HB.out).mono ?_
  rintro e2 w2 ⟨rfl, hb2⟩
  have HP := Lib.hid (HP.out.keep hb2 HP.out.lt)
  have HR := Lib.hid (HR.out.keep hb2 HR.out.lt)
  have HB := Lib.hid (HB.out.trans (hb2.mono HB.out.size))
  clear l6 hb2 HK
  go_wp2_with (refine Ops.wpList_store_arr rfl 35 _ _ rfl rb rfl 35 _ noPat rfl HR.out rfl infoPat noPat_one ?_; intro w5 hrow5 hon5)
  exact bodyPost_ret (results_pat4 (t := 2) (u := 3) (v := 4) (z := 5) (e := .int .i64 0) (f := .int .i64 0) (g := .iface 59 (.int .i64 pv)) rfl _ _ hrow5 rfl rfl rfl rfl rfl) rfl ⟨rfl, HB.out.trans (hon5.below HRB.out)⟩

set_option maxHeartbeats 8000000 in
set_option maxRecDepth 1000000 in
theorem Canon_bad (W H : Int) (a : Option Addr) (n c : Nat) (zs : List Int) (w : World) (hZ : Ints.Is w a n zs) (hf : pfault W H zs ≠ 0) :
    Calls Tryd.prog 21 #[.agg #[.int .i64 W, .int .i64 H, .slice a n c]] w fun e w' => e = .returned (.tuple #[.agg #[.int .i64 0, .int .i64 0, .slice none 0 0], errV (pfault W H zs)]) ∧ Below w.heap.size w w' := by
  have HK := Lib.hid (fun w2 (h : Below w.heap.size w w2) => pcheck_any W H a n c zs w2 hZ.len (by have := hZ.le; unfold maxLen at this; omega) (hZ.keep h).cells)
  rw [errV_some hf] at HK ⊢
  generalize pfault W H zs = pv at *
  clear hZ hf
  go_enter Tryd.func21, Tryd.ntmps21
  go_upto_region 1 with fail
  obtain ⟨hr2, hr3, hb2⟩ := two_new w 35 35 (boxP W H a n c) noPat
  have HP : Hid (Row ((w.alloc (.cells #[.int .i64 W, .int .i64 H, .slice a n c] 35)).alloc (.cells #[.int .i64 0, .int .i64 0, .slice none 0 0] 35)) w.heap.size 35 (boxP W H a n c)) := hr2
  have HR : Hid (Row ((w.alloc (.cells #[.int .i64 W, .int .i64 H, .slice a n c] 35)).alloc (.cells #[.int .i64 0, .int .i64 0, .slice none 0 0] 35)) (w.heap.size + 1) 35 noPat) := hr3
  have HB : Hid (Below w.heap.size w ((w.alloc (.cells #[.int .i64 W, .int .i64 H, .slice a n c] 35)).alloc (.cells #[.int .i64 0, .int .i64 0, .slice none 0 0] 35))) := hb2
  clear hr2 hr3 hb2
  generalize (w.alloc (.cells #[.int .i64 W, .int .i64 H, .slice a n c] 35)).alloc (.cells #[.int .i64 0, .int .i64 0, .slice none 0 0] 35) = w1 at *
  obtain ⟨pb, hpb⟩ : ∃ pb, pb = w.heap.size := ⟨_, rfl⟩
  rw [← hpb] at HP HR ⊢
  obtain ⟨rb, hrb⟩ : ∃ rb, rb = pb + 1 := ⟨_, rfl⟩
  rw [← hrb] at HR ⊢
  have HRB : Hid (w.heap.size ≤ rb) := Lib.hid (by omega)
  clear hpb hrb
  have l6 := row_range HP.out
  go_wp2_with (refine wpList_load_mid rfl 35 _ rfl pb 0 rfl _ _ l6 Tryd.underlying35 rfl infoPat ?_)
  refine (HK.out _ HB.out).mono ?_
  rintro e2 w2 ⟨rfl, hb2⟩
  have HP := Lib.hid (HP.out.keep hb2 HP.out.lt)
  have HR := Lib.hid (HR.out.keep hb2 HR.out.lt)
  have HB := Lib.hid (HB.out.trans (hb2.mono HB.out.size))
  clear l6 hb2 HK
  go_wp2_with (refine Ops.wpList_store_arr rfl 35 _ _ rfl rb rfl 35 _ noPat rfl HR.out rfl infoPat noPat_one ?_; intro w5 hrow5 hon5)
  exact bodyPost_ret (results_pat (t := 2) (u := 3) (e := .iface 59 (.int .i64 pv)) rfl _ _ hrow5 rfl rfl rfl) rfl ⟨rfl, HB.out.trans (hon5.below HRB.out)⟩

/-- Patterns, one behind the other. -/
def elP (WW HH : Nat → Nat) (A : Nat → Option Addr) (n : Nat) (C : Nat → Nat) : Nat → List Value
  | 0 => []
  | k + 1 => elP WW HH A n C k ++ boxP (WW k : Nat) (HH k : Nat) (A k) n (C k)
theorem elP_len (WW HH : Nat → Nat) (A : Nat → Option Addr) (n : Nat) (C : Nat → Nat) : ∀ k, (elP WW HH A n C k).length = 3 * k
  | 0 => rfl
  | k + 1 => by
    rw [elP, List.length_append, elP_len WW HH A n C k]
    simp [boxP]
    omega
theorem elP_at (WW HH : Nat → Nat) (A : Nat → Option Addr) (n : Nat) (C : Nat → Nat) : ∀ k i j, i < k → j < 3 → (elP WW HH A n C k)[3 * i + j]? = (boxP (WW i : Nat) (HH i : Nat) (A i) n (C i))[j]?
  | 0, i, j, h, _ => absurd h (Nat.not_lt_zero _)
  | k + 1, i, j, h, hj => by
    have hl := elP_len WW HH A n C k
    rw [elP]
    by_cases hik : i < k
    · rw [List.getElem?_append_left (by rw [hl]; omega)]
      exact elP_at WW HH A n C k i j hik hj
    · obtain rfl : i = k := by omega
      rw [List.getElem?_append_right (by rw [hl]; omega), hl, show 3 * i + j - 3 * i = j by omega]
theorem elP_congr (WW HH : Nat → Nat) (n : Nat) {A A' : Nat → Option Addr} {C C' : Nat → Nat} : ∀ k, (∀ i, i < k → A i = A' i ∧ C i = C' i) → elP WW HH A n C k = elP WW HH A' n C' k
  | 0, _ => rfl
  | k + 1, h => by
    rw [elP, elP, elP_congr WW HH n k (fun i hi => h i (by omega)), (h k (by omega)).1, (h k (by omega)).2]
theorem elP_range {w : World} {B g k cap i n : Nat} {WW HH : Nat → Nat} {A : Nat → Option Addr} {C : Nat → Nat} (h : w.ownsRow B 35 3 (.slice (some ⟨g, 0, none⟩) k cap) k (elP WW HH A n C k)) (hi : i < k) : w.rangeAt g (3 * i) (boxP (WW i : Nat) (HH i : Nat) (A i) n (C i)) := fun j v hv => by
  have hj : j < 3 := (List.getElem?_eq_some_iff.1 hv).1
  have := h.cells (g := g) rfl (3 * i + j) v (by rw [elP_at WW HH A n C k i j hi hj]; exact hv)
  rw [Addr.add_mid, Nat.zero_add] at this
  exact this
/-- Cells elsewhere stand where a slice of the call's own grows. -/
theorem is_grown {w w' : World} {a : Option Addr} {n B m : Nat} {zs : List Int} {xs : List Value} {v : Value} (h : Ints.Is w a n zs) (ht : Typ w a n) (ho : w.ownsRow B 35 3 v m xs) (hg : w.grownBy w' v.ownBlock) : Ints.Is w' a n zs ∧ Typ w' a n := by
  have hne : 0 < n → ∀ b o, a = some ⟨b, o, none⟩ → some b ≠ v.ownBlock := fun h0 b o e x => by
    obtain ⟨cs, hr⟩ := ht h0 b o e
    rcases ho.2 with ⟨hv, _⟩ | ⟨g, cap, cur, hv, _, hgg, _⟩
    · rw [hv] at x; cases x
    · rw [hv] at x
      have e1 : b = g := Option.some.inj x
      subst e1
      unfold Row at hr
      rw [hr] at hgg
      cases hgg
  refine ⟨⟨h.len, fun i hi => ?_, h.le⟩, fun h0 b o e => ?_⟩
  · obtain ⟨b, off, e, hlt, hc⟩ := h.cells i hi
    refine ⟨b, off, e, Nat.lt_of_lt_of_le hlt hg.size, ?_⟩
    rw [← hc]
    unfold World.cell?
    rw [show (⟨b, off + i, none⟩ : Addr).block = b from rfl, hg.block b hlt (hne (by omega) b off e)]
  · obtain ⟨cs, hr⟩ := ht h0 b o e
    exact ⟨cs, (hg.block b hr.lt (hne h0 b o e)).trans hr⟩
theorem own_low3 {w : World} {B n : Nat} {e : TypeId} {s : Nat} {v : Value} {xs : List Value} (h : w.ownsRow B e s v n xs) : ∀ k, v.ownBlock = some k → B ≤ k := fun k hk => (h.lt k hk).1
theorem infoPat3 : (Tryd.prog.info? 35).map (fun i => (i.zero, i.size, i.bytes)) = some (some (.agg #[.int .i64 0, .int .i64 0, .slice none 0 0]), 3, 40) := by kernel_rfl
theorem wpList_app {P : Program} {ops : Array Oper} {rest : List Oper} {o : Oper} {a : Act} {w : World} {Q : Exit → Act → World → Prop} (hgd : o.guard = none) (x y : Operand) (t : TypeId)
    (ho : o.op = .call { callee := .builtin .append, args := #[x, y], argTypes := #[t, t] })
    (B : Nat) (e : TypeId) (i : TypeInfo) (z : Value) (size bytes : Nat) (ht : P.underlying t = some (.slice e)) (hi : P.info? e = some i) (hz : i.zero = some z) (hsize : i.size = size) (hby : i.bytes = bytes) (hzs : z.cells.size = size) (hsz : 0 < size)
    (v : Value) (n : Nat) (xs : List Value) (hs : a.eval x = v) (hown : w.ownsRow B e size v n xs) (b m c : Nat) (news : List Value) (hy : a.eval y = .slice (some ⟨b, 0, none⟩) m c) (hl : news.length = m * size) (hnews : Row w b e news) (h1 : ∀ u ∈ news, u.oneCell' = true)
    (h63 : n + m ≤ maxLen) (hbytes : (n + m) * bytes ≤ 140737488355328) (hB : B ≤ w.heap.size) (hm : 0 < m)
    (hK : ∀ ao co w', w'.ownsRow B e size (.slice ao (n + m) co) (n + m) (xs ++ news) → w.grownBy w' v.ownBlock → wpList P ops Q rest (a.put o.dst (.slice ao (n + m) co)) w') :
    wpList P ops Q (o :: rest) a w := by
  refine wpList_append_own w hgd x y t ho B e i z size bytes ht hi hz hsize hby hzs hsz v n xs hs hown ⟨b, 0, none⟩ m c news hy hl (fun j q hj => ?_) h1 h63 hbytes hB fun v' w' ho' hg _ => ?_
  · have ea : (⟨b, 0, none⟩ : Addr).add j = ⟨b, j, none⟩ := (Addr.add_mid b 0 j).trans (by rw [Nat.zero_add])
    rw [ea, hnews.cell]
    exact hj
  · rcases ho'.2 with ⟨_, h0⟩ | ⟨g, cap, cur, hv, _⟩
    · omega
    · subst hv
      exact hK _ _ _ ho' hg

set_option maxHeartbeats 16000000 in
set_option maxRecDepth 1000000 in
theorem Canon_ok (W H : Nat) (a : Option Addr) (n c : Nat) (f : Nat → Nat → Nat) (w : World) (hZ : Ints.Is w a n (flat W H f)) (hn : n = W * H) (hc : n ≤ c) (hW : W ≤ 100) (hH : H ≤ 100) (hf : ∀ x y, f x y < 2) (hp : pfault W H (flat W H f) = 0) :
    Calls Tryd.prog 21 #[.agg #[.int .i64 W, .int .i64 H, .slice a n c]] w fun e w' => (∃ W' H' X Y : Nat, ∃ f' a' n' c', Trimmed W H f W' H' f' X Y ∧ n' = W' * H' ∧ e = .returned (.tuple #[.agg #[.int .i64 (qW W' H' (canK W' H' f' 7 % 4) : Nat), .int .i64 (qH W' H' (canK W' H' f' 7 % 4) : Nat), .slice a' n' c'], .nilIface]) ∧ Ints.Is w' a' n' (flat (qW W' H' (canK W' H' f' 7 % 4)) (qH W' H' (canK W' H' f' 7 % 4)) (tF W' H' f' (canK W' H' f' 7)))) ∧ Below w.heap.size w w' := by
  have HT := Lib.hid (fun w2 (h : Below w.heap.size w w2) => trim_any W H a n c f w2 (hZ.keep h) hn hc (by omega) (by omega) hf)
  have HK := Lib.hid (fun w2 (h : Below w.heap.size w w2) => pcheck_any W H a n c (flat W H f) w2 (by rw [flat_len, hn]) (by have := Nat.mul_le_mul hW hH; omega) (hZ.keep h).cells)
  rw [hp, errV_zero rfl] at HK
  have HWH := Lib.hid (And.intro hW hH)
  clear hZ hn hW hH hf hc hp
  unfold pat at HT
  go_enter Tryd.func21, Tryd.ntmps21
  go_upto_region 1 with fail
  obtain ⟨hr2, hr3, hb2⟩ := two_new w 35 35 (boxP W H a n c) noPat
  have HP : Hid (Row ((w.alloc (.cells #[.int .i64 W, .int .i64 H, .slice a n c] 35)).alloc (.cells #[.int .i64 0, .int .i64 0, .slice none 0 0] 35)) w.heap.size 35 (boxP W H a n c)) := hr2
  have HR : Hid (Row ((w.alloc (.cells #[.int .i64 W, .int .i64 H, .slice a n c] 35)).alloc (.cells #[.int .i64 0, .int .i64 0, .slice none 0 0] 35)) (w.heap.size + 1) 35 noPat) := hr3
  have HB : Hid (Below w.heap.size w ((w.alloc (.cells #[.int .i64 W, .int .i64 H, .slice a n c] 35)).alloc (.cells #[.int .i64 0, .int .i64 0, .slice none 0 0] 35))) := hb2
  clear hr2 hr3 hb2
  generalize (w.alloc (.cells #[.int .i64 W, .int .i64 H, .slice a n c] 35)).alloc (.cells #[.int .i64 0, .int .i64 0, .slice none 0 0] 35) = w1 at *
  obtain ⟨pb, hpb⟩ : ∃ pb, pb = w.heap.size := ⟨_, rfl⟩
  rw [← hpb] at HP HR ⊢
  obtain ⟨rb, hrb⟩ : ∃ rb, rb = pb + 1 := ⟨_, rfl⟩
  rw [← hrb] at HR ⊢
  have HRB : Hid (w.heap.size ≤ rb) := Lib.hid (by omega)
  clear hpb hrb
  have l6 := row_range HP.out
  go_wp2_with (refine wpList_load_mid rfl 35 _ rfl pb 0 rfl _ _ l6 Tryd.underlying35 rfl infoPat ?_)
  refine (HK.out _ HB.out).mono ?_
  rintro e2 w2 ⟨rfl, hb2⟩
  have HP := Lib.hid (HP.out.keep hb2 HP.out.lt)
  have HR := Lib.hid (HR.out.keep hb2 HR.out.lt)
  have HB := Lib.hid (HB.out.trans (hb2.mono HB.out.size))
  clear l6 hb2 HK
  have l6 := row_range HP.out
  go_wp2_with (refine wpList_load_mid rfl 35 _ rfl pb 0 rfl _ _ l6 Tryd.underlying35 rfl infoPat ?_)
  refine (HT.out _ HB.out).mono ?_
  rintro e3 w3 ⟨⟨W', H', X, Y, a', n', c', rfl, f', ht, hn', hnc, hcm, hi, hab⟩, hb3⟩
  have HR := Lib.hid (HR.out.keep hb3 HR.out.lt)
  have HB := Lib.hid (HB.out.trans (hb3.mono HB.out.size))
  have HI := Lib.hid hi
  have HTR := Lib.hid ht
  have HNN := Lib.hid hn'
  have HLE : Hid (W' ≤ 100 ∧ H' ≤ 100) := Lib.hid (by have := trimmed_le ht; have := HWH.out; omega)
  clear hb3 l6 hi ht hn' hab HT HP
  have hq : Row (w3.alloc (.cells #[.int .i64 W', .int .i64 H', .slice a' n' c'] 35)) w3.heap.size 35 (boxP W' H' a' n' c') := row_alloc w3 _ _
  have hb4 : Below w3.heap.size w3 (w3.alloc (.cells #[.int .i64 W', .int .i64 H', .slice a' n' c'] 35)) := (Below.refl _ _).alloc (Nat.le_refl _) _
  have HR := Lib.hid (HR.out.keep hb4 HR.out.lt)
  have HB := Lib.hid (HB.out.trans (hb4.mono HB.out.size))
  have HI := Lib.hid (HI.out.keep hb4)
  have HQ := Lib.hid hq
  clear hb4 hq hnc hcm
  go_upto_region 5 with fail
  generalize w3.alloc (.cells #[.int .i64 W', .int .i64 H', .slice a' n' c'] 35) = wq at *
  obtain ⟨qb, hqb⟩ : ∃ qb, qb = w3.heap.size := ⟨_, rfl⟩
  rw [← hqb] at HQ ⊢
  clear hqb
  obtain ⟨WW, hWW⟩ : ∃ WW : Nat → Nat, WW = fun i => qW W' H' (i % 4) := ⟨_, rfl⟩
  obtain ⟨HH, hHH⟩ : ∃ HH : Nat → Nat, HH = fun i => qH W' H' (i % 4) := ⟨_, rfl⟩
  obtain ⟨ZZ, hZZ⟩ : ∃ ZZ : Nat → List Int, ZZ = fun i => flat (qW W' H' (i % 4)) (qH W' H' (i % 4)) (tF W' H' f' i) := ⟨_, rfl⟩
  have HTU : Hid (∀ (wr : World) (hb : Below wq.heap.size wq wr) (k : Nat) (hk : k < 8), Calls Tryd.prog 48 #[.agg #[.int .i64 W', .int .i64 H', .slice a' n' c'], .int .i64 k] wr fun e w' => (∃ a1 c1, e = .returned (.agg #[.int .i64 (WW k : Nat), .int .i64 (HH k : Nat), .slice a1 n' c1]) ∧ Ints.Is w' a1 n' (ZZ k) ∧ Typ w' a1 n' ∧ ∀ b o, a1 = some ⟨b, o, none⟩ → wr.heap.size ≤ b) ∧ Below wr.heap.size wr w') := Lib.hid (fun wr hb k hk => by
    refine (turned_typ W' H' k a' n' c' f' wr (HI.out.keep hb) HNN.out (by have := HLE.out; omega) (by have := HLE.out; omega) hk).mono ?_
    rintro e w' ⟨⟨a1, c1, he, _, _, h1, h2, h3⟩, h4⟩
    exact ⟨⟨a1, c1, by rw [he, hWW, hHH]; rfl, by rw [hZZ]; exact h1, h2, h3⟩, h4⟩)
  have HCK : Hid (∀ k, canK W' H' f' k = mnK WW HH ZZ k) := Lib.hid (fun k => by rw [hWW, hHH, hZZ]; exact canK_mn W' H' f' k)
  have HWE := Lib.hid hWW
  have HHE := Lib.hid hHH
  have HZE := Lib.hid hZZ
  have HN2 : Hid (n' ≤ 1000000) := Lib.hid (by rw [HNN.out]; exact Nat.le_trans (Nat.mul_le_mul HLE.out.1 HLE.out.2) (by decide))
  obtain ⟨i0, hI0, hz0, hz1, hz2⟩ := info_parts infoPat3
  have HI0 := Lib.hid hI0
  have HZ0 := Lib.hid hz0
  have HZ1 := Lib.hid hz1
  have HZ2 := Lib.hid hz2
  clear hWW hHH hZZ hI0 hz0 hz1 hz2
  go_wp2_with fail
  go_loopw [8, 22] (fun u v wr => ∃ k : Nat, ∃ vs A C, vs = u ∧ v = .int .i64 ((k : Nat) : Int) ∧ k ≤ 8 ∧ wr.ownsRow wq.heap.size 35 3 vs k (elP WW HH A n' C k) ∧ (∀ i, i < k → Ints.Is wr (A i) n' (ZZ i) ∧ Typ wr (A i) n' ∧ ∀ b o, A i = some ⟨b, o, none⟩ → wq.heap.size ≤ b) ∧ Below wq.heap.size wq wr) (fun _ v _ => 100 - (RowKit.intOf v).toNat)
  case atStart => exact ⟨0, _, fun _ => none, fun _ => 0, rfl, rfl, by decide, ⟨rfl, .inl ⟨rfl, rfl⟩⟩, fun i hi => absurd hi (Nat.not_lt_zero _), Below.refl _ _⟩
  case round =>
    obtain ⟨k, vs, A, C, rfl, rfl, hk, ho, he, hb⟩ := hrel
    have HO := Lib.hid ho
    have HE := Lib.hid he
    have HBQ := Lib.hid hb
    clear ho he hb
    by_cases hk8 : k < 8
    · have hki : (k : Int) < 8 := by omega
      have HK8 := Lib.hid hk8
      have E1 : Hid ((k : Int) + 1 = ((k + 1 : Nat) : Int)) := Lib.hid (by push_cast; rfl)
      have HQr := Lib.hid (HQ.out.keep HBQ.out HQ.out.lt)
      have l6 := row_range HQr.out
      have HTK := Lib.hid (HTU.out wr HBQ.out k hk8)
      clear hk8 hk
      go_wp2_with (refine wpList_load_mid rfl 35 _ rfl qb 0 rfl _ _ l6 Tryd.underlying35 rfl infoPat ?_)
      refine HTK.out.mono ?_
      rintro e5 w5 ⟨⟨a1, c1, rfl, h1, h2, h3⟩, hb5⟩
      have hnew := row_alloc w5 35 (boxP (WW k : Nat) (HH k : Nat) a1 n' c1)
      have hb6 : Below w5.heap.size w5 (w5.alloc (.cells (boxP (WW k : Nat) (HH k : Nat) a1 n' c1).toArray 35)) := (Below.refl _ _).alloc (Nat.le_refl _) _
      have hb7 := hb5.trans (hb6.mono hb5.size)
      have HO7 := Lib.hid (own_stays HO.out hb7)
      have HBQ7 := Lib.hid (HBQ.out.trans (hb7.mono HBQ.out.size))
      have HEL : Hid (∀ i, i < k + 1 → Ints.Is (w5.alloc (.cells (boxP (WW k : Nat) (HH k : Nat) a1 n' c1).toArray 35)) (if i = k then a1 else A i) n' (ZZ i) ∧ Typ (w5.alloc (.cells (boxP (WW k : Nat) (HH k : Nat) a1 n' c1).toArray 35)) (if i = k then a1 else A i) n' ∧ ∀ b o, (if i = k then a1 else A i) = some ⟨b, o, none⟩ → wq.heap.size ≤ b) := Lib.hid (fun i hi => by
        by_cases hik : i = k
        · subst hik
          rw [if_pos rfl]
          exact ⟨h1.keep hb6, h2.keep hb6, fun b o e => Nat.le_trans HBQ.out.size (h3 b o e)⟩
        · rw [if_neg hik]
          obtain ⟨g1, g2, g3⟩ := HE.out i (by omega)
          exact ⟨g1.keep hb7, g2.keep hb7, g3⟩)
      have HRW := Lib.hid hnew
      clear hnew hb5 hb6 hb7 h1 h2 h3 l6 HTK HO HE HBQ HQr
      go_wp2_with (at_builtin; refine wpList_app rfl _ _ 92 rfl wq.heap.size 35 i0 _ 3 40 Tryd.underlying92 HI0.out HZ0.out HZ1.out HZ2.out rfl (by decide) _ k _ rfl HO7.out w5.heap.size 1 1 (boxP (WW k : Nat) (HH k : Nat) a1 n' c1) rfl rfl HRW.out (boxP_one _ _ _ _ _) ?c1 ?c2 HBQ7.out.size (by decide) ?_)
      case c1 => have := HK8.out; unfold maxLen; omega
      case c2 => have := HK8.out; omega
      intro ao co w7 hO7 hg7
      have HO8 : Hid (w7.ownsRow wq.heap.size 35 3 (.slice ao (k + 1) co) (k + 1) (elP WW HH (fun i => if i = k then a1 else A i) n' (fun i => if i = k then c1 else C i) (k + 1))) := Lib.hid (by
        rw [elP, ← elP_congr WW HH n' (A := A) (C := C) k (fun i hi => by rw [if_neg (by omega), if_neg (by omega)]; exact ⟨rfl, rfl⟩), if_pos rfl, if_pos rfl]
        exact hO7)
      have HEL8 : Hid (∀ i, i < k + 1 → Ints.Is w7 ((fun i => if i = k then a1 else A i) i) n' (ZZ i) ∧ Typ w7 ((fun i => if i = k then a1 else A i) i) n' ∧ ∀ b o, (fun i => if i = k then a1 else A i) i = some ⟨b, o, none⟩ → wq.heap.size ≤ b) := Lib.hid (fun i hi => by
        obtain ⟨g1, g2, g3⟩ := HEL.out i hi
        obtain ⟨g4, g5⟩ := is_grown g1 g2 HO7.out hg7
        exact ⟨g4, g5, g3⟩)
      have HBQ8 := Lib.hid (HBQ7.out.grown hg7 HBQ7.out.size (own_low3 HO7.out))
      clear hO7 hg7 HO7 HEL HBQ7 HRW
      go_wp2_with fail
      go_roundw
      case rel => exact ⟨k + 1, _, _, _, rfl, congrArg (Value.int .i64) E1.out, HK8.out, HO8.out, HEL8.out, HBQ8.out⟩
      case measure => exact meas E1.out (by have := HK8.out; omega)
    · have hki : ¬ (k : Int) < 8 := by omega
      obtain rfl : k = 8 := by omega
      obtain ⟨g, cap, rfl, hgl⟩ : ∃ g cap, vs = .slice (some ⟨g, 0, none⟩) 8 cap ∧ g < wr.heap.size := by
        rcases HO.out.2 with ⟨_, h0⟩ | ⟨g, cap, cur, hv, _, hg, _⟩
        · omega
        · exact ⟨g, cap, hv, (Array.getElem?_eq_some_iff.1 hg).1⟩
      have HMN := Lib.hid (min_any WW HH ZZ A C n' g cap wr HN2.out hgl (fun i hi => elP_range HO.out hi) (fun i hi => (HE.out i hi).1))
      have hm7 : mnK WW HH ZZ 7 < 8 := by have := mnK_le WW HH ZZ 7; omega
      have HEM := Lib.hid (HE.out _ hm7)
      have HCM := Lib.hid (HCK.out 7)
      have HRr := Lib.hid (HR.out.keep HBQ.out HR.out.lt)
      have HRQ : Hid (rb < wq.heap.size) := Lib.hid HR.out.lt
      unfold pat at HMN
      obtain ⟨m, hm⟩ : ∃ m, m = mnK WW HH ZZ 7 := ⟨_, rfl⟩
      rw [← hm] at HMN HEM HCM
      clear hm hm7 hk8 hk hgl HE HO
      go_wp2_with fail
      refine HMN.out.mono ?_
      rintro e5 w5 ⟨rfl, hb5⟩
      have HEM := Lib.hid (And.intro (HEM.out.1.keep hb5) HEM.out.2.2)
      have HRr := Lib.hid (HRr.out.keep hb5 HRr.out.lt)
      have HB := Lib.hid ((HB.out.trans (HBQ.out.mono HB.out.size)).trans (hb5.mono (Nat.le_trans HB.out.size HBQ.out.size)))
      clear hb5 HMN
      go_wp2_with (refine Ops.wpList_store_arr rfl 35 _ _ rfl rb rfl 35 _ (boxP (WW m : Nat) (HH m : Nat) (A m) n' (C m)) rfl HRr.out rfl infoPat (boxP_one _ _ _ _ _) ?_; intro w7 hrow7 hon7)
      refine bodyPost_ret (results_pat (t := 2) (u := 3) (e := .nilIface) rfl _ _ hrow7 rfl rfl rfl) rfl ⟨⟨W', H', X, Y, f', A m, n', C m, HTR.out, HNN.out, ?_, ?_⟩, HB.out.trans (hon7.below HRB.out)⟩
      · rw [HCM.out, HWE.out, HHE.out]; rfl
      · rw [HCM.out]
        have h := HEM.out.1
        rw [HZE.out] at h
        exact is_other h hon7 (fun b o e => by have := HEM.out.2 b o e; have := HRQ.out; omega)
end Pw
end Go.Proofs.YtgagophijmiceaaDoor
