/- WALK: the document's edenref3.Torus. -/
import Derived.Test.YtdckcejkliggfaaDoorPnD
import Derived.Test.YtdckcejkliggfaaDoorPnM
namespace Go.Proofs.YtdckcejkliggfaaDoor
set_option linter.unusedSimpArgs false
set_option linter.unusedVariables false
open Go.RowKit
namespace Pn
open Tld Mem Bl

theorem lstN_succ {P : Nat} {F : Nat → Nat} : lstN (P + 1) F = lstN P F ++ [((F P : Nat) : Int)] := by simp [lstN, List.range_succ]
theorem lstN_zero {F : Nat → Nat} : lstN 0 F = [] := by simp [lstN]
/-- The first k of the nine cells about a place on rings, but for the middle one. -/
def sumD (W H : Nat) (f : Nat → Nat → Nat) (x y : Nat) : Nat → Nat
  | 0 => 0
  | k + 1 => sumD W H f x y k + if k = 4 then 0 else f ((x + k % 3 + W - 1) % W) ((y + k / 3 + H - 1) % H)
theorem sumD_le {W H x y : Nat} {f : Nat → Nat → Nat} (hf : ∀ x y, f x y < 2) : ∀ k, sumD W H f x y k ≤ k
  | 0 => Nat.le_refl _
  | k + 1 => by
    have h1 := sumD_le (W := W) (H := H) (x := x) (y := y) hf k
    have h2 := hf ((x + k % 3 + W - 1) % W) ((y + k / 3 + H - 1) % H)
    show sumD W H f x y k + (if k = 4 then 0 else _) ≤ k + 1
    split <;> omega
theorem sumD_nine {W H x y : Nat} {f : Nat → Nat → Nat} (hx : x < W) (hy : y < H) : sumD W H f x y 9 = nineT W H f x y - f x y := by
  have e1 : (x + 1 + W - 1) % W = x := by rw [show x + 1 + W - 1 = x + W by omega, Nat.add_mod_right, Nat.mod_eq_of_lt hx]
  have e2 : (y + 1 + H - 1) % H = y := by rw [show y + 1 + H - 1 = y + H by omega, Nat.add_mod_right, Nat.mod_eq_of_lt hy]
  have h : sumD W H f x y 9 = 0 + f ((x + 0 + W - 1) % W) ((y + 0 + H - 1) % H) + f ((x + 1 + W - 1) % W) ((y + 0 + H - 1) % H) + f ((x + 2 + W - 1) % W) ((y + 0 + H - 1) % H) +
    f ((x + 0 + W - 1) % W) ((y + 1 + H - 1) % H) + 0 + f ((x + 2 + W - 1) % W) ((y + 1 + H - 1) % H) +
    f ((x + 0 + W - 1) % W) ((y + 2 + H - 1) % H) + f ((x + 1 + W - 1) % W) ((y + 2 + H - 1) % H) + f ((x + 2 + W - 1) % W) ((y + 2 + H - 1) % H) := rfl
  rw [h]
  unfold nineT
  rw [e1, e2]
  omega
/-- The numbers of a neighbour's step, as the document takes it. -/
theorem dtor_nums {x y d e W H : Nat} (hx : x < W) (hy : y < H) (hd : d < 3) (he : e < 3) (hW : W ≤ 200) (hH : H ≤ 200) :
    ∃ x1 y1 : Int, ∃ x2 y2 x4 y4 y5 i : Nat, i = ((y + d + H - 1) % H) * W + (x + e + W - 1) % W ∧ i < W * H ∧
      wrap64 ((x : Int) + ((e : Int) - 1)) = x1 ∧ wrap64 (x1 + (W : Int)) = (x2 : Int) ∧ (x2 : Int).tmod (W : Int) = (x4 : Int) ∧
      wrap64 ((y : Int) + ((d : Int) - 1)) = y1 ∧ wrap64 (y1 + (H : Int)) = (y2 : Int) ∧ (y2 : Int).tmod (H : Int) = (y4 : Int) ∧
      wrap64 ((y4 : Int) * (W : Int)) = (y5 : Int) ∧ wrap64 ((y5 : Int) + (x4 : Int)) = (i : Int) := by
  have h1 : (x + e + W - 1) % W < W := Nat.mod_lt _ (by omega)
  have h2 : (y + d + H - 1) % H < H := Nat.mod_lt _ (by omega)
  have h3 := at_lt h1 h2
  have h4 : W * H ≤ 200 * 200 := Nat.mul_le_mul hW hH
  refine ⟨(x : Int) + ((e : Int) - 1), (y : Int) + ((d : Int) - 1), x + e + W - 1, y + d + H - 1, (x + e + W - 1) % W, (y + d + H - 1) % H, ((y + d + H - 1) % H) * W, _, rfl, h3, wr_in (by omega) (by omega), ?_, Int.ofNat_tmod _ _, wr_in (by omega) (by omega), ?_, Int.ofNat_tmod _ _, ?_, ?_⟩
  · exact wr_nat (by omega) (by omega)
  · exact wr_nat (by omega) (by omega)
  · generalize (y + d + H - 1) % H = q at *
    generalize (x + e + W - 1) % W = p at *
    exact wr_nat (by push_cast; rfl) (by omega)
  · generalize (y + d + H - 1) % H = q at *
    generalize (x + e + W - 1) % W = p at *
    generalize q * W = r at *
    exact wr_nat (by push_cast; rfl) (by omega)
/-- The boxes of a walk that puts cells end to end. -/
structure TSt (w0 wr : World) (ub gb rb qb : Nat) (UT GT RT : TypeId) (RC PC RZ : List Value) (W H : Int) (F : Nat → Nat) (k : Nat) (vs : Value) : Prop where
  u : Row wr ub UT RC
  g : Row wr gb GT PC
  r : Row wr rb RT RZ
  q : Row wr qb 26 [.int .i64 W, .int .i64 H, vs]
  o : wr.ownsRow w0.heap.size 3 1 vs k ((lstN k F).map (Value.int .i64))
  b : Below w0.heap.size w0 wr
  ne : w0.heap.size ≤ qb ∧ ub ≠ qb ∧ gb ≠ qb ∧ rb ≠ qb
  ty : UT ≠ 3 ∧ GT ≠ 3 ∧ RT ≠ 3
theorem TSt.keep {w0 wr w2 : World} {ub gb rb qb : Nat} {UT GT RT : TypeId} {RC PC RZ : List Value} {W H : Int} {F : Nat → Nat} {k : Nat} {vs : Value} (h : TSt w0 wr ub gb rb qb UT GT RT RC PC RZ W H F k vs) (b : Below wr.heap.size wr w2) : TSt w0 w2 ub gb rb qb UT GT RT RC PC RZ W H F k vs :=
  ⟨h.u.keep b h.u.lt, h.g.keep b h.g.lt, h.r.keep b h.r.lt, h.q.keep b h.q.lt, own_keep h.o b, h.b.trans (b.mono h.b.size), h.ne, h.ty⟩
theorem TSt.grown {w0 wr w2 : World} {ub gb rb qb : Nat} {UT GT RT : TypeId} {RC PC RZ : List Value} {W H : Int} {F : Nat → Nat} {k : Nat} {vs : Value} (h : TSt w0 wr ub gb rb qb UT GT RT RC PC RZ W H F k vs) (hg : wr.grownBy w2 vs.ownBlock) : Row w2 qb 26 [.int .i64 W, .int .i64 H, vs] := row_grown h.o hg h.q (by decide)
theorem TSt.after {w0 wr w2 : World} {ub gb rb qb : Nat} {UT GT RT : TypeId} {RC PC RZ : List Value} {W H : Int} {F : Nat → Nat} {k : Nat} {vs : Value} (h : TSt w0 wr ub gb rb qb UT GT RT RC PC RZ W H F k vs) (hg : wr.grownBy w2 vs.ownBlock) : Row w2 gb GT PC ∧ Row w2 qb 26 [.int .i64 W, .int .i64 H, vs] ∧ Below w0.heap.size w0 w2 :=
  ⟨row_grown h.o hg h.g h.ty.2.1, h.grown hg, h.b.grown hg h.b.size (own_low h.o)⟩
theorem TSt.push {w0 wr w2 : World} {ub gb rb qb : Nat} {UT GT RT : TypeId} {RC PC RZ : List Value} {W H : Int} {F : Nat → Nat} {k : Nat} {vs vs' : Value} {v : Nat} (h : TSt w0 wr ub gb rb qb UT GT RT RC PC RZ W H F k vs) (hg : wr.grownBy w2 vs.ownBlock)
    (ho : w2.ownsRow w0.heap.size 3 1 vs' (k + 1) ((lstN k F).map (Value.int .i64) ++ [.int .i64 (v : Nat)])) (hv : F k = v) : TSt w0 (w2.setCell ⟨qb, 2, none⟩ vs') ub gb rb qb UT GT RT RC PC RZ W H F (k + 1) vs' := by
  have hu := row_grown h.o hg h.u h.ty.1
  have hgg := row_grown h.o hg h.g h.ty.2.1
  have hr := row_grown h.o hg h.r h.ty.2.2
  have hq := h.grown hg
  have hb := h.b.grown hg h.b.size (own_low h.o)
  have ho9 := only_setCell w2 qb 2 vs'
  have hq9 : Row (w2.setCell ⟨qb, 2, none⟩ vs') qb 26 [.int .i64 W, .int .i64 H, vs'] := hq.set 2 _
  have hs : (lstN (k + 1) F).map (Value.int .i64) = (lstN k F).map (Value.int .i64) ++ [.int .i64 (v : Nat)] := by rw [lstN_succ, List.map_append, hv]; rfl
  refine ⟨hu.other ho9 h.ne.2.1, hgg.other ho9 h.ne.2.2.1, hr.other ho9 h.ne.2.2.2, hq9, ?_, hb.trans (ho9.below h.ne.1), h.ne, h.ty⟩
  rw [hs]
  exact own_only ho ho9 (own_ne ho hq (by decide))

set_option maxHeartbeats 16000000 in
set_option maxRecDepth 1000000 in
theorem dtorus_any (K st ra : Int) (B S : Nat) (ta : Option Addr) (tn tc : Nat) (tu : ByteArray) (W H : Nat) (a : Option Addr) (n c : Nat) (f : Nat → Nat → Nat) (w : World) (hB : B < 512) (hS : S < 512) (hZ : Ints.Is w a n (flat W H f)) (hn : n = W * H) (hW : W ≤ 200) (hH : H ≤ 200) (hf : ∀ x y, f x y < 2) :
    Calls Tryd.prog 13 #[.agg #[.int .i64 K, .int .i64 B, .int .i64 S, .int .i64 st, .int .i64 ra, .slice ta tn tc, .string tu], .agg #[.int .i64 W, .int .i64 H, .slice a n c]] w fun e w' => (∃ a' c', e = .returned (pat W H a' n c') ∧ n ≤ c' ∧ Ints.Is w' a' n (flat W H (tor B S W H f)) ∧ (∀ b o, a' = some ⟨b, o, none⟩ → w.heap.size ≤ b)) ∧ Below w.heap.size w w' := by
  obtain ⟨i0, hI0, hz0, hz1, hz2⟩ := info_parts infoIntV
  have HI0 := Lib.hid hI0
  have HZ0 := Lib.hid hz0
  have HZ1 := Lib.hid hz1
  have HZ2 := Lib.hid hz2
  have HZ := Lib.hid (fun w2 (h : Below w.heap.size w w2) => hZ.keep h)
  have hn2 : n ≤ 40000 := by rw [hn]; exact Nat.mul_le_mul hW hH
  have HN := Lib.hid hn
  have HWB := Lib.hid hW
  have HHB := Lib.hid hH
  have HF := Lib.hid hf
  have HBE := Lib.hid (fun (c n : Nat) (w2 : World) (hn : n < 64) (hc : c < 2) => rbecomes_any K st ra B S ta tn tc tu c n w2 hB hS hn hc)
  obtain ⟨F, hF⟩ : ∃ F : Nat → Nat, F = fun k => tor B S W H f (k % W) (k / W) := ⟨_, rfl⟩
  have HFE := Lib.hid hF
  clear hZ hn hW hH hf hB hS hI0 hz0 hz1 hz2 hF
  unfold pat
  go_enter Tryd.func13, Tryd.ntmps13
  go_upto_region 1 with fail
  obtain ⟨hr2, hr3, hr4, hb2⟩ := three_new w 24 26 26 (rulP K B S st ra ta tn tc tu) (boxP W H a n c) noPat
  have HR2 : Hid (Row (((w.alloc (.cells #[.int .i64 K, .int .i64 B, .int .i64 S, .int .i64 st, .int .i64 ra, .slice ta tn tc, .string tu] 24)).alloc (.cells #[.int .i64 W, .int .i64 H, .slice a n c] 26)).alloc (.cells #[.int .i64 0, .int .i64 0, .slice none 0 0] 26)) w.heap.size 24 (rulP K B S st ra ta tn tc tu)) := hr2
  have HR3 : Hid (Row (((w.alloc (.cells #[.int .i64 K, .int .i64 B, .int .i64 S, .int .i64 st, .int .i64 ra, .slice ta tn tc, .string tu] 24)).alloc (.cells #[.int .i64 W, .int .i64 H, .slice a n c] 26)).alloc (.cells #[.int .i64 0, .int .i64 0, .slice none 0 0] 26)) (w.heap.size + 1) 26 (boxP W H a n c)) := hr3
  have HR4 : Hid (Row (((w.alloc (.cells #[.int .i64 K, .int .i64 B, .int .i64 S, .int .i64 st, .int .i64 ra, .slice ta tn tc, .string tu] 24)).alloc (.cells #[.int .i64 W, .int .i64 H, .slice a n c] 26)).alloc (.cells #[.int .i64 0, .int .i64 0, .slice none 0 0] 26)) (w.heap.size + 1 + 1) 26 noPat) := hr4
  have HB : Hid (Below w.heap.size w (((w.alloc (.cells #[.int .i64 K, .int .i64 B, .int .i64 S, .int .i64 st, .int .i64 ra, .slice ta tn tc, .string tu] 24)).alloc (.cells #[.int .i64 W, .int .i64 H, .slice a n c] 26)).alloc (.cells #[.int .i64 0, .int .i64 0, .slice none 0 0] 26))) := hb2
  clear hr2 hr3 hr4 hb2
  generalize ((w.alloc (.cells #[.int .i64 K, .int .i64 B, .int .i64 S, .int .i64 st, .int .i64 ra, .slice ta tn tc, .string tu] 24)).alloc (.cells #[.int .i64 W, .int .i64 H, .slice a n c] 26)).alloc (.cells #[.int .i64 0, .int .i64 0, .slice none 0 0] 26) = w1 at *
  obtain ⟨ub, hub⟩ : ∃ ub, ub = w.heap.size := ⟨_, rfl⟩
  rw [← hub] at HR2 HR3 HR4 ⊢
  obtain ⟨gb, hgb⟩ : ∃ gb, gb = ub + 1 := ⟨_, rfl⟩
  rw [← hgb] at HR3 HR4 ⊢
  obtain ⟨rb, hrb⟩ : ∃ rb, rb = gb + 1 := ⟨_, rfl⟩
  rw [← hrb] at HR4 ⊢
  have HRB : Hid (w.heap.size ≤ rb) := Lib.hid (by omega)
  clear hgb hrb hub
  have f0 := HR3.out.cell 0
  have f1 := HR3.out.cell 1
  unfold boxP at f0 f1
  dsimp only [List.getElem?_cons_succ, List.getElem?_cons_zero] at f0 f1
  have hl2 := HR2.out.lt
  have hl3 := HR3.out.lt
  have hl4 := HR4.out.lt
  have hq0 : Row (w1.alloc (.cells #[.int .i64 W, .int .i64 H, .slice none 0 0] 26)) w1.heap.size 26 (boxP W H none 0 0) := row_alloc w1 _ _
  have hb4 : Below w1.heap.size w1 (w1.alloc (.cells #[.int .i64 W, .int .i64 H, .slice none 0 0] 26)) := (Below.refl _ _).alloc (Nat.le_refl _) _
  have hbs := HB.out.size
  go_wp2_with fail
  have HT : Hid (TSt w (w1.alloc (.cells #[.int .i64 W, .int .i64 H, .slice none 0 0] 26)) ub gb rb w1.heap.size 24 26 26 (rulP K B S st ra ta tn tc tu) (boxP W H a n c) noPat W H F (0 * W) (.slice none 0 0)) := Lib.hid ⟨HR2.out.keep hb4 hl2, HR3.out.keep hb4 hl3, HR4.out.keep hb4 hl4, hq0, by rw [Nat.zero_mul, lstN_zero]; exact own_nil _ _, HB.out.trans (hb4.mono hbs), ⟨hbs, by omega, by omega, by omega⟩, ⟨by decide, by decide, by decide⟩⟩
  clear f0 f1 hl2 hl3 hl4 hq0 hb4 hbs HR2 HR3 HR4 HB
  generalize w1.alloc (.cells #[.int .i64 W, .int .i64 H, .slice none 0 0] 26) = w2 at *
  generalize w1.heap.size = qb at *
  go_loopw [6] (fun v wr => ∃ j : Nat, ∃ vs : Value, j ≤ H ∧ v = .int .i64 (j : Nat) ∧ TSt w wr ub gb rb qb 24 26 26 (rulP K B S st ra ta tn tc tu) (boxP W H a n c) noPat W H F (j * W) vs) (fun v _ => H - (RowKit.intOf v).toNat)
  case atStart => exact ⟨0, _, Nat.zero_le _, rfl, HT.out⟩
  case round =>
    clear HT
    obtain ⟨j, vs, hj, rfl, ht⟩ := hrel
    have HT := Lib.hid ht
    clear ht
    have f1 := HT.out.g.cell 1
    unfold boxP at f1
    dsimp only [List.getElem?_cons_succ, List.getElem?_cons_zero] at f1
    by_cases hjH : j < H
    · have hj2 : (j : Int) < (H : Int) := by omega
      have HJH := Lib.hid hjH
      go_wp2_with fail
      clear f1 hj2
      go_loopw [7] (fun v wr => ∃ i : Nat, ∃ vs : Value, i ≤ W ∧ v = .int .i64 (i : Nat) ∧ TSt w wr ub gb rb qb 24 26 26 (rulP K B S st ra ta tn tc tu) (boxP W H a n c) noPat W H F (j * W + i) vs) (fun v _ => W - (RowKit.intOf v).toNat)
      case atStart => exact ⟨0, vs, Nat.zero_le _, rfl, by rw [Nat.add_zero]; exact HT.out⟩
      case round =>
        clear HT
        obtain ⟨i, vs, hi, rfl, ht⟩ := hrel
        have HT := Lib.hid ht
        clear ht
        have f0 := HT.out.g.cell 0
        have f1 := HT.out.g.cell 1
        have f2 := HT.out.g.cell 2
        unfold boxP at f0 f1 f2
        dsimp only [List.getElem?_cons_succ, List.getElem?_cons_zero] at f0 f1 f2
        by_cases hiW : i < W
        · have hi2 : (i : Int) < (W : Int) := by omega
          have HIW := Lib.hid hiW
          have hW0 : ¬ (W : Int) = 0 := by omega
          have hW0b : ((W : Int) == 0) = false := beq_eq_false_iff_ne.2 hW0
          have hWm : ¬ (W : Int) = -1 := by omega
          have hH0 : ¬ (H : Int) = 0 := by omega
          have hH0b : ((H : Int) == 0) = false := beq_eq_false_iff_ne.2 hH0
          have hHm : ¬ (H : Int) = -1 := by omega
          have hWp : 0 < W := by omega
          have hHp : 0 < H := by omega
          have hk0 := at_lt hiW hjH
          obtain ⟨k, hk⟩ : ∃ k, k = j * W + i := ⟨_, rfl⟩
          rw [← hk, ← HN.out] at hk0
          rw [← hk] at HT
          have HKE := Lib.hid hk
          have hkn : k < n := hk0
          obtain ⟨cv, hcv⟩ : ∃ cv, cv = f i j := ⟨_, rfl⟩
          have hcv2 : cv < 2 := by rw [hcv]; exact HF.out _ _
          obtain ⟨ab, ao, rfl, _, _⟩ := (HZ.out wr HT.out.b).cells k hkn
          have HCG : Hid (∀ w2, Below w.heap.size w w2 → w2.cell? ⟨ab, ao + k, none⟩ = some (.int .i64 (cv : Nat))) := Lib.hid (fun w2 hb2 => by
            obtain ⟨b', o', e', _, cg⟩ := (HZ.out w2 hb2).cells k hkn
            cases e'
            dsimp only at cg
            rw [hk, flat_at hiW hjH, ← hk, ← hcv] at cg
            exact cg)
          have HCV := Lib.hid hcv
          have HCV2 := Lib.hid hcv2
          have HKN := Lib.hid hkn
          clear hcv hcv2 hk hk0 hiW hjH hkn
          go_wp2_with fail
          go_loop [8, 9] (fun u v => ∃ d : Nat, ∃ dz : Int, d ≤ 3 ∧ v = .int .i64 dz ∧ u = .int .i64 ((sumD W H f i j (3 * d + 0) : Nat) : Int) ∧ dz = (d : Int) - 1) (fun _ v => (2 - RowKit.intOf v).toNat)
          case atStart => exact ⟨0, -1, by omega, rfl, rfl, by omega⟩
          case round =>
            obtain ⟨d, dz, hd, rfl, rfl, hdz⟩ := hrel
            by_cases hd3 : d < 3
            · have hdl : dz ≤ 1 := by omega
              have HD3 := Lib.hid hd3
              have HDZ := Lib.hid hdz
              clear hdz
              go_wp2_with fail
              go_loop [8, 10] (fun u v => ∃ e : Nat, ∃ ez : Int, e ≤ 3 ∧ v = .int .i64 ez ∧ u = .int .i64 ((sumD W H f i j (3 * d + e) : Nat) : Int) ∧ ez = (e : Int) - 1) (fun _ v => (2 - RowKit.intOf v).toNat)
              case atStart => exact ⟨0, -1, by omega, rfl, rfl, by omega⟩
              case round =>
                obtain ⟨e, ez, he, rfl, rfl, hez⟩ := hrel
                by_cases he3 : e < 3
                · have hel : ez ≤ 1 := by omega
                  have HE3 := Lib.hid he3
                  have HEZ := Lib.hid hez
                  obtain ⟨x1, y1, x2, y2, x4, y4, y5, q, hq, hqn, b1, b2, b3, c1, c2, c3, c4, c5⟩ := dtor_nums HIW.out HJH.out hd3 he3 HWB.out HHB.out
                  rw [← HEZ.out] at b1
                  rw [← HDZ.out] at c1
                  rw [← HN.out] at hqn
                  obtain ⟨s1, hs1⟩ : ∃ s1, s1 = sumD W H f i j (3 * d + e) := ⟨_, rfl⟩
                  obtain ⟨v, hv⟩ : ∃ v, v = f ((i + e + W - 1) % W) ((j + d + H - 1) % H) := ⟨_, rfl⟩
                  have HSM : Hid (sumD W H f i j (3 * d + (e + 1)) = s1 + if 3 * d + e = 4 then 0 else v) := Lib.hid (by
                    rw [hs1, hv, show 3 * d + (e + 1) = (3 * d + e) + 1 by omega]
                    have e1 : (3 * d + e) % 3 = e := by omega
                    have e2 : (3 * d + e) / 3 = d := by omega
                    show sumD W H f i j (3 * d + e) + (if 3 * d + e = 4 then 0 else f ((i + (3 * d + e) % 3 + W - 1) % W) ((j + (3 * d + e) / 3 + H - 1) % H)) = _
                    rw [e1, e2])
                  have hs9 : s1 ≤ 9 := by rw [hs1]; have := sumD_le (W := W) (H := H) (x := i) (y := j) HF.out (3 * d + e); omega
                  have hv2 : v < 2 := by rw [hv]; exact HF.out _ _
                  obtain ⟨ab', ao', habe, _, cg⟩ := (HZ.out wr HT.out.b).cells q hqn
                  cases habe
                  dsimp only at cg
                  rw [hq, flat_at (Nat.mod_lt _ hWp) (Nat.mod_lt _ hHp), ← hq, ← hv] at cg
                  have hqi : (q : Int) < (n : Int) := Int.ofNat_lt.2 hqn
                  have s2 : wrap64 ((s1 : Int) + (v : Int)) = ((s1 + v : Nat) : Int) := wr_nat (by push_cast; rfl) (by omega)
                  have hez2 : wrap64 (ez + 1) = ez + 1 := wr_in (by omega) (by omega)
                  have HRE : Hid (ez + 1 = ((e + 1 : Nat) : Int) - 1 ∧ e + 1 ≤ 3 ∧ (2 - (ez + 1)).toNat < (2 - ez).toNat) := Lib.hid (by omega)
                  have b1' := wr_same b1
                  have b2' := wr_same b2
                  have c1' := wr_same c1
                  have c2' := wr_same c2
                  have c4' := wr_same c4
                  have c5' := wr_same c5
                  have s2' := wr_same s2
                  have hez2' := wr_same hez2
                  rw [← hs1]
                  clear hs1 hq hqn hv hs9 hv2 hez he3 he
                  by_cases hx0 : ez = 0
                  · by_cases hy0 : dz = 0
                    · have HSM2 : Hid (sumD W H f i j (3 * d + (e + 1)) = s1) := Lib.hid (by rw [HSM.out, if_pos (by have := HEZ.out; have := HDZ.out; omega)]; rfl)
                      have hx0b : (ez != 0) = false := by rw [hx0]; rfl
                      have hy0b : (dz != 0) = false := by rw [hy0]; rfl
                      clear hx0 hy0
                      go_wp2_with fail
                      go_round
                      case rel => exact ⟨e + 1, ez + 1, HRE.out.2.1, rfl, by rw [HSM2.out], HRE.out.1⟩
                      case measure => simp only [RowKit.intOf]; exact HRE.out.2.2
                    · have HSM2 : Hid (sumD W H f i j (3 * d + (e + 1)) = s1 + v) := Lib.hid (by rw [HSM.out, if_neg (by have := HEZ.out; have := HDZ.out; omega)])
                      have hx0b : (ez != 0) = false := by rw [hx0]; rfl
                      have hy0b : (dz != 0) = true := by rw [bne_iff_ne]; exact hy0
                      clear hx0 hy0
                      go_wp2_with fail
                      go_round
                      case rel => exact ⟨e + 1, ez + 1, HRE.out.2.1, rfl, by rw [HSM2.out, Int.natCast_add], HRE.out.1⟩
                      case measure => simp only [RowKit.intOf]; exact HRE.out.2.2
                  · have HSM2 : Hid (sumD W H f i j (3 * d + (e + 1)) = s1 + v) := Lib.hid (by rw [HSM.out, if_neg (by have := HEZ.out; have := HDZ.out; omega)])
                    have hx0b : (ez != 0) = true := by rw [bne_iff_ne]; exact hx0
                    clear hx0
                    go_wp2_with fail
                    go_round
                    case rel => exact ⟨e + 1, ez + 1, HRE.out.2.1, rfl, by rw [HSM2.out, Int.natCast_add], HRE.out.1⟩
                    case measure => simp only [RowKit.intOf]; exact HRE.out.2.2
                · obtain rfl : e = 3 := by omega
                  have hel : ¬ ez ≤ 1 := by omega
                  have hdz2 : wrap64 (dz + 1) = dz + 1 := by have := HDZ.out; exact wr_in (by omega) (by omega)
                  have hdz2' := wr_same hdz2
                  have HRD : Hid (dz + 1 = ((d + 1 : Nat) : Int) - 1 ∧ d + 1 ≤ 3 ∧ (2 - (dz + 1)).toNat < (2 - dz).toNat) := Lib.hid (by have := HDZ.out; clear hdz2 hdz2'; omega)
                  clear hez
                  go_wp2_with fail
                  go_round
                  case rel => exact ⟨d + 1, dz + 1, HRD.out.2.1, rfl, rfl, HRD.out.1⟩
                  case measure => simp only [RowKit.intOf]; exact HRD.out.2.2
            · obtain rfl : d = 3 := by omega
              have hdl : ¬ dz ≤ 1 := by omega
              obtain ⟨nb, hnb⟩ : ∃ nb, nb = sumD W H f i j 9 := ⟨_, rfl⟩
              have hnb9 : nb ≤ 9 := by rw [hnb]; exact sumD_le HF.out 9
              have HFK : Hid (F k = bec B S cv nb) := Lib.hid (by
                rw [HFE.out, hnb, sumD_nine HIW.out HJH.out, HCV.out, HKE.out]
                show tor B S W H f ((j * W + i) % W) ((j * W + i) / W) = _
                rw [at_mod HIW.out, at_div HIW.out]; rfl)
              rw [show 3 * 3 + 0 = 9 by rfl, ← hnb]
              obtain ⟨bv, hbv⟩ : ∃ bv, bv = bec B S cv nb := ⟨_, rfl⟩
              have HBX := Lib.hid (fun w2 => HBE.out cv nb w2 (by omega) HCV2.out)
              rw [← hbv] at HFK HBX
              have hWn := HWB.out
              have hHn := HHB.out
              have hJn := HJH.out
              have hIn := HIW.out
              obtain ⟨q, hq⟩ : ∃ q, q = j * W := ⟨_, rfl⟩
              have hkq : k = q + i := by rw [hq]; exact HKE.out
              have hkn := HKN.out
              have e1 : wrap64 ((j : Int) * (W : Int)) = (q : Int) := wr_nat (by rw [hq]; push_cast; rfl) (by omega)
              have e2 : wrap64 ((q : Int) + (i : Int)) = (k : Int) := wr_nat (by clear e1; omega) (by clear e1; omega)
              have hki : (k : Int) < (n : Int) := Int.ofNat_lt.2 hkn
              have HK2 : Hid (k + 1 ≤ maxLen ∧ (k + 1) * 8 ≤ 140737488355328 ∧ j * W + (i + 1) = k + 1 ∧ wrap64 ((i : Int) + 1) = ((i + 1 : Nat) : Int) ∧ W - (((i + 1 : Nat) : Int)).toNat < W - ((i : Nat) : Int).toNat) := Lib.hid (by
                clear e1 e2
                refine ⟨by unfold maxLen; omega, by omega, by omega, wr_nat (by push_cast; rfl) (by omega), ?_⟩
                rw [Int.toNat_natCast, Int.toNat_natCast]
                omega)
              have e1' := wr_same e1
              have e2' := wr_same e2
              have HTd := Lib.hid (HT.out.keep ((Below.refl _ _).drew : Below wr.heap.size wr wr.drew))
              clear hdz hnb hnb9 hbv hWn hHn hJn hIn hq hkq hW0 hW0b hWm hH0 hH0b hHm f0 f1 f2 HT hd hd3
              go_upto_region 19 with fail
              clear hdl
              refine wp_region_noPanic ?_
              refine Rt.region_Cn (Sc2 (fun w2 => w2.cell? ⟨ub, 0, none⟩ = some (.int .i64 K) ∧ w2.cell? ⟨ub, 1, none⟩ = some (.int .i64 B) ∧ w2.cell? ⟨ub, 2, none⟩ = some (.int .i64 S) ∧ w2.cell? ⟨ub, 3, none⟩ = some (.int .i64 st) ∧ w2.cell? ⟨ub, 4, none⟩ = some (.int .i64 ra) ∧ w2.cell? ⟨ub, 5, none⟩ = some (.slice ta tn tc) ∧ w2.cell? ⟨ub, 6, none⟩ = some (.string tu) ∧ w2.cell? ⟨gb, 0, none⟩ = some (.int .i64 W) ∧ w2.cell? ⟨gb, 2, none⟩ = some (.slice (some ⟨ab, ao, none⟩) n c) ∧ w2.cell? ⟨ab, ao + k, none⟩ = some (.int .i64 (cv : Nat))) (fun w2 => True) 999) 14 #[false, false, false, false, false, false, false, false, false, false, false, false, false, false] (by kernel_rfl) (by kernel_rfl) (by kernel_rfl) ?_
              have hS1 : ∀ o, Sc2 (fun w2 => w2.cell? ⟨ub, 0, none⟩ = some (.int .i64 K) ∧ w2.cell? ⟨ub, 1, none⟩ = some (.int .i64 B) ∧ w2.cell? ⟨ub, 2, none⟩ = some (.int .i64 S) ∧ w2.cell? ⟨ub, 3, none⟩ = some (.int .i64 st) ∧ w2.cell? ⟨ub, 4, none⟩ = some (.int .i64 ra) ∧ w2.cell? ⟨ub, 5, none⟩ = some (.slice ta tn tc) ∧ w2.cell? ⟨ub, 6, none⟩ = some (.string tu) ∧ w2.cell? ⟨gb, 0, none⟩ = some (.int .i64 W) ∧ w2.cell? ⟨gb, 2, none⟩ = some (.slice (some ⟨ab, ao, none⟩) n c) ∧ w2.cell? ⟨ab, ao + k, none⟩ = some (.int .i64 (cv : Nat))) (fun w2 => True) 999 o wr.drew := Sc2.of ⟨HTd.out.u.cell 0, HTd.out.u.cell 1, HTd.out.u.cell 2, HTd.out.u.cell 3, HTd.out.u.cell 4, HTd.out.u.cell 5, HTd.out.u.cell 6, HTd.out.g.cell 0, HTd.out.g.cell 2, HCG.out wr.drew HTd.out.b⟩ trivial
              refine Rt.C_take (none) (i := 0) (oi := _) (v := ?_) rfl (by kernel_rfl) (by kernel_rfl) (by kernel_rfl) (by kernel_rfl) (fun _ _ _ h => h) (Sc2.other (by decide)) (Or.inl ⟨by rfl, ?_⟩) (fun o' _ => hS1 o') ?_
              rotate_left
              · intro w2 hSw
                obtain ⟨s0, s1, s2, s3, s4, s5, s6, s7, s8, s9⟩ := hSw
                go_simp
                try with_reducible rfl
              simp only [Act.put, List.getElem_toArray, List.getElem_cons_succ, List.getElem_cons_zero, List.setIfInBounds_toArray, List.set_cons_zero, List.set_cons_succ]
              refine Rt.C_take (none) (i := 1) (oi := _) (v := ?_) rfl (by kernel_rfl) (by kernel_rfl) (by kernel_rfl) (by kernel_rfl) (fun _ _ _ h => h) (Sc2.other (by decide)) (Or.inl ⟨by rfl, ?_⟩) (fun o' _ => hS1 o') ?_
              rotate_left
              · intro w2 hSw
                obtain ⟨s0, s1, s2, s3, s4, s5, s6, s7, s8, s9⟩ := hSw
                go_simp
                try with_reducible rfl
              simp only [Act.put, List.getElem_toArray, List.getElem_cons_succ, List.getElem_cons_zero, List.setIfInBounds_toArray, List.set_cons_zero, List.set_cons_succ]
              refine Rt.C_take (none) (i := 2) (oi := _) (v := ?_) rfl (by kernel_rfl) (by kernel_rfl) (by kernel_rfl) (by kernel_rfl) (fun _ _ _ h => h) (Sc2.other (by decide)) (Or.inl ⟨by rfl, ?_⟩) (fun o' _ => hS1 o') ?_
              rotate_left
              · intro w2 hSw
                obtain ⟨s0, s1, s2, s3, s4, s5, s6, s7, s8, s9⟩ := hSw
                go_simp
                try with_reducible rfl
              simp only [Act.put, List.getElem_toArray, List.getElem_cons_succ, List.getElem_cons_zero, List.setIfInBounds_toArray, List.set_cons_zero, List.set_cons_succ]
              refine Rt.C_take (none) (i := 3) (oi := _) (v := ?_) rfl (by kernel_rfl) (by kernel_rfl) (by kernel_rfl) (by kernel_rfl) (fun _ _ _ h => h) (Sc2.other (by decide)) (Or.inl ⟨by rfl, ?_⟩) (fun o' _ => hS1 o') ?_
              rotate_left
              · intro w2 hSw
                obtain ⟨s0, s1, s2, s3, s4, s5, s6, s7, s8, s9⟩ := hSw
                go_simp
                try with_reducible rfl
              simp only [Act.put, List.getElem_toArray, List.getElem_cons_succ, List.getElem_cons_zero, List.setIfInBounds_toArray, List.set_cons_zero, List.set_cons_succ]
              refine Rt.C_take (none) (i := 4) (oi := _) (v := ?_) rfl (by kernel_rfl) (by kernel_rfl) (by kernel_rfl) (by kernel_rfl) (fun _ _ _ h => h) (Sc2.other (by decide)) (Or.inl ⟨by rfl, ?_⟩) (fun o' _ => hS1 o') ?_
              rotate_left
              · intro w2 hSw
                obtain ⟨s0, s1, s2, s3, s4, s5, s6, s7, s8, s9⟩ := hSw
                go_simp
                try with_reducible rfl
              simp only [Act.put, List.getElem_toArray, List.getElem_cons_succ, List.getElem_cons_zero, List.setIfInBounds_toArray, List.set_cons_zero, List.set_cons_succ]
              refine Rt.C_take (none) (i := 5) (oi := _) (v := ?_) rfl (by kernel_rfl) (by kernel_rfl) (by kernel_rfl) (by kernel_rfl) (fun _ _ _ h => h) (Sc2.other (by decide)) (Or.inl ⟨by rfl, ?_⟩) (fun o' _ => hS1 o') ?_
              rotate_left
              · intro w2 hSw
                obtain ⟨s0, s1, s2, s3, s4, s5, s6, s7, s8, s9⟩ := hSw
                go_simp
                try with_reducible rfl
              simp only [Act.put, List.getElem_toArray, List.getElem_cons_succ, List.getElem_cons_zero, List.setIfInBounds_toArray, List.set_cons_zero, List.set_cons_succ]
              refine Rt.C_take (none) (i := 6) (oi := _) (v := ?_) rfl (by kernel_rfl) (by kernel_rfl) (by kernel_rfl) (by kernel_rfl) (fun _ _ _ h => h) (Sc2.other (by decide)) (Or.inl ⟨by rfl, ?_⟩) (fun o' _ => hS1 o') ?_
              rotate_left
              · intro w2 hSw
                obtain ⟨s0, s1, s2, s3, s4, s5, s6, s7, s8, s9⟩ := hSw
                go_simp
                try with_reducible rfl
              simp only [Act.put, List.getElem_toArray, List.getElem_cons_succ, List.getElem_cons_zero, List.setIfInBounds_toArray, List.set_cons_zero, List.set_cons_succ]
              refine Rt.C_take (none) (i := 7) (oi := _) (v := ?_) rfl (by kernel_rfl) (by kernel_rfl) (by kernel_rfl) (by kernel_rfl) (fun _ _ _ h => h) (Sc2.other (by decide)) (Or.inl ⟨by rfl, ?_⟩) (fun o' _ => hS1 o') ?_
              rotate_left
              · intro w2 hSw
                obtain ⟨s0, s1, s2, s3, s4, s5, s6, s7, s8, s9⟩ := hSw
                go_simp
                try with_reducible rfl
              simp only [Act.put, List.getElem_toArray, List.getElem_cons_succ, List.getElem_cons_zero, List.setIfInBounds_toArray, List.set_cons_zero, List.set_cons_succ]
              refine Rt.C_take (none) (i := 8) (oi := _) (v := ?_) rfl (by kernel_rfl) (by kernel_rfl) (by kernel_rfl) (by kernel_rfl) (fun _ _ _ h => h) (Sc2.other (by decide)) (Or.inl ⟨by rfl, ?_⟩) (fun o' _ => hS1 o') ?_
              rotate_left
              · intro w2 hSw
                obtain ⟨s0, s1, s2, s3, s4, s5, s6, s7, s8, s9⟩ := hSw
                go_simp
                try with_reducible rfl
              simp only [Act.put, List.getElem_toArray, List.getElem_cons_succ, List.getElem_cons_zero, List.setIfInBounds_toArray, List.set_cons_zero, List.set_cons_succ]
              refine Rt.C_take (none) (i := 9) (oi := _) (v := ?_) rfl (by kernel_rfl) (by kernel_rfl) (by kernel_rfl) (by kernel_rfl) (fun _ _ _ h => h) (Sc2.other (by decide)) (Or.inl ⟨by rfl, ?_⟩) (fun o' _ => hS1 o') ?_
              rotate_left
              · intro w2 hSw
                obtain ⟨s0, s1, s2, s3, s4, s5, s6, s7, s8, s9⟩ := hSw
                go_simp
                try with_reducible rfl
              simp only [Act.put, List.getElem_toArray, List.getElem_cons_succ, List.getElem_cons_zero, List.setIfInBounds_toArray, List.set_cons_zero, List.set_cons_succ]
              refine Rt.C_take (none) (i := 10) (oi := _) (v := ?_) rfl (by kernel_rfl) (by kernel_rfl) (by kernel_rfl) (by kernel_rfl) (fun _ _ _ h => h) (Sc2.other (by decide)) (Or.inl ⟨by rfl, ?_⟩) (fun o' _ => hS1 o') ?_
              rotate_left
              · intro w2 hSw
                obtain ⟨s0, s1, s2, s3, s4, s5, s6, s7, s8, s9⟩ := hSw
                go_simp
                try with_reducible rfl
              simp only [Act.put, List.getElem_toArray, List.getElem_cons_succ, List.getElem_cons_zero, List.setIfInBounds_toArray, List.set_cons_zero, List.set_cons_succ]
              refine Rt.C_take (none) (i := 11) (oi := _) (v := ?_) rfl (by kernel_rfl) (by kernel_rfl) (by kernel_rfl) (by kernel_rfl) (fun _ _ _ h => h) (Sc2.other (by decide)) (Or.inl ⟨by rfl, ?_⟩) (fun o' _ => hS1 o') ?_
              rotate_left
              · intro w2 hSw
                obtain ⟨s0, s1, s2, s3, s4, s5, s6, s7, s8, s9⟩ := hSw
                go_simp
                try with_reducible rfl
              simp only [Act.put, List.getElem_toArray, List.getElem_cons_succ, List.getElem_cons_zero, List.setIfInBounds_toArray, List.set_cons_zero, List.set_cons_succ]
              clear hS1
              refine Rt.C_ready (rs := [12]) (by kernel_rfl) (by simp) ?_
              refine Rt.AllC.cons (i := 12) (o := _) rfl (by rfl) (fun K' hK => ?_) ?_
              · skip
                go_simp
                refine (HBX.out wr.drew).mono ?_
                rintro e8 w8 ⟨rfl, hb8⟩
                have HT8 := Lib.hid (HTd.out.keep hb8)
                clear hb8 HTd
                go_simp
                refine hK _ _ (fun o _ => Sc2.of ⟨HT8.out.u.cell 0, HT8.out.u.cell 1, HT8.out.u.cell 2, HT8.out.u.cell 3, HT8.out.u.cell 4, HT8.out.u.cell 5, HT8.out.u.cell 6, HT8.out.g.cell 0, HT8.out.g.cell 2, HCG.out w8 HT8.out.b⟩ trivial o) ?_
                clear hK K'
                simp only [Act.put, List.getElem_toArray, List.getElem_cons_succ, List.getElem_cons_zero, List.setIfInBounds_toArray, List.set_cons_zero, List.set_cons_succ]
                refine Rt.C_take (none) (i := 13) (oi := _) (v := ?_) rfl (by kernel_rfl) (by kernel_rfl) (by kernel_rfl) (by kernel_rfl) (fun _ _ _ h => h) (Sc2.other (by decide)) (Or.inl ⟨by rfl, ?_⟩) (fun o _ => Sc2.of ⟨HT8.out.u.cell 0, HT8.out.u.cell 1, HT8.out.u.cell 2, HT8.out.u.cell 3, HT8.out.u.cell 4, HT8.out.u.cell 5, HT8.out.u.cell 6, HT8.out.g.cell 0, HT8.out.g.cell 2, HCG.out w8 HT8.out.b⟩ trivial o) ?_
                rotate_left
                · intro w2 hSw
                  obtain ⟨s0, s1, s2, s3, s4, s5, s6, s7, s8, s9⟩ := hSw
                  go_simp
                  try with_reducible rfl
                simp only [Act.put, List.getElem_toArray, List.getElem_cons_succ, List.getElem_cons_zero, List.setIfInBounds_toArray, List.set_cons_zero, List.set_cons_succ]
                refine Rt.C_done (by kernel_rfl) ?_ _
                refine NoPanic.normal ?_
                have hnew := row_alloc w8 3 [.int .i64 (bv : Int)]
                have hbn : Below w8.heap.size w8 (w8.alloc (.cells [.int .i64 (bv : Int)].toArray 3)) := (Below.refl _ _).alloc (Nat.le_refl _) _
                have HTa := Lib.hid (HT8.out.keep hbn)
                have HCEL := Lib.hid (hnew.cell 0)
                have HSZ : Hid (w.heap.size ≤ (w8.alloc (.cells [.int .i64 (bv : Int)].toArray 3)).heap.size) := HTa.out.b.size
                have g2 := HT8.out.q.cell 2
                dsimp only [List.getElem?_cons_succ, List.getElem?_cons_zero] at g2
                clear HT8 hnew hbn
                go_wp2_with (at_builtin; refine Ops.wpList_append1 rfl _ _ 22 rfl w.heap.size 3 i0 (.int .i64 0) 8 Tryd.underlying22 HI0.out HZ0.out rfl HZ1.out HZ2.out _ k _ rfl HTa.out.o ⟨w8.heap.size, 0, none⟩ 1 (.int .i64 bv) rfl HCEL.out rfl ?c1 ?c2 HSZ.out ?_)
                case c1 => exact HK2.out.1
                case c2 => exact HK2.out.2.1
                intro ao' co' w7 hO7 hg7
                have HPU := Lib.hid (HTa.out.push hg7 hO7 HFK.out)
                have c2 := (HTa.out.grown hg7).cell 2
                have z2 := (HTa.out.grown hg7).frozen 2
                dsimp only [List.getElem?_cons_succ, List.getElem?_cons_zero] at c2
                clear hO7 hg7 HTa HCEL HSZ g2
                have hin1 := HK2.out.2.2.2.1
                have hin1' := wr_same hin1
                go_wp2_with fail
                clear c2 z2 hin1 hin1'
                generalize w7.setCell ⟨qb, 2, none⟩ (.slice ao' (k + 1) co') = w9 at *
                go_roundw
                case rel => exact ⟨i + 1, _, HIW.out, rfl, by rw [HK2.out.2.2.1]; exact HPU.out⟩
                case measure => exact HK2.out.2.2.2.2
              exact Rt.AllC.nil
        · obtain rfl : i = W := by omega
          have hi2 : ¬ (i : Int) < (i : Int) := by omega
          have hjn : wrap64 ((j : Int) + 1) = ((j + 1 : Nat) : Int) := wr_nat (by push_cast; rfl) (by have := HHB.out; have := HJH.out; omega)
          have hjn' := wr_same hjn
          have HJM : Hid (H - (((j + 1 : Nat) : Int)).toNat < H - ((j : Nat) : Int).toNat) := Lib.hid (by
            have := HJH.out
            rw [Int.toNat_natCast, Int.toNat_natCast]
            clear hjn hjn'
            omega)
          go_wp2_with fail
          go_roundw
          case rel => exact ⟨j + 1, _, HJH.out, rfl, by rw [Nat.succ_mul]; exact HT.out⟩
          case measure => exact HJM.out
    · obtain rfl : j = H := by omega
      have hj2 : ¬ (j : Int) < (j : Int) := by omega
      have HMN : Hid (j * W = n) := Lib.hid (by rw [HN.out, Nat.mul_comm])
      have ht := HT.out
      rw [HMN.out] at ht
      obtain ⟨av, cv, hve, hvn, hvm, hvi, hvb⟩ := own_is ht.o
      subst hve
      have l5 := row_range ht.q
      have HX := Lib.hid ht
      have HRC := Lib.hid hvn
      clear hvn hvm hvb hvi HT ht
      go_wp2_with (first | (refine wpList_load_mid rfl 26 _ rfl qb 0 rfl _ _ l5 Tryd.underlying26 rfl infoPat ?_) | (refine Ops.wpList_store_arr rfl 26 _ _ rfl rb rfl 26 _ _ rfl HX.out.r rfl infoPat (boxP_one _ _ _ _ _) ?_; intro w5 hrow5 hon5))
      obtain ⟨av', cv', hve, hvn, hvm, hvi, hvb⟩ := own_is (own_only HX.out.o hon5 (own_ne HX.out.o HX.out.r (by decide)))
      cases hve
      refine bodyPost_ret (results_pat1 (t := 4) rfl _ _ hrow5 rfl rfl) rfl ⟨⟨av, cv, rfl, HRC.out, ?_, hvb⟩, HX.out.b.trans (hon5.below HRB.out)⟩
      have hfl : lstN n F = flat W j (tor B S W j f) := by rw [HFE.out, HN.out]; rfl
      rw [← hfl]
      exact hvi
end Pn
end Go.Proofs.YtdckcejkliggfaaDoor
