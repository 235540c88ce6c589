/- WALK: the document's edenref3.Next. -/
import Derived.Test.YtdckcejkliggfaaDoorPnI
import Derived.Test.YtdckcejkliggfaaDoorPnX
namespace Go.Proofs.YtdckcejkliggfaaDoor
set_option linter.unusedSimpArgs false
set_option linter.unusedVariables false
open Go.RowKit
namespace Pn
open Tld Mem Bl

/-- The first k of the nine cells about a place, but for the middle one. -/
def sumE (L : Int → Int → Nat) (x y : Int) : Nat → Nat
  | 0 => 0
  | k + 1 => sumE L x y k + if k = 4 then 0 else L (x + (((k % 3 : Nat) : Int) - 1)) (y + (((k / 3 : Nat) : Int) - 1))
theorem sumE_le {L : Int → Int → Nat} {x y : Int} (hf : ∀ x y, L x y < 2) : ∀ k, sumE L x y k ≤ k
  | 0 => Nat.le_refl _
  | k + 1 => by
    have h1 := sumE_le (x := x) (y := y) hf k
    have h2 := hf (x + (((k % 3 : Nat) : Int) - 1)) (y + (((k / 3 : Nat) : Int) - 1))
    show sumE L x y k + (if k = 4 then 0 else _) ≤ k + 1
    split <;> omega
theorem sumE_nine {L : Int → Int → Nat} {x y : Int} : sumE L x y 9 = nine L x y - L x y := by
  have h : sumE L x y 9 = 0 + L (x + -1) (y + -1) + L (x + 0) (y + -1) + L (x + 1) (y + -1) + L (x + -1) (y + 0) + 0 + L (x + 1) (y + 0) + L (x + -1) (y + 1) + L (x + 0) (y + 1) + L (x + 1) (y + 1) := rfl
  rw [h]
  unfold nine
  have e : L (x + 0) (y + 0) = L x y := by rw [Int.add_zero, Int.add_zero]
  rw [e]
  omega
theorem ext_lt {W H : Nat} {f : Nat → Nat → Nat} (hf : ∀ x y, f x y < 2) (x y : Int) : ext W H f x y < 2 := by
  unfold ext
  split
  · exact hf _ _
  · decide
theorem infoG : (Tryd.prog.info? 43).map (·.size) = some 5 := by kernel_rfl
theorem results_G {fn : Func} {t u : Tmp} (hr : fn.results = #[.cell t 43, .tmp u]) (tmps : Array Value) (w : World) {q : Nat} {V : List Value} {e : Value} (h : Row w q 43 V) (hV : V.length = 5) (h8 : tmps.getD t undef = .pointer (some ⟨q, 0, none⟩)) (h9 : tmps.getD u undef = e) :
    (results fn tmps).run Tryd.prog w = .ok (.tuple #[.agg V.toArray, e]) w := by
  have hl := run_loadVar_row (P := Tryd.prog) w q 43 43 V.toArray (0, 0) _ h Tryd.underlying43 rfl (by rw [List.size_toArray, hV]; exact infoG)
  have h8' : tmps[t]?.getD undef = .pointer (some ⟨q, 0, none⟩) := by simpa using h8
  have h9' : tmps[u]?.getD undef = e := by simpa using h9
  simp [results, hr, h8', h9', asAddr, hl]
/-- The grid of the document's step. -/
def nxd (B S W H : Nat) (f : Nat → Nat → Nat) (x y : Nat) : Nat := nx B S (ext W H f) ((x : Int) - 1) ((y : Int) - 1)

set_option maxHeartbeats 32000000 in
set_option maxRecDepth 1000000 in
theorem dnext_any (K st ra : Int) (B S : Nat) (ta : Option Addr) (tn tc : Nat) (tu : ByteArray) (W H : Nat) (a : Option Addr) (n c : Nat) (X Y : Int) (f : Nat → Nat → Nat) (w : World) (hBS : B < 512) (hSS : S < 512) (hZ : Ints.Is w a n (flat W H f)) (hn : n = W * H) (hW : W ≤ 100) (hH : H ≤ 100) (hf : ∀ x y, f x y < 2) (hX : -900000 ≤ X ∧ X ≤ 900000) (hY : -900000 ≤ Y ∧ Y ≤ 900000) :
    Calls Tryd.prog 31 #[.agg #[.int .i64 K, .int .i64 B, .int .i64 S, .int .i64 st, .int .i64 ra, .slice ta tn tc, .string tu], .agg #[.int .i64 W, .int .i64 H, .slice a n c, .int .i64 X, .int .i64 Y]] w fun e w' => (∃ W' H' X' Y' : Nat, ∃ f', Trimmed (W + 2) (H + 2) (nxd B S W H f) W' H' f' X' Y' ∧
      (((100 < W' ∨ 100 < H') ∧ e = .returned (.tuple #[grn 0 0 none 0 0 0 0, .bool false])) ∨ (W' ≤ 100 ∧ H' ≤ 100 ∧ W' = 0 ∧ e = .returned (.tuple #[grn 0 0 none 0 0 0 0, .bool true])) ∨
        (W' ≤ 100 ∧ H' ≤ 100 ∧ 0 < W' ∧ ∃ a' n' c', e = .returned (.tuple #[grn W' H' a' n' c' (X + X' - 1) (Y + Y' - 1), .bool true]) ∧ n' = W' * H' ∧ n' ≤ c' ∧ Ints.Is w' a' n' (flat W' H' f') ∧ (∀ b o, a' = some ⟨b, o, none⟩ → w.heap.size ≤ b)))) ∧ Below w.heap.size w w' := by
  obtain ⟨i0, hI0, hz0, hz1, hz2⟩ := info_parts infoIntV
  have HI0 := Lib.hid hI0
  have HZ0 := Lib.hid hz0
  have HZ1 := Lib.hid hz1
  have HZ2 := Lib.hid hz2
  have HAT := Lib.hid (fun x y w2 (h : Below w.heap.size w w2) => at_any W H a n c f x y w2 (hZ.keep h) hn (by omega) (by omega))
  have HBE := Lib.hid (fun (c n : Nat) (w2 : World) (hn : n < 64) (hc : c < 2) => rbecomes_any K st ra B S ta tn tc tu c n w2 hBS hSS hn hc)
  have HL := Lib.hid (ext_lt (W := W) (H := H) hf)
  obtain ⟨A, hA⟩ : ∃ A, A = W + 2 := ⟨_, rfl⟩
  obtain ⟨D, hD⟩ : ∃ D, D = H + 2 := ⟨_, rfl⟩
  obtain ⟨N, hN⟩ : ∃ N, N = A * D := ⟨_, rfl⟩
  have hNb : N ≤ 40000 := by rw [hN]; exact Nat.le_trans (Nat.mul_le_mul (show A ≤ 200 by omega) (show D ≤ 200 by omega)) (by decide)
  have HTR := Lib.hid (fun a' c' w2 (hz : Ints.Is w2 a' N (flat A D (nxd B S W H f))) => dtrim_any A D a' N c' (nxd B S W H f) w2 hz hN (by omega) (by omega) (fun x y => nx_lt _ _ _ _ _))
  obtain ⟨F, hF⟩ : ∃ F : Nat → Nat, F = fun k => nxd B S W H f (k % A) (k / A) := ⟨_, rfl⟩
  have HFE : Hid (∀ k, F k = bec B S (ext W H f (((k % A : Nat) : Int) - 1) (((k / A : Nat) : Int) - 1)) (nine (ext W H f) (((k % A : Nat) : Int) - 1) (((k / A : Nat) : Int) - 1) - ext W H f (((k % A : Nat) : Int) - 1) (((k / A : Nat) : Int) - 1))) := Lib.hid (fun k => by rw [hF]; rfl)
  have HFL : Hid (lstN N F = flat A D (nxd B S W H f)) := Lib.hid (by rw [hF, hN]; rfl)
  rw [← hA, ← hD]
  obtain ⟨L, hL⟩ : ∃ L, L = ext W H f := ⟨_, rfl⟩
  rw [← hL] at HAT HL HFE
  have HN := Lib.hid hN
  have HAD : Hid (A = W + 2 ∧ D = H + 2 ∧ W ≤ 100 ∧ H ≤ 100) := Lib.hid ⟨hA, hD, hW, hH⟩
  have HX0 := Lib.hid hX
  have HY := Lib.hid hY
  have a1 : wrap64 ((W : Int) + 2) = (A : Int) := wr_nat (by omega) (by omega)
  have a2 : wrap64 ((H : Int) + 2) = (D : Int) := wr_nat (by clear a1; omega) (by clear a1; omega)
  have HGR : Hid (∀ W' H' a' n' c' X' Y', grn W' H' a' n' c' X' Y' = .agg #[.int .i64 W', .int .i64 H', .slice a' n' c', .int .i64 X', .int .i64 Y']) := Lib.hid (fun _ _ _ _ _ _ _ => rfl)
  clear hZ hn hW hH hf hBS hSS hI0 hz0 hz1 hz2 hA hD hN hF hL hX hY
  go_enter Tryd.func31, Tryd.ntmps31
  go_upto_region 1 with fail
  obtain ⟨hr2, hr3, hr4, hb2⟩ := three_new w 24 43 43 (rulP K B S st ra ta tn tc tu) (boxN W H a n c X Y) noGrown
  have HU : Hid (Row (((w.alloc (.cells #[.int .i64 K, .int .i64 B, .int .i64 S, .int .i64 st, .int .i64 ra, .slice ta tn tc, .string tu] 24)).alloc (.cells #[.int .i64 W, .int .i64 H, .slice a n c, .int .i64 X, .int .i64 Y] 43)).alloc (.cells #[.int .i64 0, .int .i64 0, .slice none 0 0, .int .i64 0, .int .i64 0] 43)) w.heap.size 24 (rulP K B S st ra ta tn tc tu)) := hr2
  have HG : Hid (Row (((w.alloc (.cells #[.int .i64 K, .int .i64 B, .int .i64 S, .int .i64 st, .int .i64 ra, .slice ta tn tc, .string tu] 24)).alloc (.cells #[.int .i64 W, .int .i64 H, .slice a n c, .int .i64 X, .int .i64 Y] 43)).alloc (.cells #[.int .i64 0, .int .i64 0, .slice none 0 0, .int .i64 0, .int .i64 0] 43)) (w.heap.size + 1) 43 (boxN W H a n c X Y)) := hr3
  have HR : Hid (Row (((w.alloc (.cells #[.int .i64 K, .int .i64 B, .int .i64 S, .int .i64 st, .int .i64 ra, .slice ta tn tc, .string tu] 24)).alloc (.cells #[.int .i64 W, .int .i64 H, .slice a n c, .int .i64 X, .int .i64 Y] 43)).alloc (.cells #[.int .i64 0, .int .i64 0, .slice none 0 0, .int .i64 0, .int .i64 0] 43)) (w.heap.size + 1 + 1) 43 noGrown) := hr4
  have HB : Hid (Below w.heap.size w (((w.alloc (.cells #[.int .i64 K, .int .i64 B, .int .i64 S, .int .i64 st, .int .i64 ra, .slice ta tn tc, .string tu] 24)).alloc (.cells #[.int .i64 W, .int .i64 H, .slice a n c, .int .i64 X, .int .i64 Y] 43)).alloc (.cells #[.int .i64 0, .int .i64 0, .slice none 0 0, .int .i64 0, .int .i64 0] 43))) := hb2
  clear hr2 hr3 hr4 hb2
  generalize ((w.alloc (.cells #[.int .i64 K, .int .i64 B, .int .i64 S, .int .i64 st, .int .i64 ra, .slice ta tn tc, .string tu] 24)).alloc (.cells #[.int .i64 W, .int .i64 H, .slice a n c, .int .i64 X, .int .i64 Y] 43)).alloc (.cells #[.int .i64 0, .int .i64 0, .slice none 0 0, .int .i64 0, .int .i64 0] 43) = w1 at *
  obtain ⟨ub, hub⟩ : ∃ ub, ub = w.heap.size := ⟨_, rfl⟩
  rw [← hub] at HU HG HR ⊢
  obtain ⟨gb, hgb⟩ : ∃ gb, gb = ub + 1 := ⟨_, rfl⟩
  rw [← hgb] at HG HR ⊢
  obtain ⟨rb, hrb⟩ : ∃ rb, rb = gb + 1 := ⟨_, rfl⟩
  rw [← hrb] at HR ⊢
  have HRB : Hid (w.heap.size ≤ rb) := Lib.hid (by omega)
  clear hgb hrb hub
  have f0 := HG.out.cell 0
  have f1 := HG.out.cell 1
  unfold boxN at f0 f1
  dsimp only [List.getElem?_cons_succ, List.getElem?_cons_zero] at f0 f1
  have hl2 := HU.out.lt
  have hl3 := HG.out.lt
  have hl4 := HR.out.lt
  have hq0 : Row (w1.alloc (.cells #[.int .i64 (A : Nat), .int .i64 (D : Nat), .slice none 0 0] 26)) w1.heap.size 26 (boxP (A : Nat) (D : Nat) none 0 0) := row_alloc w1 _ _
  have hb4 : Below w1.heap.size w1 (w1.alloc (.cells #[.int .i64 (A : Nat), .int .i64 (D : Nat), .slice none 0 0] 26)) := (Below.refl _ _).alloc (Nat.le_refl _) _
  have hbs := HB.out.size
  go_wp2_with fail
  have HT : Hid (TSt w (w1.alloc (.cells #[.int .i64 (A : Nat), .int .i64 (D : Nat), .slice none 0 0] 26)) ub gb rb w1.heap.size 24 43 43 (rulP K B S st ra ta tn tc tu) (boxN W H a n c X Y) noGrown (A : Nat) (D : Nat) F (0 * A) (.slice none 0 0)) := Lib.hid ⟨HU.out.keep hb4 hl2, HG.out.keep hb4 hl3, HR.out.keep hb4 hl4, hq0, by rw [Nat.zero_mul, lstN_zero]; exact own_nil _ _, HB.out.trans (hb4.mono hbs), ⟨hbs, by omega, by omega, by omega⟩, ⟨by decide, by decide, by decide⟩⟩
  clear f0 f1 hl2 hl3 hl4 hq0 hb4 hbs HU HG HR HB a1 a2
  generalize w1.alloc (.cells #[.int .i64 (A : Nat), .int .i64 (D : Nat), .slice none 0 0] 26) = w2 at *
  generalize w1.heap.size = qb at *
  go_loopw [7] (fun v wr => ∃ j : Nat, ∃ yz : Int, j ≤ D ∧ v = .int .i64 yz ∧ yz = (j : Int) - 1 ∧ ∃ vs : Value, TSt w wr ub gb rb qb 24 43 43 (rulP K B S st ra ta tn tc tu) (boxN W H a n c X Y) noGrown (A : Nat) (D : Nat) F (j * A) vs) (fun v _ => ((H : Int) + 1 - RowKit.intOf v).toNat)
  case atStart => exact ⟨0, -1, Nat.zero_le _, rfl, rfl, _, HT.out⟩
  case round =>
    clear HT
    obtain ⟨j, yz, hj, rfl, hyz, vs, ht⟩ := hrel
    have HT := Lib.hid ht
    clear ht
    have f1 := HT.out.g.cell 1
    unfold boxN at f1
    dsimp only [List.getElem?_cons_succ, List.getElem?_cons_zero] at f1
    by_cases hjD : j < D
    · have hyl : yz ≤ (H : Int) := by have := HAD.out; omega
      have HJD := Lib.hid hjD
      have HYZ := Lib.hid hyz
      clear hyz hj hjD
      go_wp2_with fail
      clear f1 hyl
      try (generalize decide (yz ≤ (H : Int)) = qd1)
      go_loopw [8] (fun v wr => ∃ i : Nat, ∃ xz : Int, i ≤ A ∧ v = .int .i64 xz ∧ xz = (i : Int) - 1 ∧ ∃ vs : Value, TSt w wr ub gb rb qb 24 43 43 (rulP K B S st ra ta tn tc tu) (boxN W H a n c X Y) noGrown (A : Nat) (D : Nat) F (j * A + i) vs) (fun v _ => ((W : Int) + 1 - RowKit.intOf v).toNat)
      case atStart => exact ⟨0, -1, Nat.zero_le _, rfl, rfl, vs, by rw [Nat.add_zero]; exact HT.out⟩
      case round =>
        clear HT
        obtain ⟨i, xz, hi, rfl, hxz, vs, ht⟩ := hrel
        have HT := Lib.hid ht
        clear ht
        have f0 := HT.out.g.cell 0
        unfold boxN at f0
        dsimp only [List.getElem?_cons_succ, List.getElem?_cons_zero] at f0
        by_cases hiA : i < A
        · have hxl : xz ≤ (W : Int) := by have := HAD.out; omega
          have HIA := Lib.hid hiA
          have HXZ := Lib.hid hxz
          obtain ⟨k, hk⟩ : ∃ k, k = j * A + i := ⟨_, rfl⟩
          rw [← hk] at HT
          have HKE := Lib.hid hk
          clear hxz hi hiA hk
          go_wp2_with fail
          clear f0 hxl
          try (generalize decide (xz ≤ (W : Int)) = qd2)
          go_loopw [9, 10] (fun u v wr => ∃ d : Nat, ∃ dz : Int, d ≤ 3 ∧ v = .int .i64 dz ∧ u = .int .i64 ((sumE L xz yz (3 * d + 0) : Nat) : Int) ∧ dz = (d : Int) - 1 ∧ TSt w wr ub gb rb qb 24 43 43 (rulP K B S st ra ta tn tc tu) (boxN W H a n c X Y) noGrown (A : Nat) (D : Nat) F k vs) (fun _ v _ => (2 - RowKit.intOf v).toNat)
          case atStart => exact ⟨0, -1, by omega, rfl, rfl, by omega, HT.out⟩
          case round =>
            clear HT
            obtain ⟨d, dz, hd, rfl, rfl, hdz, ht⟩ := hrel
            have HT := Lib.hid ht
            clear ht
            by_cases hd3 : d < 3
            · have hdl : dz ≤ 1 := by omega
              have HD3 := Lib.hid hd3
              have HDZ := Lib.hid hdz
              clear hdz
              go_wp2_with fail
              clear hdl
              try (generalize decide (dz ≤ 1) = qd3)
              go_loopw [9, 11] (fun u v wr => ∃ e : Nat, ∃ ez : Int, e ≤ 3 ∧ v = .int .i64 ez ∧ u = .int .i64 ((sumE L xz yz (3 * d + e) : Nat) : Int) ∧ ez = (e : Int) - 1 ∧ TSt w wr ub gb rb qb 24 43 43 (rulP K B S st ra ta tn tc tu) (boxN W H a n c X Y) noGrown (A : Nat) (D : Nat) F k vs) (fun _ v _ => (2 - RowKit.intOf v).toNat)
              case atStart => exact ⟨0, -1, by omega, rfl, rfl, by omega, HT.out⟩
              case round =>
                clear HT
                obtain ⟨e, ez, he, rfl, rfl, hez, ht⟩ := hrel
                have HT := Lib.hid ht
                clear ht
                by_cases he3 : e < 3
                · have hel : ez ≤ 1 := by omega
                  have HEZ := Lib.hid hez
                  obtain ⟨s1, hs1⟩ : ∃ s1, s1 = sumE L xz yz (3 * d + e) := ⟨_, rfl⟩
                  obtain ⟨v, hv⟩ : ∃ v, v = L (xz + ez) (yz + dz) := ⟨_, rfl⟩
                  have HVE := Lib.hid hv
                  have HSM : Hid (sumE L xz yz (3 * d + (e + 1)) = s1 + if 3 * d + e = 4 then 0 else v) := Lib.hid (by
                    rw [hs1, hv, show 3 * d + (e + 1) = (3 * d + e) + 1 by omega]
                    have e1 : (3 * d + e) % 3 = e := by omega
                    have e2 : (3 * d + e) / 3 = d := by omega
                    show sumE L xz yz (3 * d + e) + (if 3 * d + e = 4 then 0 else L (xz + ((((3 * d + e) % 3 : Nat) : Int) - 1)) (yz + ((((3 * d + e) / 3 : Nat) : Int) - 1))) = _
                    rw [e1, e2, hez, HDZ.out])
                  have hs9 : s1 ≤ 9 := by rw [hs1]; have := sumE_le (x := xz) (y := yz) HL.out (3 * d + e); omega
                  have hv2 : v < 2 := by rw [hv]; exact HL.out _ _
                  have s2 : wrap64 ((s1 : Int) + (v : Int)) = ((s1 + v : Nat) : Int) := wr_nat (by push_cast; rfl) (by omega)
                  have hez2 : wrap64 (ez + 1) = ez + 1 := by clear s2; exact wr_in (by omega) (by omega)
                  have HRE : Hid (ez + 1 = ((e + 1 : Nat) : Int) - 1 ∧ e + 1 ≤ 3 ∧ (2 - (ez + 1)).toNat < (2 - ez).toNat) := Lib.hid (by clear s2 hez2; omega)
                  have b1 : wrap64 (xz + ez) = xz + ez := by
                    have h1 := HXZ.out
                    have h2 := HIA.out
                    have h3 := HAD.out
                    clear s2 hez2
                    exact wr_in (by omega) (by omega)
                  have b2 : wrap64 (yz + dz) = yz + dz := by
                    have h1 := HYZ.out
                    have h2 := HJD.out
                    have h3 := HAD.out
                    have h4 := HDZ.out
                    clear s2 hez2 b1
                    exact wr_in (by omega) (by omega)
                  have s2' := wr_same s2
                  have hez2' := wr_same hez2
                  have b1' := wr_same b1
                  have b2' := wr_same b2
                  rw [← hs1]
                  clear hs1 hv hs9 hv2 hez he3 he
                  by_cases hx0 : ez = 0
                  · by_cases hy0 : dz = 0
                    · have HSM2 : Hid (sumE L xz yz (3 * d + (e + 1)) = s1) := Lib.hid (by rw [HSM.out, if_pos (by have := HEZ.out; have := HDZ.out; omega)]; rfl)
                      have hx0b : (ez != 0) = false := by rw [hx0]; rfl
                      have hy0b : (dz != 0) = false := by rw [hy0]; rfl
                      clear hx0 hy0
                      go_wp2_with fail
                      go_roundw
                      case rel => exact ⟨e + 1, ez + 1, HRE.out.2.1, rfl, by rw [HSM2.out], HRE.out.1, HT.out⟩
                      case measure => simp only [RowKit.intOf]; exact HRE.out.2.2
                    · have HSM2 : Hid (sumE L xz yz (3 * d + (e + 1)) = s1 + v) := Lib.hid (by rw [HSM.out, if_neg (by have := HEZ.out; have := HDZ.out; omega)])
                      have hx0b : (ez != 0) = false := by rw [hx0]; rfl
                      have hy0b : (dz != 0) = true := by rw [bne_iff_ne]; exact hy0
                      clear hx0 hy0
                      have l5 : wr.rangeAt gb 0 [.int .i64 W, .int .i64 H, .slice a n c] := row_pre HT.out.g
                      go_wp2_with (refine wpList_load_mid rfl 26 _ rfl gb 0 rfl _ _ l5 Tryd.underlying26 rfl infoPat ?_)
                      clear l5
                      refine (HAT.out _ _ wr HT.out.b).mono ?_
                      rintro e8 w8 ⟨rfl, hb8⟩
                      have HT8 := Lib.hid (HT.out.keep hb8)
                      clear hb8 HT
                      rw [← HVE.out]
                      go_wp2_with fail
                      go_roundw
                      case rel => exact ⟨e + 1, ez + 1, HRE.out.2.1, rfl, by rw [HSM2.out, Int.natCast_add], HRE.out.1, HT8.out⟩
                      case measure => simp only [RowKit.intOf]; exact HRE.out.2.2
                  · have HSM2 : Hid (sumE L xz yz (3 * d + (e + 1)) = s1 + v) := Lib.hid (by rw [HSM.out, if_neg (by have := HEZ.out; have := HDZ.out; omega)])
                    have hx0b : (ez != 0) = true := by rw [bne_iff_ne]; exact hx0
                    clear hx0
                    have l5 : wr.rangeAt gb 0 [.int .i64 W, .int .i64 H, .slice a n c] := row_pre HT.out.g
                    go_wp2_with (refine wpList_load_mid rfl 26 _ rfl gb 0 rfl _ _ l5 Tryd.underlying26 rfl infoPat ?_)
                    clear l5
                    refine (HAT.out _ _ wr HT.out.b).mono ?_
                    rintro e8 w8 ⟨rfl, hb8⟩
                    have HT8 := Lib.hid (HT.out.keep hb8)
                    clear hb8 HT
                    rw [← HVE.out]
                    go_wp2_with fail
                    go_roundw
                    case rel => exact ⟨e + 1, ez + 1, HRE.out.2.1, rfl, by rw [HSM2.out, Int.natCast_add], HRE.out.1, HT8.out⟩
                    case measure => simp only [RowKit.intOf]; exact HRE.out.2.2
                · obtain rfl : e = 3 := by omega
                  have hel : ¬ ez ≤ 1 := by omega
                  have hdz2 : wrap64 (dz + 1) = dz + 1 := by have := HDZ.out; exact wr_in (by omega) (by omega)
                  have hdz2' := wr_same hdz2
                  have HRD : Hid (dz + 1 = ((d + 1 : Nat) : Int) - 1 ∧ d + 1 ≤ 3 ∧ (2 - (dz + 1)).toNat < (2 - dz).toNat) := Lib.hid (by have := HDZ.out; clear hdz2 hdz2'; omega)
                  clear hez
                  go_wp2_with fail
                  go_roundw
                  case rel => exact ⟨d + 1, dz + 1, HRD.out.2.1, rfl, rfl, HRD.out.1, HT.out⟩
                  case measure => simp only [RowKit.intOf]; exact HRD.out.2.2
            · obtain rfl : d = 3 := by omega
              have hdl : ¬ dz ≤ 1 := by omega
              obtain ⟨nb, hnb⟩ : ∃ nb, nb = sumE L xz yz 9 := ⟨_, rfl⟩
              have hnb9 : nb ≤ 9 := by rw [hnb]; exact sumE_le HL.out 9
              obtain ⟨cv, hcv⟩ : ∃ cv, cv = L xz yz := ⟨_, rfl⟩
              have hcv2 : cv < 2 := by rw [hcv]; exact HL.out _ _
              have HCV := Lib.hid hcv
              have HFK : Hid (F k = bec B S cv nb) := Lib.hid (by
                rw [HFE.out, HKE.out, at_mod HIA.out, at_div HIA.out, ← HXZ.out, ← HYZ.out, hnb, sumE_nine, hcv])
              rw [show 3 * 3 + 0 = 9 by rfl, ← hnb]
              obtain ⟨bv, hbv⟩ : ∃ bv, bv = bec B S cv nb := ⟨_, rfl⟩
              have HBX := Lib.hid (fun w2 => HBE.out cv nb w2 (by omega) hcv2)
              rw [← hbv] at HFK HBX
              have HK2 : Hid (k + 1 ≤ maxLen ∧ (k + 1) * 8 ≤ 140737488355328 ∧ j * A + (i + 1) = k + 1 ∧ wrap64 (xz + 1) = xz + 1 ∧ xz + 1 = ((i + 1 : Nat) : Int) - 1 ∧ ((W : Int) + 1 - (xz + 1)).toNat < ((W : Int) + 1 - xz).toNat) := Lib.hid (by
                have h0 := HKE.out
                have h1 := at_lt HIA.out HJD.out
                have h2 := HN.out
                have h3 := HXZ.out
                have h4 := HIA.out
                have h5 := HAD.out
                rw [← h0, ← h2] at h1
                clear hdz hnb hnb9 hcv hcv2 hbv
                exact ⟨by unfold maxLen; omega, by omega, by omega, wr_in (by omega) (by omega), by omega, by omega⟩)
              clear hdz hnb hnb9 hcv hcv2 hbv hd hd3
              have l5 : wr.rangeAt gb 0 [.int .i64 W, .int .i64 H, .slice a n c] := row_pre HT.out.g
              go_wp2_with (refine wpList_load_mid rfl 26 _ rfl gb 0 rfl _ _ l5 Tryd.underlying26 rfl infoPat ?_)
              clear l5 hdl
              refine (HAT.out _ _ wr HT.out.b).mono ?_
              rintro e7 w7 ⟨rfl, hb7⟩
              have HT := Lib.hid (HT.out.keep hb7)
              rw [← HCV.out]
              clear hb7
              have l6 := row_range HT.out.u
              go_wp2_with (refine wpList_load_mid rfl 24 _ rfl ub 0 rfl _ _ l6 Tryd.underlying24 rfl infoRule ?_)
              clear l6
              refine (HBX.out w7).mono ?_
              rintro e8 w8 ⟨rfl, hb8⟩
              have HT8 := Lib.hid (HT.out.keep hb8)
              clear hb8 HT
              have hnew := row_alloc w8 3 [.int .i64 (bv : Int)]
              have hbn : Below w8.heap.size w8 (w8.alloc (.cells [.int .i64 (bv : Int)].toArray 3)) := (Below.refl _ _).alloc (Nat.le_refl _) _
              have HTa := Lib.hid (HT8.out.keep hbn)
              have HCEL := Lib.hid (hnew.cell 0)
              have HSZ : Hid (w.heap.size ≤ (w8.alloc (.cells [.int .i64 (bv : Int)].toArray 3)).heap.size) := HTa.out.b.size
              have g2 := HT8.out.q.cell 2
              dsimp only [List.getElem?_cons_succ, List.getElem?_cons_zero] at g2
              clear HT8 hnew hbn
              go_wp2_with (at_builtin; refine Ops.wpList_append1 rfl _ _ 22 rfl w.heap.size 3 i0 (.int .i64 0) 8 Tryd.underlying22 HI0.out HZ0.out rfl HZ1.out HZ2.out _ k _ rfl HTa.out.o ⟨w8.heap.size, 0, none⟩ 1 (.int .i64 bv) rfl HCEL.out rfl ?c1 ?c2 HSZ.out ?_)
              case c1 => exact HK2.out.1
              case c2 => exact HK2.out.2.1
              intro ao' co' w9 hO7 hg7
              have HPU := Lib.hid (HTa.out.push hg7 hO7 HFK.out)
              have c2 := (HTa.out.grown hg7).cell 2
              have z2 := (HTa.out.grown hg7).frozen 2
              dsimp only [List.getElem?_cons_succ, List.getElem?_cons_zero] at c2
              clear hO7 hg7 HTa HCEL HSZ g2
              have hin1 := HK2.out.2.2.2.1
              have hin1' := wr_same hin1
              go_wp2_with fail
              clear c2 z2 hin1 hin1'
              generalize w9.setCell ⟨qb, 2, none⟩ (.slice ao' (k + 1) co') = w10 at *
              go_roundw
              case rel => exact ⟨i + 1, xz + 1, HIA.out, rfl, HK2.out.2.2.2.2.1, _, by rw [HK2.out.2.2.1]; exact HPU.out⟩
              case measure => exact HK2.out.2.2.2.2.2
        · obtain rfl : i = A := by omega
          have hxl : ¬ xz ≤ (W : Int) := by have := HAD.out; omega
          have hyn : wrap64 (yz + 1) = yz + 1 := by have := HAD.out; have := HYZ.out; have := HJD.out; exact wr_in (by omega) (by omega)
          have hyn' := wr_same hyn
          have HJM : Hid (yz + 1 = ((j + 1 : Nat) : Int) - 1 ∧ ((H : Int) + 1 - (yz + 1)).toNat < ((H : Int) + 1 - yz).toNat) := Lib.hid (by
            have := HAD.out
            have := HYZ.out
            have := HJD.out
            clear hyn hyn'
            omega)
          go_wp2_with fail
          go_roundw
          case rel => exact ⟨j + 1, yz + 1, HJD.out, rfl, HJM.out.1, _, by rw [Nat.succ_mul]; exact HT.out⟩
          case measure => exact HJM.out.2
    · obtain rfl : j = D := by omega
      have hyl : ¬ yz ≤ (H : Int) := by have := HAD.out; omega
      have HMN : Hid (j * A = N) := Lib.hid (by rw [HN.out, Nat.mul_comm])
      have ht := HT.out
      rw [HMN.out] at ht
      obtain ⟨av, cv, hve, hvn, hvm, hvi, hvb⟩ := own_is ht.o
      subst hve
      have l5 := row_range ht.q
      have HX := Lib.hid ht
      rw [HFL.out] at hvi
      have HVI := Lib.hid hvi
      clear hvn hvm hvb hvi HT ht hyz
      go_wp2_with (refine wpList_load_mid rfl 26 _ rfl qb 0 rfl _ _ l5 Tryd.underlying26 rfl infoPat ?_)
      clear l5 f1 hyl
      refine (HTR.out _ _ _ HVI.out).mono ?_
      rintro e8 w8 ⟨⟨W', H', X', Y', a', n', c', rfl, f', htr, hn', hc', hi', hab⟩, hb8⟩
      unfold pat
      have HXO := HX
      have HX := Lib.hid (HX.out.keep hb8)
      have HIS := Lib.hid hi'
      have HAB : Hid (∀ b o, a' = some ⟨b, o, none⟩ → b ≠ rb ∧ w.heap.size ≤ b) := Lib.hid (fun b o e => by have h1 := hab b o e; have h2 := HXO.out.r.lt; have h3 := HXO.out.b.size; omega)
      have hp0 : Row (w8.alloc (.cells #[.int .i64 (W' : Nat), .int .i64 (H' : Nat), .slice a' n' c'] 26)) w8.heap.size 26 (boxP (W' : Nat) (H' : Nat) a' n' c') := row_alloc w8 _ _
      have hb9 : Below w8.heap.size w8 (w8.alloc (.cells #[.int .i64 (W' : Nat), .int .i64 (H' : Nat), .slice a' n' c'] 26)) := (Below.refl _ _).alloc (Nat.le_refl _) _
      have HTM := Lib.hid htr
      have HNC := Lib.hid (And.intro hn' hc')
      clear htr hn' hc' hi' hb8 hab HXO
      go_upto_region 22 with fail
      have HRT := Lib.hid (show rb ≠ w8.heap.size by have := HX.out.r.lt; omega)
      have HX := Lib.hid (HX.out.keep hb9)
      have HIS := Lib.hid (HIS.out.keep hb9)
      have HPR := Lib.hid hp0
      clear hb9 hp0
      generalize w8.alloc (.cells #[.int .i64 (W' : Nat), .int .i64 (H' : Nat), .slice a' n' c'] 26) = w9 at *
      generalize w8.heap.size = tb at *
      have l5 : w9.rangeAt tb 0 [.int .i64 (W' : Nat), .int .i64 (H' : Nat), .slice a' n' c'] := row_range HPR.out
      have f0 := HPR.out.cell 0
      have f1 := HPR.out.cell 1
      unfold boxP at f0 f1
      dsimp only [List.getElem?_cons_succ, List.getElem?_cons_zero] at f0 f1
      have HXY : Hid (X' ≤ 102 ∧ Y' ≤ 102) := Lib.hid (by
        have := HAD.out
        rcases HTM.out with ⟨_, _, h3, h4, _⟩ | ⟨r, b, hg, _⟩
        · omega
        · have h1 := hg.lr
          have h2 := hg.tb
          omega)
      by_cases h1 : 100 < W'
      · have h1i : (100 : Int) < (W' : Int) := by omega
        go_wp2_with (first | (refine Ops.wpList_store_arr rfl 43 _ _ rfl rb rfl 43 _ noGrown rfl HX.out.r rfl infoG (boxN_one _ _ _ _ _ _ _) ?_; intro w5 hrow5 hon5) | (refine wpList_load_mid rfl 26 _ rfl tb 0 rfl _ _ l5 Tryd.underlying26 rfl infoPat ?_))
        refine bodyPost_ret (results_G (t := 4) (u := 5) (e := .bool false) rfl _ _ hrow5 rfl rfl rfl) rfl ⟨⟨W', H', X', Y', f', HTM.out, .inl ⟨.inl h1, rfl⟩⟩, HX.out.b.trans (hon5.below HRB.out)⟩
      · have h1i : ¬ (100 : Int) < (W' : Int) := by omega
        by_cases h2 : 100 < H'
        · have h2i : (100 : Int) < (H' : Int) := by omega
          go_wp2_with (first | (refine Ops.wpList_store_arr rfl 43 _ _ rfl rb rfl 43 _ noGrown rfl HX.out.r rfl infoG (boxN_one _ _ _ _ _ _ _) ?_; intro w5 hrow5 hon5) | (refine wpList_load_mid rfl 26 _ rfl tb 0 rfl _ _ l5 Tryd.underlying26 rfl infoPat ?_))
          refine bodyPost_ret (results_G (t := 4) (u := 5) (e := .bool false) rfl _ _ hrow5 rfl rfl rfl) rfl ⟨⟨W', H', X', Y', f', HTM.out, .inl ⟨.inr h2, rfl⟩⟩, HX.out.b.trans (hon5.below HRB.out)⟩
        · have h2i : ¬ (100 : Int) < (H' : Int) := by omega
          by_cases h3 : W' = 0
          · have h3b : ((W' : Int) == 0) = true := by rw [beq_iff_eq]; omega
            go_wp2_with (first | (refine Ops.wpList_store_arr rfl 43 _ _ rfl rb rfl 43 _ noGrown rfl HX.out.r rfl infoG (boxN_one _ _ _ _ _ _ _) ?_; intro w5 hrow5 hon5) | (refine wpList_load_mid rfl 26 _ rfl tb 0 rfl _ _ l5 Tryd.underlying26 rfl infoPat ?_))
            refine bodyPost_ret (results_G (t := 4) (u := 5) (e := .bool true) rfl _ _ hrow5 rfl rfl rfl) rfl ⟨⟨W', H', X', Y', f', HTM.out, .inr (.inl ⟨Nat.not_lt.1 h1, Nat.not_lt.1 h2, h3, rfl⟩)⟩, HX.out.b.trans (hon5.below HRB.out)⟩
          · have h3b : ((W' : Int) == 0) = false := by rw [beq_eq_false_iff_ne]; omega
            have g3 := HX.out.g.cell 3
            have g4 := HX.out.g.cell 4
            unfold boxN at g3 g4
            dsimp only [List.getElem?_cons_succ, List.getElem?_cons_zero] at g3 g4
            have hx := HXY.out
            have hx2 := HX0.out
            have hy2 := HY.out
            have e1 : wrap64 (X + (X' : Int)) = X + X' := wr_in (by omega) (by omega)
            have e2 : wrap64 (X + (X' : Int) - 1) = X + X' - 1 := by clear e1; exact wr_in (by omega) (by omega)
            have e3 : wrap64 (Y + (Y' : Int)) = Y + Y' := by clear e1 e2; exact wr_in (by omega) (by omega)
            have e4 : wrap64 (Y + (Y' : Int) - 1) = Y + Y' - 1 := by clear e1 e2 e3; exact wr_in (by omega) (by omega)
            have e1' := wr_same e1
            have e2' := wr_same e2
            have e3' := wr_same e3
            have e4' := wr_same e4
            clear hx hx2 hy2
            go_wp2_with (first | (refine Ops.wpList_store_arr rfl 43 _ _ rfl rb rfl 43 _ (boxN (W' : Nat) (H' : Nat) a' n' c' (X + X' - 1) (Y + Y' - 1)) rfl HX.out.r rfl infoG (boxN_one _ _ _ _ _ _ _) ?_; intro w5 hrow5 hon5) | (refine wpList_load_mid rfl 26 _ rfl tb 0 rfl _ _ l5 Tryd.underlying26 rfl infoPat ?_))
            refine bodyPost_ret (results_G (t := 4) (u := 5) (e := .bool true) rfl _ _ hrow5 rfl rfl rfl) rfl ⟨⟨W', H', X', Y', f', HTM.out, .inr (.inr ⟨Nat.not_lt.1 h1, Nat.not_lt.1 h2, Nat.pos_of_ne_zero h3, a', n', c', rfl, HNC.out.1, HNC.out.2, is_other2 HIS.out hon5 (fun b off e k => (HAB.out b off e).1), fun b o e => (HAB.out b o e).2⟩)⟩, HX.out.b.trans (hon5.below HRB.out)⟩
end Pn
end Go.Proofs.YtdckcejkliggfaaDoor
