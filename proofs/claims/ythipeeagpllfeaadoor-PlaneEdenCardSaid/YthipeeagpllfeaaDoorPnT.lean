/- WALK: plane.torus. -/
import Derived.Test.YthipeeagpllfeaaDoorPnQ
import Derived.Deep.RegionWith
namespace Go.Proofs.YthipeeagpllfeaaDoor
set_option linter.unusedSimpArgs false
set_option linter.unusedVariables false
open Go.RowKit
namespace Pn
open Tld Mem Bl

/-- The first k of the nine cells about a place on rings, together. -/
def sumT (W H : Nat) (f : Nat → Nat → Nat) (x y : Nat) : Nat → Nat
  | 0 => 0
  | k + 1 => sumT W H f x y k + f ((x + k % 3 + W - 1) % W) ((y + k / 3 + H - 1) % H)
theorem sumT_nine {W H x y : Nat} {f : Nat → Nat → Nat} : sumT W H f x y 9 = nineT W H f x y := by
  unfold nineT
  show 0 + f ((x + 0 + W - 1) % W) ((y + 0 + H - 1) % H) + f ((x + 1 + W - 1) % W) ((y + 0 + H - 1) % H) + f ((x + 2 + W - 1) % W) ((y + 0 + H - 1) % H) +
    f ((x + 0 + W - 1) % W) ((y + 1 + H - 1) % H) + f ((x + 1 + W - 1) % W) ((y + 1 + H - 1) % H) + f ((x + 2 + W - 1) % W) ((y + 1 + H - 1) % H) +
    f ((x + 0 + W - 1) % W) ((y + 2 + H - 1) % H) + f ((x + 1 + W - 1) % W) ((y + 2 + H - 1) % H) + f ((x + 2 + W - 1) % W) ((y + 2 + H - 1) % H) = _
  omega
theorem sumT_le {W H x y : Nat} {f : Nat → Nat → Nat} (hf : ∀ x y, f x y < 2) : ∀ k, sumT W H f x y k ≤ k
  | 0 => Nat.le_refl _
  | k + 1 => by
    have h1 := sumT_le (W := W) (H := H) (x := x) (y := y) hf k
    have h2 := hf ((x + k % 3 + W - 1) % W) ((y + k / 3 + H - 1) % H)
    show sumT W H f x y k + _ ≤ k + 1
    omega
theorem nineT_self {W H x y : Nat} {f : Nat → Nat → Nat} (hx : x < W) (hy : y < H) : f x y ≤ nineT W H f x y := by
  have e1 : (x + 1 + W - 1) % W = x := by rw [show x + 1 + W - 1 = x + W by omega, Nat.add_mod_right, Nat.mod_eq_of_lt hx]
  have e2 : (y + 1 + H - 1) % H = y := by rw [show y + 1 + H - 1 = y + H by omega, Nat.add_mod_right, Nat.mod_eq_of_lt hy]
  unfold nineT
  rw [e1, e2]
  omega
theorem three_new (w : World) (T U V : TypeId) (c1 c2 c3 : List Value) : Row (((w.alloc (.cells c1.toArray T)).alloc (.cells c2.toArray U)).alloc (.cells c3.toArray V)) w.heap.size T c1 ∧ Row (((w.alloc (.cells c1.toArray T)).alloc (.cells c2.toArray U)).alloc (.cells c3.toArray V)) (w.heap.size + 1) U c2 ∧
    Row (((w.alloc (.cells c1.toArray T)).alloc (.cells c2.toArray U)).alloc (.cells c3.toArray V)) (w.heap.size + 2) V c3 ∧ Below w.heap.size w (((w.alloc (.cells c1.toArray T)).alloc (.cells c2.toArray U)).alloc (.cells c3.toArray V)) := by
  obtain ⟨h1, h2, h3⟩ := two_new w T U c1 c2
  have hs : ((w.alloc (.cells c1.toArray T)).alloc (.cells c2.toArray U)).heap.size = w.heap.size + 2 := by simp [World.size_alloc]
  have h4 := row_alloc ((w.alloc (.cells c1.toArray T)).alloc (.cells c2.toArray U)) V c3
  rw [hs] at h4
  have hb : Below (w.heap.size + 2) ((w.alloc (.cells c1.toArray T)).alloc (.cells c2.toArray U)) (((w.alloc (.cells c1.toArray T)).alloc (.cells c2.toArray U)).alloc (.cells c3.toArray V)) := (Below.refl _ _).alloc (by rw [hs]; exact Nat.le_refl _) _
  exact ⟨h1.keep hb (by omega), h2.keep hb (by omega), h4, h3.trans (hb.mono (by omega))⟩
/-- The numbers of a neighbour's step. -/
theorem tor_nums {x y d e W H : Nat} (hx : x < W) (hy : y < H) (hd : d < 3) (he : e < 3) (hW : W ≤ 200) (hH : H ≤ 200) :
    ∃ y1 y2 y3 y4 y5 x1 x2 x3 x4 i : Nat, i = ((y + d + H - 1) % H) * W + (x + e + W - 1) % W ∧ i < W * H ∧ x4 = (x + e + W - 1) % W ∧ y4 = (y + d + H - 1) % H ∧
      wrap64 ((y : Int) + (d : Int)) = (y1 : Int) ∧ wrap64 ((y1 : Int) + (H : Int)) = (y2 : Int) ∧ wrap64 ((y2 : Int) - 1) = (y3 : Int) ∧ (y3 : Int).tmod (H : Int) = (y4 : Int) ∧ wrap64 ((y4 : Int) * (W : Int)) = (y5 : Int) ∧
      wrap64 ((x : Int) + (e : Int)) = (x1 : Int) ∧ wrap64 ((x1 : Int) + (W : Int)) = (x2 : Int) ∧ wrap64 ((x2 : Int) - 1) = (x3 : Int) ∧ (x3 : Int).tmod (W : Int) = (x4 : Int) ∧ wrap64 ((y5 : Int) + (x4 : Int)) = (i : Int) := by
  have h1 : (x + e + W - 1) % W < W := Nat.mod_lt _ (by omega)
  have h2 : (y + d + H - 1) % H < H := Nat.mod_lt _ (by omega)
  have h3 := at_lt h1 h2
  have h4 : W * H ≤ 200 * 200 := Nat.mul_le_mul hW hH
  refine ⟨y + d, y + d + H, y + d + H - 1, (y + d + H - 1) % H, ((y + d + H - 1) % H) * W, x + e, x + e + W, x + e + W - 1, (x + e + W - 1) % W, _, rfl, h3, rfl, rfl, ?_, ?_, ?_, ?_, ?_, ?_, ?_, ?_, ?_, ?_⟩
  · exact wr_nat (by omega) (by omega)
  · exact wr_nat (by omega) (by omega)
  · exact wr_nat (by omega) (by omega)
  · exact Int.ofNat_tmod _ _
  · generalize (y + d + H - 1) % H = q at *
    generalize (x + e + W - 1) % W = p at *
    exact wr_nat (by push_cast; rfl) (by omega)
  · exact wr_nat (by omega) (by omega)
  · exact wr_nat (by omega) (by omega)
  · exact wr_nat (by omega) (by omega)
  · exact Int.ofNat_tmod _ _
  · generalize (y + d + H - 1) % H = q at *
    generalize (x + e + W - 1) % W = p at *
    generalize q * W = r at *
    exact wr_nat (by push_cast; rfl) (by omega)
/-- So many cells have become what they become. -/
def tpart (B S W H : Nat) (f : Nat → Nat → Nat) (k j : Nat) : Nat := if j < k then tor B S W H f (j % W) (j / W) else 0

set_option maxHeartbeats 16000000 in
set_option maxRecDepth 1000000 in
theorem torus_any (K st ra : Int) (B S : Nat) (ta : Option Addr) (tn tc : Nat) (tu : ByteArray) (W H : Nat) (a : Option Addr) (n c : Nat) (f : Nat → Nat → Nat) (w : World) (hB : B < 512) (hS : S < 512) (hZ : Ints.Is w a n (flat W H f)) (hn : n = W * H) (hW : W ≤ 200) (hH : H ≤ 200) (hf : ∀ x y, f x y < 2) :
    Calls Tryd.prog 22 #[.agg #[.int .i64 K, .int .i64 B, .int .i64 S, .int .i64 st, .int .i64 ra, .slice ta tn tc, .string tu], pat W H a n c] w fun e w' => (∃ g, e = .returned (pat W H (some ⟨g, 0, none⟩) n n) ∧ w.heap.size ≤ g ∧ Vec w' g n (fun k => tor B S W H f (k % W) (k / W))) ∧ Below w.heap.size w w' := by
  have HZ := Lib.hid (fun w2 (h : Below w.heap.size w w2) => hZ.keep h)
  have hn2 : n ≤ 40000 := by rw [hn]; exact Nat.mul_le_mul hW hH
  have HN := Lib.hid hn
  have HWB := Lib.hid hW
  have HHB := Lib.hid hH
  have HF := Lib.hid hf
  have HBE := Lib.hid (fun (c n : Nat) (w2 : World) (hn : n < 10) (hc : c < 2) => becomes_any K st ra B S ta tn tc tu c n w2 hB hS hn hc)
  clear hZ hn hW hH hf hB hS
  unfold pat
  go_enter Tryd.func22, Tryd.ntmps22
  go_upto_region 1 with fail
  obtain ⟨hr2, hr3, hr4, hb2⟩ := three_new w 24 26 26 (rulP K B S st ra ta tn tc tu) (boxP W H a n c) noPat
  have HR2 : Hid (Row (((w.alloc (.cells #[.int .i64 K, .int .i64 B, .int .i64 S, .int .i64 st, .int .i64 ra, .slice ta tn tc, .string tu] 24)).alloc (.cells #[.int .i64 W, .int .i64 H, .slice a n c] 26)).alloc (.cells #[.int .i64 0, .int .i64 0, .slice none 0 0] 26)) w.heap.size 24 (rulP K B S st ra ta tn tc tu)) := hr2
  have HR3 : Hid (Row (((w.alloc (.cells #[.int .i64 K, .int .i64 B, .int .i64 S, .int .i64 st, .int .i64 ra, .slice ta tn tc, .string tu] 24)).alloc (.cells #[.int .i64 W, .int .i64 H, .slice a n c] 26)).alloc (.cells #[.int .i64 0, .int .i64 0, .slice none 0 0] 26)) (w.heap.size + 1) 26 (boxP W H a n c)) := hr3
  have HR4 : Hid (Row (((w.alloc (.cells #[.int .i64 K, .int .i64 B, .int .i64 S, .int .i64 st, .int .i64 ra, .slice ta tn tc, .string tu] 24)).alloc (.cells #[.int .i64 W, .int .i64 H, .slice a n c] 26)).alloc (.cells #[.int .i64 0, .int .i64 0, .slice none 0 0] 26)) (w.heap.size + 1 + 1) 26 noPat) := hr4
  have HB : Hid (Below w.heap.size w (((w.alloc (.cells #[.int .i64 K, .int .i64 B, .int .i64 S, .int .i64 st, .int .i64 ra, .slice ta tn tc, .string tu] 24)).alloc (.cells #[.int .i64 W, .int .i64 H, .slice a n c] 26)).alloc (.cells #[.int .i64 0, .int .i64 0, .slice none 0 0] 26))) := hb2
  clear hr2 hr3 hr4 hb2
  generalize ((w.alloc (.cells #[.int .i64 K, .int .i64 B, .int .i64 S, .int .i64 st, .int .i64 ra, .slice ta tn tc, .string tu] 24)).alloc (.cells #[.int .i64 W, .int .i64 H, .slice a n c] 26)).alloc (.cells #[.int .i64 0, .int .i64 0, .slice none 0 0] 26) = w1 at *
  obtain ⟨ub, hub⟩ : ∃ ub, ub = w.heap.size := ⟨_, rfl⟩
  rw [← hub] at HR2 HR3 HR4 ⊢
  obtain ⟨gb, hgb⟩ : ∃ gb, gb = ub + 1 := ⟨_, rfl⟩
  rw [← hgb] at HR3 HR4 ⊢
  obtain ⟨rb, hrb⟩ : ∃ rb, rb = gb + 1 := ⟨_, rfl⟩
  rw [← hrb] at HR4 ⊢
  have HUB := Lib.hid hub
  have HGB : Hid (w.heap.size ≤ gb) := Lib.hid (by omega)
  have HRB : Hid (w.heap.size ≤ rb ∧ rb ≠ gb ∧ rb ≠ ub) := Lib.hid (by omega)
  clear hgb hrb hub
  --{make
  have f0 := HR3.out.cell 0
  have f1 := HR3.out.cell 1
  have f2 := HR3.out.cell 2
  unfold boxP at f0 f1 f2
  dsimp only [List.getElem?_cons_succ, List.getElem?_cons_zero] at f0 f1 f2
  have hl2 := HR2.out.lt
  have hl3 := HR3.out.lt
  have hl4 := HR4.out.lt
  have hmk := fun w2 => mk_ints n (by omega) w2
  go_cut [5] (fun v wx => ∃ qb ob, v = .pointer (some ⟨qb, 0, none⟩) ∧ Row wx qb 26 (boxP W H (some ⟨ob, 0, none⟩) n n) ∧ Vec wx ob n (fun _ => 0) ∧ qb ≠ ob ∧ w1.heap.size ≤ qb ∧ w1.heap.size ≤ ob ∧ Below w1.heap.size w1 wx)
  case first =>
    go_region
    · obtain ⟨h1, h2, h3⟩ := two_new w1 3 26 (List.replicate n (.int .i64 0)) (boxP W H (some ⟨w1.heap.size, 0, none⟩) n n)
      rw [List.toArray_replicate] at h1 h2 h3
      go_wp2_with fail
      go_meet
      case rel => exact ⟨w1.heap.size + 1, w1.heap.size, rfl, h2.keep (Below.refl _ _).drew h2.lt, (vec_made h1).keep (Below.refl _ _).drew, by omega, by omega, Nat.le_refl _, h3.drew⟩
    · obtain ⟨h1, h2, h3⟩ := two_new w1 26 3 (boxP W H (some ⟨w1.heap.size + 1, 0, none⟩) n n) (List.replicate n (.int .i64 0))
      rw [List.toArray_replicate] at h1 h2 h3
      go_wp2_with fail
      go_meet
      case rel => exact ⟨w1.heap.size, w1.heap.size + 1, rfl, h1.keep (Below.refl _ _).drew h1.lt, (vec_made h2).keep (Below.refl _ _).drew, by omega, Nat.le_refl _, by omega, h3.drew⟩
  case rest =>
  obtain ⟨qb, ob, rfl, hq, hv, hqo, hqw, how, hb⟩ := hcut
  have HR2 := Lib.hid (HR2.out.keep hb HR2.out.lt)
  have HR3 := Lib.hid (HR3.out.keep hb HR3.out.lt)
  have HR4 := Lib.hid (HR4.out.keep hb HR4.out.lt)
  have HNO : Hid (ub ≠ ob ∧ gb ≠ ob ∧ rb ≠ ob) := Lib.hid (by omega)
  have HQO := Lib.hid hqo
  have HOW : Hid (w.heap.size ≤ ob) := Lib.hid (Nat.le_trans HB.out.size how)
  have HB := Lib.hid (HB.out.trans (hb.mono HB.out.size))
  have HQ := Lib.hid hq
  have HV : Hid (Vec _ ob n (tpart B S W H f 0)) := Lib.hid (hv.congr fun k hk => if_neg (Nat.not_lt_zero _))
  clear hq hv hqo hqw how hb f0 f1 f2 hl2 hl3 hl4 hmk
  have f2 := HR3.out.cell 2
  unfold boxP at f2
  dsimp only [List.getElem?_cons_succ, List.getElem?_cons_zero] at f2
  go_wp2_with fail
  clear f2
  --}
  go_loopw [25] (fun v wr => ∃ k : Nat, k ≤ n ∧ v = .int .i64 (k : Nat) ∧ Row wr ub 24 (rulP K B S st ra ta tn tc tu) ∧ Row wr gb 26 (boxP W H a n c) ∧ Row wr rb 26 noPat ∧ Row wr qb 26 (boxP W H (some ⟨ob, 0, none⟩) n n) ∧ Vec wr ob n (tpart B S W H f k) ∧ Below w.heap.size w wr) (fun v _ => n - (RowKit.intOf v).toNat)
  case atStart => exact ⟨0, Nat.zero_le _, rfl, HR2.out, HR3.out, HR4.out, HQ.out, HV.out, HB.out⟩
  case round =>
    clear HR2 HR3 HR4 HQ HV HB
    obtain ⟨k, hk, rfl, h2, h3, h4, hq, hv, hb⟩ := hrel
    have HR2 := Lib.hid h2
    have HR3 := Lib.hid h3
    have HR4 := Lib.hid h4
    have HQ := Lib.hid hq
    have HV := Lib.hid hv
    have HB := Lib.hid hb
    clear h2 h3 h4 hq hv hb
    by_cases hkn : k < n
    · --{cell
      have hk2 : (k : Int) < (n : Int) := by omega
      have HKN := Lib.hid hkn
      have hWp : 0 < W := by
        have := HN.out
        rcases Nat.eq_zero_or_pos W with h | h
        · rw [h, Nat.zero_mul] at this; omega
        · exact h
      obtain ⟨x, hx⟩ : ∃ x, x = k % W := ⟨_, rfl⟩
      obtain ⟨y, hy⟩ : ∃ y, y = k / W := ⟨_, rfl⟩
      have hxW : x < W := by rw [hx]; exact Nat.mod_lt _ hWp
      have hyH : y < H := by rw [hy]; exact Nat.div_lt_of_lt_mul (by rw [← HN.out]; exact hkn)
      obtain ⟨ab, ao, rfl, _, cg⟩ := (HZ.out wr HB.out).cells k hkn
      dsimp only at cg
      rw [flat_get (by rw [← HN.out]; exact hkn), ← hx, ← hy] at cg
      obtain ⟨cv, hcv⟩ : ∃ cv, cv = f x y := ⟨_, rfl⟩
      rw [← hcv] at cg
      have hcv2 : cv < 2 := by rw [hcv]; exact HF.out x y
      have hxm : (k : Int).tmod (W : Int) = (x : Int) := by rw [hx]; exact Int.ofNat_tmod _ _
      have hyd : (k : Int).tdiv (W : Int) = (y : Int) := by rw [hy]; exact Int.ofNat_tdiv _ _
      have hW0 : ¬ (W : Int) = 0 := by omega
      have hW0b : ((W : Int) == 0) = false := beq_eq_false_iff_ne.2 hW0
      have hWm : ¬ (W : Int) = -1 := by omega
      have hH0 : ¬ (H : Int) = 0 := by omega
      have hH0b : ((H : Int) == 0) = false := beq_eq_false_iff_ne.2 hH0
      have hHm : ¬ (H : Int) = -1 := by omega
      have hHp : 0 < H := by omega
      have hyw : wrap64 (y : Int) = (y : Int) := wr_nat rfl (by have := HHB.out; omega)
      have hyw' := wr_same hyw
      have HX := Lib.hid hx
      have HY := Lib.hid hy
      have HXW := Lib.hid hxW
      have HYH := Lib.hid hyH
      have HCV := Lib.hid hcv
      have HCV2 := Lib.hid hcv2
      have f0 := HR3.out.cell 0
      unfold boxP at f0
      dsimp only [List.getElem?_cons_succ, List.getElem?_cons_zero] at f0
      clear hkn hx hy hxW hyH hcv
      go_upto_region 5 with fail
      clear cg
      go_big_quiet (fail)
      clear f0
      have hneg : wrap64 (-(cv : Int)) = -(cv : Int) := wr_in (by omega) (by omega)
      have hsum0 : (-(cv : Int)) = ((sumT W H f x y (3 * 0 + 0) : Nat) : Int) - (cv : Int) := by
        show _ = ((0 : Nat) : Int) - _
        omega
      have HS0 := Lib.hid hsum0
      clear hsum0
      go_wp2_with fail
      obtain ⟨wo, hwo⟩ : ∃ wo : World, wo = wr := ⟨_, rfl⟩
      rw [← hwo] at HR2 HR3 HR4 HQ HV HB ⊢
      clear hwo hneg
      --{dy
      go_loopw [40, 10] (fun u v wx => ∃ d : Nat, ∃ z : Int, d ≤ 3 ∧ u = .int .i64 (d : Nat) ∧ v = .int .i64 z ∧ z = ((sumT W H f x y (3 * d + 0) : Nat) : Int) - (cv : Int) ∧ ∃ q, wx = wo.drewN q) (fun u _ _ => 3 - (RowKit.intOf u).toNat)
      case atStart => exact ⟨0, -(cv : Int), by omega, rfl, rfl, HS0.out, _, rfl⟩
      case round =>
        clear HS0
        obtain ⟨d, z, hd, rfl, rfl, hz, q0, hwx⟩ := hrel
        have HZE := Lib.hid hz
        have HWX := Lib.hid hwx
        clear hz hwx
        by_cases hd3 : d < 3
        · have hdi : (d : Int) < 3 := by omega
          have HD3 := Lib.hid hd3
          go_wp2_with fail
          --{dx
          go_loopw [43, 10] (fun u v wx => ∃ e : Nat, ∃ z : Int, e ≤ 3 ∧ u = .int .i64 (e : Nat) ∧ v = .int .i64 z ∧ z = ((sumT W H f x y (3 * d + e) : Nat) : Int) - (cv : Int) ∧ ∃ q, wx = wo.drewN q) (fun u _ _ => 3 - (RowKit.intOf u).toNat)
          case atStart => exact ⟨0, z, by omega, rfl, rfl, HZE.out, _, HWX.out⟩
          case round =>
            clear HZE HWX
            obtain ⟨e, z, he, rfl, rfl, hz, q0, hwx⟩ := hrel
            have HZE := Lib.hid hz
            have HWX := Lib.hid hwx
            clear hz hwx
            by_cases he3 : e < 3
            · have hei : (e : Int) < 3 := by omega
              have HE3 := Lib.hid he3
              obtain ⟨y1, y2, y3, y4, y5, x1, x2, x3, x4, i, hi, hin, hx4, hy4, a1, a2, a3, a4, a5, b1, b2, b3, b4, ai⟩ := tor_nums HXW.out HYH.out hd3 he3 HWB.out HHB.out
              have hin2 : i < n := by rw [HN.out]; exact hin
              have HB9 : Hid (Below w.heap.size w wr) := Lib.hid (by rw [HWX.out]; exact HB.out.trans ⟨rfl, rfl, rfl, Nat.le_refl _, fun _ _ => rfl⟩)
              obtain ⟨ab', ao', habe, _, cg⟩ := (HZ.out wr HB9.out).cells i hin2
              cases habe
              dsimp only at cg
              rw [hi, flat_at (by rw [hx4] at b4; exact Nat.mod_lt _ hWp) (Nat.mod_lt _ hHp), ← hi] at cg
              obtain ⟨v, hv⟩ : ∃ v, v = f ((x + e + W - 1) % W) ((y + d + H - 1) % H) := ⟨_, rfl⟩
              rw [← hv] at cg
              have hv2 : v < 2 := by rw [hv]; exact HF.out _ _
              have hs9 := sumT_le (W := W) (H := H) (x := x) (y := y) HF.out (3 * d + e)
              obtain ⟨z2, hz2⟩ : ∃ z2, z2 = z + (v : Int) := ⟨_, rfl⟩
              have HZ2 : Hid (z2 = ((sumT W H f x y (3 * d + (e + 1)) : Nat) : Int) - (cv : Int)) := by
                show _ = _
                rw [hz2, HZE.out, show 3 * d + (e + 1) = (3 * d + e) + 1 by omega]
                have e1 : (3 * d + e) % 3 = e := by omega
                have e2 : (3 * d + e) / 3 = d := by omega
                show _ = ((sumT W H f x y (3 * d + e) + f ((x + (3 * d + e) % 3 + W - 1) % W) ((y + (3 * d + e) / 3 + H - 1) % H) : Nat) : Int) - _
                rw [e1, e2, ← hv]
                omega
              have az : wrap64 (z + (v : Int)) = z2 := by
                rw [← hz2]
                have := HZE.out
                exact wr_in (by omega) (by omega)
              have hi2 : (i : Int) < (n : Int) := Int.ofNat_lt.2 hin2
              have f0 : wr.cell? ⟨gb, 0, none⟩ = some (.int .i64 W) := by rw [HWX.out]; exact (HR3.out.drewN q0).cell 0
              have f1 : wr.cell? ⟨gb, 1, none⟩ = some (.int .i64 H) := by rw [HWX.out]; exact (HR3.out.drewN q0).cell 1
              have f2 : wr.cell? ⟨gb, 2, none⟩ = some (.slice (some ⟨ab, ao, none⟩) n c) := by rw [HWX.out]; exact (HR3.out.drewN q0).cell 2
              have a1' := wr_same a1
              have a2' := wr_same a2
              have a3' := wr_same a3
              have a5' := wr_same a5
              have b1' := wr_same b1
              have b2' := wr_same b2
              have b3' := wr_same b3
              have ai' := wr_same ai
              have az' := wr_same az
              clear hi hin hx4 hy4 hin2 hv hv2 hs9 hz2 he3
              go_upto_region 13 with fail
              go_big_quiet (fail)
              clear cg f0 f1 f2
              go_wp2_with fail
              go_roundw
              case rel => exact ⟨e + 1, z2, HE3.out, by go_num, rfl, HZ2.out, _, by rw [HWX.out, World.drewN_drewN]⟩
              case measure => have := HE3.out; simp [RowKit.intOf]; omega
            · obtain rfl : e = 3 := by omega
              have hne : ¬ (3 : Int) < 3 := by omega
              go_wp2_with fail
              go_roundw
              case rel => exact ⟨d + 1, z, HD3.out, by go_num, rfl, by rw [HZE.out, show 3 * d + 3 = 3 * (d + 1) + 0 by omega], _, HWX.out⟩
              case measure => have := HD3.out; simp [RowKit.intOf]; omega
          --}
        · obtain rfl : d = 3 := by omega
          have hne : ¬ (3 : Int) < 3 := by omega
          obtain ⟨nb, hnb⟩ : ∃ nb, nb = nineT W H f x y - cv := ⟨_, rfl⟩
          have hn9 : nineT W H f x y ≤ 9 := by rw [← sumT_nine]; exact sumT_le HF.out 9
          have hcn : cv ≤ nineT W H f x y := by rw [HCV.out]; exact nineT_self HXW.out HYH.out
          have hzn : z = (nb : Int) := by
            have h1 := HZE.out
            rw [show 3 * 3 + 0 = 9 by rfl, sumT_nine] at h1
            omega
          subst hzn
          have hn10 : nb < 10 := by omega
          have HTV : Hid (bec B S cv nb = tor B S W H f x y) := by
            show _ = _
            unfold tor
            rw [hnb, HCV.out]
          have HVN : Hid (∀ j, j < n → j ≠ k → tpart B S W H f (k + 1) j = tpart B S W H f k j) := fun j _ hne => by
            unfold tpart
            by_cases h : j < k
            · rw [if_pos h, if_pos (by omega)]
            · rw [if_neg h, if_neg (by omega)]
          have HVK : Hid (tpart B S W H f (k + 1) k = bec B S cv nb) := by
            show _ = _
            unfold tpart
            rw [if_pos (Nat.lt_succ_self _), ← HX.out, ← HY.out, HTV.out]
          obtain ⟨bv, hbv⟩ : ∃ bv, bv = bec B S cv nb := ⟨_, rfl⟩
          have HBX := Lib.hid (HBE.out cv nb wr.drew hn10 HCV2.out)
          rw [← hbv] at HVK HBX
          have h2 : Row wr ub 24 (rulP K B S st ra ta tn tc tu) := by rw [HWX.out]; exact HR2.out.drewN _
          have h3 : Row wr gb 26 (boxP W H (some ⟨ab, ao, none⟩) n c) := by rw [HWX.out]; exact HR3.out.drewN _
          have h4 : Row wr rb 26 noPat := by rw [HWX.out]; exact HR4.out.drewN _
          have hq : Row wr qb 26 (boxP W H (some ⟨ob, 0, none⟩) n n) := by rw [HWX.out]; exact HQ.out.drewN _
          have hv : Vec wr ob n (tpart B S W H f k) := by rw [HWX.out]; exact HV.out.drewN _
          have hb : Below w.heap.size w wr := by rw [HWX.out]; exact HB.out.trans ⟨rfl, rfl, rfl, Nat.le_refl _, fun _ _ => rfl⟩
          clear HR2 HR3 HR4 HQ HV HB HWX HZE hn9 hcn hnb hbv HTV hd hyw hyw' hW0 hW0b hWm hH0 hH0b hHm
          have HR2 := Lib.hid h2
          have HR3 := Lib.hid h3
          have HR4 := Lib.hid h4
          have HQ := Lib.hid hq
          have HV := Lib.hid hv
          have HB := Lib.hid hb
          have l0 := h2.cell 0
          have l1 := h2.cell 1
          have l2 := h2.cell 2
          have l3 := h2.cell 3
          have l4 := h2.cell 4
          have l5 := h2.cell 5
          have l6 := h2.cell 6
          have g2 := hq.cell 2
          unfold rulP at l0 l1 l2 l3 l4 l5 l6
          unfold boxP at g2
          dsimp only [List.getElem?_cons_succ, List.getElem?_cons_zero] at l0 l1 l2 l3 l4 l5 l6 g2
          clear h2 h3 h4 hq hv hb
          go_upto_region 16 with fail
          have hdr : Below wr.heap.size wr wr.drew := (Below.refl _ _).drew
          go_region_with (
            (go_at_call 33
             refine HBX.out.mono ?_
             rintro e8 w8 ⟨rfl, hb8⟩
             have cy := ((HV.out.keep hdr).keep hb8).cell HKN.out
             have zy := ((HV.out.keep hdr).keep hb8).frozen k
             have g2' := ((HQ.out.keep hdr HQ.out.lt).keep hb8 (HQ.out.keep hdr HQ.out.lt).lt).cell 2
             unfold boxP at g2'
             dsimp only [List.getElem?_cons_succ, List.getElem?_cons_zero] at g2'))
          all_goals
            have HO9 := Lib.hid (only_setCell w8 ob k (.int .i64 (bv : Nat)))
            have HV9 := Lib.hid (((HV.out.keep hdr).keep hb8).set HKN.out HVN.out HVK.out)
            have HR29 := Lib.hid (((HR2.out.keep hdr HR2.out.lt).keep hb8 (HR2.out.keep hdr HR2.out.lt).lt).other HO9.out HNO.out.1)
            have HR39 := Lib.hid (((HR3.out.keep hdr HR3.out.lt).keep hb8 (HR3.out.keep hdr HR3.out.lt).lt).other HO9.out HNO.out.2.1)
            have HR49 := Lib.hid (((HR4.out.keep hdr HR4.out.lt).keep hb8 (HR4.out.keep hdr HR4.out.lt).lt).other HO9.out HNO.out.2.2)
            have HQ9 := Lib.hid (((HQ.out.keep hdr HQ.out.lt).keep hb8 (HQ.out.keep hdr HQ.out.lt).lt).other HO9.out HQO.out)
            have HB9 := Lib.hid ((HB.out.trans ((hdr.trans (hb8.mono hdr.size)).mono HB.out.size)).trans (HO9.out.below HOW.out))
            clear HV HR2 HR3 HR4 HQ HB hb8 hdr HBX HO9 cy zy g2 g2' l0 l1 l2 l3 l4 l5 l6
            generalize w8.setCell ⟨ob, k, none⟩ (.int .i64 (bv : Nat)) = w9 at *
            go_wp2_with fail
            go_roundw
            case rel => exact ⟨k + 1, HKN.out, by go_num, HR29.out, HR39.out, HR49.out, HQ9.out, HV9.out, HB9.out⟩
            case measure => have := HKN.out; simp [RowKit.intOf]; omega
      --}
      --}
    · --{done
      obtain rfl : k = n := by omega
      have hnl : ¬ (k : Int) < (k : Int) := by omega
      have HV2 : Hid (Vec wr ob k (fun j => tor B S W H f (j % W) (j / W))) := Lib.hid (HV.out.congr fun j hj => (if_pos hj).symm)
      have l5 := row_range HQ.out
      go_wp2_with (first | (refine wpList_load_mid rfl 26 _ rfl qb 0 rfl _ _ l5 Tryd.underlying26 rfl infoPat ?_) | (refine Ops.wpList_store_arr rfl 26 _ _ rfl rb rfl 26 _ _ rfl HR4.out rfl infoPat (boxP_one _ _ _ _ _) ?_; intro w5 hrow5 hon5))
      refine bodyPost_ret (results_pat1 (t := 4) rfl _ _ hrow5 rfl rfl) rfl ⟨⟨ob, rfl, HOW.out, HV2.out.other hon5 (fun e => HNO.out.2.2 e.symm)⟩, HB.out.trans (hon5.below HRB.out.1)⟩
      --}
end Pn
end Go.Proofs.YthipeeagpllfeaaDoor
