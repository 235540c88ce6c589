/- WALK: edenref4.Flow. -/
import Derived.Test.YtekoldebcihdoaaDoorGsI
namespace Go.Proofs.YtekoldebcihdoaaDoor
set_option linter.unusedSimpArgs false
set_option linter.unusedVariables false
open Go.RowKit
namespace Gs
open Tld Mem

/-- Numbers that can be read, wherever they lie. -/
structure Rd (w : World) (b o n : Nat) (R : Nat → Nat) : Prop where
  lt : b < w.heap.size
  cell : ∀ k, k < n → w.cell? ⟨b, o + k, none⟩ = some (.int .i64 (R k : Nat))
theorem Rd.keep {w w' : World} {b o n : Nat} {R : Nat → Nat} (h : Rd w b o n R) (hb : Below w.heap.size w w') : Rd w' b o n R :=
  ⟨Nat.lt_of_lt_of_le h.lt hb.size, fun k hk => by rw [hb.cell (p := ⟨b, o + k, none⟩) h.lt]; exact h.cell k hk⟩
theorem Rd.other {w w' : World} {b o n c : Nat} {R : Nat → Nat} (h : Rd w b o n R) (ho : Only c w w') (hne : b ≠ c) : Rd w' b o n R :=
  ⟨by rw [ho.size]; exact h.lt, fun k hk => by rw [World.cell?_of_block (ho.block b hne)]; exact h.cell k hk⟩
theorem Rd.drew {w : World} {b o n : Nat} {R : Nat → Nat} (h : Rd w b o n R) : Rd w.drew b o n R := ⟨h.lt, h.cell⟩
theorem Rd.is {w : World} {b o n : Nat} {R : Nat → Nat} (h : Rd w b o n R) (hn : n ≤ maxLen) : Ints.Is w (some ⟨b, o, none⟩) n (lstN n R) where
  len := lstN_len
  cells := fun i hi => ⟨b, o, rfl, h.lt, by dsimp only; rw [lstN_get hi]; exact h.cell i hi⟩
  le := hn
theorem Vec.rd {w : World} {b n : Nat} {R : Nat → Nat} (h : Vec w b n R) : Rd w b 0 n R := ⟨h.lt, fun k hk => by rw [Nat.zero_add]; exact h.cell hk⟩

set_option maxHeartbeats 16000000 in
set_option maxRecDepth 1000000 in
theorem Flow_ref (K W H : Nat) (a : Option Addr) (n c : Nat) (zs : List Int) (ca : Option Addr) (cn cc : Nat) (cs : List Int) (m : Nat) (w : World) (hZ : Ints.Is w a n zs) (hC : Ints.Is w ca cn cs) (hf : rfault K W H zs cs m = 0) :
    Calls Tryd.prog 8 #[gas K W H a n c, .slice ca cn cc, .int .i64 m] w fun e w' => (∃ b o c', e = .returned (gas K W H (some ⟨b, o, none⟩) n c') ∧ Rd w' b o n (runG K W H (coinN cs n) (cN zs) m) ∧ ((∃ o', a = some ⟨b, o', none⟩) ∨ w.heap.size ≤ b)) ∧ Below w.heap.size w w' := by
  obtain ⟨hgf, hm0, hm1, hcb, hsix⟩ := rfault_zero hf
  obtain ⟨hsd, hsh, hcl⟩ := gfault_zero hgf
  rw [hZ.len] at hsh
  obtain ⟨hok, hn, hW, hH⟩ := ok_of hsd hsh
  have hn1 : 1 ≤ n := by rw [hn]; exact Nat.mul_pos hok.w hok.h
  have hn2 : n ≤ 10000 := by rw [hn]; exact Nat.mul_le_mul hW hH
  have hK6 : K = 4 ∨ K = 6 := by rcases hok.k with h | h; exact .inl h; exact .inr h.1
  obtain ⟨ab, ao, rfl, habl, _⟩ := hZ.cells 0 (by omega)
  have hcle := hC.le
  unfold maxLen at hcle
  have HCR := Lib.hid (cell_rng hok hcl)
  have HCB := Lib.hid hcb
  have HRD0 : Hid (Rd w ab ao n (cN zs)) := ⟨habl, fun k hk => by
    obtain ⟨b2, o2, e2, _, c2⟩ := hZ.cells k hk
    cases e2
    dsimp only at c2
    have := (cell_rng hok hcl k).1
    rw [c2]
    unfold cN
    rw [Int.toNat_of_nonneg this]⟩
  have HABW := Lib.hid habl
  have HC := Lib.hid (fun w2 (h : Below w.heap.size w w2) => hC.keep h)
  have HCN := Lib.hid hC.len
  have HN := Lib.hid hn
  have HOK := Lib.hid hok
  have HW := Lib.hid hW
  have HH := Lib.hid hH
  have HK6 := Lib.hid hK6
  have hK6' : K ≤ 6 := by omega
  have hm2 : m ≤ 100000 := by omega
  clear hZ hC hf hgf hcb hsix hsd hsh hcl hn hok hW hH hm0 hm1 hK6 habl
  have HGF := Lib.hid (fun (k d : Nat) (w2 : World) (hk : k < n) (hd : d < K) => Next_any K W H k d (some ⟨ab, ao, none⟩) n c w2 HOK.out HW.out HH.out (by rw [← HN.out]; exact hk) hd)
  unfold gas at HGF ⊢
  go_enter Tryd.func8, Tryd.ntmps8
  go_upto_region 1 with fail
  obtain ⟨hr5, hr8, hb2⟩ := two_new w 24 24 (boxG K W H (some ⟨ab, ao, none⟩) n c) noGas
  have HR5 : Hid (Row ((w.alloc (.cells #[.int .i64 K, .int .i64 W, .int .i64 H, .slice (some ⟨ab, ao, none⟩) n c] 24)).alloc (.cells #[.int .i64 0, .int .i64 0, .int .i64 0, .slice none 0 0] 24)) w.heap.size 24 (boxG K W H (some ⟨ab, ao, none⟩) n c)) := hr5
  have HR8 : Hid (Row ((w.alloc (.cells #[.int .i64 K, .int .i64 W, .int .i64 H, .slice (some ⟨ab, ao, none⟩) n c] 24)).alloc (.cells #[.int .i64 0, .int .i64 0, .int .i64 0, .slice none 0 0] 24)) (w.heap.size + 1) 24 noGas) := hr8
  have HB : Hid (Below w.heap.size w ((w.alloc (.cells #[.int .i64 K, .int .i64 W, .int .i64 H, .slice (some ⟨ab, ao, none⟩) n c] 24)).alloc (.cells #[.int .i64 0, .int .i64 0, .int .i64 0, .slice none 0 0] 24))) := hb2
  clear hr5 hr8 hb2
  generalize (w.alloc (.cells #[.int .i64 K, .int .i64 W, .int .i64 H, .slice (some ⟨ab, ao, none⟩) n c] 24)).alloc (.cells #[.int .i64 0, .int .i64 0, .int .i64 0, .slice none 0 0] 24) = w1 at *
  obtain ⟨gb, hgb⟩ : ∃ gb, gb = w.heap.size := ⟨_, rfl⟩
  rw [← hgb] at HR5 HR8 ⊢
  obtain ⟨rb, hrb⟩ : ∃ rb, rb = gb + 1 := ⟨_, rfl⟩
  rw [← hrb] at HR8 ⊢
  have HGB := Lib.hid hgb
  have HRB := Lib.hid hrb
  clear hgb hrb
  --{boxes
  have l5 : w1.rangeAt gb 0 [.int .i64 K, .int .i64 W, .int .i64 H, .slice (some ⟨ab, ao, none⟩) n c] := row_range HR5.out
  go_upto_region 2 with (refine wpList_load_mid rfl 24 _ rfl gb 0 rfl _ _ l5 Tryd.underlying24 rfl infoGas ?_)
  have hrt : Row (w1.alloc (.cells #[.int .i64 K, .int .i64 W, .int .i64 H, .slice (some ⟨ab, ao, none⟩) n c] 24)) w1.heap.size 24 (boxG K W H (some ⟨ab, ao, none⟩) n c) := row_alloc w1 _ _
  have hbt : Below w1.heap.size w1 (w1.alloc (.cells #[.int .i64 K, .int .i64 W, .int .i64 H, .slice (some ⟨ab, ao, none⟩) n c] 24)) := (Below.refl _ _).alloc (Nat.le_refl _) _
  have hl5 := HR5.out.lt
  have hl8 := HR8.out.lt
  have HR5 := Lib.hid (HR5.out.keep hbt HR5.out.lt)
  have HR8 := Lib.hid (HR8.out.keep hbt HR8.out.lt)
  have HTW : Hid (w.heap.size ≤ w1.heap.size) := Lib.hid HB.out.size
  have HB := Lib.hid (HB.out.trans (hbt.mono HB.out.size))
  have HT := Lib.hid hrt
  clear hbt hrt l5
  generalize w1.alloc (.cells #[.int .i64 K, .int .i64 W, .int .i64 H, .slice (some ⟨ab, ao, none⟩) n c] 24) = w2 at *
  obtain ⟨nb, hnb⟩ : ∃ nb, nb = w1.heap.size := ⟨_, rfl⟩
  rw [← hnb] at HT HTW hl5 hl8 ⊢
  have HTN5 : Hid (gb ≠ nb) := Lib.hid (by omega)
  have HTN8 : Hid (rb ≠ nb) := Lib.hid (by omega)
  have HRD := Lib.hid (HRD0.out.keep HB.out)
  clear hnb hl5 hl8 HRD0
  go_wp2_with fail
  --}
  go_loopw [8] (fun v wr => ∃ i b o c', i ≤ m ∧ v = .int .i64 (i : Nat) ∧ Row wr gb 24 (boxG K W H (some ⟨ab, ao, none⟩) n c) ∧ Row wr rb 24 noGas ∧ Row wr nb 24 (boxG K W H (some ⟨b, o, none⟩) n c') ∧ b ≠ nb ∧ b ≠ rb ∧ (b = ab ∨ w.heap.size ≤ b) ∧ Rd wr b o n (runG K W H (coinN cs n) (cN zs) i) ∧ Below w.heap.size w wr) (fun v _ => m - (RowKit.intOf v).toNat)
  case atStart => exact ⟨0, ab, ao, c, Nat.zero_le _, rfl, HR5.out, HR8.out, HT.out, by have := HABW.out; have := HTW.out; omega, by have := HABW.out; have := HGB.out; have := HRB.out; omega, .inl rfl, HRD.out, HB.out⟩
  case round =>
    clear HR5 HR8 HT HRD HB
    obtain ⟨i, b, o, c', hi, rfl, hr5, hr8, ht, hbn, hbr, hba, hrd, hb⟩ := hrel
    have HR5 := Lib.hid hr5
    have HR8 := Lib.hid hr8
    have HT := Lib.hid ht
    have HRD := Lib.hid hrd
    have HBN := Lib.hid hbn
    have HBR := Lib.hid hbr
    have HBA := Lib.hid hba
    have HB := Lib.hid hb
    clear hr5 hr8 ht hrd hb hbn hbr hba
    by_cases hlt : i < m
    · --{step
      have hi2 : (i : Int) < (m : Int) := by omega
      have HLT := Lib.hid hlt
      have HI5 : Hid (i ≤ 100000) := Lib.hid (by omega)
      clear hlt
      have f0 := HR5.out.cell 0
      have f1 := HR5.out.cell 1
      have f2 := HR5.out.cell 2
      unfold boxG at f0 f1 f2
      dsimp only [List.getElem?_cons_succ, List.getElem?_cons_zero] at f0 f1 f2
      go_upto_region 6 with fail
      clear f0 f1 f2
      have hrx : Row (wr.alloc (.cells #[.int .i64 K, .int .i64 W, .int .i64 H, .slice none 0 0] 24)) wr.heap.size 24 (boxG K W H none 0 0) := row_alloc wr _ _
      have hbx : Below wr.heap.size wr (wr.alloc (.cells #[.int .i64 K, .int .i64 W, .int .i64 H, .slice none 0 0] 24)) := (Below.refl _ _).alloc (Nat.le_refl _) _
      have hl5 := HR5.out.lt
      have hl8 := HR8.out.lt
      have hlt := HT.out.lt
      have hld := HRD.out.lt
      have HR5 := Lib.hid (HR5.out.keep hbx HR5.out.lt)
      have HR8 := Lib.hid (HR8.out.keep hbx HR8.out.lt)
      have HT := Lib.hid (HT.out.keep hbx HT.out.lt)
      have HRD := Lib.hid (HRD.out.keep hbx)
      have HXW : Hid (w.heap.size ≤ wr.heap.size) := Lib.hid HB.out.size
      have HB := Lib.hid (HB.out.trans (hbx.mono HB.out.size))
      have HX := Lib.hid hrx
      clear hbx hrx
      obtain ⟨xb, hxb⟩ : ∃ xb, xb = wr.heap.size := ⟨_, rfl⟩
      generalize wr.alloc (.cells #[.int .i64 K, .int .i64 W, .int .i64 H, .slice none 0 0] 24) = w3 at *
      rw [← hxb] at HX HXW hl5 hl8 hlt hld ⊢
      have HXN5 : Hid (gb ≠ xb) := Lib.hid (by omega)
      have HXN8 : Hid (rb ≠ xb) := Lib.hid (by omega)
      have HXNT : Hid (nb ≠ xb) := Lib.hid (by omega)
      have HXNB : Hid (b ≠ xb) := Lib.hid (by omega)
      clear hxb hl5 hl8 hlt hld
      have f3 := HR5.out.cell 3
      unfold boxG at f3
      dsimp only [List.getElem?_cons_succ, List.getElem?_cons_zero] at f3
      obtain ⟨i0, hI0, hz0, hz1, hz2⟩ := info_parts infoInt1
      have hl5 := HR5.out.lt
      have hl8 := HR8.out.lt
      have hlt := HT.out.lt
      have hlx := HX.out.lt
      have hld := HRD.out.lt
      go_upto_region 7 with (refine Ops.wpList_make rfl 22 _ _ rfl 3 i0 (.int .i64 0) Tryd.underlying22 hI0 hz0 rfl hz1 (by rw [hz2]; decide) n rfl rfl (by omega) ?_; intro ob w6 hob hb6 hro; (have g3 := (HX.out.keep hb6 HX.out.lt).cell 3); (have z3 := (HX.out.keep hb6 HX.out.lt).frozen 3); unfold boxG at g3; dsimp only [List.getElem?_cons_succ, List.getElem?_cons_zero] at g3)
      have hr5 := HR5.out.keep hb6 HR5.out.lt
      have hr8 := HR8.out.keep hb6 HR8.out.lt
      have ht := HT.out.keep hb6 HT.out.lt
      have hx := HX.out.keep hb6 HX.out.lt
      have hrd := HRD.out.keep hb6
      have HN5 : Hid (gb ≠ ob) := Lib.hid (by omega)
      have HN8 : Hid (rb ≠ ob) := Lib.hid (by omega)
      have HNT : Hid (nb ≠ ob) := Lib.hid (by omega)
      have HNX : Hid (xb ≠ ob) := Lib.hid (by omega)
      have HNB : Hid (b ≠ ob) := Lib.hid (by omega)
      have HOW : Hid (w.heap.size ≤ ob) := Lib.hid (Nat.le_trans HB.out.size hob)
      have hb := HB.out.trans (hb6.mono HB.out.size)
      have hu := vec_made hro
      have HO := Lib.hid (only_setCell w6 xb 3 (.slice (some ⟨ob, 0, none⟩) n n))
      have HR5 := Lib.hid (hr5.other HO.out HXN5.out)
      have HR8 := Lib.hid (hr8.other HO.out HXN8.out)
      have HT := Lib.hid (ht.other HO.out HXNT.out)
      have HRD := Lib.hid (hrd.other HO.out HXNB.out)
      have HX : Hid (Row (w6.setCell ⟨xb, 3, none⟩ (.slice (some ⟨ob, 0, none⟩) n n)) xb 24 (boxG K W H (some ⟨ob, 0, none⟩) n n)) := hx.set 3 (.slice (some ⟨ob, 0, none⟩) n n)
      have HU0 := Lib.hid (hu.other HO.out (fun e => HNX.out e.symm))
      have HB := Lib.hid (hb.trans (HO.out.below HXW.out))
      clear hob hb6 hro f3 hl5 hl8 hlt hlx hld hI0 hz0 hz1 hz2 hr5 hr8 ht hx hrd hb hu HO g3 z3
      generalize w6.setCell ⟨xb, 3, none⟩ (.slice (some ⟨ob, 0, none⟩) n n) = w7 at *
      obtain ⟨R, hR⟩ : ∃ R, R = runG K W H (coinN cs n) (cN zs) i := ⟨_, rfl⟩
      rw [← hR] at HRD
      have HRE := Lib.hid hR
      have HRL : Hid (∀ k, R k < 2 ^ K) := fun k => by rw [HRE.out]; exact runG_lt (fun k => (HCR.out k).2) i k
      obtain ⟨F, hF⟩ : ∃ F : Nat → Nat, F = fun k => met K (R k) (coinN cs n i k) := ⟨_, rfl⟩
      have HFE := Lib.hid hF
      have HFL : Hid (∀ k, F k < 64) := fun k => by rw [HFE.out]; exact pow_lt HOK.out (met_lt HOK.out (HRL.out k))
      clear hR hF
      have HU : Hid (Vec w7 ob n (outS K W H id F 0 0)) := HU0.out.congr fun k hk => outS_zero
      clear HU0
      go_wp2_with fail
      go_loopw [10] (fun v wr => ∃ k, k ≤ n ∧ v = .int .i64 (k : Nat) ∧ Row wr gb 24 (boxG K W H (some ⟨ab, ao, none⟩) n c) ∧ Row wr rb 24 noGas ∧ Row wr nb 24 (boxG K W H (some ⟨b, o, none⟩) n c') ∧ Row wr xb 24 (boxG K W H (some ⟨ob, 0, none⟩) n n) ∧ Rd wr b o n R ∧ Vec wr ob n (outS K W H id F k 0) ∧ Below w.heap.size w wr) (fun v _ => n - (RowKit.intOf v).toNat)
      case atStart => exact ⟨0, Nat.zero_le _, rfl, HR5.out, HR8.out, HT.out, HX.out, HRD.out, HU.out, HB.out⟩
      case round =>
        clear HR5 HR8 HT HX HRD HU HB
        obtain ⟨k, hk, rfl, hr5, hr8, ht, hx, hrd, hu, hb⟩ := hrel
        have HR5 := Lib.hid hr5
        have HR8 := Lib.hid hr8
        have HT := Lib.hid ht
        have HX := Lib.hid hx
        have HRD := Lib.hid hrd
        have HU := Lib.hid hu
        have HB := Lib.hid hb
        clear hr5 hr8 ht hx hrd hu hb
        have f0 := HR5.out.cell 0
        have f3 := HR5.out.cell 3
        unfold boxG at f0 f3
        dsimp only [List.getElem?_cons_succ, List.getElem?_cons_zero] at f0 f3
        by_cases hkn : k < n
        · --{cell
          have hk2 : (k : Int) < (n : Int) := by omega
          have HKN := Lib.hid hkn
          have cg := HRD.out.cell k hkn
          obtain ⟨q, hq⟩ : ∃ q, q = coinN cs n i k := ⟨_, rfl⟩
          have HQ := Lib.hid hq
          clear hkn hq
          go_upto_if 42 with fail
          go_cut [11] (fun v wx => v = .int .i64 (q : Nat) ∧ wx = wr)
          case first =>
            --{coin
            by_cases hc0 : cn = 0
            · have HE : Hid (q = 0) := by
                show _ = _
                rw [HQ.out]
                unfold coinN
                rw [if_pos (by rw [HCN.out]; exact hc0)]
              subst hc0
              go_wp2_with fail
              go_meet
              case rel => exact ⟨by rw [HE.out]; rfl, rfl⟩
            · have hcp : (0 : Int) < (cn : Int) := by omega
              have hc1 : ¬ (cn : Int) = 0 := by omega
              have hc2 : ((cn : Int) == 0) = false := beq_eq_false_iff_ne.2 hc1
              have hc3 : ¬ (cn : Int) = -1 := by omega
              obtain ⟨p, hp⟩ : ∃ p, p = i * n := ⟨_, rfl⟩
              have hpi : (i : Int) * (n : Int) = (p : Int) := by rw [hp]; push_cast; rfl
              have hpl : p ≤ 1000000000 := by rw [hp]; exact Nat.mul_le_mul HI5.out hn2
              obtain ⟨x, hx⟩ : ∃ x, x = (p + k) % cn := ⟨_, rfl⟩
              have hxm : ((p : Int) + (k : Int)).tmod (cn : Int) = (x : Int) := by
                rw [hx, show ((p : Int) + (k : Int)) = ((p + k : Nat) : Int) by push_cast; rfl]
                exact Int.ofNat_tmod _ _
              have hxc : x < cn := by rw [hx]; exact Nat.mod_lt _ (by omega)
              have hxc2 : (x : Int) < (cn : Int) := by omega
              obtain ⟨qb, qo, rfl, _, hqc⟩ := (HC.out wr HB.out).cells x hxc
              dsimp only at hqc
              have HE : Hid (cs.getD x 0 = (q : Nat)) := by
                show _ = _
                rw [HQ.out]
                unfold coinN
                rw [if_neg (by rw [HCN.out]; exact hc0), HCN.out, ← hp, ← hx]
                have := coin_rng HCB.out x
                omega
              rw [HE.out] at hqc
              clear hp hx hxc hc0
              go_wp2_with fail
              go_meet
              case rel => exact ⟨rfl, rfl⟩
            --}
          case rest =>
          obtain ⟨rfl, hwx⟩ := hcut
          rw [hwx]
          clear hwx
          have HME : Hid (∀ w2, Calls Tryd.prog 23 #[.int .i64 K, .int .i64 (R k : Nat), .int .i64 (q : Nat)] w2 fun e w' => e = .returned (.int .i64 (F k : Nat)) ∧ w' = w2) := Lib.hid (fun w2 => by
            have h1 := HRL.out k
            have h2 := coinN_lt HCB.out n i k
            have h3 := Met_any K (R k) q w2 (by
              rcases HK6.out with rfl | rfl
              · exact .inl ⟨rfl, h1⟩
              · exact .inr ⟨rfl, h1⟩) (by rw [HQ.out]; omega)
            have e : F k = met K (R k) q := by rw [HQ.out]; exact congrFun HFE.out k
            rw [e]
            exact h3)
          have t3 := HT.out.cell 3
          unfold boxG at t3
          dsimp only [List.getElem?_cons_succ, List.getElem?_cons_zero] at t3
          obtain ⟨mv, hmv⟩ : ∃ mv, mv = F k := ⟨_, rfl⟩
          rw [← hmv] at HME
          have hm64 : mv < 64 := by rw [hmv]; exact HFL.out k
          have HMV := Lib.hid hmv
          clear hmv
          go_upto_region 13 with fail
          go_cut [12] (fun v wx => v = .int .i64 (mv : Nat) ∧ wx = wr.drew)
          case first =>
            go_region_with (
              (go_at_call 23
               refine (HME.out _).mono ?_
               rintro e8 w8 ⟨rfl, hw8⟩
               rw [hw8]))
            all_goals
              go_wp2_with fail
              go_meet
              case rel => exact ⟨rfl, rfl⟩
          case rest =>
          obtain ⟨rfl, hwx⟩ := hcut
          rw [hwx]
          have HR5 := Lib.hid HR5.out.drew
          have HR8 := Lib.hid HR8.out.drew
          have HT := Lib.hid HT.out.drew
          have HX := Lib.hid HX.out.drew
          have HRD := Lib.hid HRD.out.drew
          have HU := Lib.hid HU.out.drew
          have HB := Lib.hid HB.out.drew
          clear hwx HME t3 cg f0 f3
          generalize wr.drew = w8 at *
          go_wp2_with fail
          go_loopw [12, 13] (fun u v wr => ∃ d q, d ≤ K ∧ v = .int .i64 (d : Nat) ∧ u = .int .i64 (q : Nat) ∧ q = mv / 2 ^ d ∧ q < 64 ∧ Row wr gb 24 (boxG K W H (some ⟨ab, ao, none⟩) n c) ∧ Row wr rb 24 noGas ∧ Row wr nb 24 (boxG K W H (some ⟨b, o, none⟩) n c') ∧ Row wr xb 24 (boxG K W H (some ⟨ob, 0, none⟩) n n) ∧ Rd wr b o n R ∧ Vec wr ob n (outS K W H id F k d) ∧ Below w.heap.size w wr) (fun _ v _ => K - (RowKit.intOf v).toNat)
          case atStart => exact ⟨0, mv, Nat.zero_le _, rfl, rfl, by simp, hm64, HR5.out, HR8.out, HT.out, HX.out, HRD.out, HU.out, HB.out⟩
          case round =>
            clear HR5 HR8 HT HX HRD HU HB
            obtain ⟨d, q, hd, rfl, rfl, hq, hq64, hr5, hr8, ht, hx, hrd, hu, hb⟩ := hrel
            have HR5 := Lib.hid hr5
            have HR8 := Lib.hid hr8
            have HT := Lib.hid ht
            have HX := Lib.hid hx
            have HRD := Lib.hid hrd
            have HU := Lib.hid hu
            have HB := Lib.hid hb
            have HQE := Lib.hid hq
            clear hr5 hr8 ht hx hrd hu hb
            have f0 := HR5.out.cell 0
            unfold boxG at f0
            dsimp only [List.getElem?_cons_succ, List.getElem?_cons_zero] at f0
            by_cases hdk : d < K
            · --{bit
              have hd2 : (d : Int) < (K : Int) := by omega
              have HDK := Lib.hid hdk
              have HKW : Hid (k < W * H) := Lib.hid (by rw [← HN.out]; exact HKN.out)
              have hqm : (q : Int).tmod 2 = ((q % 2 : Nat) : Int) := Int.ofNat_tmod _ _
              have hqd : (q : Int).tdiv 2 = ((q / 2 : Nat) : Int) := Int.ofNat_tdiv _ _
              have hqb : q % 2 = bit mv d := by rw [hq]; rfl
              obtain ⟨s, hs⟩ : ∃ s, s = q / 2 := ⟨_, rfl⟩
              rw [← hs] at hqd
              have HS : Hid (s = mv / 2 ^ (d + 1) ∧ s < 64) := ⟨by rw [hs, hq, bit_step], by omega⟩
              rw [hqb] at hqm
              clear hs hq
              by_cases hbit : bit mv d = 1
              · rw [hbit] at hqm
                obtain ⟨j, hj⟩ : ∃ j, j = nxt K W H k d := ⟨_, rfl⟩
                have hjn : j < n := by rw [hj, HN.out]; exact nxt_lt HOK.out
                obtain ⟨y, hy⟩ : ∃ y, y = outS K W H id F k d j := ⟨_, rfl⟩
                have hy64 : y < 64 := by rw [hy]; exact pow_lt HOK.out outS_lt
                have HNXT := Lib.hid (fun w2 => HGF.out k d w2 HKN.out hdk)
                rw [← hj] at HNXT
                have HY : Hid (∀ k', k' < n → k' ≠ j → outS K W H id F k (d + 1) k' = outS K W H id F k d k') := fun k' hk' hne => outS_else (r := id) HOK.out (ord_id K) HKW.out (by rw [← HN.out]; exact hk') hdk (fun e => hne (by rw [e, hj]; rfl))
                have HY2 : Hid (outS K W H id F k (d + 1) j = y + 2 ^ d) := by
                  show _ = _
                  rw [hy, hj]
                  exact outS_hit (r := id) HOK.out (ord_id K) HKW.out hdk (by rw [← HMV.out]; exact hbit)
                have hpl := pow_le6 (i := d) (by omega)
                have HPW := Lib.hid (fun w2 => power_any d w2 (by omega))
                generalize 2 ^ d = pw at HPW HY2 hpl
                have hj2 : (j : Int) < (n : Int) := by omega
                have HJN := Lib.hid hjn
                have HYE := Lib.hid hy
                have l5 := row_range HR5.out
                clear hbit hj hjn hy hdk HGF hqb
                go_wp2_with (refine wpList_load_mid rfl 24 _ rfl gb 0 rfl _ _ l5 Tryd.underlying24 rfl infoGas ?_)
                refine (HNXT.out wr).mono ?_
                rintro e7 w7 ⟨rfl, hb7⟩
                have HR5 := Lib.hid (HR5.out.keep hb7 HR5.out.lt)
                have HR8 := Lib.hid (HR8.out.keep hb7 HR8.out.lt)
                have HT := Lib.hid (HT.out.keep hb7 HT.out.lt)
                have HX := Lib.hid (HX.out.keep hb7 HX.out.lt)
                have HRD := Lib.hid (HRD.out.keep hb7)
                have HU := Lib.hid (HU.out.keep hb7)
                have HB := Lib.hid (HB.out.trans (hb7.mono HB.out.size))
                clear hb7 l5 f0 HNXT
                go_upto_region 19 with fail
                have g3 := HX.out.cell 3
                unfold boxG at g3
                dsimp only [List.getElem?_cons_succ, List.getElem?_cons_zero] at g3
                have cy := HU.out.cell HJN.out
                have zy := HU.out.frozen j
                rw [← HYE.out] at cy
                obtain ⟨yy, hyy⟩ : ∃ yy, yy = y + pw := ⟨_, rfl⟩
                have u1 : IntKind.i64.wrap ((y : Int) + (pw : Int)) = ((yy : Nat) : Int) := by rw [IntKind.wrap_i64, hyy]; omega
                rw [← hyy] at HY2
                have ho9 := only_setCell w7 ob j (.int .i64 (yy : Nat))
                have HU9 := Lib.hid (HU.out.set HJN.out HY.out HY2.out).drew
                have HR59 := Lib.hid (HR5.out.other ho9 HN5.out).drew
                have HR89 := Lib.hid (HR8.out.other ho9 HN8.out).drew
                have HT9 := Lib.hid (HT.out.other ho9 HNT.out).drew
                have HX9 := Lib.hid (HX.out.other ho9 HNX.out).drew
                have HRD9 := Lib.hid (HRD.out.other ho9 HNB.out).drew
                have HB9 := Lib.hid ((HB.out.trans (ho9.below HOW.out)).trans (Below.refl _ _).drew)
                clear ho9 hyy hy64 hpl HU HR5 HR8 HT HX HRD HB
                go_cut [] (fun wx => wx = (w7.setCell ⟨ob, j, none⟩ (.int .i64 (yy : Nat))).drew)
                case first =>
                  go_region_with (
                    (go_at_call 25
                     refine (HPW.out _).mono ?_
                     rintro e8 w8 ⟨rfl, hw8⟩
                     rw [hw8]))
                  all_goals
                    go_wp2_with fail
                    go_meet
                    case rel => rfl
                case rest =>
                subst hcut
                clear g3 cy zy u1 HPW
                generalize (w7.setCell ⟨ob, j, none⟩ (.int .i64 (yy : Nat))).drew = w9 at *
                go_wp2_with fail
                go_roundw
                case rel => exact ⟨d + 1, s, HDK.out, by go_num, congrArg (Value.int .i64) (by have := HS.out.2; unfold wrap64; omega), HS.out.1, HS.out.2, HR59.out, HR89.out, HT9.out, HX9.out, HRD9.out, HU9.out, HB9.out⟩
                case measure => have := HDK.out; simp [RowKit.intOf]; omega
              · have hb0 : bit mv d = 0 := by have := bit_le mv d; omega
                rw [hb0] at hqm
                have HUN : Hid (Vec wr ob n (outS K W H id F k (d + 1))) := HU.out.congr fun k' hk' => outS_skip (r := id) HOK.out (ord_id K) HKW.out hdk (by rw [← HMV.out]; exact hb0) (by rw [← HN.out]; exact hk')
                clear hbit hb0 HU hqb
                go_wp2_with fail
                go_roundw
                case rel => exact ⟨d + 1, s, HDK.out, by go_num, congrArg (Value.int .i64) (by have := HS.out.2; unfold wrap64; omega), HS.out.1, HS.out.2, HR5.out, HR8.out, HT.out, HX.out, HRD.out, HUN.out, HB.out⟩
                case measure => have := HDK.out; simp [RowKit.intOf]; omega
              --}
            · have hdK : d = K := by omega
              have hnl : ¬ (d : Int) < (K : Int) := by omega
              have HUN : Hid (Vec wr ob n (outS K W H id F (k + 1) 0)) := HU.out.congr fun k' hk' => by
                rw [hdK]
                exact (outS_cell (ord_id K)).symm
              clear HU hdK hdk hq
              go_wp2_with fail
              go_roundw
              case rel => exact ⟨k + 1, HKN.out, by go_num, HR5.out, HR8.out, HT.out, HX.out, HRD.out, HUN.out, HB.out⟩
              case measure => have := HKN.out; simp [RowKit.intOf]; omega
          --}
        · --{cdone
          obtain rfl : k = n := by omega
          have hnl : ¬ (k : Int) < (k : Int) := by omega
          have HUN : Hid (Vec wr ob k (runG K W H (coinN cs k) (cN zs) (i + 1))) := HU.out.congr fun k' hk' => by
            rw [runG_next, ← HRE.out, ← HFE.out]
            have := outS_all (r := id) (f := F) (j := k') HOK.out
            rw [← HN.out] at this
            exact this.symm
          have l5 := row_range HX.out
          go_wp2_with (first | (refine wpList_load_mid rfl 24 _ rfl xb 0 rfl _ _ l5 Tryd.underlying24 rfl infoGas ?_) | (refine Ops.wpList_store_arr rfl 24 _ _ rfl nb rfl 24 _ _ rfl HT.out rfl infoGas (boxG_one _ _ _ _ _ _) ?_; intro w5 hrow5 hon5))
          have HR59 := Lib.hid (HR5.out.other hon5 HTN5.out)
          have HR89 := Lib.hid (HR8.out.other hon5 HTN8.out)
          have HUN9 := Lib.hid (HUN.out.other hon5 (fun e => HNT.out e.symm)).rd
          have HB9 := Lib.hid (HB.out.trans (hon5.below HTW.out))
          go_roundw
          case rel => exact ⟨i + 1, ob, 0, k, HLT.out, by go_num, HR59.out, HR89.out, hrow5, fun e => HNT.out e.symm, fun e => HN8.out e.symm, .inr HOW.out, HUN9.out, HB9.out⟩
          case measure => have := HLT.out; simp [RowKit.intOf]; omega
          --}
      --}
    · --{done
      obtain rfl : i = m := by omega
      have hnl : ¬ (i : Int) < (i : Int) := by omega
      have l5 := row_range HT.out
      go_wp2_with (first | (refine wpList_load_mid rfl 24 _ rfl nb 0 rfl _ _ l5 Tryd.underlying24 rfl infoGas ?_) | (refine Ops.wpList_store_arr rfl 24 _ _ rfl rb rfl 24 _ _ rfl HR8.out rfl infoGas (boxG_one _ _ _ _ _ _) ?_; intro w5 hrow5 hon5))
      refine bodyPost_ret (results_gas1 (t := 6) rfl _ _ hrow5 rfl rfl) rfl ⟨⟨b, o, ⟨c', rfl⟩, HRD.out.other hon5 HBR.out, HBA.out.elim (fun h => .inl (by first | exact ⟨ao, by rw [h]⟩ | exact h.symm | exact h | simp [h])) .inr⟩, HB.out.trans (hon5.below (by have := HGB.out; have := HRB.out; omega))⟩
      --}
end Gs
end Go.Proofs.YtekoldebcihdoaaDoor
