/- WALK: the document's edenref1.Turn. -/
import Derived.Test.YtgagophijmiceaaDoorPwTr
import Derived.Test.YtgagophijmiceaaDoorPwB
import Derived.Test.YtgagophijmiceaaDoorPnE
import Derived.Test.YtgagophijmiceaaDoorPnK
import Derived.Deep.CutBlock
namespace Go.Proofs.YtgagophijmiceaaDoor
set_option linter.unusedSimpArgs false
set_option linter.unusedVariables false
open Go.RowKit
namespace Pw
open Tld Mem Bl Pn

theorem sub_nums {M x : Nat} (hx : x < M) (hM : M ≤ 200) : ∃ M1 d : Nat, d = M - 1 - x ∧ wrap64 ((M : Int) - 1) = (M1 : Int) ∧ wrap64 ((M1 : Int) - (x : Int)) = (d : Int) :=
  ⟨M - 1, M - 1 - x, rfl, wr_nat (by omega) (by omega), wr_nat (by omega) (by omega)⟩

set_option maxHeartbeats 16000000 in
set_option maxRecDepth 1000000 in
theorem rturn_any (W H k : Nat) (a : Option Addr) (n c : Nat) (f : Nat → Nat → Nat) (w : World) (hZ : Ints.Is w a n (flat W H f)) (hn : n = W * H) (hW : W ≤ 100) (hH : H ≤ 100) (hk : k < 8) :
    Calls Tryd.prog 27 #[.agg #[.int .i64 W, .int .i64 H, .slice a n c], .int .i64 k] w fun e w' => (∃ a' c', e = .returned (.agg #[.int .i64 (qW W H (k % 4) : Nat), .int .i64 (qH W H (k % 4) : Nat), .slice a' n c']) ∧ n ≤ c' ∧ Ints.Is w' a' n (flat (qW W H (k % 4)) (qH W H (k % 4)) (tF W H f k)) ∧ ∀ b o, a' = some ⟨b, o, none⟩ → w.heap.size ≤ b) ∧ Below w.heap.size w w' := by
  obtain ⟨i0, hI0, hz0, hz1, hz2⟩ := info_parts infoIntV
  have HI0 := Lib.hid hI0
  have HZ0 := Lib.hid hz0
  have HZ1 := Lib.hid hz1
  have HZ2 := Lib.hid hz2
  have HAT := Lib.hid (fun w2 (h : Below w.heap.size w w2) (x y : Nat) (hx : x < W) (hy : y < H) => (at_any W H a n c f x y w2 (hZ.keep h) hn (by omega) (by omega)))
  have HN := Lib.hid hn
  have HWB := Lib.hid hW
  have HHB := Lib.hid hH
  have HK8 := Lib.hid hk
  obtain ⟨QW, hQW⟩ : ∃ QW, QW = qW W H (k % 4) := ⟨_, rfl⟩
  obtain ⟨QH, hQH⟩ : ∃ QH, QH = qH W H (k % 4) := ⟨_, rfl⟩
  have hql := q_le hW hH (k % 4)
  rw [← hQW, ← hQH] at hql
  have HQL := Lib.hid hql
  have HQM : Hid (QW * QH = n) := Lib.hid (by rw [hQW, hQH, q_mul, hn])
  have HFL : Hid (flat (qW W H (k % 4)) (qH W H (k % 4)) (tF W H f k) = flat QW QH (rT W H f k)) := Lib.hid (by rw [rT_flat, hQW, hQH])
  have HSL : Hid (∀ x y, x < QW → y < QH → sA W H k x y < W ∧ sB W H k x y < H) := Lib.hid (fun x y hx hy => sA_lt (by rw [← hQW]; exact hx) (by rw [← hQH]; exact hy))
  obtain ⟨F, hF⟩ : ∃ F : Nat → Nat, F = fun z => rT W H f k (z % QW) (z / QW) := ⟨_, rfl⟩
  have HFE := Lib.hid hF
  have hk2 : (k : Int).tmod 2 = ((k % 2 : Nat) : Int) := Int.ofNat_tmod _ _
  have hk4 : (k : Int).tmod 4 = ((k % 4 : Nat) : Int) := Int.ofNat_tmod _ _
  have HK4 := Lib.hid hk4
  have HQW := Lib.hid hQW
  have HQH := Lib.hid hQH
  rw [HFL.out, ← hQW, ← hQH]
  clear hZ hn hW hH hF hI0 hz0 hz1 hz2 hQW hQH hql hk4 hk
  go_enter Tryd.func27, Tryd.ntmps27
  go_upto_region 1 with fail
  obtain ⟨hr2, hr3, hb2⟩ := two_new w 35 35 (boxP W H a n c) noPat
  have HP : Hid (Row ((w.alloc (.cells #[.int .i64 W, .int .i64 H, .slice a n c] 35)).alloc (.cells #[.int .i64 0, .int .i64 0, .slice none 0 0] 35)) w.heap.size 35 (boxP W H a n c)) := hr2
  have HR : Hid (Row ((w.alloc (.cells #[.int .i64 W, .int .i64 H, .slice a n c] 35)).alloc (.cells #[.int .i64 0, .int .i64 0, .slice none 0 0] 35)) (w.heap.size + 1) 35 noPat) := hr3
  have HB : Hid (Below w.heap.size w ((w.alloc (.cells #[.int .i64 W, .int .i64 H, .slice a n c] 35)).alloc (.cells #[.int .i64 0, .int .i64 0, .slice none 0 0] 35))) := hb2
  clear hr2 hr3 hb2
  generalize (w.alloc (.cells #[.int .i64 W, .int .i64 H, .slice a n c] 35)).alloc (.cells #[.int .i64 0, .int .i64 0, .slice none 0 0] 35) = w1 at *
  obtain ⟨pb, hpb⟩ : ∃ pb, pb = w.heap.size := ⟨_, rfl⟩
  rw [← hpb] at HP HR ⊢
  obtain ⟨rb, hrb⟩ : ∃ rb, rb = pb + 1 := ⟨_, rfl⟩
  rw [← hrb] at HR ⊢
  have HRB : Hid (w.heap.size ≤ rb) := Lib.hid (by omega)
  clear hpb hrb
  have p0 := HP.out.cell 0
  have p1 := HP.out.cell 1
  unfold boxP at p0 p1
  dsimp only [List.getElem?_cons_succ, List.getElem?_cons_zero] at p0 p1
  go_upto_region 2 with fail
  have hq0 : Row (w1.alloc (.cells #[.int .i64 W, .int .i64 H, .slice none 0 0] 35)) w1.heap.size 35 (boxP W H none 0 0) := row_alloc w1 _ _
  have hb4 : Below w1.heap.size w1 (w1.alloc (.cells #[.int .i64 W, .int .i64 H, .slice none 0 0] 35)) := (Below.refl _ _).alloc (Nat.le_refl _) _
  have hbs := HB.out.size
  have hl1 := HP.out.lt
  have hl2 := HR.out.lt
  have HP := Lib.hid (HP.out.keep hb4 HP.out.lt)
  have HR := Lib.hid (HR.out.keep hb4 HR.out.lt)
  have HB := Lib.hid (HB.out.trans (hb4.mono HB.out.size))
  have HQ := Lib.hid hq0
  obtain ⟨qb, hqb⟩ : ∃ qb, qb = w1.heap.size := ⟨_, rfl⟩
  rw [← hqb] at HQ ⊢
  have HNE : Hid (w.heap.size ≤ qb ∧ pb ≠ qb ∧ rb ≠ qb) := Lib.hid (by omega)
  clear hqb hq0 hb4 hbs hl1 hl2 p0 p1
  generalize w1.alloc (.cells #[.int .i64 W, .int .i64 H, .slice none 0 0] 35) = w2 at *
  go_upto_if 18 with fail
  go_cut [] (fun wx => Row wx pb 35 (boxP W H a n c) ∧ Row wx rb 35 noPat ∧ Row wx qb 35 (boxP (QW : Nat) (QH : Nat) none 0 0) ∧ Below w.heap.size w wx)
  case first =>
    have p0 := HP.out.cell 0
    have p1 := HP.out.cell 1
    have g0 := HQ.out.cell 0
    have g1 := HQ.out.cell 1
    have z0 := HQ.out.frozen 0
    have z1 := HQ.out.frozen 1
    unfold boxP at p0 p1 g0 g1
    dsimp only [List.getElem?_cons_succ, List.getElem?_cons_zero] at p0 p1 g0 g1
    by_cases hodd : k % 2 = 1
    · have hk2a : (k : Int) % 2 = 1 := by omega
      have HE : Hid (QW = H ∧ QH = W) := Lib.hid (by rw [HQW.out, HQH.out]; unfold qW qH; rw [if_neg (by omega), if_neg (by omega)]; exact ⟨rfl, rfl⟩)
      have ho1 := only_setCell w2 qb 0 (.int .i64 H)
      have ho2 := only_setCell (w2.setCell ⟨qb, 0, none⟩ (.int .i64 H)) qb 1 (.int .i64 W)
      have HQ1 : Hid (Row (w2.setCell ⟨qb, 0, none⟩ (.int .i64 H)) qb 35 (boxP H H none 0 0)) := Lib.hid (HQ.out.set 0 (.int .i64 H))
      have HQ2 : Hid (Row ((w2.setCell ⟨qb, 0, none⟩ (.int .i64 H)).setCell ⟨qb, 1, none⟩ (.int .i64 W)) qb 35 (boxP H W none 0 0)) := Lib.hid (HQ1.out.set 1 (.int .i64 W))
      have HP2 := Lib.hid ((HP.out.other ho1 HNE.out.2.1).other ho2 HNE.out.2.1)
      have HR2 := Lib.hid ((HR.out.other ho1 HNE.out.2.2).other ho2 HNE.out.2.2)
      have HB2 := Lib.hid ((HB.out.trans (ho1.below HNE.out.1)).trans (ho2.below HNE.out.1))
      have p0a := (HP.out.other ho1 HNE.out.2.1).cell 0
      have g1a := HQ1.out.cell 1
      have z1a := HQ1.out.frozen 1
      unfold boxP at p0a g1a
      dsimp only [List.getElem?_cons_succ, List.getElem?_cons_zero] at p0a g1a
      clear ho1 ho2 hodd
      go_wp2_with fail
      go_meet
      case rel => exact ⟨HP2.out, HR2.out, by rw [HE.out.1, HE.out.2]; exact HQ2.out, HB2.out⟩
    · have hev : k % 2 = 0 := by omega
      have hk2a : (k : Int) % 2 = 0 := by omega
      have HE : Hid (QW = W ∧ QH = H) := Lib.hid (by rw [HQW.out, HQH.out]; unfold qW qH; rw [if_pos (by omega), if_pos (by omega)]; exact ⟨rfl, rfl⟩)
      clear hodd hev
      go_wp2_with fail
      go_meet
      case rel => exact ⟨HP.out, HR.out, by rw [HE.out.1, HE.out.2]; exact HQ.out, HB.out⟩
  case rest =>
  clear HP HR HQ HB
  obtain ⟨hp, hr, hq, hb⟩ := hcut
  clear hk2
  have HT : Hid (TSt w _ pb pb rb qb 35 35 35 (boxP W H a n c) (boxP W H a n c) noPat (QW : Nat) (QH : Nat) F 0 (.slice none 0 0)) := Lib.hid ⟨hp, hp, hr, hq, by rw [lstN_zero]; exact own_nil _ _, hb, ⟨HNE.out.1, HNE.out.2.1, HNE.out.2.1, HNE.out.2.2⟩, ⟨by decide, by decide, by decide⟩⟩
  clear hp hr hq hb
  go_wp2_with fail
  go_loopw [6] (fun v wr => ∃ j z : Nat, ∃ vs : Value, j ≤ QH ∧ v = .int .i64 ((j : Nat) : Int) ∧ z = j * QW ∧ TSt w wr pb pb rb qb 35 35 35 (boxP W H a n c) (boxP W H a n c) noPat (QW : Nat) (QH : Nat) F (z) vs) (fun v _ => QH - (RowKit.intOf v).toNat)
  case atStart => exact ⟨0, 0, _, Nat.zero_le _, rfl, (Nat.zero_mul _).symm, HT.out⟩
  case round =>
    clear HT
    obtain ⟨j, z, vs, hj, rfl, hz, ht⟩ := hrel
    have HT := Lib.hid ht
    have HZE := Lib.hid hz
    clear ht hz
    have q0 := HT.out.q.cell 0
    have q1 := HT.out.q.cell 1
    have q2 := HT.out.q.cell 2
    dsimp only [List.getElem?_cons_succ, List.getElem?_cons_zero] at q0 q1 q2
    by_cases hjH : j < QH
    · have hj2 : (j : Int) < (QH : Int) := by omega
      have HJH := Lib.hid hjH
      go_wp2_with fail
      clear q0 q1 q2 hj2
      go_loopw [7] (fun v wr => ∃ i z : Nat, ∃ vs : Value, i ≤ QW ∧ v = .int .i64 ((i : Nat) : Int) ∧ z = j * QW + i ∧ TSt w wr pb pb rb qb 35 35 35 (boxP W H a n c) (boxP W H a n c) noPat (QW : Nat) (QH : Nat) F (z) vs) (fun v _ => QW - (RowKit.intOf v).toNat)
      case atStart => exact ⟨0, z, vs, Nat.zero_le _, rfl, HZE.out, HT.out⟩
      case round =>
        clear HT HZE z vs
        obtain ⟨i, z, vs, hi, rfl, hz, ht⟩ := hrel
        have HT := Lib.hid ht
        have HZE := Lib.hid hz
        clear ht hz
        have p0 := HT.out.g.cell 0
        have p1 := HT.out.g.cell 1
        have p2 := HT.out.g.cell 2
        unfold boxP at p0 p1 p2
        dsimp only [List.getElem?_cons_succ, List.getElem?_cons_zero] at p0 p1 p2
        have q0 := HT.out.q.cell 0
        have q1 := HT.out.q.cell 1
        have q2 := HT.out.q.cell 2
        dsimp only [List.getElem?_cons_succ, List.getElem?_cons_zero] at q0 q1 q2
        by_cases hiW : i < QW
        · have hi2 : (i : Int) < (QW : Int) := by omega
          have HIW := Lib.hid hiW
          have hab := HSL.out i j hiW hjH
          have HAB := Lib.hid hab
          have HZB : Hid (z + 1 ≤ 40000) := Lib.hid (by
            have h1 := at_lt hiW hjH
            rw [HZE.out]
            have h2 : QW * QH ≤ 100 * 100 := Nat.mul_le_mul HQL.out.1 HQL.out.2
            omega)
          have HFK0 : Hid (F z = rT W H f k i j) := Lib.hid (by rw [HFE.out, HZE.out]; show rT W H f k ((j * QW + i) % QW) ((j * QW + i) / QW) = _; rw [at_mod hiW, at_div hiW])
          have HZN : Hid (z + 1 = j * QW + (i + 1)) := Lib.hid (by rw [HZE.out]; rfl)
          have E3 : Hid (wrap64 ((i : Int) + 1) = ((i + 1 : Nat) : Int)) := Lib.hid (wr_nat (by push_cast; rfl) (by have := HQL.out; omega))
          obtain ⟨sa, hsa⟩ : ∃ sa, sa = sA W H k i j := ⟨_, rfl⟩
          obtain ⟨sb, hsb⟩ : ∃ sb, sb = sB W H k i j := ⟨_, rfl⟩
          have HSA := Lib.hid hsa
          have HSB := Lib.hid hsb
          have HIJ : Hid (i < qW W H (k % 4) ∧ j < qH W H (k % 4)) := Lib.hid ⟨by rw [← HQW.out]; exact hiW, by rw [← HQH.out]; exact hjH⟩
          clear hi hab hsa hsb
          go_upto_block 4 with fail
          clear hi2 q0 q1 q2
          try generalize decide (i < QW) = qx at *
          try generalize decide ((i : Int) < (QW : Int)) = qx at *
          go_cut [8, 9] (fun v8 v9 wx => v8 = .int .i64 ((sa : Nat) : Int) ∧ v9 = .int .i64 ((sb : Nat) : Int) ∧ wr = wx)
          case first =>
            have hsa := HSA.out
            have hsb := HSB.out
            have hij := HIJ.out
            have hk4 := HK4.out
            unfold sA at hsa
            unfold sB at hsb
            unfold qW qH at hij
            have hW9 := HWB.out
            have hH9 := HHB.out
            rcases mod4 k with hm | hm | hm | hm
            · rw [hm] at hk4 hsa hsb hij
              simp at hsa hsb
              subst hsa hsb
              clear hij hW9 hH9
              go_wp2_with fail
              go_meet
              case rel => exact ⟨rfl, rfl, rfl⟩
            · rw [hm] at hk4 hsa hsb hij
              simp at hsa hsb hij
              obtain ⟨M1, d, hd, e1, e2⟩ := sub_nums (M := H) (x := i) hij.1 (by omega)
              have hsb2 : sb = d := by rw [hsb, hd]
              clear hsb hd hij hW9 hH9
              subst hsa hsb2
              go_wp2_with fail
              go_meet
              case rel => exact ⟨rfl, congrArg (Value.int .i64) e2, rfl⟩
            · rw [hm] at hk4 hsa hsb hij
              simp at hsa hsb hij
              obtain ⟨M1, d, hd, e1, e2⟩ := sub_nums (M := W) (x := i) hij.1 (by omega)
              obtain ⟨M2, d2, hd2, e3, e4⟩ := sub_nums (M := H) (x := j) hij.2 (by clear e1 e2; omega)
              have hsa2 : sa = d := by rw [hsa, hd]
              have hsb2 : sb = d2 := by rw [hsb, hd2]
              clear hsa hsb hd hd2 hij hW9 hH9
              subst hsa2 hsb2
              go_wp2_with fail
              go_meet
              case rel => exact ⟨congrArg (Value.int .i64) e2, congrArg (Value.int .i64) e4, rfl⟩
            · rw [hm] at hk4 hsa hsb hij
              simp at hsa hsb hij
              obtain ⟨M1, d, hd, e1, e2⟩ := sub_nums (M := W) (x := j) hij.2 (by omega)
              have hsa2 : sa = d := by rw [hsa, hd]
              clear hsa hd hij hW9 hH9
              subst hsa2 hsb
              go_wp2_with fail
              go_meet
              case rel => exact ⟨congrArg (Value.int .i64) e2, rfl, rfl⟩
          case rest =>
          obtain ⟨rfl, rfl, rfl⟩ := hcut
          obtain ⟨sc, hsc⟩ : ∃ sc, sc = if 4 ≤ k then W - 1 - sa else sa := ⟨_, rfl⟩
          have HSC := Lib.hid hsc
          have HSW : Hid (sa < W ∧ sb < H) := Lib.hid (by rw [HSA.out, HSB.out]; exact HAB.out)
          clear hsc
          go_upto_if 70 with fail
          go_cut [8] (fun v8 wx => v8 = .int .i64 ((sc : Nat) : Int) ∧ wr = wx)
          case first =>
            have hsc := HSC.out
            have hW9 := HWB.out
            by_cases h4 : 4 ≤ k
            · have h4i : (4 : Int) ≤ (k : Int) := by omega
              rw [if_pos h4] at hsc
              obtain ⟨M1, d, hd, e1, e2⟩ := sub_nums (M := W) (x := sa) HSW.out.1 (by omega)
              have hsc2 : sc = d := by rw [hsc, hd]
              clear hsc hd hW9 h4
              subst hsc2
              go_wp2_with fail
              go_meet
              case rel => exact ⟨congrArg (Value.int .i64) e2, rfl⟩
            · have h4i : ¬ (4 : Int) ≤ (k : Int) := by omega
              rw [if_neg h4] at hsc
              subst hsc
              clear hW9 h4
              go_wp2_with fail
              go_meet
              case rel => exact ⟨rfl, rfl⟩
          case rest =>
          obtain ⟨rfl, rfl⟩ := hcut
          have HCA : Hid (Calls Tryd.prog 54 #[.agg #[.int .i64 W, .int .i64 H, .slice a n c], .int .i64 ((sc : Nat) : Int), .int .i64 ((sb : Nat) : Int)] wr fun e w' => e = .returned (.int .i64 ((f sc sb : Nat) : Int)) ∧ Below wr.heap.size wr w') := Lib.hid (by
            have h1 : sc < W := by rw [HSC.out]; have := HSW.out.1; split <;> omega
            have h := HAT.out wr HT.out.b sc sb h1 HSW.out.2
            rw [ext_at h1 HSW.out.2] at h
            exact h)
          have HFK : Hid (F z = f sc sb) := Lib.hid (by rw [HFK0.out]; unfold rT; rw [← HSA.out, ← HSB.out, ← HSC.out])
          obtain ⟨bv, hbv⟩ : ∃ bv, bv = f sc sb := ⟨_, rfl⟩
          rw [← hbv] at HCA HFK
          have l6 := row_range HT.out.g
          clear hbv p0 p1 p2
          go_wp2_with (refine wpList_load_mid rfl 35 _ rfl pb 0 rfl _ _ l6 Tryd.underlying35 rfl infoPat ?_)
          refine HCA.out.mono ?_
          rintro e8 w8 ⟨rfl, hb8⟩
          have HT8 := Lib.hid (HT.out.keep hb8)
          clear hb8 HT l6 HCA
          have hnew := row_alloc w8 3 [.int .i64 (bv : Nat)]
          have hbn : Below w8.heap.size w8 (w8.alloc (.cells [.int .i64 (bv : Nat)].toArray 3)) := (Below.refl _ _).alloc (Nat.le_refl _) _
          have HTa := Lib.hid (HT8.out.keep hbn)
          have HCEL := Lib.hid (hnew.cell 0)
          have HSZ : Hid (w.heap.size ≤ (w8.alloc (.cells [.int .i64 (bv : Nat)].toArray 3)).heap.size) := HTa.out.b.size
          have g2 := HT8.out.q.cell 2
          dsimp only [List.getElem?_cons_succ, List.getElem?_cons_zero] at g2
          clear HT8 hnew hbn
          go_wp2_with (at_builtin; refine Ops.wpList_append1 rfl _ _ 22 rfl w.heap.size 3 i0 (.int .i64 0) 8 Tryd.underlying22 HI0.out HZ0.out rfl HZ1.out HZ2.out _ z _ rfl HTa.out.o ⟨w8.heap.size, 0, none⟩ 1 (.int .i64 (bv : Nat)) rfl HCEL.out rfl ?c1 ?c2 HSZ.out ?_)
          case c1 => have := HZB.out; unfold maxLen; omega
          case c2 => have := HZB.out; omega
          intro ao' co' w7 hO7 hg7
          have HPU := Lib.hid (HTa.out.push hg7 hO7 HFK.out)
          have c2 := (HTa.out.grown hg7).cell 2
          have z2 := (HTa.out.grown hg7).frozen 2
          dsimp only [List.getElem?_cons_succ, List.getElem?_cons_zero] at c2
          clear hO7 hg7 HTa HCEL HSZ g2
          go_wp2_with fail
          clear c2 z2
          generalize w7.setCell ⟨qb, 2, none⟩ (.slice ao' (z + 1) co') = w9 at *
          go_roundw
          case rel => exact ⟨i + 1, z + 1, _, HIW.out, congrArg (Value.int .i64) E3.out, HZN.out, HPU.out⟩
          case measure => exact meas E3.out (by have := HIW.out; omega)
        · obtain rfl : i = QW := by omega
          have hnl : ¬ (i : Int) < (i : Int) := by omega
          have E1 : Hid (wrap64 ((j : Int) + 1) = ((j + 1 : Nat) : Int)) := Lib.hid (wr_nat (by push_cast; rfl) (by have := HQL.out; omega))
          clear p0 p1 p2 hiW hi
          go_wp2_with fail
          go_roundw
          case rel => exact ⟨j + 1, z, _, HJH.out, congrArg (Value.int .i64) E1.out, by rw [HZE.out, Nat.succ_mul], HT.out⟩
          case measure => exact meas E1.out (by have := HJH.out; omega)
    · obtain rfl : j = QH := by omega
      have hnl : ¬ (j : Int) < (j : Int) := by omega
      have HMN : Hid (z = n) := Lib.hid (by rw [HZE.out, Nat.mul_comm]; exact HQM.out)
      have ht := HT.out
      rw [HMN.out] at ht
      obtain ⟨av, cv, hve, hvn, hvm, hvi, hvb⟩ := own_is ht.o
      subst hve
      have l5 := row_range ht.q
      have HX := Lib.hid ht
      have HRC := Lib.hid hvn
      clear hvn hvm hvb hvi HT ht q0 q1 q2 hjH hj
      have g1 := HX.out.q.cell 1
      dsimp only [List.getElem?_cons_succ, List.getElem?_cons_zero] at g1
      go_upto_region 27 with fail
      clear g1 hnl
      go_wp2_with (first | (refine wpList_load_mid rfl 35 _ rfl qb 0 rfl _ _ l5 Tryd.underlying35 rfl infoPat ?_) | (refine Ops.wpList_store_arr rfl 35 _ _ rfl rb rfl 35 _ _ rfl HX.out.r rfl infoPat (boxP_one _ _ _ _ _) ?_; intro w5 hrow5 hon5))
      obtain ⟨av', cv', hve, hvn, hvm, hvi, hvb⟩ := own_is (own_only HX.out.o hon5 (own_ne HX.out.o HX.out.r (by decide)))
      cases hve
      refine bodyPost_ret (results_pat1 (t := 4) rfl _ _ hrow5 rfl rfl) rfl ⟨⟨av, cv, rfl, HRC.out, ?_, hvb⟩, HX.out.b.trans (hon5.below HRB.out)⟩
      have hfl : lstN n F = flat QW j (rT W H f k) := by rw [HFE.out, ← HQM.out]; rfl
      rw [← hfl]
      exact hvi
end Pw
end Go.Proofs.YtgagophijmiceaaDoor
