/- WALK: the document's edenref1.Draw. -/
import Derived.Test.YtgagophijmiceaaDoorPwCn
import Derived.Test.YtgagophijmiceaaDoorPwDrPl
namespace Go.Proofs.YtgagophijmiceaaDoor
set_option linter.unusedSimpArgs false
set_option linter.unusedVariables false
open Go.RowKit
namespace Pw
open Tld Mem Bl Pn

theorem infoByte : (Tryd.prog.info? 5).map (fun i => (i.zero, i.size, i.bytes)) = some (some (.int .u8 0), 1, 1) := by kernel_rfl
/-- 'string(b)' of the call's own bytes. -/
theorem wpList_ownstr {P : Program} {ops : Array Oper} {rest : List Oper} {o : Oper} {a : Act} {w : World} {Q : Exit → Act → World → Prop} (hgd : o.guard = none) (src dst e : TypeId) (x : Operand) (ho : o.op = .convert src dst x)
    (hs : P.underlying src = some (.slice e)) (he : P.underlying e = some (.int .u8)) (hd : P.underlying dst = some .string)
    (v : Value) (B n : Nat) (l : List UInt8) (hx : a.eval x = v) (hown : w.ownsRow B e 1 v n (Lib.byteCells l))
    (hK : wpList P ops Q rest (a.put o.dst (.string ⟨l.toArray⟩)) w) : wpList P ops Q (o :: rest) a w := by
  have hn : n = l.length := by have := hown.1; rw [Lib.byteCells_length] at this; omega
  have hsz : (ByteArray.mk l.toArray).size = l.length := by simp [ByteArray.size]
  rcases hown.2 with ⟨rfl, h0⟩ | ⟨g, cap, cur, rfl, hB, hg, _⟩
  · refine Ops.wpList_string hgd src dst e x ho hs he hd none 0 ⟨l.toArray⟩ (by rw [hx, hsz, ← hn, h0]) (fun i hi => absurd hi (by rw [hsz, ← hn, h0]; exact Nat.not_lt_zero _)) (fun _ => by rw [hsz, ← hn, h0]) hK
  · refine Ops.wpList_string hgd src dst e x ho hs he hd (some ⟨g, 0, none⟩) cap ⟨l.toArray⟩ (by rw [hx, hsz, ← hn]) (fun i hi => ⟨g, 0, rfl, (Array.getElem?_eq_some_iff.1 hg).1, ?_⟩) (fun h => by cases h) hK
    rw [hsz] at hi
    dsimp only
    rw [Nat.zero_add]
    refine (own_cell hown (i := i) (u := .int .u8 ((l.getD i 0).toNat : Nat)) ?_).trans ?_
    · unfold Lib.byteCells
      rw [List.getElem?_map, List.getElem?_eq_getElem hi, List.getD_eq_getElem?_getD, List.getElem?_eq_getElem hi]
      rfl
    · rfl

set_option maxHeartbeats 16000000 in
set_option maxRecDepth 1000000 in
theorem rdraw_any (W H : Nat) (a : Option Addr) (n c : Nat) (f : Nat → Nat → Nat) (w : World) (hZ : Ints.Is w a n (flat W H f)) (hn : n = W * H) (hW : W ≤ 100) (hH : H ≤ 100) (hf : ∀ x y, f x y < 2) :
    Calls Tryd.prog 24 #[.agg #[.int .i64 W, .int .i64 H, .slice a n c]] w fun e w' => e = .returned (.string ⟨(drawS W H f).toArray⟩) ∧ Below w.heap.size w w' := by
  have HZ := Lib.hid (fun w2 (h : Below w.heap.size w w2) => hZ.keep h)
  have HN := Lib.hid hn
  have HWB := Lib.hid hW
  have HHB := Lib.hid hH
  have HF := Lib.hid hf
  obtain ⟨i0, hI0, hz0, hz1, hz2⟩ := info_parts infoByte
  have HI0 := Lib.hid hI0
  have HZ0 := Lib.hid hz0
  have HZ1 := Lib.hid hz1
  have HZ2 := Lib.hid hz2
  clear hZ hn hW hH hf hI0 hz0 hz1 hz2
  go_enter Tryd.func24, Tryd.ntmps24
  go_upto_region 1 with fail
  have hnew := row_alloc w 35 (boxP W H a n c)
  have HG : Hid (Row (w.alloc (.cells #[.int .i64 W, .int .i64 H, .slice a n c] 35)) w.heap.size 35 (boxP W H a n c)) := hnew
  have HB : Hid (Below w.heap.size w (w.alloc (.cells #[.int .i64 W, .int .i64 H, .slice a n c] 35))) := Lib.hid ((Below.refl _ _).alloc (Nat.le_refl _) _)
  clear hnew
  generalize w.alloc (.cells #[.int .i64 W, .int .i64 H, .slice a n c] 35) = w1 at *
  obtain ⟨gb, hgb⟩ : ∃ gb, gb = w.heap.size := ⟨_, rfl⟩
  rw [← hgb] at HG ⊢
  clear hgb
  go_wp2_with fail
  go_loopw [3, 4] (fun u v wr => ∃ r z : Nat, ∃ vs, vs = u ∧ r ≤ H ∧ v = .int .i64 ((r : Nat) : Int) ∧ z = r * (W + 1) ∧ Row wr gb 35 (boxP W H a n c) ∧ wr.ownsRow w.heap.size 5 1 vs ((drB W f z).length) (Lib.byteCells (drB W f z)) ∧ Below w.heap.size w wr) (fun _ v _ => H - (RowKit.intOf v).toNat)
  case atStart => exact ⟨0, 0, _, rfl, Nat.zero_le _, rfl, (Nat.zero_mul _).symm, HG.out, ⟨rfl, .inl ⟨rfl, rfl⟩⟩, HB.out⟩
  case round =>
    clear HG HB
    obtain ⟨r, z, vs, rfl, hr, rfl, hz, hg, ho, hb⟩ := hrel
    have HG := Lib.hid hg
    have HO := Lib.hid ho
    have HB := Lib.hid hb
    have HZE := Lib.hid hz
    clear hg ho hb hz
    have f0 := HG.out.cell 0
    have f1 := HG.out.cell 1
    have f2 := HG.out.cell 2
    unfold boxP at f0 f1 f2
    dsimp only [List.getElem?_cons_succ, List.getElem?_cons_zero] at f0 f1 f2
    by_cases hrH : r < H
    · have hr2 : (r : Int) < (H : Int) := by omega
      have HRH := Lib.hid hrH
      go_wp2_with fail
      clear f0 f1 f2 hr2
      go_loopw [3, 5] (fun u v wr => ∃ i z : Nat, ∃ vs, vs = u ∧ i ≤ W ∧ v = .int .i64 ((i : Nat) : Int) ∧ z = r * (W + 1) + i ∧ Row wr gb 35 (boxP W H a n c) ∧ wr.ownsRow w.heap.size 5 1 vs ((drB W f z).length) (Lib.byteCells (drB W f z)) ∧ Below w.heap.size w wr) (fun _ v _ => W - (RowKit.intOf v).toNat)
      case atStart => exact ⟨0, z, _, rfl, Nat.zero_le _, rfl, HZE.out, HG.out, HO.out, HB.out⟩
      case round =>
        clear HG HO HB HZE z
        obtain ⟨i, z, vs, rfl, hi, rfl, hz, hg, ho, hb⟩ := hrel
        have HG := Lib.hid hg
        have HO := Lib.hid ho
        have HB := Lib.hid hb
        have HZE := Lib.hid hz
        have HLN : Hid ((drB W f z).length ≤ 1000000) := Lib.hid (by
          have h1 : r * (W + 1) ≤ 100 * 101 := Nat.mul_le_mul (by have := HHB.out; have := HRH.out; omega) (by have := HWB.out; omega)
          have h2 := drB_len W f z
          have := HWB.out
          omega)
        clear hg ho hb hz
        have f0 := HG.out.cell 0
        have f1 := HG.out.cell 1
        have f2 := HG.out.cell 2
        unfold boxP at f0 f1 f2
        dsimp only [List.getElem?_cons_succ, List.getElem?_cons_zero] at f0 f1 f2
        by_cases hiW : i < W
        · have hi2 : (i : Int) < (W : Int) := by omega
          have HIW := Lib.hid hiW
          obtain ⟨q, k, hq, hk, hkn, e1, e2, e3⟩ := draw_nums hiW hrH HN.out HWB.out HHB.out
          obtain ⟨cv, hcv⟩ : ∃ cv, cv = f i r := ⟨_, rfl⟩
          have hcv2 : cv < 2 := by rw [hcv]; exact HF.out _ _
          obtain ⟨ab, ao, rfl, hlt, cg⟩ := (HZ.out wr HB.out).cells k hkn
          dsimp only at cg
          rw [hk, flat_at hiW hrH, ← hk, ← hcv] at cg
          have hki : (k : Int) < (n : Int) := Int.ofNat_lt.2 hkn
          have HRN : Hid (rnN W f z = if cv = 1 then 9679 else 183) := Lib.hid (by rw [HZE.out, rnN_cell f hiW, hcv])
          have HZN : Hid (z + 1 = r * (W + 1) + (i + 1)) := Lib.hid (by rw [HZE.out]; rfl)
          have E3 := Lib.hid e3
          clear hk hq hkn hcv hlt hiW e3 hi
          by_cases hc1 : cv = 1
          · subst hc1
            go_upto_region 9 with fail
            clear f0 f1 f2 e1 e2 cg hki hi2 hcv2
            have HRN : Hid (rnN W f z = 9679) := HRN
            have hnew := row_alloc wr 5 [.int .u8 226, .int .u8 151, .int .u8 143]
            have hbn : Below wr.heap.size wr (wr.alloc (.cells [.int .u8 226, .int .u8 151, .int .u8 143].toArray 5)) := (Below.refl _ _).alloc (Nat.le_refl _) _
            have HGa := Lib.hid (HG.out.keep hbn HG.out.lt)
            have HBa := Lib.hid (HB.out.trans (hbn.mono HB.out.size))
            have HOa := Lib.hid (own_keep HO.out hbn)
            have HRW := Lib.hid hnew
            have HDN : Hid (drB W f (z + 1) = drB W f z ++ [226, 151, 143]) := Lib.hid (by rw [drB, HRN.out]; rfl)
            clear hnew hbn
            go_wp2_with (at_builtin; refine wpList_app rfl _ _ 84 rfl w.heap.size 5 i0 _ 1 1 Tryd.underlying84 HI0.out HZ0.out HZ1.out HZ2.out rfl (by decide) _ _ _ rfl HOa.out wr.heap.size 3 3 [.int .u8 226, .int .u8 151, .int .u8 143] rfl rfl HRW.out (by simp [Value.oneCell']) ?c1 ?c2 HBa.out.size (by decide) ?_)
            case c1 => have := HLN.out; unfold maxLen; omega
            case c2 => have := HLN.out; omega
            intro ao co w7 ho7 hg7
            have HG7 := Lib.hid (row_grown HOa.out hg7 HGa.out (by decide))
            have HB7 := Lib.hid (HBa.out.grown hg7 HBa.out.size (own_low HOa.out))
            have HO7 : Hid (w7.ownsRow w.heap.size 5 1 (.slice ao ((drB W f z).length + 3) co) ((drB W f (z + 1)).length) (Lib.byteCells (drB W f (z + 1)))) := Lib.hid (by
              rw [HDN.out, show Lib.byteCells (drB W f z ++ [226, 151, 143]) = Lib.byteCells (drB W f z) ++ [.int .u8 226, .int .u8 151, .int .u8 143] by simp [Lib.byteCells], List.length_append]
              exact ho7)
            clear ho7 hg7 HGa HBa HOa HRW
            go_wp2_with fail
            go_roundw
            case rel => exact ⟨i + 1, z + 1, _, rfl, HIW.out, congrArg (Value.int .i64) E3.out, HZN.out, HG7.out, HO7.out, HB7.out⟩
            case measure => exact meas E3.out (by have := HIW.out; omega)
          · have hc0 : cv = 0 := by clear e1 e2; omega
            subst hc0
            go_upto_region 10 with fail
            clear f0 f1 f2 e1 e2 cg hki hi2 hcv2 hc1
            have HRN : Hid (rnN W f z = 183) := HRN
            have hnew := row_alloc wr 5 [.int .u8 194, .int .u8 183]
            have hbn : Below wr.heap.size wr (wr.alloc (.cells [.int .u8 194, .int .u8 183].toArray 5)) := (Below.refl _ _).alloc (Nat.le_refl _) _
            have HGa := Lib.hid (HG.out.keep hbn HG.out.lt)
            have HBa := Lib.hid (HB.out.trans (hbn.mono HB.out.size))
            have HOa := Lib.hid (own_keep HO.out hbn)
            have HRW := Lib.hid hnew
            have HDN : Hid (drB W f (z + 1) = drB W f z ++ [194, 183]) := Lib.hid (by rw [drB, HRN.out]; rfl)
            clear hnew hbn
            go_wp2_with (at_builtin; refine wpList_app rfl _ _ 84 rfl w.heap.size 5 i0 _ 1 1 Tryd.underlying84 HI0.out HZ0.out HZ1.out HZ2.out rfl (by decide) _ _ _ rfl HOa.out wr.heap.size 2 2 [.int .u8 194, .int .u8 183] rfl rfl HRW.out (by simp [Value.oneCell']) ?c1 ?c2 HBa.out.size (by decide) ?_)
            case c1 => have := HLN.out; unfold maxLen; omega
            case c2 => have := HLN.out; omega
            intro ao co w7 ho7 hg7
            have HG7 := Lib.hid (row_grown HOa.out hg7 HGa.out (by decide))
            have HB7 := Lib.hid (HBa.out.grown hg7 HBa.out.size (own_low HOa.out))
            have HO7 : Hid (w7.ownsRow w.heap.size 5 1 (.slice ao ((drB W f z).length + 2) co) ((drB W f (z + 1)).length) (Lib.byteCells (drB W f (z + 1)))) := Lib.hid (by
              rw [HDN.out, show Lib.byteCells (drB W f z ++ [194, 183]) = Lib.byteCells (drB W f z) ++ [.int .u8 194, .int .u8 183] by simp [Lib.byteCells], List.length_append]
              exact ho7)
            clear ho7 hg7 HGa HBa HOa HRW
            go_wp2_with fail
            go_roundw
            case rel => exact ⟨i + 1, z + 1, _, rfl, HIW.out, congrArg (Value.int .i64) E3.out, HZN.out, HG7.out, HO7.out, HB7.out⟩
            case measure => exact meas E3.out (by have := HIW.out; omega)
        · obtain rfl : i = W := by omega
          have hnl : ¬ (i : Int) < (i : Int) := by omega
          have HRN : Hid (rnN i f z = 10) := Lib.hid (by rw [HZE.out]; exact rnN_end f)
          have HZN : Hid (z + 1 = (r + 1) * (i + 1)) := Lib.hid (by rw [HZE.out, Nat.succ_mul]; omega)
          have E1 : Hid (wrap64 ((r : Int) + 1) = ((r + 1 : Nat) : Int)) := Lib.hid (wr_nat (by push_cast; rfl) (by have := HRH.out; have := HHB.out; omega))
          clear hiW hi
          go_upto_region 11 with fail
          clear f0 f1 f2 hnl
          have hnew := row_alloc wr 5 [.int .u8 10]
          have hbn : Below wr.heap.size wr (wr.alloc (.cells [.int .u8 10].toArray 5)) := (Below.refl _ _).alloc (Nat.le_refl _) _
          have HGa := Lib.hid (HG.out.keep hbn HG.out.lt)
          have HBa := Lib.hid (HB.out.trans (hbn.mono HB.out.size))
          have HOa := Lib.hid (own_keep HO.out hbn)
          have HRW := Lib.hid hnew
          have HDN : Hid (drB i f (z + 1) = drB i f z ++ [10]) := Lib.hid (by rw [drB, HRN.out]; rfl)
          clear hnew hbn
          go_wp2_with (at_builtin; refine wpList_app rfl _ _ 84 rfl w.heap.size 5 i0 _ 1 1 Tryd.underlying84 HI0.out HZ0.out HZ1.out HZ2.out rfl (by decide) _ _ _ rfl HOa.out wr.heap.size 1 1 [.int .u8 10] rfl rfl HRW.out (by simp [Value.oneCell']) ?c1 ?c2 HBa.out.size (by decide) ?_)
          case c1 => have := HLN.out; unfold maxLen; omega
          case c2 => have := HLN.out; omega
          intro ao co w7 ho7 hg7
          have HG7 := Lib.hid (row_grown HOa.out hg7 HGa.out (by decide))
          have HB7 := Lib.hid (HBa.out.grown hg7 HBa.out.size (own_low HOa.out))
          have HO7 : Hid (w7.ownsRow w.heap.size 5 1 (.slice ao ((drB i f z).length + 1) co) ((drB i f (z + 1)).length) (Lib.byteCells (drB i f (z + 1)))) := Lib.hid (by
            rw [HDN.out, show Lib.byteCells (drB i f z ++ [10]) = Lib.byteCells (drB i f z) ++ [.int .u8 10] by simp [Lib.byteCells], List.length_append]
            exact ho7)
          clear ho7 hg7 HGa HBa HOa HRW
          go_wp2_with fail
          go_roundw
          case rel => exact ⟨r + 1, z + 1, _, rfl, HRH.out, congrArg (Value.int .i64) E1.out, HZN.out, HG7.out, HO7.out, HB7.out⟩
          case measure => exact meas E1.out (by have := HRH.out; omega)
    · obtain rfl : r = H := by omega
      have hnl : ¬ (r : Int) < (r : Int) := by omega
      have HRS : Hid (drB W f z = drawS W r f) := Lib.hid (by rw [HZE.out]; rfl)
      clear hrH hr
      go_wp2_with (refine wpList_ownstr rfl 84 9 5 _ rfl Tryd.underlying84 Tryd.underlying5 Tryd.underlying9 _ w.heap.size _ _ rfl HO.out ?_)
      rw [HRS.out]
      go_ret
      exact ⟨rfl, HB.out⟩
end Pw
end Go.Proofs.YtgagophijmiceaaDoor
