/- WALK: edenref5.Parse: a machine's text by lines. -/
import Derived.Test.YtfhhnajnanlmgaaGreatDoorRdS
import Derived.Test.YtfhhnajnanlmgaaGreatDoorCrB
import Derived.Test.YtfhhnajnanlmgaaGreatDoorCrF
import Derived.OwnWalk
namespace Go.Proofs.YtfhhnajnanlmgaaGreatDoor
set_option linter.unusedSimpArgs false
set_option linter.unusedVariables false
open Go.RowKit
namespace Rd
open Tld Mem Cr

theorem infoInsN : (Tryz.prog.info? 34).map (fun i => (i.zero, i.size, i.bytes)) = some (some (.agg #[.int .i64 0, .int .i64 0, .int .i64 0, .int .i64 0]), 4, 32) := by kernel_rfl
theorem rows_ins {w : World} {B n : Nat} {a : Option Addr} {c : Nat} {zs : List In} (h : w.ownsRow B 34 4 (.slice a n c) n (insL zs)) (hn : zs.length = n) : Mem.Rows w a n 4 (fun i j => .int .i64 (insF zs i j)) := by
  intro i hi
  rcases h.2 with ⟨hv, h0⟩ | ⟨g, cap, cur, hv, hB, hg, hnc, hcm, hcs, ht⟩
  · omega
  · cases hv
    refine ⟨g, 0, rfl, (Array.getElem?_eq_some_iff.1 hg).1, fun j hj => ?_⟩
    have h1 : w.cell? ⟨g, 0 + i * 4 + j, none⟩ = cur[0 + i * 4 + j]? := by simp [World.cell?, hg]
    rw [h1]
    have h3 : (cur.toList.take (n * 4))[i * 4 + j]? = (insL zs)[i * 4 + j]? := by rw [ht]
    rw [List.getElem?_take_of_lt (by omega), Array.getElem?_toList, insL_get zs i j (by omega) hj] at h3
    rw [show 0 + i * 4 + j = i * 4 + j by omega, h3]

def RefP (w : World) (p : Nat × Option (List In)) (e : Ending) (w' : World) : Prop :=
  (match p.2 with
  | none => e = .returned (.tuple #[.slice none 0 0, .int .i64 (p.1 : Nat), .int .i64 2])
  | some zs => (codeF (insF zs) zs.length = 0 → ∃ v, e = .returned (.tuple #[v, .int .i64 0, .int .i64 0]) ∧ w'.ownsRow w.heap.size 34 4 v zs.length (insL zs)) ∧
      (codeF (insF zs) zs.length ≠ 0 → e = .returned (.tuple #[.slice none 0 0, .int .i64 (p.1 : Nat), .int .i64 (codeF (insF zs) zs.length)]))) ∧ Below w.heap.size w w'
theorem RefP.bad {w w' : World} {p : Nat × Option (List In)} {n : Nat} {e : Ending} (hp : p = (n, none)) (h : e = .returned (.tuple #[.slice none 0 0, .int .i64 (n : Nat), .int .i64 2])) (hb : Below w.heap.size w w') : RefP w p e w' := by
  subst hp
  exact ⟨h, hb⟩
theorem RefP.wrong {w w' : World} {p : Nat × Option (List In)} {n : Nat} {zs : List In} {e : Ending} {k : Int} (hp : p = (n, some zs)) (hk : codeF (insF zs) zs.length = k) (h0 : k ≠ 0) (h : e = .returned (.tuple #[.slice none 0 0, .int .i64 (n : Nat), .int .i64 k])) (hb : Below w.heap.size w w') : RefP w p e w' := by
  subst hp hk
  exact ⟨⟨fun h2 => absurd h2 h0, fun _ => h⟩, hb⟩
theorem RefP.ok {w w' : World} {p : Nat × Option (List In)} {n : Nat} {zs : List In} {e : Ending} {v : Value} (hp : p = (n, some zs)) (hk : codeF (insF zs) zs.length = 0) (h : e = .returned (.tuple #[v, .int .i64 0, .int .i64 0])) (h2 : w'.ownsRow w.heap.size 34 4 v zs.length (insL zs)) (hb : Below w.heap.size w w') : RefP w p e w' := by
  subst hp
  exact ⟨⟨fun _ => ⟨v, h, h2⟩, fun h3 => absurd hk h3⟩, hb⟩

set_option maxHeartbeats 8000000 in
set_option maxRecDepth 1000000 in
theorem Parse_ref (s : ByteArray) (w : World) (hs : s.size ≤ 1048576) : Calls Tryz.prog 6 #[.string s] w (RefP w (parseF (segc 10 s.data.toList) [])) := by
  obtain ⟨q0, hI0, hz0, hz1, hz2⟩ := info_parts infoInsN
  have HI0 := Lib.hid hI0
  have HZ0 := Lib.hid hz0
  have HZ1 := Lib.hid hz1
  have HZ2 := Lib.hid hz2
  clear hI0 hz0 hz1 hz2
  obtain ⟨o, ho⟩ : ∃ o, o = parseF (segc 10 s.data.toList) [] := ⟨_, rfl⟩
  rw [← ho]
  have HO0 := Lib.hid ho
  clear ho
  have hse := Lib.size_eq s
  have HSE := Lib.hid hse
  clear hse
  go_enter Tryz.func6, Tryz.ntmps6
  go_wp2_with fail
  go_loopw [5, 6, 7, 8] (fun l u n v wr => ∃ i a : Nat, ∃ zs : List In, ∃ L : Nat, i ≤ s.size ∧ a ≤ i ∧ L ≤ a ∧ zs.length = L ∧ v = .int .i64 (i : Nat) ∧ u = .int .i64 (a : Nat) ∧ n = .int .i64 (L : Nat) ∧
      (∀ b ∈ (s.data.toList.take i).drop a, b ≠ 10) ∧ o = parseF (segc 10 (s.data.toList.drop a)) zs ∧ wr.ownsRow w.heap.size 34 4 l L (insL zs) ∧ Below w.heap.size w wr) (fun _ _ _ v _ => s.size - (RowKit.intOf v).toNat)
  case atStart => exact ⟨0, 0, [], 0, Nat.zero_le _, Nat.zero_le _, Nat.zero_le _, rfl, rfl, rfl, rfl, fun b hb => by simp at hb, HO0.out, own_nil _ _ _ _, Below.refl _ _⟩
  case round =>
    clear HO0
    obtain ⟨i, a, zs, L, hi, hai, hLa, hzl, rfl, rfl, rfl, hno, hoo, how, hb⟩ := hrel
    obtain ⟨va, vc, rfl⟩ := own_slice how
    have HW := Lib.hid how
    have HB := Lib.hid hb
    have HOO := Lib.hid hoo
    have HZL := Lib.hid hzl
    have HNO := Lib.hid hno
    clear how hb hoo hzl hno
    by_cases hlt : i < s.size
    · have hi2 : (i : Int) < (s.size : Int) := by omega
      have hg := get_drop s hlt
      have HLT := Lib.hid hlt
      by_cases hx : s.data.toList.getD i 0 = 10
      · have hx1 : (((s.data.toList.getD i 0).toNat : Int) != 10) = false := by rw [hx]; rfl
        have hx2 : (((s.data.toList.getD i 0).toNat : Int) == 10) = true := by rw [hx]; rfl
        have hseg := seg_line hai (by rw [← HSE.out]; exact hlt) hx HNO.out
        have HOO := Lib.hid (HOO.out.trans (by rw [hseg]))
        have hdt : (s.extract a i).data.toList = (s.data.toList.take i).drop a := ext_l s a i
        have hsz : (s.extract a i).size ≤ 1048576 := by rw [ByteArray.size_extract]; omega
        have HLN := Lib.hid (fun wx => line_any (s.extract a i) wx hsz)
        rw [hdt] at HLN
        clear hx hseg hdt hsz
        generalize s.data.toList.getD i 0 = x at *
        generalize (s.data.toList.take i).drop a = ll at *
        obtain ⟨r, hr⟩ : ∃ r, r = lineR ll := ⟨_, rfl⟩
        rw [← hr] at HLN
        have HR := Lib.hid hr
        clear hr
        go_wp2_with fail
        refine (HLN.out wr).mono ?_
        rintro e1 w1 ⟨rfl, hb1⟩
        have HW := Lib.hid (own_stays HW.out hb1)
        have HB := Lib.hid (HB.out.trans (hb1.mono HB.out.size))
        clear hb1 HLN
        cases r with
        | none =>
          have HN : Hid (o = (L, none)) := by
            show _ = _
            rw [HOO.out, parseF_bad (segc_ne _ _) HR.out.symm, HZL.out]
          clear HOO HNO HR
          unfold inQ In.v
          dsimp only [Option.getD, Option.isSome]
          go_upto_region 9 with fail
          have hbn : Below w1.heap.size w1 (w1.alloc (.cells #[.int .i64 0, .int .i64 0, .int .i64 0, .int .i64 0] 34)) := (Below.refl _ _).alloc (Nat.le_refl _) _
          have HB := Lib.hid (HB.out.trans (hbn.mono HB.out.size))
          clear hbn
          go_wp2_with fail
          go_ret3
          exact RefP.bad HN.out rfl HB.out
        | some q =>
          have HN : Hid (o = parseF (segc 10 (s.data.toList.drop (i + 1))) (zs ++ [q])) := by
            show _ = _
            rw [HOO.out, parseF_next (segc_ne _ _) HR.out.symm]
          clear HOO HNO HR
          unfold inQ In.v
          dsimp only [Option.getD, Option.isSome]
          have hql : q.l = [.int .i64 q.op, .int .i64 q.a, .int .i64 q.t, .int .i64 q.e] := rfl
          have HNX := Lib.hid (insL_next zs q)
          rw [hql] at HNX
          clear hql
          generalize q.op = x0 at *
          generalize q.a = x1 at *
          generalize q.t = x2 at *
          generalize q.e = x3 at *
          go_upto_region 9 with fail
          have hbn : Below w1.heap.size w1 (w1.alloc (.cells #[.int .i64 x0, .int .i64 x1, .int .i64 x2, .int .i64 x3] 34)) := (Below.refl _ _).alloc (Nat.le_refl _) _
          have HW := Lib.hid (own_stays HW.out hbn)
          have HB := Lib.hid (HB.out.trans (hbn.mono HB.out.size))
          have hr9 : Row (w1.alloc (.cells #[.int .i64 x0, .int .i64 x1, .int .i64 x2, .int .i64 x3] 34)) w1.heap.size 34 [.int .i64 x0, .int .i64 x1, .int .i64 x2, .int .i64 x3] := row_alloc w1 _ _
          obtain ⟨b9, hb9⟩ : ∃ b9, b9 = w1.heap.size := ⟨_, rfl⟩
          rw [← hb9] at hr9 ⊢
          have HR9 := Lib.hid hr9
          clear hb9 hr9 hbn
          generalize w1.alloc (.cells #[.int .i64 x0, .int .i64 x1, .int .i64 x2, .int .i64 x3] 34) = w2 at *
          have l1 : w2.rangeAt b9 0 [.int .i64 x0, .int .i64 x1, .int .i64 x2, .int .i64 x3] := fun j v hv => by
            rw [HR9.out.cell, Nat.zero_add]
            exact hv
          have hbn : Below w2.heap.size w2 (w2.alloc (.cells #[.int .i64 x0, .int .i64 x1, .int .i64 x2, .int .i64 x3] 34)) := (Below.refl _ _).alloc (Nat.le_refl _) _
          have HOa := Lib.hid (own_stays HW.out hbn)
          have HBa := Lib.hid (HB.out.trans (hbn.mono HB.out.size))
          have hrw : Row (w2.alloc (.cells #[.int .i64 x0, .int .i64 x1, .int .i64 x2, .int .i64 x3] 34)) w2.heap.size 34 [.int .i64 x0, .int .i64 x1, .int .i64 x2, .int .i64 x3] := row_alloc w2 _ _
          have HRW := Lib.hid hrw
          have HLN : Hid (L < 1048576) := Lib.hid (by omega)
          clear hbn hrw
          go_upto_region 11 with fail
          go_upto_region 12 with (first
            | (refine wpList_load_mid rfl 34 _ rfl b9 0 rfl _ _ l1 Tryz.underlying34 rfl infoIns ?_; clear l1)
            | (at_builtin; refine wpList_app rfl _ _ 22 rfl w.heap.size 34 q0 _ 4 32 Tryz.underlying22 HI0.out HZ0.out HZ1.out HZ2.out rfl (by decide) _ L _ rfl HOa.out w2.heap.size 1 1 [.int .i64 x0, .int .i64 x1, .int .i64 x2, .int .i64 x3] rfl rfl HRW.out (by simp [Value.oneCell']) ?c1 ?c2 HBa.out.size (by omega) ?_))
          case c1 => have := HLN.out; unfold maxLen; omega
          case c2 => have := HLN.out; omega
          intro ao' co' w3 hO3 hg3
          have HB3 := Lib.hid (HBa.out.grown hg3 HBa.out.size (own_low HOa.out))
          have HO3 := Lib.hid hO3
          clear hO3 hg3 HOa HBa HRW
          go_wp2_with fail
          go_roundw
          case rel => exact ⟨i + 1, i + 1, zs ++ [q], L + 1, by have := HLT.out; omega, Nat.le_refl _, by omega, by rw [List.length_append, HZL.out]; rfl, rfl, rfl, rfl, fun b hb => (by rw [List.drop_eq_nil_of_le (by rw [List.length_take]; omega)] at hb; cases hb), HN.out, by rw [HNX.out]; exact HO3.out, HB3.out⟩
          case measure => have := HLT.out; simp [RowKit.intOf]; omega
      · have hx1 : (((s.data.toList.getD i 0).toNat : Int) != 10) = true := by
          rw [bne_iff_ne]
          intro h
          exact hx (UInt8.toNat_inj.1 (by exact_mod_cast h))
        have hx2 : (((s.data.toList.getD i 0).toNat : Int) == 10) = false := by
          rw [beq_eq_false_iff_ne]
          intro h
          exact hx (UInt8.toNat_inj.1 (by exact_mod_cast h))
        have hnn := none_next hai (by rw [← HSE.out]; exact hlt) hx HNO.out
        have HNN := Lib.hid hnn
        clear hx hnn HNO
        generalize s.data.toList.getD i 0 = x at *
        go_wp2_with fail
        go_roundw
        case rel => exact ⟨i + 1, a, zs, L, by have := HLT.out; omega, by omega, hLa, HZL.out, rfl, rfl, rfl, HNN.out, HOO.out, HW.out, HB.out⟩
        case measure => have := HLT.out; simp [RowKit.intOf]; omega
    · obtain rfl : i = s.size := by omega
      have hnl : ¬ (s.size : Int) < (s.size : Int) := by omega
      have hsg : segc 10 (s.data.toList.drop a) = [s.data.toList.drop a] := seg_end (by rw [← HSE.out]; exact HNO.out)
      have hoo : o = (L, if s.data.toList.drop a = [] then some zs else none) := by rw [HOO.out, hsg, parseF_last, HZL.out]
      by_cases ha : a < s.size
      · have ha2 : (a : Int) < (s.size : Int) := by omega
        have HN : Hid (o = (L, none)) := by
          show _ = _
          rw [hoo, if_neg]
          intro e
          have := congrArg List.length e
          rw [List.length_drop, ← HSE.out, List.length_nil] at this
          omega
        clear hoo hsg
        go_wp2_with fail
        go_ret3
        exact RefP.bad HN.out rfl HB.out
      · have ha2 : ¬ (a : Int) < (s.size : Int) := by omega
        have HN : Hid (o = (L, some zs)) := by
          show _ = _
          rw [hoo, if_pos]
          exact List.drop_eq_nil_of_le (by rw [← HSE.out]; omega)
        have HRO := Lib.hid (rows_ins HW.out HZL.out)
        have HCO := Lib.hid (fun wx (h : Below wr.heap.size wr wx) => code_any va L vc (insF zs) wx (by omega) (HRO.out.below h (Nat.le_refl _)))
        have HKE : Hid (codeF (insF zs) zs.length = codeF (insF zs) L) := by show _ = _; rw [HZL.out]
        obtain ⟨k, hk⟩ : ∃ k, k = codeF (insF zs) L := ⟨_, rfl⟩
        rw [← hk] at HKE HCO
        clear hk hoo hsg
        go_wp2_with fail
        refine (HCO.out wr (Below.refl _ _)).mono ?_
        rintro e1 w1 ⟨rfl, hb1⟩
        have HW := Lib.hid (own_stays HW.out hb1)
        have HB := Lib.hid (HB.out.trans (hb1.mono HB.out.size))
        clear hb1 HCO HRO
        by_cases hk0 : k = 0
        · have hkb : (k != 0) = false := by rw [hk0]; rfl
          have HK0 : Hid (codeF (insF zs) zs.length = 0) := by show _ = _; rw [HKE.out, hk0]
          have hkb2 : (k == 0) = true := by rw [hk0]; rfl
          clear hk0
          go_wp2_with fail
          go_ret3
          exact RefP.ok HN.out HK0.out rfl (by rw [HZL.out]; exact HW.out) HB.out
        · have hkb : (k != 0) = true := by rw [bne_iff_ne]; exact hk0
          have hkb2 : (k == 0) = false := by rw [beq_eq_false_iff_ne]; exact hk0
          have HK0 := Lib.hid hk0
          clear hk0
          go_wp2_with fail
          go_ret3
          exact RefP.wrong HN.out HKE.out HK0.out rfl HB.out
end Rd
end Go.Proofs.YtfhhnajnanlmgaaGreatDoor
