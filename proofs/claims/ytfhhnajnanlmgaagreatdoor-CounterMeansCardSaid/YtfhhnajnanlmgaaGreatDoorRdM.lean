/- WALK: edenref5.numbers: numbers behind blanks. -/
import Derived.Test.YtfhhnajnanlmgaaGreatDoorCrO
import Derived.Test.YtfhhnajnanlmgaaGreatDoorRdN
namespace Go.Proofs.YtfhhnajnanlmgaaGreatDoor
set_option linter.unusedSimpArgs false
set_option linter.unusedVariables false
open Go.RowKit
namespace Rd
open Tld Mem Cr

theorem drop_cons (s : ByteArray) {k : Nat} (h : k < s.size) : s.data.toList.drop k = s.data.toList.getD k 0 :: s.data.toList.drop (k + 1) := by
  have hk : k < s.data.toList.length := by rw [← Lib.size_eq]; exact h
  rw [List.drop_eq_getElem_cons hk, List.getD_eq_getElem?_getD, List.getElem?_eq_getElem hk]
  rfl
theorem numsR_nil : numsR [] = some [] := by unfold numsR; rfl
theorem numsR_no (s : ByteArray) {k : Nat} (h : k < s.size) (hb : s.data.toList.getD k 0 ≠ 32) : numsR (s.data.toList.drop k) = none := by
  rw [drop_cons s h]
  unfold numsR
  rw [if_neg hb]
theorem num_neg {ds : List UInt8} (hd : ∀ b ∈ ds, digB b = true) : num ds < 0 ↔ goodN ds = false := by
  have h := val_b hd ds.length
  rw [List.take_length] at h
  unfold num
  split
  · rename_i hg
    rw [hg]
    constructor
    · intro h2; omega
    · intro h2; cases h2
  · rename_i hg
    constructor
    · intro _; simpa using hg
    · intro _; decide
theorem numsR_bad (s : ByteArray) {k : Nat} (h : k < s.size) (hb : s.data.toList.getD k 0 = 32) (h2 : num (digs s (k + 1)) < 0 ∨ 6 < (digs s (k + 1)).length) : numsR (s.data.toList.drop k) = none := by
  rw [drop_cons s h]
  unfold numsR
  rw [if_pos hb, if_neg]
  show ¬ (goodN (digs s (k + 1)) && decide ((digs s (k + 1)).length ≤ 6)) = true
  rcases h2 with h2 | h2
  · rw [(num_neg (digs_all s (k + 1))).1 h2]
    simp
  · rw [decide_eq_false (by omega)]
    simp
theorem numsR_ok (s : ByteArray) {k : Nat} (h : k < s.size) (hb : s.data.toList.getD k 0 = 32) (h2 : ¬ num (digs s (k + 1)) < 0) (h3 : (digs s (k + 1)).length ≤ 6) :
    numsR (s.data.toList.drop k) = (numsR (s.data.toList.drop (k + 1 + (digs s (k + 1)).length))).map (num (digs s (k + 1)) :: ·) := by
  rw [drop_cons s h]
  conv => lhs; unfold numsR
  have hg : goodN (digs s (k + 1)) = true := by
    have := mt (num_neg (digs_all s (k + 1))).2 h2
    simpa using this
  rw [if_pos hb, if_pos]
  · show (numsR (List.drop (digs s (k + 1)).length (s.data.toList.drop (k + 1)))).map (val (digs s (k + 1)) :: ·) = _
    rw [List.drop_drop]
    have : num (digs s (k + 1)) = val (digs s (k + 1)) := by unfold num; rw [if_pos hg]
    rw [this]
  · show (goodN (digs s (k + 1)) && decide ((digs s (k + 1)).length ≤ 6)) = true
    rw [hg, decide_eq_true h3]
    rfl
theorem map_app (zs : List Int) (v : Int) (o : Option (List Int)) : (o.map (v :: ·)).map (zs ++ ·) = o.map ((zs ++ [v]) ++ ·) := by
  cases o <;> simp

def NumsP (w : World) (o : Option (List Int)) (e : Ending) (w' : World) : Prop :=
  (match o with
  | none => e = .returned (.tuple #[.slice none 0 0, .bool false])
  | some vs => ∃ v, e = .returned (.tuple #[v, .bool true]) ∧ w'.ownsRow w.heap.size 3 1 v vs.length (vs.map (Value.int .i64))) ∧ Below w.heap.size w w'
theorem NumsP.none {w w' : World} {o : Option (List Int)} {e : Ending} (ho : o = none) (h : e = .returned (.tuple #[.slice none 0 0, .bool false])) (hb : Below w.heap.size w w') : NumsP w o e w' := by
  subst ho
  exact ⟨h, hb⟩
theorem NumsP.some {w w' : World} {o : Option (List Int)} {vs : List Int} {v : Value} {e : Ending} (ho : o = some vs) (h : e = .returned (.tuple #[v, .bool true])) (h2 : w'.ownsRow w.heap.size 3 1 v vs.length (vs.map (Value.int .i64))) (hb : Below w.heap.size w w') : NumsP w o e w' := by
  subst ho
  exact ⟨⟨v, h, h2⟩, hb⟩

set_option maxHeartbeats 8000000 in
set_option maxRecDepth 1000000 in
theorem numbers_any (s : ByteArray) (i0 : Nat) (w : World) (hs : s.size ≤ 1048576) (hi : i0 ≤ s.size) : Calls Tryz.prog 40 #[.string s, .int .i64 i0] w (NumsP w (numsR (s.data.toList.drop i0))) := by
  obtain ⟨q0, hI0, hz0, hz1, hz2⟩ := info_parts infoIntN
  have HI0 := Lib.hid hI0
  have HZ0 := Lib.hid hz0
  have HZ1 := Lib.hid hz1
  have HZ2 := Lib.hid hz2
  clear hI0 hz0 hz1 hz2
  obtain ⟨o, ho⟩ : ∃ o, o = numsR (s.data.toList.drop i0) := ⟨_, rfl⟩
  rw [← ho]
  have HO0 : Hid (o = (numsR (s.data.toList.drop i0)).map (([] : List Int) ++ ·)) := by
    show o = _
    rw [ho]
    cases numsR (s.data.toList.drop i0) <;> rfl
  clear ho
  go_enter Tryz.func40, Tryz.ntmps40
  go_wp2_with fail
  go_loopw [1, 6] (fun u v wr => ∃ k : Nat, ∃ zs : List Int, ∃ L : Nat, k ≤ s.size ∧ L ≤ k ∧ zs.length = L ∧ u = .int .i64 (k : Nat) ∧ o = (numsR (s.data.toList.drop k)).map (zs ++ ·) ∧ wr.ownsRow w.heap.size 3 1 v L (zs.map (Value.int .i64)) ∧ Below w.heap.size w wr) (fun u _ _ => s.size - (RowKit.intOf u).toNat)
  case atStart => exact ⟨i0, [], 0, hi, Nat.zero_le _, rfl, rfl, HO0.out, own_nil _ _ _ _, Below.refl _ _⟩
  case round =>
    clear HO0 hi i0
    obtain ⟨k, zs, L, hk, hLk, hzl, rfl, hoo, how, hb⟩ := hrel
    obtain ⟨a, c, rfl⟩ := own_slice how
    have HW := Lib.hid how
    have HB := Lib.hid hb
    have HOO := Lib.hid hoo
    have HZL := Lib.hid hzl
    clear how hb hoo hzl
    by_cases hlt : k < s.size
    · have hk2 : (k : Int) < (s.size : Int) := by omega
      have hg := get_drop s hlt
      have HNO := Lib.hid (numsR_no s hlt)
      have HBAD := Lib.hid (numsR_bad s hlt)
      have HOK := Lib.hid (numsR_ok s hlt)
      have hnum : ∀ wx, Calls Tryz.prog 57 #[.string s, .int .i64 ((k : Int) + 1)] wx fun e w' => e = .returned (.tuple #[.int .i64 (num (digs s (k + 1))), .int .i64 ((k + 1 + (digs s (k + 1)).length : Nat) : Int)]) ∧ w' = wx := fun wx => Number_any s (k + 1) wx (by omega) (by omega)
      have HNUM := Lib.hid hnum
      clear hnum
      have hdl := digs_le s (k + 1) (by omega)
      generalize s.data.toList.getD k 0 = x at *
      have HLT := Lib.hid hlt
      by_cases hx : x = 32
      · have hx1 : ((x.toNat : Int) != 32) = false := by rw [hx]; rfl
        have hx2 : ((x.toNat : Int) == 32) = true := by rw [hx]; rfl
        have HBAD := Lib.hid (fun h => HBAD.out hx h)
        have HOK := Lib.hid (fun h h2 => HOK.out hx h h2)
        clear HNO hx
        generalize num (digs s (k + 1)) = v at *
        generalize (digs s (k + 1)).length = dl at *
        obtain ⟨k1, hk1⟩ : ∃ k1, k1 = k + 1 + dl := ⟨_, rfl⟩
        rw [← hk1] at HOK HNUM hdl
        have HK1 := Lib.hid hk1
        clear hk1
        go_wp2_with fail
        refine (HNUM.out wr).mono ?_
        rintro e1 w1 ⟨rfl, rfl⟩
        by_cases hv : v < 0
        · have HN : Hid (o = none) := by
            show _ = _
            rw [HOO.out, HBAD.out (.inl hv)]
            rfl
          clear HOO HOK HBAD HNUM
          go_wp2_with fail
          go_ret2
          exact NumsP.none HN.out rfl HB.out
        · by_cases hd6 : 6 < dl
          · have HN : Hid (o = none) := by
              show _ = _
              rw [HOO.out, HBAD.out (.inr hd6)]
              rfl
            have hgt : (k : Int) + 7 < (k1 : Int) := by have := HK1.out; omega
            have hv2 : decide (v < 0) = false := decide_eq_false hv
            clear HOO HOK HBAD HNUM
            go_wp2_with fail
            go_ret2
            exact NumsP.none HN.out rfl HB.out
          · have HN : Hid (o = (numsR (s.data.toList.drop k1)).map ((zs ++ [v]) ++ ·)) := by
              show _ = _
              rw [HOO.out, HOK.out (by omega) (by omega), map_app]
            have hngt : ¬ (k : Int) + 7 < (k1 : Int) := by have := HK1.out; omega
            have hv2 : decide (v < 0) = false := decide_eq_false hv
            have HK1S : Hid (k < k1 ∧ k1 ≤ s.size ∧ L + 1 ≤ k1) := ⟨by have := HK1.out; omega, hdl, by have := HK1.out; omega⟩
            clear HOO HOK HBAD HNUM hdl hd6
            have hnew := row_alloc w1 3 [.int .i64 v]
            have hbn : Below w1.heap.size w1 (w1.alloc (.cells [.int .i64 v].toArray 3)) := (Below.refl _ _).alloc (Nat.le_refl _) _
            have HOa := Lib.hid (own_stays HW.out hbn)
            have HBa := Lib.hid (HB.out.trans (hbn.mono HB.out.size))
            have HCEL := Lib.hid (hnew.cell 0)
            have HSZ : Hid (w.heap.size ≤ (w1.alloc (.cells [.int .i64 v].toArray 3)).heap.size) := HBa.out.size
            have HLN : Hid (L < 1048576) := Lib.hid (by omega)
            clear hnew hbn
            go_upto_region 9 with (at_builtin; refine Ops.wpList_append1 rfl _ _ 32 rfl w.heap.size 3 q0 (.int .i64 0) 8 Tryz.underlying32 HI0.out HZ0.out rfl HZ1.out HZ2.out _ L _ rfl HOa.out ⟨w1.heap.size, 0, none⟩ 1 (.int .i64 v) rfl HCEL.out rfl ?c1 ?c2 HSZ.out ?_)

            case c1 => have := HLN.out; unfold maxLen; omega
            case c2 => have := HLN.out; omega
            intro ao' co' w3 hO3 hg3
            have HB3 := Lib.hid (HBa.out.grown hg3 HSZ.out (own_low HOa.out))
            have HO3 := Lib.hid hO3
            clear hO3 hg3 HOa HBa HCEL HSZ
            go_wp2_with fail
            go_round
            case rel => exact ⟨k1, zs ++ [v], L + 1, HK1S.out.2.1, HK1S.out.2.2, by rw [List.length_append, HZL.out]; rfl, rfl, HN.out, by rw [map_snoc]; exact HO3.out, HB3.out⟩
            case measure => have := HK1S.out; simp [RowKit.intOf]; omega
      · have HF := Lib.hid (HNO.out hx)
        have hx1 : ((x.toNat : Int) != 32) = true := by
          rw [bne_iff_ne]
          intro h
          exact hx (UInt8.toNat_inj.1 (by exact_mod_cast h))
        have hx2 : ((x.toNat : Int) == 32) = false := by
          rw [beq_eq_false_iff_ne]
          intro h
          exact hx (UInt8.toNat_inj.1 (by exact_mod_cast h))
        have HN : Hid (o = none) := by
          show _ = _
          rw [HOO.out, HF.out]
          rfl
        clear hx HOO HF HNO HBAD HOK HNUM
        go_wp2_with fail
        go_ret2
        exact NumsP.none HN.out rfl HB.out
    · have HN : Hid (o = some zs) := by
        show _ = _
        rw [HOO.out, List.drop_eq_nil_of_le (by rw [← Lib.size_eq]; omega), numsR_nil]
        simp
      have hnl : ¬ (k : Int) < (s.size : Int) := by omega
      go_wp2_with fail
      go_ret2
      exact NumsP.some HN.out rfl (by rw [HZL.out]; exact HW.out) HB.out
end Rd
end Go.Proofs.YtfhhnajnanlmgaaGreatDoor
