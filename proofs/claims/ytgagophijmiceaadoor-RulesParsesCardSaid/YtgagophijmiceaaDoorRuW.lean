/- WALK: the reader's small methods: fail, want, end, rising, number; power. -/
import Derived.Test.YtgagophijmiceaaDoorRuPl
import Derived.Test.YtgagophijmiceaaDoorPrR
import Derived.WalkLawsBesides
namespace Go.Proofs.YtgagophijmiceaaDoor
set_option linter.unusedSimpArgs false
set_option linter.unusedVariables false
open Go.RowKit
namespace Pr
open Tld Mem Bl Pn Pw Rd

/-- A reader's cells. -/
def rdr (s : ByteArray) (i : Nat) : List Value := [.string s, .int .i64 ((i : Nat) : Int)]
theorem wr48 {z : Int} {k : Nat} (h : z = (k : Int)) (hk : k ≤ 9223372036854775807) : wrap64 z = (k : Int) := by rw [h]; unfold wrap64; omega
/-- What the reader's methods come to. -/
def EndP (s : ByteArray) (i : Nat) (e : Ending) : Prop := if i < s.size then e = (.panicked [{ v := .iface 57 (.agg #[.int .i64 ((i : Nat) : Int)]), recovered := false }]) else e = .returned (.tuple #[])
theorem endP_bad {s : ByteArray} {i : Nat} (h : i < s.size) : EndP s i (.panicked [{ v := .iface 57 (.agg #[.int .i64 ((i : Nat) : Int)]), recovered := false }]) := by unfold EndP; rw [if_pos h]
theorem endP_ok {s : ByteArray} {i : Nat} (h : ¬ i < s.size) : EndP s i (.returned (.tuple #[])) := by unfold EndP; rw [if_neg h]
def WantP (s : ByteArray) (b i : Nat) (c : UInt8) (e : Ending) (w' : World) : Prop := if i < s.data.toList.length ∧ s.data.toList.getD i 0 = c then e = .returned (.tuple #[]) ∧ Row w' b 62 (rdr s (i + 1)) ∧ i + 1 ≤ s.size else e = (.panicked [{ v := .iface 57 (.agg #[.int .i64 ((i : Nat) : Int)]), recovered := false }])
theorem wantP_ok {s : ByteArray} {b i : Nat} {c : UInt8} {w' : World} (h : i < s.data.toList.length ∧ s.data.toList.getD i 0 = c) (hr : Row w' b 62 (rdr s (i + 1))) : WantP s b i c (.returned (.tuple #[])) w' := by
  unfold WantP
  rw [if_pos h]
  have h1 := h.1
  rw [← Lib.size_eq] at h1
  exact ⟨rfl, hr, h1⟩
theorem wantP_bad {s : ByteArray} {b i : Nat} {c : UInt8} {w' : World} (h : ¬ (i < s.data.toList.length ∧ s.data.toList.getD i 0 = c)) : WantP s b i c (.panicked [{ v := .iface 57 (.agg #[.int .i64 ((i : Nat) : Int)]), recovered := false }]) w' := by
  unfold WantP
  rw [if_neg h]
def RdP (o : RN) (s : ByteArray) (b : Nat) (e : Ending) (w' : World) : Prop := match o with
  | .bad p => e = (.panicked [{ v := .iface 57 (.agg #[.int .i64 ((p : Nat) : Int)]), recovered := false }])
  | .ok n j => e = .returned (.int .i64 ((n : Nat) : Int)) ∧ Row w' b 62 (rdr s j) ∧ j ≤ s.size
theorem rdP_bad {o : RN} {s : ByteArray} {b p : Nat} {w' : World} (h : o = .bad p) : RdP o s b (.panicked [{ v := .iface 57 (.agg #[.int .i64 ((p : Nat) : Int)]), recovered := false }]) w' := by
  subst h
  rfl
theorem rdP_ok {o : RN} {s : ByteArray} {b n j : Nat} {w' : World} (h : o = .ok n j) (hr : Row w' b 62 (rdr s j)) (hj : j ≤ s.size) : RdP o s b (.returned (.int .i64 ((n : Nat) : Int))) w' := by
  subst h
  exact ⟨rfl, hr, hj⟩
theorem fail_any (v : Value) (p : Nat) (w : World) : Calls Tryd.prog 60 #[v, .int .i64 ((p : Nat) : Int)] w fun e w' => e = (.panicked [{ v := .iface 57 (.agg #[.int .i64 ((p : Nat) : Int)]), recovered := false }]) ∧ w' = w := by
  go_enter Tryd.func60, Tryd.ntmps60
  go_wp2_with fail
  exact ⟨rfl, rfl, rfl⟩
set_option maxRecDepth 1000000 in
theorem end_any (s : ByteArray) (b i : Nat) (w : World) (hs : s.size ≤ 9223372036854775807) (hi : i ≤ s.size) (hR : Row w b 62 (rdr s i)) : Calls Tryd.prog 61 #[.pointer (some ⟨b, 0, none⟩)] w fun e w' => EndP s i e ∧ Only b w w' := by
  have HR := Lib.hid hR
  have HO : Hid (Only b w w) := Lib.hid (Only.refl _ _)
  clear hR
  go_enter Tryd.func61, Tryd.ntmps61
  have f0 := HR.out.cell 0
  have f1 := HR.out.cell 1
  unfold rdr at f0 f1
  dsimp only [List.getElem?_cons_succ, List.getElem?_cons_zero] at f0 f1
  by_cases hlt : i < s.size
  · have hli : (i : Int) < (s.size : Int) := by omega
    go_upto_region 0 with fail
    go_big_quiet (fail)
    generalize hw2 : World.drewN w _ = w2 at *
    have hon : Only b w w2 := by rw [← hw2]; exact only_drewN (Only.refl _ _) _
    have HR := Lib.hid (show Row w2 b 62 (rdr s i) by rw [← hw2]; exact HR.out.drewN _)
    have HO := Lib.hid (HO.out.trans hon)
    clear hon hw2 f0 f1
    have HLT := Lib.hid hlt
    clear hlt
    have f0 := HR.out.cell 0
    have f1 := HR.out.cell 1
    unfold rdr at f0 f1
    dsimp only [List.getElem?_cons_succ, List.getElem?_cons_zero] at f0 f1
    go_wp2_with fail
    refine (fail_any _ i w2).mono ?_
    rintro e3 w3 ⟨rfl, rfl⟩
    go_wp2_with fail
    exact ⟨rfl, endP_bad HLT.out, HO.out⟩
  · have hli : ¬ (i : Int) < (s.size : Int) := by omega
    go_upto_region 0 with fail
    go_big_quiet (fail)
    generalize hw2 : World.drewN w _ = w2 at *
    have hon : Only b w w2 := by rw [← hw2]; exact only_drewN (Only.refl _ _) _
    have HR := Lib.hid (show Row w2 b 62 (rdr s i) by rw [← hw2]; exact HR.out.drewN _)
    have HO := Lib.hid (HO.out.trans hon)
    clear hon hw2 f0 f1
    have HLT := Lib.hid hlt
    clear hlt
    go_wp2_with fail
    go_end0
    exact ⟨endP_ok HLT.out, HO.out⟩
set_option maxHeartbeats 4000000 in
set_option maxRecDepth 1000000 in
theorem want_any (s : ByteArray) (b i : Nat) (c : UInt8) (w : World) (hs : s.size ≤ 9223372036854775807) (hi : i ≤ s.size) (hR : Row w b 62 (rdr s i)) : Calls Tryd.prog 57 #[.pointer (some ⟨b, 0, none⟩), .int .u8 ((c.toNat : Nat) : Int)] w fun e w' => WantP s b i c e w' ∧ Only b w w' := by
  have HR := Lib.hid hR
  have HO : Hid (Only b w w) := Lib.hid (Only.refl _ _)
  clear hR
  go_enter Tryd.func57, Tryd.ntmps57
  have f0 := HR.out.cell 0
  have f1 := HR.out.cell 1
  unfold rdr at f0 f1
  dsimp only [List.getElem?_cons_succ, List.getElem?_cons_zero] at f0 f1
  by_cases hlt : i < s.size
  · have hli : ((i : Int) == (s.size : Int)) = false := by rw [beq_eq_false_iff_ne]; omega
    have hg := get_drop s hlt
    have HLT : Hid (i < s.data.toList.length) := Lib.hid (by rw [← Lib.size_eq]; exact hlt)
    obtain ⟨x, hx⟩ : ∃ x, x = s.data.toList.getD i 0 := ⟨_, rfl⟩
    rw [← hx] at hg
    have HX := Lib.hid hx
    clear hx
    by_cases hxc : x = c
    · have HW : Hid (i < s.data.toList.length ∧ s.data.toList.getD i 0 = c) := Lib.hid ⟨HLT.out, by rw [← HX.out]; exact hxc⟩
      have E1 : Hid (wrap64 ((i : Int) + 1) = ((i + 1 : Nat) : Int)) := Lib.hid (wr48 (by push_cast; rfl) (by omega))
      subst hxc
      go_upto_region 0 with fail
      go_big_quiet (fail)
      generalize hw2 : World.drewN w _ = w2 at *
      have hon : Only b w w2 := by rw [← hw2]; exact only_drewN (Only.refl _ _) _
      have HR := Lib.hid (show Row w2 b 62 (rdr s i) by rw [← hw2]; exact HR.out.drewN _)
      have HO := Lib.hid (HO.out.trans hon)
      clear hon hw2 f0 f1
      have f0 := HR.out.cell 0
      have f1 := HR.out.cell 1
      unfold rdr at f0 f1
      dsimp only [List.getElem?_cons_succ, List.getElem?_cons_zero] at f0 f1
      have z1 := HR.out.frozen 1
      have e1 := E1.out
      go_wp2_with fail
      clear f0 f1 z1 e1
      have hon := only_setCell w2 b 1 (.int .i64 ((i + 1 : Nat) : Int))
      have hr2 : Row (w2.setCell ⟨b, 1, none⟩ (.int .i64 ((i + 1 : Nat) : Int))) b 62 (rdr s (i + 1)) := HR.out.set 1 (.int .i64 ((i + 1 : Nat) : Int))
      go_end0
      exact ⟨wantP_ok HW.out hr2, HO.out.trans hon⟩
    · have hxb : ((x.toNat : Int) == (c.toNat : Int)) = false := by rw [beq_eq_false_iff_ne]; intro h; exact hxc (UInt8.toNat_inj.1 (by exact_mod_cast h))
      have HW : Hid (¬ (i < s.data.toList.length ∧ s.data.toList.getD i 0 = c)) := Lib.hid (fun h => hxc (by rw [HX.out]; exact h.2))
      clear hxc
      go_upto_region 0 with fail
      go_big_quiet (fail)
      generalize hw2 : World.drewN w _ = w2 at *
      have hon : Only b w w2 := by rw [← hw2]; exact only_drewN (Only.refl _ _) _
      have HR := Lib.hid (show Row w2 b 62 (rdr s i) by rw [← hw2]; exact HR.out.drewN _)
      have HO := Lib.hid (HO.out.trans hon)
      clear hon hw2 f0 f1
      have f0 := HR.out.cell 0
      have f1 := HR.out.cell 1
      unfold rdr at f0 f1
      dsimp only [List.getElem?_cons_succ, List.getElem?_cons_zero] at f0 f1
      go_wp2_with fail
      refine (fail_any _ i w2).mono ?_
      rintro e3 w3 ⟨rfl, rfl⟩
      go_wp2_with fail
      exact ⟨rfl, wantP_bad HW.out, HO.out⟩
  · have hli : ((i : Int) == (s.size : Int)) = true := by rw [beq_iff_eq]; omega
    have HW : Hid (¬ (i < s.data.toList.length ∧ s.data.toList.getD i 0 = c)) := Lib.hid (fun h => by have h1 := h.1; rw [← Lib.size_eq] at h1; omega)
    clear hlt
    go_upto_region 0 with fail
    go_big_quiet (fail)
    generalize hw2 : World.drewN w _ = w2 at *
    have hon : Only b w w2 := by rw [← hw2]; exact only_drewN (Only.refl _ _) _
    have HR := Lib.hid (show Row w2 b 62 (rdr s i) by rw [← hw2]; exact HR.out.drewN _)
    have HO := Lib.hid (HO.out.trans hon)
    clear hon hw2 f0 f1
    have f0 := HR.out.cell 0
    have f1 := HR.out.cell 1
    unfold rdr at f0 f1
    dsimp only [List.getElem?_cons_succ, List.getElem?_cons_zero] at f0 f1
    go_wp2_with fail
    refine (fail_any _ i w2).mono ?_
    rintro e3 w3 ⟨rfl, rfl⟩
    go_wp2_with fail
    exact ⟨rfl, wantP_bad HW.out, HO.out⟩
/-- The place at which a reader stands. -/
def rat (w : World) (b : Nat) : Nat := match w.cell? ⟨b, 1, none⟩ with
  | some (.int _ z) => z.toNat
  | _ => 0
theorem rat_row {w : World} {b i : Nat} {s : ByteArray} (h : Row w b 62 (rdr s i)) : rat w b = i := by
  unfold rat
  have h1 := h.cell 1
  unfold rdr at h1
  dsimp only [List.getElem?_cons_succ, List.getElem?_cons_zero] at h1
  rw [h1]
  exact Int.toNat_natCast i
theorem or_fin : ∀ v : Fin 512, ∀ d : Fin 9, v.val / 2 ^ d.val = 0 → bits .or .i64 (v.val : Int) (wrap64 (2 ^ min d.val 64)) = ((v.val + 2 ^ d.val : Nat) : Int) ∧ v.val + 2 ^ d.val < 512 := by decide +kernel
set_option maxHeartbeats 8000000 in
set_option maxRecDepth 1000000 in
theorem rising_any (s : ByteArray) (b i : Nat) (w : World) (hs : s.size ≤ 9223372036854775807) (hi : i ≤ s.size) (hR : Row w b 62 (rdr s i)) : Calls Tryd.prog 56 #[.pointer (some ⟨b, 0, none⟩)] w fun e w' => RdP (riseR s.data.toList i 0) s b e w' ∧ Only b w w' := by
  have HSZ := Lib.hid hs
  have HI := Lib.hid hi
  have HR := Lib.hid hR
  clear hR hs hi
  go_enter Tryd.func56, Tryd.ntmps56
  go_upto_region 1 with fail
  go_loopw [2] (fun v wx => ∃ j n : Nat, v = .int .i64 ((n : Nat) : Int) ∧ n < 512 ∧ j ≤ s.size ∧ Row wx b 62 (rdr s j) ∧ Only b w wx ∧ riseR s.data.toList i 0 = riseR s.data.toList j n) (fun _ wx => s.size - rat wx b)
  case atStart => exact ⟨i, 0, rfl, by decide, HI.out, HR.out, Only.refl _ _, rfl⟩
  case round =>
    clear HR HI
    obtain ⟨j, n, rfl, hn, hj, hr, ho, hrs⟩ := hrel
    have HR := Lib.hid hr
    have HO := Lib.hid ho
    have HRS := Lib.hid hrs
    have HNB := Lib.hid hn
    have HJ := Lib.hid hj
    have hrat := rat_row hr
    rw [hrat]
    clear hr ho hrs hn hrat
    have f0 := HR.out.cell 0
    have f1 := HR.out.cell 1
    unfold rdr at f0 f1
    dsimp only [List.getElem?_cons_succ, List.getElem?_cons_zero] at f0 f1
    by_cases hd : dg8 s.data.toList j = true
    · have hdd := hd
      unfold dg8 at hdd
      have hdd := of_decide_eq_true hdd
      have hjs : j < s.size := by have := hdd.1; rw [← Lib.size_eq] at this; exact this
      have hji : (j : Int) < (s.size : Int) := by omega
      have hg := get_drop s hjs
      have HD := Lib.hid hd
      have HJS := Lib.hid hjs
      obtain ⟨x, hx⟩ : ∃ x, x = s.data.toList.getD j 0 := ⟨_, rfl⟩
      rw [← hx] at hg hdd
      have HX := Lib.hid hx
      have h48 : (48 : Int) ≤ (x.toNat : Int) := by omega
      have h56 : (x.toNat : Int) ≤ 56 := by omega
      obtain ⟨d, hd2⟩ : ∃ d, d = x.toNat - 48 := ⟨_, rfl⟩
      have HDX : Hid (d < 9 ∧ (x.toNat : Int) - 48 = (d : Int)) := Lib.hid (by omega)
      have HD2 : Hid ((s.data.toList.getD j 0).toNat - 48 = d) := Lib.hid (by rw [← HX.out]; exact hd2.symm)
      clear hx hdd hd2 hd hj
      go_upto_region 1 with fail
      go_big_quiet (fail)
      generalize hw2 : World.drewN wr _ = w2 at *
      have hon : Only b wr w2 := by rw [← hw2]; exact only_drewN (Only.refl _ _) _
      have HR := Lib.hid (show Row w2 b 62 (rdr s j) by rw [← hw2]; exact HR.out.drewN _)
      have HO := Lib.hid (HO.out.trans hon)
      clear hon hw2 f0 f1
      have f0 := HR.out.cell 0
      have f1 := HR.out.cell 1
      unfold rdr at f0 f1
      dsimp only [List.getElem?_cons_succ, List.getElem?_cons_zero] at f0 f1
      have w8 : IntKind.u8.wrap ((x.toNat : Int) - 48) = (x.toNat : Int) - 48 := u8_in (by omega) (by omega)
      go_upto_region 3 with fail
      go_upto_region 3 with fail
      go_big_quiet (fail)
      generalize hw2 : World.drewN w2 _ = w3 at *
      have hon : Only b w2 w3 := by rw [← hw2]; exact only_drewN (Only.refl _ _) _
      have HR := Lib.hid (show Row w3 b 62 (rdr s j) by rw [← hw2]; exact HR.out.drewN _)
      have HO := Lib.hid (HO.out.trans hon)
      clear hon hw2 f0 f1
      clear w8
      rw [HDX.out.2]
      have hsh : (n : Int) / 2 ^ min d 64 = ((n / 2 ^ d : Nat) : Int) := by
        rw [show min d 64 = d from Nat.min_eq_left (by have := HDX.out.1; omega)]
        push_cast
        rfl
      obtain ⟨q, hq⟩ : ∃ q, q = n / 2 ^ d := ⟨_, rfl⟩
      rw [← hq] at hsh
      have HQ := Lib.hid hq
      clear hq
      by_cases hq0 : q = 0
      · have hqb : ((q : Int) != 0) = false := by rw [hq0]; rfl
        have HQ0 := Lib.hid hq0
        clear hq0
        have HOR := Lib.hid (or_fin ⟨n, HNB.out⟩ ⟨d, HDX.out.1⟩ (by rw [← HQ.out]; exact HQ0.out))
        have HNX : Hid (riseR s.data.toList i 0 = riseR s.data.toList (j + 1) (n + 2 ^ d)) := Lib.hid (by
          have h := riseR_next (n := n) HD.out (by rw [HD2.out, ← HQ.out]; exact HQ0.out)
          rw [HD2.out] at h
          rw [HRS.out]
          exact h)
        have E1 : Hid (wrap64 ((j : Int) + 1) = ((j + 1 : Nat) : Int)) := Lib.hid (wr48 (by push_cast; rfl) (by have := HSZ.out; have := HJS.out; omega))
        go_upto_region 2 with fail
        have hor := HOR.out.1
        dsimp only at hor
        rw [hor]
        clear hor hsh hqb
        have f0 := HR.out.cell 0
        have f1 := HR.out.cell 1
        unfold rdr at f0 f1
        dsimp only [List.getElem?_cons_succ, List.getElem?_cons_zero] at f0 f1
        have z1 := HR.out.frozen 1
        have e1 := E1.out
        go_wp2_with fail
        clear f0 f1 z1 e1
        have hon := only_setCell w3 b 1 (.int .i64 ((j + 1 : Nat) : Int))
        have hr2 : Row (w3.setCell ⟨b, 1, none⟩ (.int .i64 ((j + 1 : Nat) : Int))) b 62 (rdr s (j + 1)) := HR.out.set 1 (.int .i64 ((j + 1 : Nat) : Int))
        go_roundw
        case rel => exact ⟨j + 1, n + 2 ^ d, rfl, HOR.out.2, HJS.out, hr2, HO.out.trans hon, HNX.out⟩
        case measure =>
          show s.size - rat (w3.setCell ⟨b, 1, none⟩ (.int .i64 ((j + 1 : Nat) : Int))) b < _
          rw [rat_row hr2]
          have := HJS.out
          omega
      · have hqb : ((q : Int) != 0) = true := by rw [bne_iff_ne]; omega
        have HBAD : Hid (riseR s.data.toList i 0 = .bad j) := Lib.hid (by rw [HRS.out]; exact riseR_bad HD.out (by rw [HD2.out, ← HQ.out]; exact hq0))
        clear hq0
        have f0 := HR.out.cell 0
        have f1 := HR.out.cell 1
        unfold rdr at f0 f1
        dsimp only [List.getElem?_cons_succ, List.getElem?_cons_zero] at f0 f1
        go_wp2_with fail
        refine (fail_any _ j w3).mono ?_
        rintro e4 w4 ⟨rfl, rfl⟩
        go_wp2_with fail
        exact ⟨rfl, rdP_bad HBAD.out, HO.out⟩
    · have hd : dg8 s.data.toList j = false := by simpa using hd
      have HEND : Hid (riseR s.data.toList i 0 = .ok n j) := Lib.hid (by rw [HRS.out]; exact riseR_end hd)
      by_cases hjs : j < s.size
      · have hji : (j : Int) < (s.size : Int) := by omega
        have hg := get_drop s hjs
        obtain ⟨x, hx⟩ : ∃ x, x = s.data.toList.getD j 0 := ⟨_, rfl⟩
        have hnd : (x.toNat : Int) < 48 ∨ (56 : Int) < (x.toNat : Int) := by
          unfold dg8 at hd
          have h := of_decide_eq_false hd
          rw [← Lib.size_eq, ← hx] at h
          omega
        rw [← hx] at hg
        clear hx hd
        rcases hnd with h1 | h1
        · have hn2 : ¬ (48 : Int) ≤ (x.toNat : Int) := by omega
          clear h1
          go_upto_region 1 with fail
          go_big_quiet (fail)
          generalize hw2 : World.drewN wr _ = w2 at *
          have hon : Only b wr w2 := by rw [← hw2]; exact only_drewN (Only.refl _ _) _
          have HR := Lib.hid (show Row w2 b 62 (rdr s j) by rw [← hw2]; exact HR.out.drewN _)
          have HO := Lib.hid (HO.out.trans hon)
          clear hon hw2 f0 f1
          go_wp2_with fail
          go_ret
          exact ⟨rdP_ok HEND.out HR.out HJ.out, HO.out⟩
        · have h48 : (48 : Int) ≤ (x.toNat : Int) := by omega
          have hn2 : ¬ (x.toNat : Int) ≤ 56 := by omega
          clear h1
          go_upto_region 1 with fail
          go_big_quiet (fail)
          generalize hw2 : World.drewN wr _ = w2 at *
          have hon : Only b wr w2 := by rw [← hw2]; exact only_drewN (Only.refl _ _) _
          have HR := Lib.hid (show Row w2 b 62 (rdr s j) by rw [← hw2]; exact HR.out.drewN _)
          have HO := Lib.hid (HO.out.trans hon)
          clear hon hw2 f0 f1
          go_wp2_with fail
          go_ret
          exact ⟨rdP_ok HEND.out HR.out HJ.out, HO.out⟩
      · have hji : ¬ (j : Int) < (s.size : Int) := by omega
        clear hd
        go_upto_region 1 with fail
        go_big_quiet (fail)
        generalize hw2 : World.drewN wr _ = w2 at *
        have hon : Only b wr w2 := by rw [← hw2]; exact only_drewN (Only.refl _ _) _
        have HR := Lib.hid (show Row w2 b 62 (rdr s j) by rw [← hw2]; exact HR.out.drewN _)
        have HO := Lib.hid (HO.out.trans hon)
        clear hon hw2 f0 f1
        go_wp2_with fail
        go_ret
        exact ⟨rdP_ok HEND.out HR.out HJ.out, HO.out⟩
set_option maxHeartbeats 8000000 in
set_option maxRecDepth 1000000 in
theorem number_any (s : ByteArray) (b i : Nat) (lo hi : Int) (w : World) (hs : s.size ≤ 9223372036854775807) (hi0 : i ≤ s.size) (hlo : 0 ≤ lo ∧ lo ≤ 999) (hhi : hi ≤ 999) (hR : Row w b 62 (rdr s i)) : Calls Tryd.prog 58 #[.pointer (some ⟨b, 0, none⟩), .int .i64 lo, .int .i64 hi] w fun e w' => RdP (numO s.data.toList i lo hi) s b e w' ∧ Only b w w' := by
  have HSZ := Lib.hid hs
  have HR := Lib.hid hR
  have HALL : Hid (∀ x ∈ digs s i, digB x = true) := Lib.hid (digs_all s i)
  have HLT : Hid (∀ q, q < (digs s i).length → i + q < s.size ∧ (digs s i).getD q 0 = s.data.toList.getD (i + q) 0 ∧ digB (s.data.toList.getD (i + q) 0) = true) := Lib.hid (fun q hq => digs_lt hq)
  have HEND : Hid (i + (digs s i).length < s.size → digB (s.data.toList.getD (i + (digs s i).length) 0) = false) := Lib.hid digs_end
  have HLE : Hid (i + (digs s i).length ≤ s.size) := Lib.hid (digs_le s i hi0)
  have HNO : Hid (numO s.data.toList i lo hi = if numv (digs s i) < lo ∨ hi < numv (digs s i) then .bad i else .ok (numv (digs s i)).toNat (i + (digs s i).length)) := Lib.hid (by unfold numO; rw [dgs_digs])
  generalize digs s i = ds at *
  have HLO := Lib.hid hlo
  have HHI := Lib.hid hhi
  clear hR hs hi0 hlo hhi
  go_enter Tryd.func58, Tryd.ntmps58
  have f0 := HR.out.cell 0
  have f1 := HR.out.cell 1
  unfold rdr at f0 f1
  dsimp only [List.getElem?_cons_succ, List.getElem?_cons_zero] at f0 f1
  go_upto_region 3 with fail
  clear f0 f1
  go_loopw [8] (fun v wx => ∃ (k : Nat) (n : Int), v = .int .i64 n ∧ n = mac1 (ds.take k) ∧ k ≤ ds.length ∧ Row wx b 62 (rdr s (i + k)) ∧ Only b w wx) (fun _ wx => s.size - rat wx b)
  case atStart => exact ⟨0, 0, rfl, rfl, Nat.zero_le _, HR.out, Only.refl _ _⟩
  case round =>
    clear HR
    obtain ⟨k, n, rfl, hn, hk, hr, ho⟩ := hrel
    have HR := Lib.hid hr
    have HO := Lib.hid ho
    have HN := Lib.hid hn
    have HK := Lib.hid hk
    have hrat := rat_row hr
    rw [hrat]
    have hnb := mac1_b HALL.out k
    rw [← hn] at hnb
    have HNB := Lib.hid hnb
    clear hr ho hn hrat hnb
    obtain ⟨z, hz⟩ : ∃ z, z = i + k := ⟨_, rfl⟩
    rw [← hz] at HR ⊢
    have HZE := Lib.hid hz
    have f0 := HR.out.cell 0
    have f1 := HR.out.cell 1
    unfold rdr at f0 f1
    dsimp only [List.getElem?_cons_succ, List.getElem?_cons_zero] at f0 f1
    by_cases hkl : k < ds.length
    · have h3 := HLT.out k hkl
      have hjs := h3.1
      rw [← hz] at hjs h3
      have hji : (z : Int) < (s.size : Int) := by omega
      have hg := get_drop s hjs
      have hxd := dig_num h3.2.2
      have hnx := mac1_next hkl
      rw [h3.2.1, ← HN.out] at hnx
      have HJS := Lib.hid hjs
      obtain ⟨x, hx⟩ : ∃ x, x = s.data.toList.getD z 0 := ⟨_, rfl⟩
      rw [← hx] at hg hxd hnx
      have h48 : (48 : Int) ≤ (x.toNat : Int) := by omega
      have h57 : (x.toNat : Int) ≤ 57 := by omega
      have HNX : Hid (min (n * 10 + ((x.toNat : Int) - 48)) 1000 = mac1 (ds.take (k + 1))) := Lib.hid hnx.symm
      have HKL : Hid (k + 1 ≤ ds.length) := Lib.hid hkl
      obtain ⟨m3, hm3⟩ : ∃ m3, m3 = n * 10 + ((x.toNat : Int) - 48) := ⟨_, rfl⟩
      have nb9 := HNB.out
      have W1 : Hid (wrap64 (n * 10) = n * 10) := Lib.hid (wr_big (by omega) (by omega))
      have W2 : Hid (wrap64 (n * 10 + ((x.toNat : Int) - 48)) = m3) := Lib.hid (by rw [hm3]; exact wr_big (by omega) (by omega))
      have E1 : Hid (wrap64 ((z : Int) + 1) = ((z + 1 : Nat) : Int)) := Lib.hid (wr48 (by push_cast; rfl) (by have := HSZ.out; omega))
      rw [← hm3] at HNX
      have W8 : Hid (IntKind.u8.wrap ((x.toNat : Int) - 48) = (x.toNat : Int) - 48) := Lib.hid (u8_in (by omega) (by omega))
      clear h3 hxd hnx hx hz hk hkl nb9 hm3
      go_upto_region 3 with fail
      go_big_quiet (fail)
      generalize hw2 : World.drewN wr _ = w2 at *
      have hon : Only b wr w2 := by rw [← hw2]; exact only_drewN (Only.refl _ _) _
      have HR := Lib.hid (show Row w2 b 62 (rdr s z) by rw [← hw2]; exact HR.out.drewN _)
      have HO := Lib.hid (HO.out.trans hon)
      clear hon hw2 f0 f1
      have f0 := HR.out.cell 0
      have f1 := HR.out.cell 1
      unfold rdr at f0 f1
      dsimp only [List.getElem?_cons_succ, List.getElem?_cons_zero] at f0 f1
      have w8 := W8.out
      have w1 := W1.out
      have w2' := W2.out
      go_upto_region 4 with fail
      go_big_quiet (fail)
      generalize hw2 : World.drewN w2 _ = w3 at *
      have hon : Only b w2 w3 := by rw [← hw2]; exact only_drewN (Only.refl _ _) _
      have HR := Lib.hid (show Row w3 b 62 (rdr s z) by rw [← hw2]; exact HR.out.drewN _)
      have HO := Lib.hid (HO.out.trans hon)
      clear hon hw2 f0 f1
      clear w8 w1 w2'
      have f0 := HR.out.cell 0
      have f1 := HR.out.cell 1
      unfold rdr at f0 f1
      dsimp only [List.getElem?_cons_succ, List.getElem?_cons_zero] at f0 f1
      have z1 := HR.out.frozen 1
      have e1 := E1.out
      go_wp2_with fail
      clear f0 f1 z1 e1
      have hon := only_setCell w3 b 1 (.int .i64 ((z + 1 : Nat) : Int))
      have hr2 : Row (w3.setCell ⟨b, 1, none⟩ (.int .i64 ((z + 1 : Nat) : Int))) b 62 (rdr s (z + 1)) := HR.out.set 1 (.int .i64 ((z + 1 : Nat) : Int))
      go_roundw
      case rel => exact ⟨k + 1, _, rfl, HNX.out, HKL.out, by rw [show i + (k + 1) = z + 1 by rw [HZE.out]; rfl]; exact hr2, HO.out.trans hon⟩
      case measure =>
        show s.size - rat (w3.setCell ⟨b, 1, none⟩ (.int .i64 ((z + 1 : Nat) : Int))) b < _
        rw [rat_row hr2]
        have := HJS.out
        omega
    · obtain rfl : k = ds.length := by omega
      have HNV : Hid (n = mac1 ds) := Lib.hid (by rw [HN.out, List.take_length])
      have HZL : Hid (z ≤ s.size) := Lib.hid (by rw [hz]; exact HLE.out)
      have HNO2 : Hid (numO s.data.toList i lo hi = if numv ds < lo ∨ hi < numv ds then .bad i else .ok (numv ds).toNat z) := Lib.hid (by rw [HNO.out, ← hz])
      clear hkl hk
      by_cases hjs : z < s.size
      · have hji : (z : Int) < (s.size : Int) := by omega
        have hg := get_drop s hjs
        have hx := HEND.out (by rw [← hz]; exact hjs)
        rw [← hz] at hx
        obtain ⟨x, hxx⟩ : ∃ x, x = s.data.toList.getD z 0 := ⟨_, rfl⟩
        rw [← hxx] at hg hx
        have hnd : (x.toNat : Int) < 48 ∨ (57 : Int) < (x.toNat : Int) := by
          unfold digB at hx
          have h := of_decide_eq_false hx
          omega
        clear hx hxx hz
        rcases hnd with h1 | h1
        · have hn2 : ¬ (48 : Int) ≤ (x.toNat : Int) := by omega
          clear h1
          go_upto_region 3 with fail
          go_big_quiet (fail)
          generalize hw2 : World.drewN wr _ = w2 at *
          have hon : Only b wr w2 := by rw [← hw2]; exact only_drewN (Only.refl _ _) _
          have HR := Lib.hid (show Row w2 b 62 (rdr s z) by rw [← hw2]; exact HR.out.drewN _)
          have HO := Lib.hid (HO.out.trans hon)
          clear hon hw2 f0 f1
          clear hg hn2 hji
          have f0 := HR.out.cell 0
          have f1 := HR.out.cell 1
          unfold rdr at f0 f1
          dsimp only [List.getElem?_cons_succ, List.getElem?_cons_zero] at f0 f1
          by_cases hds : ds = []
          · have hzi : ((z : Int) == (i : Int)) = true := by rw [beq_iff_eq, HZE.out, hds]; rfl
            have HBD : Hid (numv ds < lo ∨ hi < numv ds) := Lib.hid (.inl (by rw [hds]; have := HLO.out; have e : numv [] = -1 := rfl; omega))
            clear hds
            go_wp2_with fail
            refine (fail_any _ i w2).mono ?_
            rintro e3 w3 ⟨rfl, rfl⟩
            go_wp2_with fail
            exact ⟨rfl, rdP_bad (by rw [HNO2.out, if_pos HBD.out]), HO.out⟩
          · have hlen := List.length_pos_iff.2 hds
            have hzi : ((z : Int) == (i : Int)) = false := by rw [beq_eq_false_iff_ne]; have := HZE.out; omega
            have h0 := HLT.out 0 hlen
            rw [Nat.add_zero] at h0
            have his := h0.1
            have hg0 := get_drop s his
            obtain ⟨y, hy⟩ : ∃ y, y = s.data.toList.getD i 0 := ⟨_, rfl⟩
            rw [← hy] at hg0
            have HHD : Hid (ds.head? = some y) := Lib.hid (by
              rw [hy, ← h0.2.1]
              rcases ds with _ | ⟨c, r⟩
              · exact absurd rfl hds
              · rfl)
            have HDS := Lib.hid hds
            have E9 : Hid (wrap64 ((i : Int) + 1) = ((i + 1 : Nat) : Int)) := Lib.hid (wr48 (by push_cast; rfl) (by have := HSZ.out; omega))
            clear h0 hy hds
            by_cases hbad0 : y = 48 ∧ 1 < ds.length
            · have hy48 : ((y.toNat : Int) == 48) = true := byte_eq (k := 48) (by decide) hbad0.1
              have hgt : ((i + 1 : Nat) : Int) < (z : Int) := by have := HZE.out; have := hbad0.2; omega
              have HBD : Hid (numv ds < lo ∨ hi < numv ds) := Lib.hid (.inl (by rw [numv_zero HHD.out hbad0.1 hbad0.2]; have := HLO.out; omega))
              clear hbad0 hlen
              have e9 := E9.out
              go_wp2_with fail
              refine (fail_any _ i w2).mono ?_
              rintro e3 w3 ⟨rfl, rfl⟩
              go_wp2_with fail
              exact ⟨rfl, rdP_bad (by rw [HNO2.out, if_pos HBD.out]), HO.out⟩
            · have HNV2 : Hid (numv ds = val ds) := Lib.hid (numv_val HHD.out (by
                by_cases h1 : y = 48
                · exact .inr (by have h2 : ¬ 1 < ds.length := fun h => hbad0 ⟨h1, h⟩; omega)
                · exact .inl h1))
              have HREL := Lib.hid (mac1_val HALL.out)
              rw [← HNV.out, ← HNV2.out] at HREL
              obtain ⟨q1, hq1⟩ : ∃ q1, q1 = ((y.toNat : Int) == 48) := ⟨_, rfl⟩
              have hqq : q1 = false ∨ (q1 = true ∧ ¬ ((i + 1 : Nat) : Int) < (z : Int)) := by
                by_cases h1 : y = 48
                · right
                  refine ⟨by rw [hq1]; exact byte_eq (k := 48) (by decide) h1, ?_⟩
                  have h2 : ¬ 1 < ds.length := fun h => hbad0 ⟨h1, h⟩
                  have := HZE.out
                  omega
                · left
                  rw [hq1]
                  exact byte_ne (k := 48) (by decide) h1
              have hy48 := hq1.symm
              clear hbad0 hlen hq1
              by_cases hl : n < lo
              · have HBD : Hid (numv ds < lo ∨ hi < numv ds) := Lib.hid (.inl (by have := HREL.out; have := HHI.out; have := HLO.out; omega))
                have e9 := E9.out
                rcases hqq with rfl | ⟨rfl, hgt⟩
                · skip
                  go_wp2_with fail
                  refine (fail_any _ i w2).mono ?_
                  rintro e3 w3 ⟨rfl, rfl⟩
                  go_wp2_with fail
                  exact ⟨rfl, rdP_bad (by rw [HNO2.out, if_pos HBD.out]), HO.out⟩
                · skip
                  go_wp2_with fail
                  refine (fail_any _ i w2).mono ?_
                  rintro e3 w3 ⟨rfl, rfl⟩
                  go_wp2_with fail
                  exact ⟨rfl, rdP_bad (by rw [HNO2.out, if_pos HBD.out]), HO.out⟩
              · by_cases hh : hi < n
                · have HBD : Hid (numv ds < lo ∨ hi < numv ds) := Lib.hid (.inr (by have := HREL.out; have := HHI.out; omega))
                  have e9 := E9.out
                  rcases hqq with rfl | ⟨rfl, hgt⟩
                  · skip
                    go_wp2_with fail
                    refine (fail_any _ i w2).mono ?_
                    rintro e3 w3 ⟨rfl, rfl⟩
                    go_wp2_with fail
                    exact ⟨rfl, rdP_bad (by rw [HNO2.out, if_pos HBD.out]), HO.out⟩
                  · skip
                    go_wp2_with fail
                    refine (fail_any _ i w2).mono ?_
                    rintro e3 w3 ⟨rfl, rfl⟩
                    go_wp2_with fail
                    exact ⟨rfl, rdP_bad (by rw [HNO2.out, if_pos HBD.out]), HO.out⟩
                · have HOK : Hid (numO s.data.toList i lo hi = .ok n.toNat z) := Lib.hid (by
                    have h1 := HREL.out
                    have h2 := HHI.out
                    have h3 : numv ds = n := by omega
                    rw [HNO2.out, if_neg (by omega), h3])
                  have HNN : Hid (((n.toNat : Nat) : Int) = n) := Lib.hid (by have := HNB.out; omega)
                  have e9 := E9.out
                  rcases hqq with rfl | ⟨rfl, hgt⟩
                  · skip
                    go_wp2_with fail
                    go_ret
                    refine ⟨?_, HO.out⟩
                    rw [← HNN.out]
                    exact rdP_ok HOK.out HR.out HZL.out
                  · skip
                    go_wp2_with fail
                    go_ret
                    refine ⟨?_, HO.out⟩
                    rw [← HNN.out]
                    exact rdP_ok HOK.out HR.out HZL.out
        · have h48 : (48 : Int) ≤ (x.toNat : Int) := by omega
          have hn2 : ¬ (x.toNat : Int) ≤ 57 := by omega
          clear h1
          go_upto_region 3 with fail
          go_big_quiet (fail)
          generalize hw2 : World.drewN wr _ = w2 at *
          have hon : Only b wr w2 := by rw [← hw2]; exact only_drewN (Only.refl _ _) _
          have HR := Lib.hid (show Row w2 b 62 (rdr s z) by rw [← hw2]; exact HR.out.drewN _)
          have HO := Lib.hid (HO.out.trans hon)
          clear hon hw2 f0 f1
          clear hg hn2 h48 hji
          have f0 := HR.out.cell 0
          have f1 := HR.out.cell 1
          unfold rdr at f0 f1
          dsimp only [List.getElem?_cons_succ, List.getElem?_cons_zero] at f0 f1
          by_cases hds : ds = []
          · have hzi : ((z : Int) == (i : Int)) = true := by rw [beq_iff_eq, HZE.out, hds]; rfl
            have HBD : Hid (numv ds < lo ∨ hi < numv ds) := Lib.hid (.inl (by rw [hds]; have := HLO.out; have e : numv [] = -1 := rfl; omega))
            clear hds
            go_wp2_with fail
            refine (fail_any _ i w2).mono ?_
            rintro e3 w3 ⟨rfl, rfl⟩
            go_wp2_with fail
            exact ⟨rfl, rdP_bad (by rw [HNO2.out, if_pos HBD.out]), HO.out⟩
          · have hlen := List.length_pos_iff.2 hds
            have hzi : ((z : Int) == (i : Int)) = false := by rw [beq_eq_false_iff_ne]; have := HZE.out; omega
            have h0 := HLT.out 0 hlen
            rw [Nat.add_zero] at h0
            have his := h0.1
            have hg0 := get_drop s his
            obtain ⟨y, hy⟩ : ∃ y, y = s.data.toList.getD i 0 := ⟨_, rfl⟩
            rw [← hy] at hg0
            have HHD : Hid (ds.head? = some y) := Lib.hid (by
              rw [hy, ← h0.2.1]
              rcases ds with _ | ⟨c, r⟩
              · exact absurd rfl hds
              · rfl)
            have HDS := Lib.hid hds
            have E9 : Hid (wrap64 ((i : Int) + 1) = ((i + 1 : Nat) : Int)) := Lib.hid (wr48 (by push_cast; rfl) (by have := HSZ.out; omega))
            clear h0 hy hds
            by_cases hbad0 : y = 48 ∧ 1 < ds.length
            · have hy48 : ((y.toNat : Int) == 48) = true := byte_eq (k := 48) (by decide) hbad0.1
              have hgt : ((i + 1 : Nat) : Int) < (z : Int) := by have := HZE.out; have := hbad0.2; omega
              have HBD : Hid (numv ds < lo ∨ hi < numv ds) := Lib.hid (.inl (by rw [numv_zero HHD.out hbad0.1 hbad0.2]; have := HLO.out; omega))
              clear hbad0 hlen
              have e9 := E9.out
              go_wp2_with fail
              refine (fail_any _ i w2).mono ?_
              rintro e3 w3 ⟨rfl, rfl⟩
              go_wp2_with fail
              exact ⟨rfl, rdP_bad (by rw [HNO2.out, if_pos HBD.out]), HO.out⟩
            · have HNV2 : Hid (numv ds = val ds) := Lib.hid (numv_val HHD.out (by
                by_cases h1 : y = 48
                · exact .inr (by have h2 : ¬ 1 < ds.length := fun h => hbad0 ⟨h1, h⟩; omega)
                · exact .inl h1))
              have HREL := Lib.hid (mac1_val HALL.out)
              rw [← HNV.out, ← HNV2.out] at HREL
              obtain ⟨q1, hq1⟩ : ∃ q1, q1 = ((y.toNat : Int) == 48) := ⟨_, rfl⟩
              have hqq : q1 = false ∨ (q1 = true ∧ ¬ ((i + 1 : Nat) : Int) < (z : Int)) := by
                by_cases h1 : y = 48
                · right
                  refine ⟨by rw [hq1]; exact byte_eq (k := 48) (by decide) h1, ?_⟩
                  have h2 : ¬ 1 < ds.length := fun h => hbad0 ⟨h1, h⟩
                  have := HZE.out
                  omega
                · left
                  rw [hq1]
                  exact byte_ne (k := 48) (by decide) h1
              have hy48 := hq1.symm
              clear hbad0 hlen hq1
              by_cases hl : n < lo
              · have HBD : Hid (numv ds < lo ∨ hi < numv ds) := Lib.hid (.inl (by have := HREL.out; have := HHI.out; have := HLO.out; omega))
                have e9 := E9.out
                rcases hqq with rfl | ⟨rfl, hgt⟩
                · skip
                  go_wp2_with fail
                  refine (fail_any _ i w2).mono ?_
                  rintro e3 w3 ⟨rfl, rfl⟩
                  go_wp2_with fail
                  exact ⟨rfl, rdP_bad (by rw [HNO2.out, if_pos HBD.out]), HO.out⟩
                · skip
                  go_wp2_with fail
                  refine (fail_any _ i w2).mono ?_
                  rintro e3 w3 ⟨rfl, rfl⟩
                  go_wp2_with fail
                  exact ⟨rfl, rdP_bad (by rw [HNO2.out, if_pos HBD.out]), HO.out⟩
              · by_cases hh : hi < n
                · have HBD : Hid (numv ds < lo ∨ hi < numv ds) := Lib.hid (.inr (by have := HREL.out; have := HHI.out; omega))
                  have e9 := E9.out
                  rcases hqq with rfl | ⟨rfl, hgt⟩
                  · skip
                    go_wp2_with fail
                    refine (fail_any _ i w2).mono ?_
                    rintro e3 w3 ⟨rfl, rfl⟩
                    go_wp2_with fail
                    exact ⟨rfl, rdP_bad (by rw [HNO2.out, if_pos HBD.out]), HO.out⟩
                  · skip
                    go_wp2_with fail
                    refine (fail_any _ i w2).mono ?_
                    rintro e3 w3 ⟨rfl, rfl⟩
                    go_wp2_with fail
                    exact ⟨rfl, rdP_bad (by rw [HNO2.out, if_pos HBD.out]), HO.out⟩
                · have HOK : Hid (numO s.data.toList i lo hi = .ok n.toNat z) := Lib.hid (by
                    have h1 := HREL.out
                    have h2 := HHI.out
                    have h3 : numv ds = n := by omega
                    rw [HNO2.out, if_neg (by omega), h3])
                  have HNN : Hid (((n.toNat : Nat) : Int) = n) := Lib.hid (by have := HNB.out; omega)
                  have e9 := E9.out
                  rcases hqq with rfl | ⟨rfl, hgt⟩
                  · skip
                    go_wp2_with fail
                    go_ret
                    refine ⟨?_, HO.out⟩
                    rw [← HNN.out]
                    exact rdP_ok HOK.out HR.out HZL.out
                  · skip
                    go_wp2_with fail
                    go_ret
                    refine ⟨?_, HO.out⟩
                    rw [← HNN.out]
                    exact rdP_ok HOK.out HR.out HZL.out
      · have hji : ¬ (z : Int) < (s.size : Int) := by omega
        clear hz
        go_upto_region 3 with fail
        go_big_quiet (fail)
        generalize hw2 : World.drewN wr _ = w2 at *
        have hon : Only b wr w2 := by rw [← hw2]; exact only_drewN (Only.refl _ _) _
        have HR := Lib.hid (show Row w2 b 62 (rdr s z) by rw [← hw2]; exact HR.out.drewN _)
        have HO := Lib.hid (HO.out.trans hon)
        clear hon hw2 f0 f1
        clear hji
        have f0 := HR.out.cell 0
        have f1 := HR.out.cell 1
        unfold rdr at f0 f1
        dsimp only [List.getElem?_cons_succ, List.getElem?_cons_zero] at f0 f1
        by_cases hds : ds = []
        · have hzi : ((z : Int) == (i : Int)) = true := by rw [beq_iff_eq, HZE.out, hds]; rfl
          have HBD : Hid (numv ds < lo ∨ hi < numv ds) := Lib.hid (.inl (by rw [hds]; have := HLO.out; have e : numv [] = -1 := rfl; omega))
          clear hds
          go_wp2_with fail
          refine (fail_any _ i w2).mono ?_
          rintro e3 w3 ⟨rfl, rfl⟩
          go_wp2_with fail
          exact ⟨rfl, rdP_bad (by rw [HNO2.out, if_pos HBD.out]), HO.out⟩
        · have hlen := List.length_pos_iff.2 hds
          have hzi : ((z : Int) == (i : Int)) = false := by rw [beq_eq_false_iff_ne]; have := HZE.out; omega
          have h0 := HLT.out 0 hlen
          rw [Nat.add_zero] at h0
          have his := h0.1
          have hg0 := get_drop s his
          obtain ⟨y, hy⟩ : ∃ y, y = s.data.toList.getD i 0 := ⟨_, rfl⟩
          rw [← hy] at hg0
          have HHD : Hid (ds.head? = some y) := Lib.hid (by
            rw [hy, ← h0.2.1]
            rcases ds with _ | ⟨c, r⟩
            · exact absurd rfl hds
            · rfl)
          have HDS := Lib.hid hds
          have E9 : Hid (wrap64 ((i : Int) + 1) = ((i + 1 : Nat) : Int)) := Lib.hid (wr48 (by push_cast; rfl) (by have := HSZ.out; omega))
          clear h0 hy hds
          by_cases hbad0 : y = 48 ∧ 1 < ds.length
          · have hy48 : ((y.toNat : Int) == 48) = true := byte_eq (k := 48) (by decide) hbad0.1
            have hgt : ((i + 1 : Nat) : Int) < (z : Int) := by have := HZE.out; have := hbad0.2; omega
            have HBD : Hid (numv ds < lo ∨ hi < numv ds) := Lib.hid (.inl (by rw [numv_zero HHD.out hbad0.1 hbad0.2]; have := HLO.out; omega))
            clear hbad0 hlen
            have e9 := E9.out
            go_wp2_with fail
            refine (fail_any _ i w2).mono ?_
            rintro e3 w3 ⟨rfl, rfl⟩
            go_wp2_with fail
            exact ⟨rfl, rdP_bad (by rw [HNO2.out, if_pos HBD.out]), HO.out⟩
          · have HNV2 : Hid (numv ds = val ds) := Lib.hid (numv_val HHD.out (by
              by_cases h1 : y = 48
              · exact .inr (by have h2 : ¬ 1 < ds.length := fun h => hbad0 ⟨h1, h⟩; omega)
              · exact .inl h1))
            have HREL := Lib.hid (mac1_val HALL.out)
            rw [← HNV.out, ← HNV2.out] at HREL
            obtain ⟨q1, hq1⟩ : ∃ q1, q1 = ((y.toNat : Int) == 48) := ⟨_, rfl⟩
            have hqq : q1 = false ∨ (q1 = true ∧ ¬ ((i + 1 : Nat) : Int) < (z : Int)) := by
              by_cases h1 : y = 48
              · right
                refine ⟨by rw [hq1]; exact byte_eq (k := 48) (by decide) h1, ?_⟩
                have h2 : ¬ 1 < ds.length := fun h => hbad0 ⟨h1, h⟩
                have := HZE.out
                omega
              · left
                rw [hq1]
                exact byte_ne (k := 48) (by decide) h1
            have hy48 := hq1.symm
            clear hbad0 hlen hq1
            by_cases hl : n < lo
            · have HBD : Hid (numv ds < lo ∨ hi < numv ds) := Lib.hid (.inl (by have := HREL.out; have := HHI.out; have := HLO.out; omega))
              have e9 := E9.out
              rcases hqq with rfl | ⟨rfl, hgt⟩
              · skip
                go_wp2_with fail
                refine (fail_any _ i w2).mono ?_
                rintro e3 w3 ⟨rfl, rfl⟩
                go_wp2_with fail
                exact ⟨rfl, rdP_bad (by rw [HNO2.out, if_pos HBD.out]), HO.out⟩
              · skip
                go_wp2_with fail
                refine (fail_any _ i w2).mono ?_
                rintro e3 w3 ⟨rfl, rfl⟩
                go_wp2_with fail
                exact ⟨rfl, rdP_bad (by rw [HNO2.out, if_pos HBD.out]), HO.out⟩
            · by_cases hh : hi < n
              · have HBD : Hid (numv ds < lo ∨ hi < numv ds) := Lib.hid (.inr (by have := HREL.out; have := HHI.out; omega))
                have e9 := E9.out
                rcases hqq with rfl | ⟨rfl, hgt⟩
                · skip
                  go_wp2_with fail
                  refine (fail_any _ i w2).mono ?_
                  rintro e3 w3 ⟨rfl, rfl⟩
                  go_wp2_with fail
                  exact ⟨rfl, rdP_bad (by rw [HNO2.out, if_pos HBD.out]), HO.out⟩
                · skip
                  go_wp2_with fail
                  refine (fail_any _ i w2).mono ?_
                  rintro e3 w3 ⟨rfl, rfl⟩
                  go_wp2_with fail
                  exact ⟨rfl, rdP_bad (by rw [HNO2.out, if_pos HBD.out]), HO.out⟩
              · have HOK : Hid (numO s.data.toList i lo hi = .ok n.toNat z) := Lib.hid (by
                  have h1 := HREL.out
                  have h2 := HHI.out
                  have h3 : numv ds = n := by omega
                  rw [HNO2.out, if_neg (by omega), h3])
                have HNN : Hid (((n.toNat : Nat) : Int) = n) := Lib.hid (by have := HNB.out; omega)
                have e9 := E9.out
                rcases hqq with rfl | ⟨rfl, hgt⟩
                · skip
                  go_wp2_with fail
                  go_ret
                  refine ⟨?_, HO.out⟩
                  rw [← HNN.out]
                  exact rdP_ok HOK.out HR.out HZL.out
                · skip
                  go_wp2_with fail
                  go_ret
                  refine ⟨?_, HO.out⟩
                  rw [← HNN.out]
                  exact rdP_ok HOK.out HR.out HZL.out
set_option maxRecDepth 1000000 in
theorem power_any (a n : Nat) (w : World) (ha : a ≤ 4) (hn : n ≤ 5) : Calls Tryd.prog 59 #[.int .i64 ((a : Nat) : Int), .int .i64 ((n : Nat) : Int)] w fun e w' => e = .returned (.int .i64 ((a ^ n : Nat) : Int)) ∧ w' = w := by
  have HP : Hid (∀ k, k ≤ n → a ^ k ≤ 1024) := Lib.hid (fun k hk => Nat.le_trans (Nat.pow_le_pow_left ha k) (Nat.le_trans (Nat.pow_le_pow_right (by decide) (Nat.le_trans hk hn)) (by decide)))
  have HA := Lib.hid ha
  have HN := Lib.hid hn
  clear ha hn
  go_enter Tryd.func59, Tryd.ntmps59
  go_wp2_with fail
  go_loopw [5, 7] (fun v u wx => (∃ k : Nat, k ≤ n ∧ u = .int .i64 ((k : Nat) : Int) ∧ v = .int .i64 ((a ^ k : Nat) : Int)) ∧ w = wx) (fun _ u _ => 10 - (RowKit.intOf u).toNat)
  case atStart => exact ⟨⟨0, Nat.zero_le _, rfl, rfl⟩, rfl⟩
  case round =>
    obtain ⟨⟨k, hk, rfl, rfl⟩, rfl⟩ := hrel
    obtain ⟨p, hp⟩ : ∃ p, p = a ^ k := ⟨_, rfl⟩
    rw [← hp]
    have HPE := Lib.hid hp
    have hpb : p ≤ 1024 := by rw [hp]; exact HP.out k hk
    have hbig : ¬ (4096 : Int) < (p : Int) := by omega
    by_cases hkn : k < n
    · have hki : (k : Int) < (n : Int) := by omega
      have HKN : Hid (k + 1 ≤ n) := Lib.hid hkn
      have E1 : Hid (wrap64 ((k : Int) + 1) = ((k + 1 : Nat) : Int)) := Lib.hid (wr_nat (by push_cast; rfl) (by have := HN.out; omega))
      have E2 : Hid (wrap64 ((p : Int) * (a : Int)) = ((a ^ (k + 1) : Nat) : Int)) := Lib.hid (wr_nat (by rw [hp, Nat.pow_succ]; push_cast; rfl) (by have := HP.out (k + 1) hkn; omega))
      clear hk hp hkn hpb
      go_wp2_with fail
      go_roundw
      case rel => exact ⟨⟨k + 1, HKN.out, congrArg (Value.int .i64) E1.out, congrArg (Value.int .i64) E2.out⟩, trivial⟩
      case measure => exact meas E1.out (by have := HKN.out; have := HN.out; omega)
    · obtain rfl : k = n := by omega
      have hki : ¬ (k : Int) < (k : Int) := by omega
      clear hk hp hkn hpb
      go_wp2_with fail
      go_ret
      exact ⟨by rw [HPE.out]; simp, rfl⟩
end Pr
end Go.Proofs.YtgagophijmiceaaDoor
