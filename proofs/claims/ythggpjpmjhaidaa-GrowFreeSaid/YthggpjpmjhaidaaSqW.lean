/- WALKS: what grow.Square, grow.Overlap and edenref7.Repeat come to, at every text. -/
import Derived.Test.YthggpjpmjhaidaaChecked
import Derived.Test.YthggpjpmjhaidaaSqPl
import Derived.WalkKit
import Derived.WalkSpells
import Derived.WalkLawsBesides
import Derived.Lib.Hide
import Derived.BigQuiet
import Derived.Deep.QuietTactic
namespace Go.Proofs.Ythggpjpmjhaidaa
open Go.RowKit
namespace Sq

theorem sq2_any (n : Int) (w : World) (h0 : 0 ≤ n) (h1 : n ≤ 1000000) :
    Calls Try.prog 22 #[.int .i64 n] w fun e w' => e = .returned (.int .i64 (2 * n)) ∧ w = w' := by
  go_enter Try.func22, Try.ntmps22
  go_wp2
  go_ret
  exact ⟨rfl, rfl⟩

theorem ov2_any (n : Int) (w : World) (h0 : 0 ≤ n) (h1 : n ≤ 1000000) :
    Calls Try.prog 25 #[.int .i64 n] w fun e w' => e = .returned (.int .i64 (2 * n + 1)) ∧ w = w' := by
  go_enter Try.func25, Try.ntmps25
  go_wp2
  go_ret
  exact ⟨rfl, rfl⟩

theorem sq1_any (l : ByteArray) (n : Nat) (w : World) (h1 : l.size = 2 * n) (h2 : n ≤ 1000000) :
    Calls Try.prog 21 #[.string l, .int .i64 n] w fun e w' => e = .returned (.bool (tv (Same l 0 n n))) ∧ Drew w w' := by
  go_enter Try.func21, Try.ntmps21
  go_wp2
  go_quiet (fail)
  go_wp2
  go_ret
  exact ⟨by rw [← sq_same l n h1]; rfl, Drew.mk _ _⟩

theorem ov1_any (l : ByteArray) (n : Nat) (w : World) (h1 : l.size = 2 * n + 1) (h2 : n ≤ 1000000) :
    Calls Try.prog 24 #[.string l, .int .i64 n] w fun e w' => e = .returned (.bool (tv (Same l 0 n (n + 1)))) ∧ Drew w w' := by
  have g1 : (0 : Int) ≤ 2 * (n : Int) := by omega
  have g2 : (2 : Int) * n < 2 * n + 1 := by omega
  have g3 : ((2 : Int) * n).toNat = 2 * n := by omega
  have g4 : (0 : Int) < 2 * (n : Int) + 1 := by omega
  by_cases hb : ((l.extract 0 n).toList == (l.extract n (2 * n)).toList) = true
  · have HF := Lib.hid (ov_yes l n h1 hb)
    go_enter Try.func24, Try.ntmps24
    go_wp2
    go_quiet (fail)
    go_wp2
    go_ret
    exact ⟨by rw [← HF.out, ← at_get l (2 * n) (by omega), ← at_get l 0 (by omega), ← byte_eq]; rfl, Drew.mk _ _⟩
  · have hb' := eq_false_of_ne_true hb
    have HF := Lib.hid (ov_no l n h1 hb')
    clear hb
    go_enter Try.func24, Try.ntmps24
    go_wp2
    go_quiet (fail)
    go_wp2
    go_ret
    exact ⟨congrArg Ending.returned (congrArg Value.bool HF.out), Drew.mk _ _⟩

theorem same_any (s : ByteArray) (a b n : Nat) (w : World) (h1 : a + n ≤ s.size) (h2 : b + n ≤ s.size) (hs : s.size ≤ 40000) :
    Calls Try.prog 23 #[.string s, .int .i64 a, .int .i64 b, .int .i64 n] w fun e w' => e = .returned (.bool (tv (Same s a b n))) ∧ Drew w w' := by
  go_enter Try.func23, Try.ntmps23
  go_wp2
  go_loopw [9] (fun v wr => ∃ i : Nat, i ≤ n ∧ v = .int .i64 i ∧ Same s a b i ∧ Drew w wr) (fun v _ => n - (intOf v).toNat)
  case atStart => exact ⟨0, by omega, rfl, fun _ h => absurd h (Nat.not_lt_zero _), Drew.refl _⟩
  case round =>
    obtain ⟨i, hi, rfl, hall, hdr⟩ := hrel
    by_cases hlt : i < n
    · have ga : s[a + i]'(by omega) = at_ s (a + i) := at_get _ _ _
      have gb : s[b + i]'(by omega) = at_ s (b + i) := at_get _ _ _
      have g1 : (0 : Int) ≤ (a : Int) + i := by omega
      have g2 : ((a : Int) + i).toNat = a + i := by omega
      have g3 : (0 : Int) ≤ (b : Int) + i := by omega
      have g4 : ((b : Int) + i).toNat = b + i := by omega
      have g5 : (a : Int) + i < s.size := by omega
      have g6 : (b : Int) + i < s.size := by omega
      by_cases he : at_ s (a + i) = at_ s (b + i)
      · have hall' := hall.next he
        have he' : ((at_ s (a + i)).toNat : Int) = ((at_ s (b + i)).toNat : Int) := by rw [he]
        clear he
        go_wp2
        go_quiet (fail)
        go_wp2
        go_roundw
        case rel => exact ⟨i + 1, by omega, by go_num, hall', hdr.trans (Drew.mk _ _)⟩
        case measure => simp [intOf]; omega
      · have hno : ¬ Same s a b n := fun k => he (k i hlt)
        have he' : (((at_ s (a + i)).toNat : Int) != ((at_ s (b + i)).toNat : Int)) = true := by
          rw [bne_iff_ne]; intro k; exact he (UInt8.toNat_inj.1 (by omega))
        have fin : Value.bool false = Value.bool (tv (Same s a b n)) := by rw [tv_no hno]
        have HF := Lib.hid fin
        clear he fin hno
        go_wp2
        go_quiet (fail)
        go_wp2
        go_ret
        exact ⟨congrArg Ending.returned HF.out, hdr.trans (Drew.mk _ _)⟩
    · have : i = n := by omega
      subst this
      go_wp2
      go_ret
      exact ⟨congrArg Ending.returned (congrArg Value.bool (tv_yes hall).symm), hdr⟩

theorem same_int (s : ByteArray) (a b n : Int) (w : World) (ha : 0 ≤ a) (hb : 0 ≤ b) (hn : 0 ≤ n) (h1 : a + n ≤ s.size) (h2 : b + n ≤ s.size) (hs : s.size ≤ 40000) :
    Calls Try.prog 23 #[.string s, .int .i64 a, .int .i64 b, .int .i64 n] w fun e w' => e = .returned (.bool (tv (Same s a.toNat b.toNat n.toNat))) ∧ Drew w w' := by
  obtain ⟨a, rfl⟩ := Int.eq_ofNat_of_zero_le ha
  obtain ⟨b, rfl⟩ := Int.eq_ofNat_of_zero_le hb
  obtain ⟨n, rfl⟩ := Int.eq_ofNat_of_zero_le hn
  simp only [Int.toNat_natCast]
  exact same_any s a b n w (by omega) (by omega) hs

/-- edenref7.Repeat: the reference's search. -/
theorem repeat_any (s : ByteArray) (more : Nat) (w : World) (hm : more ≤ 1) :
    Calls Try.prog 8 #[.string s, .int .i64 more] w fun e w' => e = .returned (frv s more) ∧ Drew w w' := by
  by_cases hz : 40000 < s.size
  · have HF := Lib.hid (frv_far (more := more) hz)
    go_enter Try.func8, Try.ntmps8
    go_wp2
    go_ret3
    exact ⟨congrArg Ending.returned HF.out, Drew.refl _⟩
  · have hz' : s.size ≤ 40000 := by omega
    go_enter Try.func8, Try.ntmps8
    go_wp2
    go_loopw [7] (fun v wr => ∃ e : Nat, 1 ≤ e ∧ e ≤ s.size + 1 ∧ v = .int .i64 e ∧ NoneTo s more e ∧ Drew w wr) (fun v _ => s.size + 1 - (intOf v).toNat)
    case atStart => exact ⟨1, by omega, by omega, rfl, none_start _ _, Drew.refl _⟩
    case round =>
      obtain ⟨e, he1, he2, rfl, hto, hdr⟩ := hrel
      by_cases hlt : e ≤ s.size
      · go_wp2
        go_loopw [8] (fun v w2 => ∃ n : Nat, 1 ≤ n ∧ n ≤ e + 1 ∧ v = .int .i64 n ∧ NoneAt s more e n ∧ Drew w w2) (fun v _ => e + 1 - (intOf v).toNat)
        case atStart => exact ⟨1, by omega, by omega, rfl, none_at_start _ _ _, hdr⟩
        case round =>
          obtain ⟨n, hn1, hn2, rfl, hat, hdr2⟩ := hrel
          by_cases hf : 2 * n + more ≤ e
          · by_cases hr : Rep s more e n
            · have HT := Lib.hid (tv_yes ((same_rep hf).2 hr))
              have HF := Lib.hid (frv_found hz' ⟨hn1, hf, hlt, hr, hat, hto⟩)
              clear hr
              go_wp2_with (go_at_call 23; refine (same_int _ _ _ _ _ (by omega) (by omega) (by omega) (by omega) (by omega) hz').mono ?_; rintro e1 w1 ⟨rfl, hd1⟩; rw [HT.out])
              go_ret3
              refine ⟨congrArg Ending.returned ?_, hdr2.trans hd1⟩
              rw [← HF.out, show (e : Int) - 2 * n - more = (e : Int) - (2 * n + more : Nat) from by omega]
              rfl
            · have HT := Lib.hid (tv_no (mt (same_rep hf).1 hr))
              have hat' := none_at_next hat hr
              clear hr
              go_wp2_with (go_at_call 23; refine (same_int _ _ _ _ _ (by omega) (by omega) (by omega) (by omega) (by omega) hz').mono ?_; rintro e1 w1 ⟨rfl, hd1⟩; rw [HT.out])
              go_roundw
              case rel => exact ⟨n + 1, by omega, by omega, by go_num, hat', hdr2.trans hd1⟩
              case measure => simp [intOf]; omega
          · have hto' := none_next hto hat (by omega)
            go_wp2
            go_roundw
            case rel => exact ⟨e + 1, by omega, by omega, by go_num, hto', hdr2⟩
            case measure => simp [intOf]; omega
      · have HF := Lib.hid (frv_none hto (by omega))
        go_wp2
        go_ret3
        exact ⟨congrArg Ending.returned HF.out, hdr⟩

set_option maxHeartbeats 2000000 in
theorem ends_sq (s : ByteArray) (w : World) :
    Calls Try.prog 20 #[.string s, .func (.func 21) #[] #[], .func (.func 22) #[] #[]] w fun e w' => e = .returned (frv s 0) ∧ Drew w w' := by
  by_cases hz : 40000 < s.size
  · have HF := Lib.hid (frv_far (more := 0) hz)
    go_enter Try.func20, Try.ntmps20
    go_wp2
    go_ret3
    exact ⟨congrArg Ending.returned HF.out, Drew.refl _⟩
  · have hz' : s.size ≤ 40000 := by omega
    go_enter Try.func20, Try.ntmps20
    go_wp2
    go_loopw [9] (fun v wr => ∃ e : Nat, 1 ≤ e ∧ e ≤ s.size + 1 ∧ v = .int .i64 e ∧ NoneTo s 0 e ∧ Drew w wr) (fun v _ => s.size + 1 - (intOf v).toNat)
    case atStart => exact ⟨1, by omega, by omega, rfl, none_start _ _, Drew.refl _⟩
    case round =>
      obtain ⟨e, he1, he2, rfl, hto, hdr⟩ := hrel
      by_cases hlt : e ≤ s.size
      · go_wp2
        go_loopw [10] (fun v w2 => ∃ n : Nat, 1 ≤ n ∧ n ≤ e + 1 ∧ v = .int .i64 n ∧ NoneAt s 0 e n ∧ Drew w w2) (fun v _ => e + 1 - (intOf v).toNat)
        case atStart => exact ⟨1, by omega, by omega, rfl, none_at_start _ _ _, hdr⟩
        case round =>
          obtain ⟨n, hn1, hn2, rfl, hat, hdr2⟩ := hrel
          by_cases hf : 2 * n ≤ e
          · have hsz : (s.extract (e - (2 * n)) e).size = 2 * n := by rw [ext_size _ _ _ hlt]; omega
            have HS := Lib.hid hsz
            clear hsz
            by_cases hr : Rep s 0 e n
            · have HT := Lib.hid (tv_yes ((rep_extract0 hf hlt).2 hr))
              have HF := Lib.hid (frv_found hz' ⟨hn1, hf, hlt, hr, hat, hto⟩)
              clear hr
              go_wp2_with (first | (go_at_call 22; refine (sq2_any _ _ (by omega) (by omega)).mono ?_; rintro e1 w1 ⟨rfl, rfl⟩) | (go_at_call 21; refine (sq1_any _ _ _ HS.out (by omega)).mono ?_; rintro e1 w1 ⟨rfl, hd1⟩; rw [HT.out]))
              go_ret3
              exact ⟨congrArg Ending.returned HF.out, hdr2.trans hd1⟩
            · have HT := Lib.hid (tv_no (mt (rep_extract0 hf hlt).1 hr))
              have hat' := none_at_next hat hr
              clear hr
              go_wp2_with (first | (go_at_call 22; refine (sq2_any _ _ (by omega) (by omega)).mono ?_; rintro e1 w1 ⟨rfl, rfl⟩) | (go_at_call 21; refine (sq1_any _ _ _ HS.out (by omega)).mono ?_; rintro e1 w1 ⟨rfl, hd1⟩; rw [HT.out]))
              go_roundw
              case rel => exact ⟨n + 1, by omega, by omega, by go_num, hat', hdr2.trans hd1⟩
              case measure => simp [intOf]; omega
          · have hto' := none_next hto hat (by omega)
            go_wp2_with (go_at_call 22; refine (sq2_any _ _ (by omega) (by omega)).mono ?_; rintro e1 w1 ⟨rfl, rfl⟩)
            go_roundw
            case rel => exact ⟨e + 1, by omega, by omega, by go_num, hto', hdr2⟩
            case measure => simp [intOf]; omega
      · have HF := Lib.hid (frv_none hto (by omega))
        go_wp2
        go_ret3
        exact ⟨congrArg Ending.returned HF.out, hdr⟩

theorem square_any (s : ByteArray) (w : World) :
    Calls Try.prog 7 #[.string s] w fun e w' => e = .returned (frv s 0) ∧ Drew w w' := by
  go_enter Try.func7, Try.ntmps7
  go_wp2_with (go_at_call 20; refine (ends_sq _ _).mono ?_; rintro e1 w1 ⟨rfl, hd1⟩; unfold frv)
  go_ret3
  exact ⟨rfl, hd1⟩

set_option maxHeartbeats 2000000 in
theorem ends_ov (s : ByteArray) (w : World) :
    Calls Try.prog 20 #[.string s, .func (.func 24) #[] #[], .func (.func 25) #[] #[]] w fun e w' => e = .returned (frv s 1) ∧ Drew w w' := by
  by_cases hz : 40000 < s.size
  · have HF := Lib.hid (frv_far (more := 1) hz)
    go_enter Try.func20, Try.ntmps20
    go_wp2
    go_ret3
    exact ⟨congrArg Ending.returned HF.out, Drew.refl _⟩
  · have hz' : s.size ≤ 40000 := by omega
    go_enter Try.func20, Try.ntmps20
    go_wp2
    go_loopw [9] (fun v wr => ∃ e : Nat, 1 ≤ e ∧ e ≤ s.size + 1 ∧ v = .int .i64 e ∧ NoneTo s 1 e ∧ Drew w wr) (fun v _ => s.size + 1 - (intOf v).toNat)
    case atStart => exact ⟨1, by omega, by omega, rfl, none_start _ _, Drew.refl _⟩
    case round =>
      obtain ⟨e, he1, he2, rfl, hto, hdr⟩ := hrel
      by_cases hlt : e ≤ s.size
      · go_wp2
        go_loopw [10] (fun v w2 => ∃ n : Nat, 1 ≤ n ∧ n ≤ e + 1 ∧ v = .int .i64 n ∧ NoneAt s 1 e n ∧ Drew w w2) (fun v _ => e + 1 - (intOf v).toNat)
        case atStart => exact ⟨1, by omega, by omega, rfl, none_at_start _ _ _, hdr⟩
        case round =>
          obtain ⟨n, hn1, hn2, rfl, hat, hdr2⟩ := hrel
          by_cases hf : 2 * n + 1 ≤ e
          · have hsz : (s.extract (e - (2 * n + 1)) e).size = 2 * n + 1 := by rw [ext_size _ _ _ hlt]; omega
            have HS := Lib.hid hsz
            clear hsz
            by_cases hr : Rep s 1 e n
            · have HT := Lib.hid (tv_yes ((rep_extract hf hlt).2 hr))
              have HF := Lib.hid (frv_found hz' ⟨hn1, hf, hlt, hr, hat, hto⟩)
              clear hr
              go_wp2_with (first | (go_at_call 25; refine (ov2_any _ _ (by omega) (by omega)).mono ?_; rintro e1 w1 ⟨rfl, rfl⟩) | (go_at_call 24; refine (ov1_any _ _ _ HS.out (by omega)).mono ?_; rintro e1 w1 ⟨rfl, hd1⟩; rw [HT.out]))
              go_ret3
              exact ⟨congrArg Ending.returned HF.out, hdr2.trans hd1⟩
            · have HT := Lib.hid (tv_no (mt (rep_extract hf hlt).1 hr))
              have hat' := none_at_next hat hr
              clear hr
              go_wp2_with (first | (go_at_call 25; refine (ov2_any _ _ (by omega) (by omega)).mono ?_; rintro e1 w1 ⟨rfl, rfl⟩) | (go_at_call 24; refine (ov1_any _ _ _ HS.out (by omega)).mono ?_; rintro e1 w1 ⟨rfl, hd1⟩; rw [HT.out]))
              go_roundw
              case rel => exact ⟨n + 1, by omega, by omega, by go_num, hat', hdr2.trans hd1⟩
              case measure => simp [intOf]; omega
          · have hto' := none_next hto hat (by omega)
            go_wp2_with (go_at_call 25; refine (ov2_any _ _ (by omega) (by omega)).mono ?_; rintro e1 w1 ⟨rfl, rfl⟩)
            go_roundw
            case rel => exact ⟨e + 1, by omega, by omega, by go_num, hto', hdr2⟩
            case measure => simp [intOf]; omega
      · have HF := Lib.hid (frv_none hto (by omega))
        go_wp2
        go_ret3
        exact ⟨congrArg Ending.returned HF.out, hdr⟩

theorem overlap_any (s : ByteArray) (w : World) :
    Calls Try.prog 9 #[.string s] w fun e w' => e = .returned (frv s 1) ∧ Drew w w' := by
  go_enter Try.func9, Try.ntmps9
  go_wp2_with (go_at_call 20; refine (ends_ov _ _).mono ?_; rintro e1 w1 ⟨rfl, hd1⟩; unfold frv)
  go_ret3
  exact ⟨rfl, hd1⟩
end Sq
end Go.Proofs.Ythggpjpmjhaidaa
