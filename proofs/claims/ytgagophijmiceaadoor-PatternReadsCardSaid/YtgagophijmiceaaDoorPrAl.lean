/- READING A TEXT: what it comes to, for the program and the document, any text. -/
import Derived.Test.YtgagophijmiceaaDoorRfR
import Derived.Test.YtgagophijmiceaaDoorRfD
import Derived.Test.YtgagophijmiceaaDoorSame
import Derived.ScopeJumps
namespace Go.Proofs.YtgagophijmiceaaDoor
set_option linter.unusedSimpArgs false
set_option linter.unusedVariables false
open Go.RowKit
namespace Pr
open Tld Mem Bl Pn Pw Rd

set_option maxRecDepth 1000000 in
theorem pruns_long (s : ByteArray) (w : World) (h4 : 40000 < s.size) : Calls Tryd.prog 11 #[.string s] w fun e w' => PrP s.data.toList w e w' ∧ Below w.heap.size w w' := by
  go_enter Tryd.func11, Tryd.ntmps11
  go_wp2_with fail
  have hr5 := row_alloc w 35 noPat
  have hb2 : Below w.heap.size w (w.alloc (.cells noPat.toArray 35)) := (Below.refl _ _).alloc (Nat.le_refl _) _
  have HR : Hid (Row (w.alloc (.cells #[.int .i64 0, .int .i64 0, .slice none 0 0] 35)) w.heap.size 35 noPat) := Lib.hid hr5
  have HB : Hid (Below w.heap.size w (w.alloc (.cells #[.int .i64 0, .int .i64 0, .slice none 0 0] 35))) := Lib.hid hb2
  clear hr5 hb2
  generalize w.alloc (.cells #[.int .i64 0, .int .i64 0, .slice none 0 0] 35) = w1 at *
  obtain ⟨rb, hrb⟩ : ∃ rb, rb = w.heap.size := ⟨_, rfl⟩
  rw [← hrb] at HR ⊢
  have HRB : Hid (w.heap.size ≤ rb) := Lib.hid (by rw [hrb]; exact Nat.le_refl _)
  clear hrb
  refine wp_scope_jumps 0 (fun _ _ => False) (fun _ _ => 0) rfl ?_ (fun _ _ h => h.elim)
  have hlt : (40000 : Int) < (s.size : Int) := by omega
  have HPA := Lib.hid (parse_long (l := s.data.toList) (by rw [← Lib.size_eq]; exact h4))
  clear h4
  go_wp2_with (refine Ops.wpList_store_arr rfl 35 _ _ rfl rb rfl 35 noPat noPat rfl HR.out rfl infoPat noPat_one ?_; intro w5 hr5 ho5)
  show bodyPost Tryd.prog Tryd.f11 (fun e w' => PrP s.data.toList w e w' ∧ Below w.heap.size w w') .ret _ _
  refine bodyPost_ret (results_pat3 (t := 2) (u := 3) (v := 4) (e := .int .i64 0) (f := .iface 59 (.int .i64 4)) rfl _ _ hr5 rfl rfl rfl rfl) rfl ⟨prP_bad (p := 0) HPA.out, HB.out.trans (ho5.below HRB.out)⟩
set_option maxRecDepth 1000000 in
theorem pdraw_long (s : ByteArray) (w : World) (h4 : 40000 < s.size) : Calls Tryd.prog 14 #[.string s] w fun e w' => DrP s.data.toList w e w' ∧ Below w.heap.size w w' := by
  go_enter Tryd.func14, Tryd.ntmps14
  go_upto_region 1 with fail
  have hr5 := row_alloc w 35 noPat
  have hb2 : Below w.heap.size w (w.alloc (.cells noPat.toArray 35)) := (Below.refl _ _).alloc (Nat.le_refl _) _
  have HR : Hid (Row (w.alloc (.cells #[.int .i64 0, .int .i64 0, .slice none 0 0] 35)) w.heap.size 35 noPat) := Lib.hid hr5
  have HB : Hid (Below w.heap.size w (w.alloc (.cells #[.int .i64 0, .int .i64 0, .slice none 0 0] 35))) := Lib.hid hb2
  clear hr5 hb2
  generalize w.alloc (.cells #[.int .i64 0, .int .i64 0, .slice none 0 0] 35) = w1 at *
  obtain ⟨rb, hrb⟩ : ∃ rb, rb = w.heap.size := ⟨_, rfl⟩
  rw [← hrb] at HR ⊢
  have HRB : Hid (w.heap.size ≤ rb) := Lib.hid (by rw [hrb]; exact Nat.le_refl _)
  clear hrb
  have hlt : (40000 : Int) < (s.size : Int) := by omega
  have HPA := Lib.hid (dparse_long (l := s.data.toList) (by rw [← Lib.size_eq]; exact h4))
  clear h4
  go_wp2_with (refine Ops.wpList_store_arr rfl 35 _ _ rfl rb rfl 35 noPat noPat rfl HR.out rfl infoPat noPat_one ?_; intro w5 hr5 ho5)
  refine bodyPost_ret (results_pat3 (t := 2) (u := 3) (v := 4) (e := .int .i64 0) (f := .iface 59 (.int .i64 4)) rfl _ _ hr5 rfl rfl rfl rfl) rfl ⟨drP_bad (p := 0) HPA.out, HB.out.trans (ho5.below HRB.out)⟩
set_option maxRecDepth 1000000 in
theorem rpruns_long (s : ByteArray) (w : World) (h4 : 40000 < s.size) : Calls Tryd.prog 12 #[.string s] w fun e w' => PrQ s.data.toList w e w' ∧ Below w.heap.size w w' := by
  go_enter Tryd.func12, Tryd.ntmps12
  go_upto_region 2 with fail
  obtain ⟨hr5, hr8, hb2⟩ := two_new w 35 35 noPat noPat
  have HR : Hid (Row ((w.alloc (.cells #[.int .i64 0, .int .i64 0, .slice none 0 0] 35)).alloc (.cells #[.int .i64 0, .int .i64 0, .slice none 0 0] 35)) w.heap.size 35 noPat) := Lib.hid hr5
  have HZ : Hid (Row ((w.alloc (.cells #[.int .i64 0, .int .i64 0, .slice none 0 0] 35)).alloc (.cells #[.int .i64 0, .int .i64 0, .slice none 0 0] 35)) (w.heap.size + 1) 35 noPat) := Lib.hid hr8
  have HB : Hid (Below w.heap.size w ((w.alloc (.cells #[.int .i64 0, .int .i64 0, .slice none 0 0] 35)).alloc (.cells #[.int .i64 0, .int .i64 0, .slice none 0 0] 35))) := Lib.hid hb2
  clear hr5 hr8 hb2
  generalize (w.alloc (.cells #[.int .i64 0, .int .i64 0, .slice none 0 0] 35)).alloc (.cells #[.int .i64 0, .int .i64 0, .slice none 0 0] 35) = w1 at *
  obtain ⟨rb, hrb⟩ : ∃ rb, rb = w.heap.size := ⟨_, rfl⟩
  rw [← hrb] at HR HZ ⊢
  obtain ⟨nb, hnb⟩ : ∃ nb, nb = rb + 1 := ⟨_, rfl⟩
  rw [← hnb] at HZ ⊢
  have HRB : Hid (w.heap.size ≤ rb) := Lib.hid (by rw [hrb]; exact Nat.le_refl _)
  clear hrb hnb
  have hlt : (40000 : Int) < (s.size : Int) := by omega
  have HPA := Lib.hid (parse_long (l := s.data.toList) (by rw [← Lib.size_eq]; exact h4))
  clear h4
  have l5 := row_range HZ.out
  go_wp2_with (first | (refine wpList_load_mid rfl 35 _ rfl nb 0 rfl _ _ l5 Tryd.underlying35 rfl infoPat ?_) | (refine Ops.wpList_store_arr rfl 35 _ _ rfl rb rfl 35 noPat noPat rfl HR.out rfl infoPat noPat_one ?_; intro w5 hr5 ho5))
  refine bodyPost_ret (results_pat3 (t := 2) (u := 3) (v := 4) (e := .int .i64 0) (f := .int .i64 4) rfl _ _ hr5 rfl rfl rfl rfl) rfl ⟨prQ_bad (p := 0) HPA.out, HB.out.trans (ho5.below HRB.out)⟩
set_option maxRecDepth 1000000 in
theorem rpdraw_long (s : ByteArray) (w : World) (h4 : 40000 < s.size) : Calls Tryd.prog 15 #[.string s] w fun e w' => DrQ s.data.toList w e w' ∧ Below w.heap.size w w' := by
  go_enter Tryd.func15, Tryd.ntmps15
  go_upto_region 2 with fail
  obtain ⟨hr5, hr8, hb2⟩ := two_new w 35 35 noPat noPat
  have HR : Hid (Row ((w.alloc (.cells #[.int .i64 0, .int .i64 0, .slice none 0 0] 35)).alloc (.cells #[.int .i64 0, .int .i64 0, .slice none 0 0] 35)) w.heap.size 35 noPat) := Lib.hid hr5
  have HZ : Hid (Row ((w.alloc (.cells #[.int .i64 0, .int .i64 0, .slice none 0 0] 35)).alloc (.cells #[.int .i64 0, .int .i64 0, .slice none 0 0] 35)) (w.heap.size + 1) 35 noPat) := Lib.hid hr8
  have HB : Hid (Below w.heap.size w ((w.alloc (.cells #[.int .i64 0, .int .i64 0, .slice none 0 0] 35)).alloc (.cells #[.int .i64 0, .int .i64 0, .slice none 0 0] 35))) := Lib.hid hb2
  clear hr5 hr8 hb2
  generalize (w.alloc (.cells #[.int .i64 0, .int .i64 0, .slice none 0 0] 35)).alloc (.cells #[.int .i64 0, .int .i64 0, .slice none 0 0] 35) = w1 at *
  obtain ⟨rb, hrb⟩ : ∃ rb, rb = w.heap.size := ⟨_, rfl⟩
  rw [← hrb] at HR HZ ⊢
  obtain ⟨nb, hnb⟩ : ∃ nb, nb = rb + 1 := ⟨_, rfl⟩
  rw [← hnb] at HZ ⊢
  have HRB : Hid (w.heap.size ≤ rb) := Lib.hid (by rw [hrb]; exact Nat.le_refl _)
  clear hrb hnb
  have hlt : (40000 : Int) < (s.size : Int) := by omega
  have HPA := Lib.hid (dparse_long (l := s.data.toList) (by rw [← Lib.size_eq]; exact h4))
  clear h4
  have l5 := row_range HZ.out
  go_wp2_with (first | (refine wpList_load_mid rfl 35 _ rfl nb 0 rfl _ _ l5 Tryd.underlying35 rfl infoPat ?_) | (refine Ops.wpList_store_arr rfl 35 _ _ rfl rb rfl 35 noPat noPat rfl HR.out rfl infoPat noPat_one ?_; intro w5 hr5 ho5))
  refine bodyPost_ret (results_pat3 (t := 2) (u := 3) (v := 4) (e := .int .i64 0) (f := .int .i64 4) rfl _ _ hr5 rfl rfl rfl rfl) rfl ⟨drQ_bad (p := 0) HPA.out, HB.out.trans (ho5.below HRB.out)⟩
theorem pruns_all (s : ByteArray) (w : World) : Calls Tryd.prog 11 #[.string s] w fun e w' => PrP s.data.toList w e w' ∧ Below w.heap.size w w' := by
  by_cases h : 40000 < s.size
  · exact pruns_long s w h
  · exact pruns_any s w (by omega)
theorem pdraw_all (s : ByteArray) (w : World) (hU : UTabs w) (hM : Marks w) : Calls Tryd.prog 14 #[.string s] w fun e w' => DrP s.data.toList w e w' ∧ Below w.heap.size w w' := by
  by_cases h : 40000 < s.size
  · exact pdraw_long s w h
  · exact pdraw_any s w (by omega) hU hM
theorem rpruns_all (s : ByteArray) (w : World) : Calls Tryd.prog 12 #[.string s] w fun e w' => PrQ s.data.toList w e w' ∧ Below w.heap.size w w' := by
  by_cases h : 40000 < s.size
  · exact rpruns_long s w h
  · exact rpruns_any s w (by omega)
theorem rpdraw_all (s : ByteArray) (w : World) : Calls Tryd.prog 15 #[.string s] w fun e w' => DrQ s.data.toList w e w' ∧ Below w.heap.size w w' := by
  by_cases h : 40000 < s.size
  · exact rpdraw_long s w h
  · exact rpdraw_any s w (by omega)
/-! The faults' numbers. -/
theorem dstep_bad_ne {l : List UInt8} {fr n i W H N : Nat} {F : Nat → Nat} {p : Nat} {e : Int} (h : dstep l fr n i W H N F = .bad p e) : e = 1 ∨ e = 2 ∨ e = 3 := by
  unfold dstep at h
  split at h
  · split at h
    · cases h; exact .inr (.inl rfl)
    · cases h
  · unfold dstepT at h
    split at h
    · cases h; exact .inr (.inl rfl)
    · split at h
      · split at h
        · cases h; exact .inl rfl
        · split at h
          · cases h; exact .inr (.inr rfl)
          · cases h
      · split at h
        · cases h; exact .inl rfl
        · split at h
          · cases h; exact .inl rfl
          · cases h
theorem drun_some {l : List UInt8} : ∀ {k fr n i W H N : Nat} {F : Nat → Nat}, l.length < k + i → i ≤ l.length → (∃ p e, drun l k fr n i W H N F = .bad p e ∧ (e = 1 ∨ e = 2 ∨ e = 3)) ∨ ∃ W' H' N' F', drun l k fr n i W H N F = .ok W' H' N' F'
  | 0, fr, n, i, W, H, N, F, hk, hi => by omega
  | k + 1, fr, n, i, W, H, N, F, hk, hi => by
    unfold drun
    cases hs : dstep l fr n i W H N F with
    | bad p e => exact .inl ⟨p, e, rfl, dstep_bad_ne hs⟩
    | ok W' H' N' F' => exact .inr ⟨W', H', N', F', rfl⟩
    | go fr' n' i' W' H' N' F' =>
      have := dstep_go hs
      exact drun_some (by omega) this.2
theorem dparse_some (l : List UInt8) : (∃ p e, dparse l = .bad p e ∧ (e = 1 ∨ e = 2 ∨ e = 3 ∨ e = 4)) ∨ ∃ W' H' N' F', dparse l = .ok W' H' N' F' := by
  by_cases h : 40000 < l.length
  · exact .inl ⟨0, 4, dparse_long h, .inr (.inr (.inr rfl))⟩
  · rw [dparse_run (by omega)]
    unfold drunR
    rcases drun_some (l := l) (k := l.length + 1 - 0) (fr := 0) (n := 0) (i := 0) (W := 0) (H := 0) (N := 0) (F := fun _ => 0) (by omega) (Nat.zero_le _) with ⟨p, e, h1, h2⟩ | h1
    · exact .inl ⟨p, e, h1, by rcases h2 with h | h | h; exact .inl h; exact .inr (.inl h); exact .inr (.inr (.inl h))⟩
    · exact .inr h1
theorem dparse_bad_ne {l : List UInt8} {p : Nat} {e : Int} (h : dparse l = .bad p e) : e ≠ 0 ∧ (-1000 ≤ e ∧ e ≤ 1000) := by
  rcases dparse_some l with ⟨p', e', h1, h2⟩ | ⟨_, _, _, _, h1⟩
  · rw [h1] at h
    cases h
    omega
  · rw [h1] at h
    cases h
theorem dparse_end {l : List UInt8} (fr n i W H N : Nat) (F : Nat → Nat) : dparse l ≠ .go fr n i W H N F := fun h => by
  rcases dparse_some l with ⟨p', e', h1, h2⟩ | ⟨_, _, _, _, h1⟩
  · rw [h1] at h
    cases h
  · rw [h1] at h
    cases h
theorem stepT_bad_ne {l : List UInt8} {W H j row col : Nat} {F : Nat → Nat} {ds : List UInt8} {c : UInt8} {p : Nat} {e : Int} (h : stepT l W H j row col F ds c = .bad p e) : e = 1 ∨ e = 2 := by
  unfold stepT at h
  split at h
  · split at h
    · cases h; exact .inl rfl
    · cases h
  · split at h
    · split at h
      · cases h; exact .inl rfl
      · cases h
    · split at h
      · split at h
        · cases h; exact .inr rfl
        · split at h
          · cases h; exact .inr rfl
          · cases h
      · cases h; exact .inr rfl
theorem step_bad_ne {l : List UInt8} {W H i row col : Nat} {F : Nat → Nat} {p : Nat} {e : Int} (h : step l W H i row col F = .bad p e) : e = 1 ∨ e = 2 := by
  unfold step stepJ at h
  split at h
  · cases h; exact .inr rfl
  · split at h
    · cases h; exact .inr rfl
    · exact stepT_bad_ne h
theorem run_bad_ne {l : List UInt8} {W H : Nat} : ∀ {k i row col : Nat} {F : Nat → Nat} {p : Nat} {e : Int}, l.length < k + i → i ≤ l.length → fin W H (run l W H k i row col F) = .bad p e → e = 1 ∨ e = 2
  | 0, i, row, col, F, p, e, hk, hi, _ => by omega
  | k + 1, i, row, col, F, p, e, hk, hi, h => by
    unfold run at h
    cases hs : step l W H i row col F with
    | bad p' e' =>
      rw [hs] at h
      unfold fin at h
      cases h
      exact step_bad_ne hs
    | ok F' =>
      rw [hs] at h
      unfold fin at h
      cases h
    | go i' row' col' F' =>
      rw [hs] at h
      have := step_go hs
      exact run_bad_ne (by omega) this.2.1 h
theorem parse_bad_ne {l : List UInt8} {p : Nat} {e : Int} (h : parse l = .bad p e) : e ≠ 0 ∧ (-1000 ≤ e ∧ e ≤ 1000) := by
  by_cases hl : 40000 < l.length
  · rw [parse_long hl] at h
    cases h
    omega
  · cases hh : head l with
    | bad p' e' =>
      rw [parse_bad (by omega) hh] at h
      cases h
      have := head_bad_ne hh
      omega
    | ok W H i =>
      rw [parse_ok (by omega) hh] at h
      have hi := (head_ok_le hh).2.2
      have := run_bad_ne (by omega) hi h
      omega
theorem fin_ok {W H W' H' : Nat} {o : Out} {F : Nat → Nat} (h : fin W H o = .ok W' H' F) : W = W' ∧ H = H' := by
  unfold fin at h
  cases o with
  | bad p e => cases h
  | ok F' => cases h; exact ⟨rfl, rfl⟩
  | go i r c F' => cases h
theorem parse_size {l : List UInt8} {W H : Nat} {F : Nat → Nat} (h : parse l = .ok W H F) : W * H ≤ maxLen := by
  by_cases hl : 40000 < l.length
  · rw [parse_long hl] at h
    cases h
  · cases hh : head l with
    | bad p' e' =>
      rw [parse_bad (by omega) hh] at h
      cases h
    | ok W' H' i =>
      rw [parse_ok (by omega) hh] at h
      obtain ⟨rfl, rfl⟩ := fin_ok h
      obtain ⟨hW, hH, _⟩ := head_ok_le hh
      have : W' * H' ≤ 100 * 100 := Nat.mul_le_mul hW hH
      unfold maxLen
      omega
theorem runs_two (s : ByteArray) (w : World) : ∃ W1 H1 p1 : Nat, ∃ e1 : Int, ∃ z1 : List Int, (-1000 ≤ e1 ∧ e1 ≤ 1000) ∧
      (∀ w2, Below w.heap.size w w2 → Calls Tryd.prog 11 #[.string s] w2 fun e w' => (∃ a' n' c', e = .returned (.tuple #[.agg #[.int .i64 (W1 : Nat), .int .i64 (H1 : Nat), .slice a' n' c'], .int .i64 (p1 : Nat), errV e1]) ∧ Ints.Is w' a' n' z1 ∧ ∀ b o, a' = some ⟨b, o, none⟩ → n' ≠ 0 → w2.heap.size ≤ b) ∧ Below w2.heap.size w2 w') ∧
      (∀ w2, Below w.heap.size w w2 → Calls Tryd.prog 12 #[.string s] w2 fun e w' => (∃ a' n' c', e = .returned (.tuple #[.agg #[.int .i64 (W1 : Nat), .int .i64 (H1 : Nat), .slice a' n' c'], .int .i64 (p1 : Nat), .int .i64 e1]) ∧ Ints.Is w' a' n' z1 ∧ ∀ b o, a' = some ⟨b, o, none⟩ → n' ≠ 0 → w2.heap.size ≤ b) ∧ Below w2.heap.size w2 w') := by
  cases hd : parse s.data.toList with
  | bad p ev =>
    obtain ⟨he0, hbd⟩ := parse_bad_ne hd
    refine ⟨0, 0, p, ev, [], hbd, ?_, ?_⟩
    · intro w2 hb
      refine (pruns_all s w2).mono ?_
      rintro e w' ⟨hp, hbl⟩
      unfold PrP at hp
      rw [hd] at hp
      refine ⟨⟨none, 0, 0, hp.trans (by rw [errV_some he0]; rfl), ⟨rfl, fun i hi => absurd hi (Nat.not_lt_zero _), Nat.zero_le _⟩, fun b o e _ => by cases e⟩, hbl⟩
    · intro w2 hb
      refine (rpruns_all s w2).mono ?_
      rintro e w' ⟨hp, hbl⟩
      unfold PrQ at hp
      rw [hd] at hp
      refine ⟨⟨none, 0, 0, hp.trans rfl, ⟨rfl, fun i hi => absurd hi (Nat.not_lt_zero _), Nat.zero_le _⟩, fun b o e _ => by cases e⟩, hbl⟩
  | ok W H F =>
    have hmx : W * H ≤ maxLen := parse_size hd
    refine ⟨W, H, 0, 0, lstN (W * H) F, ⟨by decide, by decide⟩, ?_, ?_⟩
    · intro w2 hb
      refine (pruns_all s w2).mono ?_
      rintro e w' ⟨hp, hbl⟩
      unfold PrP at hp
      rw [hd] at hp
      obtain ⟨g, N2, he, hv, hg⟩ := hp
      exact ⟨⟨_, _, N2, he, hv.is hmx, fun b o e _ => by cases e; exact hg⟩, hbl⟩
    · intro w2 hb
      refine (rpruns_all s w2).mono ?_
      rintro e w' ⟨hp, hbl⟩
      unfold PrQ at hp
      rw [hd] at hp
      obtain ⟨g, N2, he, hv, hg⟩ := hp
      exact ⟨⟨_, _, N2, he, hv.is hmx, fun b o e _ => by cases e; exact hg⟩, hbl⟩
theorem draw_two (s : ByteArray) (w : World) (hU : UTabs w) (hM : Marks w) : ∃ W1 H1 p1 : Nat, ∃ e1 : Int, ∃ z1 : List Int, (-1000 ≤ e1 ∧ e1 ≤ 1000) ∧
      (∀ w2, Below w.heap.size w w2 → Calls Tryd.prog 14 #[.string s] w2 fun e w' => (∃ a' n' c', e = .returned (.tuple #[.agg #[.int .i64 (W1 : Nat), .int .i64 (H1 : Nat), .slice a' n' c'], .int .i64 (p1 : Nat), errV e1]) ∧ Ints.Is w' a' n' z1 ∧ ∀ b o, a' = some ⟨b, o, none⟩ → n' ≠ 0 → w2.heap.size ≤ b) ∧ Below w2.heap.size w2 w') ∧
      (∀ w2, Below w.heap.size w w2 → Calls Tryd.prog 15 #[.string s] w2 fun e w' => (∃ a' n' c', e = .returned (.tuple #[.agg #[.int .i64 (W1 : Nat), .int .i64 (H1 : Nat), .slice a' n' c'], .int .i64 (p1 : Nat), .int .i64 e1]) ∧ Ints.Is w' a' n' z1 ∧ ∀ b o, a' = some ⟨b, o, none⟩ → n' ≠ 0 → w2.heap.size ≤ b) ∧ Below w2.heap.size w2 w') := by
  cases hd : dparse s.data.toList with
  | bad p ev =>
    obtain ⟨he0, hbd⟩ := dparse_bad_ne hd
    refine ⟨0, 0, p, ev, [], hbd, ?_, ?_⟩
    · intro w2 hb
      refine (pdraw_all s w2 (hU.keep hb) (hM.keep hb)).mono ?_
      rintro e w' ⟨hp, hbl⟩
      unfold DrP at hp
      rw [hd] at hp
      refine ⟨⟨none, 0, 0, hp.trans (by rw [errV_some he0]; rfl), ⟨rfl, fun i hi => absurd hi (Nat.not_lt_zero _), Nat.zero_le _⟩, fun b o e _ => by cases e⟩, hbl⟩
    · intro w2 hb
      refine (rpdraw_all s w2).mono ?_
      rintro e w' ⟨hp, hbl⟩
      unfold DrQ at hp
      rw [hd] at hp
      refine ⟨⟨none, 0, 0, hp.trans rfl, ⟨rfl, fun i hi => absurd hi (Nat.not_lt_zero _), Nat.zero_le _⟩, fun b o e _ => by cases e⟩, hbl⟩
  | ok W H N F =>

    refine ⟨W, H, 0, 0, lstN N F, ⟨by decide, by decide⟩, ?_, ?_⟩
    · intro w2 hb
      refine (pdraw_all s w2 (hU.keep hb) (hM.keep hb)).mono ?_
      rintro e w' ⟨hp, hbl⟩
      unfold DrP at hp
      rw [hd] at hp
      obtain ⟨vs, he, ho⟩ := hp
      obtain ⟨a', c', rfl, _, _, hi, hbk⟩ := own_is ho
      exact ⟨⟨a', _, c', he, hi, fun b o e _ => hbk b o e⟩, hbl⟩
    · intro w2 hb
      refine (rpdraw_all s w2).mono ?_
      rintro e w' ⟨hp, hbl⟩
      unfold DrQ at hp
      rw [hd] at hp
      obtain ⟨vs, he, ho⟩ := hp
      obtain ⟨a', c', rfl, _, _, hi, hbk⟩ := own_is ho
      exact ⟨⟨a', _, c', he, hi, fun b o e _ => hbk b o e⟩, hbl⟩
  | go fr n i W H N F =>
    exact absurd hd (dparse_end _ _ _ _ _ _ _)
theorem same_both (ev : Int) (w : World) (hL : Tld.Laid w) (hb : -1000 ≤ ev ∧ ev ≤ 1000) : Calls Tryd.prog 10 #[errV ev, .int .i64 ev] w fun e w' => e = .returned (.bool true) ∧ Below w.heap.size w w' := by
  by_cases h : ev = 0
  · subst h
    rw [errV_zero rfl]
    exact same_nil w hL
  · exact same_self ev w hL hb
end Pr
end Go.Proofs.YtgagophijmiceaaDoor
