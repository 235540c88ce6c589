/- WALK: blocks.Back: the table that undoes one. -/
import Derived.Test.YtmnefdcgknmnjaaDoorBlK
namespace Go.Proofs.YtmnefdcgknmnjaaDoor
set_option linter.unusedSimpArgs false
set_option linter.unusedVariables false
open Go.RowKit Go.Lib
namespace Bl
open Tld Mem

/-- Numbers put into a list, one after the other. -/
def putsI (zs : List Int) (K v : Nat → Nat) : Nat → List Int
  | 0 => zs
  | i + 1 => (putsI zs K v i).set (K i) ((v i : Nat) : Int)
theorem putsI_len {zs : List Int} {K v : Nat → Nat} : ∀ i, (putsI zs K v i).length = zs.length
  | 0 => rfl
  | i + 1 => by unfold putsI; rw [List.length_set, putsI_len i]
theorem putsI_at {zs : List Int} {K v : Nat → Nat} {j : Nat} : ∀ (i : Nat), (∀ p q, p < q → q < i → K p ≠ K q) → j < i → K j < zs.length → (putsI zs K v i).getD (K j) 0 = ((v j : Nat) : Int)
  | 0, _, h, _ => absurd h (Nat.not_lt_zero _)
  | i + 1, hK, h, hl => by
    unfold putsI
    by_cases e : j = i
    · subst e
      rw [List.getD_eq_getElem?_getD, List.getElem?_set_self (by rw [putsI_len]; exact hl)]
      rfl
    · have ih := putsI_at (v := v) i (fun p q h1 h2 => hK p q h1 (by omega)) (show j < i by omega) hl
      rw [List.getD_eq_getElem?_getD] at ih ⊢
      rw [List.getElem?_set_ne (fun x => hK j i (by omega) (by omega) x.symm)]
      exact ih
theorem putsI_mem {zs : List Int} {K v : Nat → Nat} {p : Int → Prop} (hz : ∀ z ∈ zs, p z) : ∀ (i : Nat), (∀ j, j < i → p ((v j : Nat) : Int)) → ∀ z ∈ putsI zs K v i, p z
  | 0, _, z, h => hz z h
  | i + 1, hv, z, h => by
    unfold putsI at h
    rcases List.mem_or_eq_of_mem_set h with h | h
    · exact putsI_mem hz i (fun j hj => hv j (by omega)) z h
    · rw [h]; exact hv i (by omega)
/-- The table that undoes one. -/
def inv (tz : List Int) (i : Nat) : List Int := putsI (List.replicate 16 0) (tN tz) id i
/-- No number stands twice among the first i. -/
def Once (tz : List Int) (i : Nat) : Prop := ∀ p q, p < q → q < i → tN tz p ≠ tN tz q
theorem inv_len {tz : List Int} {i : Nat} : (inv tz i).length = 16 := by unfold inv; rw [putsI_len, List.length_replicate]
theorem inv_at {tz : List Int} (h : Once tz 16) {b : Nat} (hb : b < 16) (ht : tN tz b < 16) : tN (inv tz 16) (tN tz b) = b := by
  have := putsI_at (zs := List.replicate 16 0) (v := id) 16 h hb (by rw [List.length_replicate]; exact ht)
  show ((inv tz 16).getD (tN tz b) 0).toNat = b
  unfold inv
  rw [this]; rfl
theorem inv_mem {tz : List Int} {i : Nat} (hi : i ≤ 16) : ∀ z ∈ inv tz i, 0 ≤ z ∧ z ≤ 15 :=
  putsI_mem (p := fun z => 0 ≤ z ∧ z ≤ 15) (fun z hz => by rw [List.eq_of_mem_replicate hz]; decide) i (fun j hj => by simp only [id]; omega)
theorem inv_fault {tz : List Int} : tfault (inv tz 16) = 0 := by
  unfold tfault
  rw [if_neg (by simp [inv_len]), if_neg]
  rw [Bool.not_eq_true, List.any_eq_false]
  intro z hz
  have := inv_mem (Nat.le_refl 16) z hz
  unfold tbad
  simp
  omega
/-- The numbers that have been, as bits. -/
def mask (tz : List Int) : Nat → Nat
  | 0 => 0
  | i + 1 => mask tz i ||| 2 ^ tN tz i
theorem mask_lt {tz : List Int} (h : ∀ b, tN tz b < 16) : ∀ i, mask tz i < 2 ^ 16
  | 0 => by simp [mask]
  | i + 1 => by
    unfold mask
    exact Nat.or_lt_two_pow (mask_lt h i) (Nat.pow_lt_pow_right (by omega) (h i))
theorem mask_bit {tz : List Int} {x : Nat} : ∀ i, (mask tz i).testBit x = true ↔ ∃ j, j < i ∧ tN tz j = x
  | 0 => by simp [mask]
  | i + 1 => by
    unfold mask
    rw [Nat.testBit_or, Bool.or_eq_true, mask_bit i, Nat.testBit_two_pow]
    constructor
    · rintro (⟨j, hj, e⟩ | e)
      · exact ⟨j, by omega, e⟩
      · exact ⟨i, by omega, by simpa using e⟩
    · rintro ⟨j, hj, e⟩
      by_cases hji : j = i
      · subst hji; exact .inr (by simpa using e)
      · exact .inl ⟨j, by omega, e⟩
theorem wraps_i64 (n : Int) (h₀ : 0 ≤ n) (h₁ : n < 2 ^ 63) : IntKind.i64.wrap n = n := by rw [IntKind.wrap_i64]; omega
theorem bit_test {s x : Nat} (hs : s < 2 ^ 16) : bits .and .i64 ((s : Int) / 2 ^ x) 1 = if s.testBit x = true then 1 else 0 := by
  have h1 : ((s : Int) / 2 ^ x) = ((s / 2 ^ x : Nat) : Int) := by push_cast; rfl
  have h2 := (bits_nat .i64 63 (by decide) wraps_i64 (s / 2 ^ x) 1 (by have := Nat.div_le_self s (2 ^ x); omega) (by decide)).1
  rw [h1]
  refine (show bits .and .i64 ((s / 2 ^ x : Nat) : Int) ((1 : Nat) : Int) = _ from h2).trans ?_
  rw [Nat.and_one_is_mod]
  have h3 : s.testBit x = decide (s / 2 ^ x % 2 = 1) := Nat.testBit_eq_decide_div_mod_eq
  rw [h3]
  by_cases h : s / 2 ^ x % 2 = 1
  · simp [h]
  · have : s / 2 ^ x % 2 = 0 := by omega
    simp [this]
theorem or_bit {s x : Nat} (hs : s < 2 ^ 16) (hx : x < 16) : bits .or .i64 (s : Int) ((2 ^ x : Nat) : Int) = ((s ||| 2 ^ x : Nat) : Int) :=
  (bits_nat .i64 63 (by decide) wraps_i64 s (2 ^ x) (by omega) (Nat.pow_lt_pow_right (by omega) (by omega))).2
theorem shl_fin : ∀ x : Fin 16, wrap64 ((1 : Int) * 2 ^ x.val) = ((2 ^ x.val : Nat) : Int) := by decide +kernel
theorem shl_one {x : Nat} (hx : x < 16) : wrap64 ((2 : Int) ^ x) = ((2 ^ x : Nat) : Int) := by
  have := shl_fin ⟨x, hx⟩
  rw [Int.one_mul] at this
  exact this
set_option maxHeartbeats 4000000 in
theorem back_fault (ta : Option Addr) (tn tc : Nat) (tz : List Int) (w : World) (hT : Ints.Is w ta tn tz) (hf : tfault tz ≠ 0) :
    Calls Tryd.prog 11 #[.slice ta tn tc] w fun e w' => e = .returned (.tuple #[.slice none 0 0, errV (tfault tz)]) ∧ Below w.heap.size w w' := by
  have hl := hT.le
  unfold maxLen at hl
  have HCK := Lib.hid (check_any ta tn tc tz w hT.len (by omega) hT.cells)
  rw [errV_some hf] at HCK
  rw [errV_some hf]
  clear hT hf
  go_enter Tryd.func11, Tryd.ntmps11
  go_wp2_with fail
  refine HCK.out.mono ?_
  rintro e1 w1 ⟨rfl, rfl⟩
  go_wp2
  go_ret2
  exact ⟨rfl, Below.refl _ _⟩
theorem set_map (zs : List Int) (k : Nat) (z : Int) : (zs.map (Value.int .i64)).set k (.int .i64 z) = (zs.set k z).map (Value.int .i64) := by rw [List.map_set]
set_option maxHeartbeats 4000000 in
set_option maxRecDepth 100000 in
theorem back_ok (ta : Option Addr) (tn tc : Nat) (tz : List Int) (w : World) (hT : Ints.Is w ta tn tz) (hf : tfault tz = 0) :
    Calls Tryd.prog 11 #[.slice ta tn tc] w fun e w' =>
      ((¬ Once tz 16 ∧ e = .returned (.tuple #[.slice none 0 0, errV 5])) ∨ (Once tz 16 ∧ ∃ b, w.heap.size ≤ b ∧ e = .returned (.tuple #[.slice (some ⟨b, 0, none⟩) 16 16, .nilIface]) ∧ Row w' b 3 ((inv tz 16).map (Value.int .i64)))) ∧ Below w.heap.size w w' := by
  obtain ⟨i0, hI0, hz0, hz1, hz2⟩ := info_parts infoIntB
  have hl := hT.le
  unfold maxLen at hl
  have HCK := Lib.hid (check_any ta tn tc tz w hT.len (by omega) hT.cells)
  rw [errV_zero hf] at HCK
  obtain ⟨h16, htb⟩ := tfault_zero hf
  obtain rfl : tn = 16 := by rw [← hT.len]; exact h16
  have HT := Lib.hid hT.cells
  have HTB := Lib.hid htb
  clear hT hf h16 htb
  go_enter Tryd.func11, Tryd.ntmps11
  go_wp2_with fail
  refine HCK.out.mono ?_
  rintro e1 w1 ⟨rfl, rfl⟩
  go_wp2_with (refine Ops.wpList_make rfl 22 _ _ rfl 3 i0 (.int .i64 0) Tryd.underlying22 hI0 hz0 rfl hz1 (by rw [hz2]; decide) 16 rfl rfl (by decide) ?_; intro b w1 hb hbel hR)
  have HB0 := Lib.hid hbel
  have HR0 : Hid (Row w1 b 3 ((inv tz 0).map (Value.int .i64))) := hR
  clear hbel hR
  go_loopw [6, 17] (fun u v wr => ∃ i : Nat, i ≤ 16 ∧ v = .int .i64 i ∧ u = .int .i64 (mask tz i : Nat) ∧ Once tz i ∧ Row wr b 3 ((inv tz i).map (Value.int .i64)) ∧ Below w.heap.size w wr) (fun _ v _ => 16 - (intOf v).toNat)
  case atStart => exact ⟨0, Nat.zero_le _, rfl, rfl, fun p q _ h => absurd h (Nat.not_lt_zero _), HR0.out, HB0.out⟩
  case round =>
    clear HB0 HR0
    obtain ⟨i, hi, rfl, rfl, hon, hR, hbel⟩ := hrel
    have HON := Lib.hid hon
    have HR := Lib.hid hR
    clear hon hR
    by_cases hlt : i < 16
    · obtain ⟨bt, off, rfl, _, hc⟩ := (HT.out.keep hbel) i hlt
      dsimp only at hc
      rw [tN_at HTB.out i] at hc
      have ht16 := tN_lt HTB.out i
      have hml := mask_lt (tN_lt HTB.out) i
      have hbt := bit_test (x := tN tz i) hml
      have HMB := Lib.hid (mask_bit (tz := tz) (x := tN tz i) i)
      have hor := or_bit hml ht16
      have hsh := shl_one ht16
      have HMN : Hid (mask tz (i + 1) = mask tz i ||| 2 ^ tN tz i) := rfl
      by_cases hs : (mask tz i).testBit (tN tz i) = true
      · have HNO : Hid (¬ Once tz 16) := fun h => by
          obtain ⟨j, hj, e⟩ := HMB.out.1 hs
          exact h j i hj hlt e
        rw [if_pos hs] at hbt
        clear HMB hs HMN hor hsh
        generalize mask tz i = mk at *
        generalize tN tz i = tv at *
        go_wp2_with fail
        go_ret2
        exact ⟨.inl ⟨HNO.out, by rw [errV_some (by decide)]; rfl⟩, hbel⟩
      · have HOS : Hid (Once tz (i + 1)) := fun p q hpq hq => by
          by_cases hqi : q = i
          · subst hqi
            exact fun e => hs (HMB.out.2 ⟨p, hpq, e⟩)
          · exact HON.out p q hpq (by omega)
        rw [if_neg hs] at hbt
        have hget : ((inv tz i).map (Value.int .i64))[tN tz i]? = some (.int .i64 ((inv tz i).getD (tN tz i) 0)) := by
          have hlen : tN tz i < (inv tz i).length := by rw [inv_len]; exact ht16
          rw [List.getElem?_map, List.getElem?_eq_getElem hlen, List.getD_eq_getElem?_getD, List.getElem?_eq_getElem hlen]
          rfl
        have hcell := (HR.out.cell (tN tz i)).trans hget
        have hfrz := HR.out.frozen (tN tz i)
        have hset := HR.out.set (tN tz i) (.int .i64 ((i : Nat) : Int))
        rw [set_map] at hset
        have HRS : Hid (Row (wr.setCell ⟨b, tN tz i, none⟩ (.int .i64 ((i : Nat) : Int))) b 3 ((inv tz (i + 1)).map (Value.int .i64))) := hset
        have HBS := Lib.hid (hbel.trans ((only_setCell wr b (tN tz i) (.int .i64 ((i : Nat) : Int))).below hb))
        rw [← HMN.out] at hor
        clear HMB hs HR hget hset HMN hbel
        generalize (inv tz i).getD (tN tz i) 0 = old at *
        generalize mask tz i = mk at *
        generalize hmk' : mask tz (i + 1) = mk' at *
        have HMK := Lib.hid hmk'
        clear hmk'
        generalize tN tz i = tv at *
        generalize hpw : 2 ^ tv = pw at *
        have hpw2 : pw ≤ 32768 := by
          rw [← hpw]; exact Nat.pow_le_pow_right (by omega) (show tv ≤ 15 by omega)
        clear hpw
        go_wp2_with fail
        exact ⟨⟨i + 1, by omega, by go_num, by rw [HMK.out], HOS.out, HRS.out, HBS.out⟩, by simp [intOf]; omega⟩
    · have hi16 : i = 16 := by omega
      subst hi16
      go_wp2
      go_ret2
      exact ⟨.inr ⟨HON.out, b, hb, rfl, HR.out⟩, hbel⟩
end Bl
end Go.Proofs.YtmnefdcgknmnjaaDoor
