/- Division of a number of 128 bits by one of 64, plain: Knuth's estimate of a digit in base 2^32. -/
import Derived.Lib.BitFns
namespace Go.Proofs.YtfhhnajnanlmgaaGreatDoor.Dv

/-- An estimate of a digit on its way: with its remainder against the divisor's upper half; the true digit is no greater. -/
structure Est (u y1 y0 u1 q r : Nat) : Prop where
  eq : q * y1 + r = u
  ge : (u * 4294967296 + u1) / (y1 * 4294967296 + y0) ≤ q
  le : q ≤ 4294967297

theorem digit_lt {u y u1 : Nat} (h : u < y) (h1 : u1 < 4294967296) : (u * 4294967296 + u1) / y < 4294967296 := by
  refine (Nat.div_lt_iff_lt_mul (by omega)).2 ?_
  have : (u + 1) * 4294967296 ≤ y * 4294967296 := Nat.mul_le_mul_right _ h
  omega

theorem Est.first {u y1 y0 u1 : Nat} (hy1 : 2147483648 ≤ y1) (hy0 : y0 < 4294967296) (hu : u < y1 * 4294967296 + y0) (_hu1 : u1 < 4294967296) : Est u y1 y0 u1 (u / y1) (u % y1) := by
  have hle : u / y1 ≤ 4294967297 := by
    refine Nat.le_of_lt_succ ((Nat.div_lt_iff_lt_mul (by omega)).2 ?_)
    omega
  refine ⟨by rw [Nat.mul_comm]; exact Nat.div_add_mod u y1, ?_, hle⟩
  refine Nat.le_of_lt_succ ((Nat.div_lt_iff_lt_mul (by omega)).2 ?_)
  have h1 := Nat.div_add_mod u y1
  have h2 := Nat.mod_lt u (show y1 > 0 by omega)
  generalize u / y1 = q at *
  generalize u % y1 = r at *
  have h3 : (q + 1) * (y1 * 4294967296 + y0) = (y1 * q) * 4294967296 + y1 * 4294967296 + (q + 1) * y0 := by
    rw [Nat.add_mul, Nat.mul_add, Nat.one_mul, Nat.add_mul, Nat.one_mul, Nat.mul_comm y1 q, Nat.mul_assoc]; omega
  show u * 4294967296 + u1 < (q + 1) * (y1 * 4294967296 + y0)
  rw [h3]
  have h4 : 0 ≤ (q + 1) * y0 := Nat.zero_le _
  omega

theorem est_aux {a b u u1 r : Nat} (he : a + r = u) (ht : r * 4294967296 + u1 < b) : u * 4294967296 + u1 < a * 4294967296 + b := by
  rw [← he, Nat.add_mul, Nat.add_assoc]
  exact Nat.add_lt_add_left ht _
theorem est_lt {u y1 y0 u1 q r : Nat} (he : q * y1 + r = u) (ht : r * 4294967296 + u1 < q * y0) (hy : 0 < y1 * 4294967296 + y0) : (u * 4294967296 + u1) / (y1 * 4294967296 + y0) < q := by
  refine (Nat.div_lt_iff_lt_mul hy).2 ?_
  have e : q * (y1 * 4294967296 + y0) = (q * y1) * 4294967296 + q * y0 := by rw [Nat.mul_add q (y1 * 4294967296) y0, Nat.mul_assoc q y1 4294967296]
  exact Nat.lt_of_lt_of_eq (est_aux he ht) e.symm

theorem Est.down {u y1 y0 u1 q r : Nat} (h : Est u y1 y0 u1 q r) (hu : u < y1 * 4294967296 + y0) (hu1 : u1 < 4294967296) (ht : 4294967296 ≤ q ∨ r * 4294967296 + u1 < q * y0) : 0 < q ∧ Est u y1 y0 u1 (q - 1) (r + y1) ∧ q - 1 ≤ 4294967296 := by
  have hd := digit_lt (u1 := u1) hu hu1
  have hlt : (u * 4294967296 + u1) / (y1 * 4294967296 + y0) < q := by
    rcases ht with ht | ht
    · omega
    · exact est_lt h.eq ht (by omega)
  have hq : 0 < q := Nat.lt_of_le_of_lt (Nat.zero_le _) hlt
  refine ⟨hq, ⟨?_, Nat.le_sub_one_of_lt hlt, by have := h.le; omega⟩, by have := h.le; omega⟩
  have he := h.eq
  obtain ⟨p, rfl⟩ : ∃ p, q = p + 1 := ⟨q - 1, by omega⟩
  simp only [Nat.add_sub_cancel]
  rw [Nat.add_mul, Nat.one_mul] at he
  omega

theorem Est.last {u y1 y0 u1 q r : Nat} (h : Est u y1 y0 u1 q r) (hy : 0 < y1) (ht : q * y0 ≤ r * 4294967296 + u1) : (u * 4294967296 + u1) / (y1 * 4294967296 + y0) = q := by
  refine Nat.le_antisymm h.ge ((Nat.le_div_iff_mul_le (by omega)).2 ?_)
  have e : q * (y1 * 4294967296 + y0) = (q * y1) * 4294967296 + q * y0 := by rw [Nat.mul_add q (y1 * 4294967296) y0, Nat.mul_assoc q y1 4294967296]
  rw [e]
  have := h.eq
  omega

theorem Est.broke {u y1 y0 u1 q r : Nat} (h : Est u y1 y0 u1 q r) (hy : 0 < y1) (hy0 : y0 < 4294967296) (hq : q ≤ 4294967296) (hr : 4294967296 ≤ r) : (u * 4294967296 + u1) / (y1 * 4294967296 + y0) = q := by
  refine h.last hy ?_
  have : q * y0 ≤ 4294967296 * y0 := Nat.mul_le_mul_right _ hq
  have : 4294967296 * 4294967296 ≤ r * 4294967296 := Nat.mul_le_mul_right _ hr
  omega

theorem len_le : ∀ (f x : Nat), Go.Lib.bitLenAux f x ≤ f
  | 0, _ => Nat.le_refl _
  | f + 1, x => by
    simp only [Go.Lib.bitLenAux]
    split
    · omega
    · have := len_le f (x / 2); omega
theorem len_pow : ∀ (f x : Nat), x ≠ 0 → x < 2 ^ f → 2 ^ (Go.Lib.bitLenAux f x) ≤ 2 * x ∧ x < 2 ^ (Go.Lib.bitLenAux f x) ∧ 0 < Go.Lib.bitLenAux f x
  | 0, x, h0, h => by simp at h; omega
  | f + 1, x, h0, h => by
    simp only [Go.Lib.bitLenAux, if_neg h0]
    by_cases h1 : x / 2 = 0
    · have : x = 1 := by omega
      subst this
      cases f <;> simp [Go.Lib.bitLenAux]
    · have ih := len_pow f (x / 2) h1 (by rw [Nat.pow_succ] at h; omega)
      rw [Nat.add_comm 1, Nat.pow_succ]
      generalize 2 ^ Go.Lib.bitLenAux f (x / 2) = p at *
      omega

/-- Shifted so far that the upper bit is set: no more than 64 bits. -/
theorem norm {y : Nat} (h0 : y ≠ 0) (h : y < 18446744073709551616) : Go.Lib.bitLen y ≤ 64 ∧ 0 < Go.Lib.bitLen y ∧ 9223372036854775808 ≤ y * 2 ^ (64 - Go.Lib.bitLen y) ∧ y * 2 ^ (64 - Go.Lib.bitLen y) < 18446744073709551616 := by
  have h1 := len_le 64 y
  have h2 := len_pow 64 y h0 h
  change Go.Lib.bitLen y ≤ 64 at h1
  change 2 ^ Go.Lib.bitLen y ≤ 2 * y ∧ y < 2 ^ Go.Lib.bitLen y ∧ 0 < Go.Lib.bitLen y at h2
  have e : 2 ^ Go.Lib.bitLen y * 2 ^ (64 - Go.Lib.bitLen y) = 18446744073709551616 := by
    rw [← Nat.pow_add, show Go.Lib.bitLen y + (64 - Go.Lib.bitLen y) = 64 by omega]
  refine ⟨h1, h2.2.2, ?_, ?_⟩
  · have := Nat.mul_le_mul_right (2 ^ (64 - Go.Lib.bitLen y)) h2.1
    rw [e, Nat.mul_assoc] at this
    omega
  · have := Nat.mul_lt_mul_of_pos_right h2.2.1 (Nat.two_pow_pos (64 - Go.Lib.bitLen y))
    rw [e] at this
    exact this

/-- The number's upper 64 bits, shifted: what is shifted out of the lower ones comes in. -/
theorem upper {hi lo s : Nat} (hs : s ≤ 64) : hi * 2 ^ s + lo / 2 ^ (64 - s) = (hi * 18446744073709551616 + lo) * 2 ^ s / 18446744073709551616 := by
  have e : 18446744073709551616 = 2 ^ s * 2 ^ (64 - s) := by rw [← Nat.pow_add, show s + (64 - s) = 64 by omega]
  have e2 : lo * 2 ^ s / 18446744073709551616 = lo / 2 ^ (64 - s) := by
    rw [e, Nat.mul_comm lo, Nat.mul_div_mul_left _ _ (Nat.two_pow_pos s)]
  have e3 : (hi * 18446744073709551616 + lo) * 2 ^ s = lo * 2 ^ s + (hi * 2 ^ s) * 18446744073709551616 := by
    rw [Nat.add_mul, Nat.mul_right_comm, Nat.add_comm]
  rw [e3, Nat.add_mul_div_right _ _ (show 0 < 18446744073709551616 by omega), e2, Nat.add_comm]

theorem lower {hi lo s : Nat} : lo * 2 ^ s % 18446744073709551616 = (hi * 18446744073709551616 + lo) * 2 ^ s % 18446744073709551616 := by
  rw [Nat.add_mul, Nat.mul_right_comm, Nat.add_comm, Nat.add_mul_mod_self_right]

theorem upper_lt {hi lo y s : Nat} (hlo : lo < 18446744073709551616) (hh : hi < y) : (hi * 18446744073709551616 + lo) * 2 ^ s / 18446744073709551616 < y * 2 ^ s := by
  refine (Nat.div_lt_iff_lt_mul (by omega)).2 ?_
  rw [Nat.mul_right_comm]
  refine Nat.mul_lt_mul_of_pos_right ?_ (Nat.two_pow_pos s)
  have : (hi + 1) * 18446744073709551616 ≤ y * 18446744073709551616 := Nat.mul_le_mul_right _ hh
  omega

/-- Two digits, one behind the other, are the quotient; the rest of the second is the rest. -/
theorem two (M y : Nat) (hy : 0 < y) :
    let A := M / 4294967296
    let q1 := A / y
    let q0 := (A % y * 4294967296 + M % 4294967296) / y
    q1 * 4294967296 + q0 = M / y ∧ (A % y * 4294967296 + M % 4294967296) % y = M % y := by
  dsimp only
  have h1 := Nat.div_add_mod M 4294967296
  have h2 := Nat.div_add_mod (M / 4294967296) y
  have e : M = (M / 4294967296 % y * 4294967296 + M % 4294967296) + (M / 4294967296 / y * 4294967296) * y := by
    have : (M / 4294967296 / y * 4294967296) * y = (y * (M / 4294967296 / y)) * 4294967296 := by rw [Nat.mul_right_comm, Nat.mul_comm y]
    rw [this]
    omega
  constructor
  · conv => rhs; rw [e]
    rw [Nat.add_mul_div_right _ _ hy, Nat.add_comm]
  · conv => rhs; rw [e]
    rw [Nat.add_mul_mod_self_right]

theorem scaled (N y s : Nat) : N * 2 ^ s / (y * 2 ^ s) = N / y ∧ N * 2 ^ s % (y * 2 ^ s) / 2 ^ s = N % y := by
  refine ⟨Nat.mul_div_mul_right _ _ (Nat.two_pow_pos s), ?_⟩
  rw [Nat.mul_mod_mul_right, Nat.mul_div_cancel _ (Nat.two_pow_pos s)]

/-- All together: two digits of the shifted number by the shifted divisor. -/
theorem fin {hi lo y s Y U L A C : Nat} (hh : hi < y) (hl : lo < 18446744073709551616) (hs : s ≤ 64) (hY : Y = y * 2 ^ s) (hU : U = hi * 2 ^ s + lo / 2 ^ (64 - s)) (hL : L = lo * 2 ^ s % 18446744073709551616)
    (hA : A = U * 4294967296 + L / 4294967296) (hC : C = A % Y * 4294967296 + L % 4294967296) :
    U < Y ∧ A / Y * 4294967296 + C / Y = (hi * 18446744073709551616 + lo) / y ∧ C % Y / 2 ^ s = (hi * 18446744073709551616 + lo) % y := by
  have e1 : U = (hi * 18446744073709551616 + lo) * 2 ^ s / 18446744073709551616 := hU.trans (upper hs)
  have e2 : L = (hi * 18446744073709551616 + lo) * 2 ^ s % 18446744073709551616 := hL.trans lower
  have e3 : U < Y := by rw [e1, hY]; exact upper_lt hl hh
  refine ⟨e3, ?_⟩
  have hs2 := scaled (hi * 18446744073709551616 + lo) y s
  rw [← hY] at hs2
  have ht := two ((hi * 18446744073709551616 + lo) * 2 ^ s) Y (by omega)
  generalize (hi * 18446744073709551616 + lo) * 2 ^ s = M at *
  have e4 : M / 4294967296 = A := by omega
  have e5 : M % 4294967296 = L % 4294967296 := by omega
  dsimp only at ht
  rw [e4, e5, ← hC] at ht
  rw [ht.1, ht.2]
  exact hs2

/-- What the machine's words give: the rest of a digit. -/
theorem wrest {u u1 y q : Nat} (hq : (u * 4294967296 + u1) / y = q) (hy : y < 18446744073709551616) (h0 : 0 < y) :
    ((((((u : Int) * 4294967296) % 18446744073709551616 + (u1 : Int)) % 18446744073709551616) - ((q : Int) * (y : Int)) % 18446744073709551616) % 18446744073709551616) = (((u * 4294967296 + u1) % y : Nat) : Int) := by
  have h1 := Nat.div_add_mod (u * 4294967296 + u1) y
  have h2 := Nat.mod_lt (u * 4294967296 + u1) h0
  rw [hq] at h1
  have h3 : (y : Int) * (q : Int) + ((((u * 4294967296 + u1) % y : Nat)) : Int) = (u : Int) * 4294967296 + (u1 : Int) := by
    have h : ((y * q + (u * 4294967296 + u1) % y : Nat) : Int) = ((u * 4294967296 + u1 : Nat) : Int) := congrArg (fun z : Nat => (z : Int)) h1
    rw [Int.natCast_add, Int.natCast_mul, Int.natCast_add (u * 4294967296) u1, Int.natCast_mul] at h
    exact h
  rw [Int.mul_comm (q : Int)]
  generalize (((u * 4294967296 + u1) % y : Nat)) = r at *
  generalize (y : Int) * (q : Int) = p at *
  omega

/-- The same of the remainder that is kept on the way. -/
theorem wrem {u y1 : Nat} (hu : u < 18446744073709551616) : (((u : Int) - (((u / y1 : Nat) : Int) * (y1 : Int)) % 18446744073709551616) % 18446744073709551616) = ((u % y1 : Nat) : Int) := by
  have h1 := Nat.div_add_mod u y1
  have h3 : (y1 : Int) * ((u / y1 : Nat) : Int) + ((u % y1 : Nat) : Int) = (u : Int) := by exact_mod_cast h1
  rw [Int.mul_comm ((u / y1 : Nat) : Int)]
  generalize (y1 : Int) * ((u / y1 : Nat) : Int) = p at *
  omega

theorem or_add {a b s : Nat} (hb : b < 2 ^ s) : a * 2 ^ s ||| b = a * 2 ^ s + b := by
  rw [← Nat.shiftLeft_eq, ← Nat.shiftLeft_add_eq_or_of_lt hb]

end Go.Proofs.YtfhhnajnanlmgaaGreatDoor.Dv
