/- Arithmetic of 128 bits over plain numbers: a product with a number, and Knuth's division by a number of 64 bits. Nothing of the program. -/
import Derived.Lib.Walk
import Derived.Lib.ItoaNum
import Derived.Laws.Bits64b
namespace Go.Proofs.YtahjkibjcibpgaaDoor.U

theorem scale_parts (h l b : Nat) (_hl : l < 18446744073709551616) (hP : (h * 18446744073709551616 + l) * b < 340282366920938463463374607431768211456) :
    h * b / 18446744073709551616 = 0 ∧ h * b % 18446744073709551616 = h * b ∧ l * b % 18446744073709551616 = (h * 18446744073709551616 + l) * b % 18446744073709551616 ∧
    h * b + l * b / 18446744073709551616 = (h * 18446744073709551616 + l) * b / 18446744073709551616 ∧ h * b + l * b / 18446744073709551616 < 18446744073709551616 := by
  have e : (h * 18446744073709551616 + l) * b = h * b * 18446744073709551616 + l * b := by rw [Nat.add_mul, Nat.mul_right_comm]
  rw [e] at hP ⊢
  generalize h * b = x at *
  generalize l * b = y at *
  omega

/-! ### division -/
/-- What one digit of the division is told of: Q is the digit. -/
def Digit (u y1 y0 c Q : Nat) : Prop := ∀ q r : Nat, q * y1 + r = u →
  (4294967296 ≤ q → Q < q) ∧ (q < 4294967296 → 4294967296 * r + c < q * y0 → Q < q) ∧
  (q < 4294967296 → q * y0 ≤ 4294967296 * r + c → q ≤ Q) ∧ (q ≤ 4294967296 → 4294967296 ≤ r → q ≤ Q)

theorem Digit.back {q y1 r u : Nat} (h : q * y1 + r = u) (hq : 1 ≤ q) : (q - 1) * y1 + (r + y1) = u := by
  obtain ⟨p, rfl⟩ : ∃ p, q = p + 1 := ⟨q - 1, by omega⟩
  rw [Nat.add_mul] at h
  have e : p + 1 - 1 = p := by omega
  rw [e]
  omega

theorem lin1 (u c Y : Nat) (hu : u < Y) (hc : c < 4294967296) : u * 4294967296 + c < 4294967296 * Y := by omega

theorem lin2 (Q u c y1 y0 : Nat) (hQ : Q * (y1 * 4294967296 + y0) ≤ u * 4294967296 + c) (hc : c < 4294967296) : Q * y1 ≤ u := by
  rw [Nat.mul_add, ← Nat.mul_assoc] at hQ
  omega

/-- the digit of a numerator u * 2^32 + c, u < y -/
theorem digit_of (u y1 y0 c : Nat) (hy0 : y0 < 4294967296) (hy1 : 2147483648 ≤ y1) (hu : u < y1 * 4294967296 + y0) (hc : c < 4294967296) :
    Digit u y1 y0 c ((u * 4294967296 + c) / (y1 * 4294967296 + y0)) ∧ (u * 4294967296 + c) / (y1 * 4294967296 + y0) < 4294967296 ∧
    (u * 4294967296 + c) / (y1 * 4294967296 + y0) ≤ u / y1 ∧ u / y1 ≤ 4294967297 ∧ u / y1 * y1 + u % y1 = u := by
  have hpos : 0 < y1 * 4294967296 + y0 := by omega
  have hlt : (u * 4294967296 + c) / (y1 * 4294967296 + y0) < 4294967296 := by
    rw [Nat.div_lt_iff_lt_mul hpos]
    exact lin1 u c _ hu hc
  have hdm : u / y1 * y1 + u % y1 = u := Nat.div_add_mod' u y1
  refine ⟨?_, hlt, ?_, ?_, hdm⟩
  · intro q r hqr
    have key : q * (y1 * 4294967296 + y0) + r * 4294967296 = u * 4294967296 + q * y0 := by
      rw [← hqr, Nat.mul_add, Nat.add_mul, Nat.mul_assoc]; omega
    have le_iff : q ≤ (u * 4294967296 + c) / (y1 * 4294967296 + y0) ↔ q * (y1 * 4294967296 + y0) ≤ u * 4294967296 + c := Nat.le_div_iff_mul_le hpos
    refine ⟨fun h => by omega, fun _ h => ?_, fun _ h => ?_, fun h1 h2 => ?_⟩
    · refine Nat.lt_of_not_le (fun hle => ?_)
      have := le_iff.1 hle
      omega
    · refine le_iff.2 ?_
      omega
    · refine le_iff.2 ?_
      have h3 : q * y0 ≤ 4294967296 * y0 := Nat.mul_le_mul_right _ h1
      omega
  · have hQ := Nat.div_mul_le_self (u * 4294967296 + c) (y1 * 4294967296 + y0)
    rw [Nat.le_div_iff_mul_le (by omega)]
    exact lin2 _ _ _ _ _ hQ hc
  · have : u / y1 < 4294967298 := by
      rw [Nat.div_lt_iff_lt_mul (by omega)]
      omega
    omega

/-- The numbers of a normalized division by y: everything that the walk is told. -/
theorem norm (y : Nat) (h0 : 0 < y) (hy : y < 18446744073709551616) :
    ∃ s : Nat, s ≤ 63 ∧ (64 - (Lib.bitLen y : Int)) = (s : Int) ∧ 9223372036854775808 ≤ y * 2 ^ s ∧ y * 2 ^ s < 18446744073709551616 := by
  obtain ⟨b1, b2, b3⟩ := Lib.bitLenAux_bounds 64 y (by omega) (by omega)
  change 1 ≤ Lib.bitLen y at b1
  change 2 ^ (Lib.bitLen y - 1) ≤ y at b2
  change y < 2 ^ Lib.bitLen y at b3
  have b4 : Lib.bitLen y ≤ 64 := Lib.bitLen_le y 64 (by omega) (by omega)
  refine ⟨64 - Lib.bitLen y, by omega, by omega, ?_, ?_⟩
  · have : 2 ^ (Lib.bitLen y - 1) * 2 ^ (64 - Lib.bitLen y) ≤ y * 2 ^ (64 - Lib.bitLen y) := Nat.mul_le_mul_right _ b2
    rw [← Nat.pow_add] at this
    have e : Lib.bitLen y - 1 + (64 - Lib.bitLen y) = 63 := by omega
    rw [e] at this
    exact this
  · have : y * 2 ^ (64 - Lib.bitLen y) < 2 ^ Lib.bitLen y * 2 ^ (64 - Lib.bitLen y) := Nat.mul_lt_mul_of_pos_right b3 (Nat.two_pow_pos _)
    rw [← Nat.pow_add] at this
    have e : Lib.bitLen y + (64 - Lib.bitLen y) = 64 := by omega
    rw [e] at this
    exact this

theorem pow_split (s : Nat) (hs : s ≤ 63) : 2 ^ (64 - s) * 2 ^ s = 18446744073709551616 := by
  rw [← Nat.pow_add]
  have e : 64 - s + s = 64 := by omega
  rw [e]

theorem lin4 (a b c d : Nat) (h1 : a + d ≤ c) (h2 : b / 18446744073709551616 < d) (hc : c < 18446744073709551616) :
    a < 18446744073709551616 ∧ b / 18446744073709551616 < d ∧ a + b / 18446744073709551616 = (a * 18446744073709551616 + b) / 18446744073709551616 ∧ b % 18446744073709551616 = (a * 18446744073709551616 + b) % 18446744073709551616 ∧ (a * 18446744073709551616 + b) / 18446744073709551616 < c :=
  ⟨by omega, h2, by omega, by omega, by omega⟩

theorem upper (h l y s : Nat) (hhy : h < y) (hl : l < 18446744073709551616) (hs : s ≤ 63) (hY : y * 2 ^ s < 18446744073709551616) :
    h * 2 ^ s < 18446744073709551616 ∧ l / 2 ^ (64 - s) < 2 ^ s ∧ (h * 2 ^ s) ||| (l / 2 ^ (64 - s)) = (h * 18446744073709551616 + l) * 2 ^ s / 18446744073709551616 ∧
    l * 2 ^ s % 18446744073709551616 = (h * 18446744073709551616 + l) * 2 ^ s % 18446744073709551616 ∧ (h * 18446744073709551616 + l) * 2 ^ s / 18446744073709551616 < y * 2 ^ s := by
  have e : (h * 18446744073709551616 + l) * 2 ^ s = h * 2 ^ s * 18446744073709551616 + l * 2 ^ s := by rw [Nat.add_mul, Nat.mul_right_comm]
  have h1 : h * 2 ^ s + 2 ^ s ≤ y * 2 ^ s := by
    have : (h + 1) * 2 ^ s ≤ y * 2 ^ s := Nat.mul_le_mul_right _ (by omega)
    rw [Nat.add_mul, Nat.one_mul] at this
    exact this
  have hp : 0 < 2 ^ s := Nat.two_pow_pos _
  have h2 : l / 2 ^ (64 - s) < 2 ^ s := by
    rw [Nat.div_lt_iff_lt_mul (Nat.two_pow_pos _), Nat.mul_comm, pow_split s hs]
    exact hl
  have h3 : l * 2 ^ s / 18446744073709551616 = l / 2 ^ (64 - s) := by
    rw [← pow_split s hs, Nat.mul_div_mul_right _ _ hp]
  have h4 : (h * 2 ^ s) ||| (l / 2 ^ (64 - s)) = h * 2 ^ s + l / 2 ^ (64 - s) := by
    rw [Nat.mul_comm h, ← Nat.two_pow_add_eq_or_of_lt h2]
  rw [h4, e, ← h3]
  rw [← h3] at h2
  exact lin4 _ _ _ _ h1 h2 hY

theorem lin3 (B X a b u u1 u0 R1 R0 : Nat) (hX : X = (u * B + u1) * B + u0) (h1 : u * B + u1 = a + R1) (h0 : R1 * B + u0 = b + R0) : X = a * B + b + R0 := by
  rw [hX, h1, Nat.add_mul, Nat.add_assoc, h0, Nat.add_assoc]

theorem two_digits (B U : Nat) : U = (U / (B * B) * B + U % (B * B) / B) * B + U % (B * B) % B := by
  rw [Nat.add_mul, Nat.mul_assoc, Nat.add_assoc, Nat.div_add_mod' (U % (B * B)) B, Nat.div_add_mod' U (B * B)]

theorem join (N y d q0 q1 R1 R0 u u1 u0 : Nat) (hd : 0 < d) (hU : N * d = (u * 4294967296 + u1) * 4294967296 + u0)
    (h1 : u * 4294967296 + u1 = q1 * (y * d) + R1) (h0 : R1 * 4294967296 + u0 = q0 * (y * d) + R0) (hR : R0 < y * d) :
    q1 * 4294967296 + q0 = N / y ∧ R0 / d = N % y := by
  have e : N * d = (q1 * 4294967296 + q0) * (y * d) + R0 := by
    rw [Nat.add_mul, Nat.mul_right_comm]
    exact lin3 _ _ _ _ _ _ _ _ _ hU h1 h0
  have h3 : N * d / (y * d) = q1 * 4294967296 + q0 := by
    rw [e, Nat.add_comm, Nat.add_mul_div_right _ _ (by omega), Nat.div_eq_of_lt hR, Nat.zero_add]
  have h4 : N * d % (y * d) = R0 := by
    rw [e, Nat.mul_add_mod_self_right, Nat.mod_eq_of_lt hR]
  rw [Nat.mul_div_mul_right _ _ hd] at h3
  rw [Nat.mul_mod_mul_right] at h4
  refine ⟨h3.symm, ?_⟩
  rw [← h4, Nat.mul_div_cancel _ hd]

theorem mul_small (a b : Nat) (ha : a < 4294967296) (hb : b < 4294967296) : a * b < 18446744073709551616 := by
  have h1 : a * b ≤ 4294967295 * b := Nat.mul_le_mul_right _ (by omega)
  omega
end Go.Proofs.YtahjkibjcibpgaaDoor.U
