/- Numbers and units over plain lists of bytes: what the amount of a number and a unit is, what Trim, Cut and ParseUint come to at digits. Nothing of the program. -/
import Derived.Lib.SlTrimSet
import Derived.Lib.ParseIntB
import Derived.Lib.IndexMore
import Derived.Lib.IndexLaws
import Derived.Lib.ItoaNum
import Derived.Lib.Walk
namespace Go.Proofs.YtahjkibjcibpgaaDoor.U

def isDig (c : UInt8) : Bool := decide (48 ≤ c.toNat) && decide (c.toNat ≤ 57)
def cs10 : List UInt8 := [48, 49, 50, 51, 52, 53, 54, 55, 56, 57]

theorem of_all_u8 (p : UInt8 → Prop) (h : ∀ n : Fin 256, p (UInt8.ofNat n.val)) (c : UInt8) : p c := by
  have h1 := h ⟨c.toNat, c.toNat_lt⟩
  have h2 : UInt8.ofNat c.toNat = c := by simp
  rw [h2] at h1
  exact h1

theorem cs10_contains (c : UInt8) : cs10.contains c = isDig c := by
  have h : ∀ n : Fin 256, cs10.contains (UInt8.ofNat n.val) = isDig (UInt8.ofNat n.val) := by decide +kernel
  exact of_all_u8 (fun c => cs10.contains c = isDig c) h c

theorem dropWhile_nil_iff (p : UInt8 → Bool) (l : List UInt8) : l.dropWhile p = [] ↔ l.all p = true := by
  induction l with
  | nil => simp
  | cons a r ih =>
    by_cases h : p a = true
    · simp [List.dropWhile, h, ih]
    · simp [List.dropWhile, h]

theorem dropWhile_head (p : UInt8 → Bool) (l : List UInt8) (a : UInt8) (r : List UInt8) (h : l.dropWhile p = a :: r) : p a = false := by
  induction l with
  | nil => simp at h
  | cons b s ih =>
    by_cases hb : p b = true
    · simp [List.dropWhile, hb] at h; exact ih h
    · simp [List.dropWhile, hb] at h
      obtain ⟨rfl, rfl⟩ := h
      simpa using hb

theorem trim_nil_iff (l cs : List UInt8) : Lib.trimS l cs = [] ↔ l.all (cs.contains ·) = true := by
  unfold Lib.trimS Lib.trimLeftS Lib.trimRightS
  rw [dropWhile_nil_iff]
  constructor
  · intro h
    cases hd : l.reverse.dropWhile (cs.contains ·) with
    | nil =>
      have := (dropWhile_nil_iff (cs.contains ·) l.reverse).1 hd
      rw [List.all_reverse] at this
      exact this
    | cons a r =>
      rw [hd] at h
      have h1 := dropWhile_head _ _ _ _ hd
      rw [List.all_reverse, List.all_cons, h1] at h
      simp at h
  · intro h
    have h2 : l.reverse.dropWhile (cs.contains ·) = [] := (dropWhile_nil_iff _ _).2 (by rw [List.all_reverse]; exact h)
    rw [h2]; rfl

/-- 1 to 'most' digits and nothing else -/
def digsOk (l : List UInt8) (most : Int) : Bool := !l.isEmpty && decide ((l.length : Int) ≤ most) && l.all isDig

theorem trim_digits (l : List UInt8) : Lib.trimS l cs10 = [] ↔ l.all isDig = true := by
  rw [trim_nil_iff]
  have : (fun x => cs10.contains x) = isDig := by funext c; exact cs10_contains c
  rw [this]

/-- what digits denote, behind n -/
def valFrom (n : Nat) (l : List UInt8) : Nat := l.foldl (fun n c => 10 * n + (c.toNat - 48)) n
def val (l : List UInt8) : Nat := valFrom 0 l

theorem valFrom_cons (n : Nat) (c : UInt8) (l : List UInt8) : valFrom n (c :: l) = valFrom (10 * n + (c.toNat - 48)) l := by unfold valFrom; rw [List.foldl_cons]
theorem valFrom_nil (n : Nat) : valFrom n [] = n := rfl
theorem valFrom_append (n : Nat) (l m : List UInt8) : valFrom n (l ++ m) = valFrom (valFrom n l) m := by unfold valFrom; rw [List.foldl_append]
theorem valFrom_mul (l : List UInt8) : ∀ n, valFrom n l = n * 10 ^ l.length + valFrom 0 l := by
  induction l with
  | nil => intro n; simp [valFrom_nil]
  | cons c r ih =>
    intro n
    rw [valFrom_cons, valFrom_cons, ih (10 * n + (c.toNat - 48)), ih (10 * 0 + (c.toNat - 48)), List.length_cons, Nat.pow_succ, Nat.add_mul, Nat.add_mul]
    have e : 10 * n * 10 ^ r.length = n * (10 ^ r.length * 10) := by
      rw [Nat.mul_comm 10 n, Nat.mul_assoc, Nat.mul_comm 10]
    rw [e]; simp [Nat.add_assoc]
theorem valFrom_ge (l : List UInt8) (n : Nat) : n ≤ valFrom n l := by
  rw [valFrom_mul]
  have h : 1 ≤ 10 ^ l.length := Nat.one_le_pow _ _ (by omega)
  have : n * 1 ≤ n * 10 ^ l.length := Nat.mul_le_mul_left _ h
  omega
theorem dig_lt {c : UInt8} (h : isDig c = true) : 48 ≤ c.toNat ∧ c.toNat ≤ 57 := by
  simpa [isDig] using h
theorem val_lt (l : List UInt8) (h : l.all isDig = true) : val l < 10 ^ l.length := by
  unfold val
  induction l with
  | nil => simp [valFrom_nil]
  | cons c r ih =>
    simp only [List.all_cons, Bool.and_eq_true] at h
    have hc := dig_lt h.1
    rw [valFrom_cons, valFrom_mul, List.length_cons, Nat.pow_succ]
    have h1 := ih h.2
    have h2 : (10 * 0 + (c.toNat - 48)) * 10 ^ r.length ≤ 9 * 10 ^ r.length := Nat.mul_le_mul_right _ (by omega)
    omega
theorem val_append (l m : List UInt8) : val (l ++ m) = val l * 10 ^ m.length + val m := by
  unfold val; rw [valFrom_append, valFrom_mul]

theorem parse_cons (M acc : Nat) (c : UInt8) (r : List UInt8) : Lib.parseUintM M acc (c :: r) = if 48 ≤ c.toNat ∧ c.toNat ≤ 57 then
      if 1844674407370955162 ≤ acc then .range
      else if M < acc * 10 + (c.toNat - 48) then .range
      else Lib.parseUintM M (acc * 10 + (c.toNat - 48)) r
    else .syntax := rfl
theorem parse_digits (M : Nat) (hM : M < 18446744073709551616) (l : List UInt8) : ∀ acc, acc ≤ M → l.all isDig = true → Lib.parseUintM M acc l = if valFrom acc l ≤ M then .ok (valFrom acc l) else .range := by
  induction l with
  | nil => intro acc ha _; rw [if_pos (show valFrom acc [] ≤ M from ha)]; rfl
  | cons c r ih =>
    intro acc ha h
    simp only [List.all_cons, Bool.and_eq_true] at h
    have hc := dig_lt h.1
    have hge := valFrom_ge r (10 * acc + (c.toNat - 48))
    rw [valFrom_cons, parse_cons, if_pos hc]
    have e : acc * 10 + (c.toNat - 48) = 10 * acc + (c.toNat - 48) := by omega
    rw [e]
    by_cases h1 : 1844674407370955162 ≤ acc
    · have h3 : ¬ valFrom (10 * acc + (c.toNat - 48)) r ≤ M := by omega
      rw [if_pos h1, if_neg h3]
    · rw [if_neg h1]
      by_cases h2 : M < 10 * acc + (c.toNat - 48)
      · have h3 : ¬ valFrom (10 * acc + (c.toNat - 48)) r ≤ M := by omega
        rw [if_pos h2, if_neg h3]
      · rw [if_neg h2]
        exact ih _ (by omega) h.2

/-- strconv.ParseUint at digits -/
theorem parse64 (l : List UInt8) (hne : l ≠ []) (h : l.all isDig = true) : Lib.parseUintB 64 l = if val l ≤ 18446744073709551615 then .ok (val l) else .range := by
  unfold Lib.parseUintB
  rw [if_neg hne]
  exact parse_digits (2 ^ 64 - 1) (by decide) l 0 (Nat.zero_le _) h

/-- unit.value at digits -/
def cap (n : Nat) : Nat := if n ≤ 54043195528445952 then n else 54043195528445952
theorem cap_le (n : Nat) : cap n ≤ 54043195528445952 := by unfold cap; split <;> omega

/-! units -/
def units : List (List UInt8 × Nat × Nat × Nat) :=
  [([], 0, 1, 1), ([108], 1, 1, 1), ([109, 51], 1, 1000, 1), ([77, 76], 1, 1000000, 1), ([71, 76], 1, 1000000000, 1),
   ([108, 112, 104], 2, 1, 1), ([108, 112, 115], 2, 3600, 1), ([109, 51, 112, 115], 2, 3600000, 1), ([77, 76, 112, 100], 2, 1000000, 24),
   ([109, 109], 3, 1, 1), ([99, 109], 3, 10, 1), ([109], 3, 1000, 1), ([104], 4, 1, 1), ([100], 4, 24, 1),
   ([109, 50], 5, 1, 1), ([104, 97], 5, 10000, 1), ([107, 109, 50], 5, 1000000, 1), ([112, 101, 114, 109, 105, 108, 108, 101], 6, 1, 1), ([112, 101, 114, 99, 101, 110, 116], 6, 10, 1)]

def unitOf (name : List UInt8) : Option (Nat × Nat × Nat) := (units.find? (fun u => u.1 == name)).map (·.2)

theorem unit_ok : ∀ u ∈ units, 1 ≤ u.2.2.1 ∧ u.2.2.1 ≤ 1000000000 ∧ 1 ≤ u.2.2.2 ∧ u.2.2.2 ≤ 24 ∧ u.2.1 ≤ 6 := by decide

/-- the amount of (W * 10^k + F) / 10^k in a unit: N, Dim, error -/
def amtOf (W F k dim num den : Nat) : Int × Int × Int :=
  if (W * 10 ^ k + F) * num % (10 ^ k * den) = 0 ∧ (W * 10 ^ k + F) * num / (10 ^ k * den) ≤ 1125899906842624 then
    (((W * 10 ^ k + F) * num / (10 ^ k * den) : Nat), (dim : Nat), 0)
  else (0, 0, 7)

/-- the amount of a number and a unit -/
def amt (number name : List UInt8) : Int × Int × Int :=
  let c := Lib.cut number [46]
  if !digsOk c.1 20 || c.2.2 && !digsOk c.2.1 9 then (0, 0, 2)
  else match unitOf name with
    | none => (0, 0, 6)
    | some (dim, num, den) => amtOf (val c.1) (val c.2.1) c.2.1.length dim num den

/-- capping the whole part changes nothing: what is capped is too great -/
theorem amtOf_cap (W F k dim num den : Nat) (hn : 1 ≤ num) (hd : 1 ≤ den) (hd2 : den ≤ 24) :
    amtOf (cap W) F k dim num den = amtOf W F k dim num den := by
  unfold cap
  split
  · rfl
  · rename_i h
    have key : ∀ V, 54043195528445952 ≤ V → ¬ ((V * 10 ^ k + F) * num / (10 ^ k * den) ≤ 1125899906842624) := by
      intro V hV hle
      have hp : 1 ≤ 10 ^ k := Nat.one_le_pow _ _ (by omega)
      have hpos : 0 < 10 ^ k * den := Nat.mul_pos (by omega) (by omega)
      have h1 : (V * 10 ^ k + F) * num < (1125899906842624 + 1) * (10 ^ k * den) := by
        have := (Nat.div_lt_iff_lt_mul hpos).1 (Nat.lt_of_le_of_lt hle (Nat.lt_succ_self _))
        exact this
      have h2 : (1125899906842624 + 1) * (10 ^ k * den) ≤ (1125899906842624 + 1) * (10 ^ k * 24) := Nat.mul_le_mul_left _ (Nat.mul_le_mul_left _ hd2)
      have h3 : V * 10 ^ k ≤ (V * 10 ^ k + F) * num := by
        calc V * 10 ^ k ≤ V * 10 ^ k + F := Nat.le_add_right _ _
          _ = (V * 10 ^ k + F) * 1 := (Nat.mul_one _).symm
          _ ≤ (V * 10 ^ k + F) * num := Nat.mul_le_mul_left _ hn
      have h4 : 54043195528445952 * 10 ^ k ≤ V * 10 ^ k := Nat.mul_le_mul_right _ hV
      have h5 : (1125899906842624 + 1) * (10 ^ k * 24) = ((1125899906842624 + 1) * 24) * 10 ^ k := by rw [Nat.mul_comm (10 ^ k) 24, ← Nat.mul_assoc]
      rw [h5] at h2
      have h6 : 27021597764223000 * 10 ^ k ≤ 54043195528445952 * 10 ^ k := Nat.mul_le_mul_right _ (by omega)
      omega
    unfold amtOf
    rw [if_neg (fun hh => key _ (Nat.le_refl _) hh.2), if_neg (fun hh => key _ (by omega) hh.2)]

end Go.Proofs.YtahjkibjcibpgaaDoor.U
