/- Lists of decimal digits: value, times, over, zeros. Cut at a point. Nothing of the program. -/
import Derived.Test.YtahjkibjcibpgaaDoorUnPlain
namespace Go.Proofs.YtahjkibjcibpgaaDoor.U

/-! ### cut at a point -/
theorem cut_nil : Lib.cut [] [46] = ([], [], false) := rfl
theorem cut_dot (r : List UInt8) : Lib.cut (46 :: r) [46] = ([], r, true) := by
  have h : Lib.index (46 :: r) [46] = 0 := by unfold Lib.index; simp
  unfold Lib.cut
  rw [h]; simp
theorem cut_cons (c : UInt8) (r : List UInt8) (hc : c ≠ 46) : Lib.cut (c :: r) [46] = (c :: (Lib.cut r [46]).1, (Lib.cut r [46]).2.1, (Lib.cut r [46]).2.2) := by
  have hge := Lib.index_ge r [46]
  have hp : ([46] : List UInt8).isPrefixOf (c :: r) = false := by
    simp [List.isPrefixOf]
    exact fun h => hc h.symm
  have h : Lib.index (c :: r) [46] = if Lib.index r [46] == -1 then -1 else Lib.index r [46] + 1 := by
    conv => lhs; unfold Lib.index
    rw [hp]; rfl
  unfold Lib.cut
  rw [h]
  by_cases hm : Lib.index r [46] = -1
  · rw [hm]; simp
  · have hm' : (Lib.index r [46] == -1) = false := by simpa using hm
    rw [hm']
    have h0 : 0 ≤ Lib.index r [46] := by omega
    simp only [Bool.false_eq_true, if_false, h0, if_true]
    rw [if_pos (by omega)]
    have e : (Lib.index r [46] + 1).toNat = (Lib.index r [46]).toNat + 1 := by omega
    rw [e, List.take_succ_cons]
    have e2 : (Lib.index r [46]).toNat + 1 + [(46 : UInt8)].length = ((Lib.index r [46]).toNat + [(46 : UInt8)].length) + 1 := by omega
    rw [e2, List.drop_succ_cons]
theorem cut_join (l : List UInt8) : ((Lib.cut l [46]).2.2 = false → (Lib.cut l [46]).1 = l ∧ (Lib.cut l [46]).2.1 = []) ∧ ((Lib.cut l [46]).2.2 = true → l = (Lib.cut l [46]).1 ++ 46 :: (Lib.cut l [46]).2.1) := by
  induction l with
  | nil => rw [cut_nil]; simp
  | cons c r ih =>
    by_cases hc : c = 46
    · subst hc; rw [cut_dot]; simp
    · rw [cut_cons c r hc]
      refine ⟨fun h => ?_, fun h => ?_⟩
      · obtain ⟨h1, h2⟩ := ih.1 h
        exact ⟨by rw [h1], h2⟩
      · have h1 := ih.2 h
        simp only [List.cons_append, List.cons.injEq, true_and]
        exact h1
theorem dig_ne_dot {c : UInt8} (h : isDig c = true) : c ≠ 46 := by
  rintro rfl; revert h; decide
theorem cut_digits (l m : List UInt8) (h : l.all isDig = true) : Lib.cut (l ++ m) [46] = (l ++ (Lib.cut m [46]).1, (Lib.cut m [46]).2.1, (Lib.cut m [46]).2.2) := by
  induction l with
  | nil => rfl
  | cons c r ih =>
    simp only [List.all_cons, Bool.and_eq_true] at h
    rw [List.cons_append, cut_cons c _ (dig_ne_dot h.1), ih h.2]
    rfl
theorem cut_all_digits (l : List UInt8) (h : l.all isDig = true) : Lib.cut l [46] = (l, [], false) := by
  have := cut_digits l [] h
  rw [List.append_nil] at this
  rw [this, cut_nil]; simp
theorem cut_two (l m : List UInt8) (h : l.all isDig = true) : Lib.cut (l ++ 46 :: m) [46] = (l, m, true) := by
  rw [cut_digits l _ h, cut_dot]; simp

/-- is it a number? -/
def good (l : List UInt8) : Bool := digsOk (Lib.cut l [46]).1 20 && (!(Lib.cut l [46]).2.2 || digsOk (Lib.cut l [46]).2.1 9)
theorem amt_good (l name : List UInt8) (h : good l = true) : amt l name = match unitOf name with
    | none => (0, 0, 6)
    | some (dim, num, den) => amtOf (val (Lib.cut l [46]).1) (val (Lib.cut l [46]).2.1) (Lib.cut l [46]).2.1.length dim num den := by
  unfold good at h
  unfold amt
  have : (!digsOk (Lib.cut l [46]).1 20 || (Lib.cut l [46]).2.2 && !digsOk (Lib.cut l [46]).2.1 9) = false := by
    revert h
    cases digsOk (Lib.cut l [46]).1 20 <;> cases (Lib.cut l [46]).2.2 <;> cases digsOk (Lib.cut l [46]).2.1 9 <;> simp
  simp only [this]
  rfl
theorem amt_bad (l name : List UInt8) (h : good l = false) : amt l name = (0, 0, 2) := by
  unfold good at h
  unfold amt
  have : (!digsOk (Lib.cut l [46]).1 20 || (Lib.cut l [46]).2.2 && !digsOk (Lib.cut l [46]).2.1 9) = true := by
    revert h
    cases digsOk (Lib.cut l [46]).1 20 <;> cases (Lib.cut l [46]).2.2 <;> cases digsOk (Lib.cut l [46]).2.1 9 <;> simp
  simp only [this]
  rfl
theorem good_spec (l : List UInt8) (h : good l = true) : (Lib.cut l [46]).1.all isDig = true ∧ (Lib.cut l [46]).2.1.all isDig = true ∧ 1 ≤ (Lib.cut l [46]).1.length ∧ (Lib.cut l [46]).1.length ≤ 20 ∧ (Lib.cut l [46]).2.1.length ≤ 9 ∧
    ((Lib.cut l [46]).2.2 = false → (Lib.cut l [46]).2.1 = []) ∧ ((Lib.cut l [46]).2.2 = true → 1 ≤ (Lib.cut l [46]).2.1.length) := by
  have hj := cut_join l
  unfold good digsOk at h
  cases hf : (Lib.cut l [46]).2.2 with
  | false =>
    have h2 := (hj.1 hf).2
    rw [hf] at h
    simp only [Bool.not_false, Bool.true_or, Bool.and_true, Bool.and_eq_true, Bool.not_eq_true', decide_eq_true_eq] at h
    obtain ⟨⟨h1, h3⟩, h4⟩ := h
    rw [h2]
    refine ⟨h4, rfl, ?_, by omega, by simp, fun _ => rfl, fun h => by cases h⟩
    cases hc : (Lib.cut l [46]).1 with
    | nil => rw [hc] at h1; simp at h1
    | cons => simp
  | true =>
    rw [hf] at h
    simp only [Bool.not_true, Bool.false_or, Bool.and_eq_true, Bool.not_eq_true', decide_eq_true_eq] at h
    obtain ⟨⟨⟨h1, h3⟩, h4⟩, ⟨h5, h6⟩, h7⟩ := h
    refine ⟨h4, h7, ?_, by omega, by omega, fun h => (by cases h), fun _ => ?_⟩
    · cases hc : (Lib.cut l [46]).1 with
      | nil => rw [hc] at h1; simp at h1
      | cons => simp
    · cases hc : (Lib.cut l [46]).2.1 with
      | nil => rw [hc] at h5; simp at h5
      | cons => simp

/-! ### lists of digits -/
def nv (n : Nat) (ds : List Nat) : Nat := ds.foldl (fun n d => 10 * n + d) n
theorem nv_nil (n : Nat) : nv n [] = n := rfl
theorem nv_cons (n d : Nat) (ds : List Nat) : nv n (d :: ds) = nv (10 * n + d) ds := by unfold nv; rw [List.foldl_cons]
theorem nv_append (n : Nat) (a b : List Nat) : nv n (a ++ b) = nv (nv n a) b := by unfold nv; rw [List.foldl_append]
theorem nv_mul (ds : List Nat) : ∀ n, nv n ds = n * 10 ^ ds.length + nv 0 ds := by
  induction ds with
  | nil => intro n; simp [nv_nil]
  | cons d r ih =>
    intro n
    rw [nv_cons, nv_cons, ih (10 * n + d), ih (10 * 0 + d), List.length_cons, Nat.pow_succ, Nat.add_mul, Nat.add_mul]
    have e : 10 * n * 10 ^ r.length = n * (10 ^ r.length * 10) := by
      rw [Nat.mul_comm 10 n, Nat.mul_assoc, Nat.mul_comm 10]
    rw [e]; simp [Nat.add_assoc]
theorem nv_app (a b : List Nat) : nv 0 (a ++ b) = nv 0 a * 10 ^ b.length + nv 0 b := by rw [nv_append, nv_mul]
def Ten (ds : List Nat) : Prop := ∀ d ∈ ds, d < 10
theorem nv_lt (ds : List Nat) (h : Ten ds) : nv 0 ds < 10 ^ ds.length := by
  induction ds with
  | nil => simp [nv_nil]
  | cons d r ih =>
    rw [nv_cons, nv_mul, List.length_cons, Nat.pow_succ]
    have h1 := ih fun x hx => h x (by simp [hx])
    have h2 := h d (by simp)
    have h3 : (10 * 0 + d) * 10 ^ r.length ≤ 9 * 10 ^ r.length := Nat.mul_le_mul_right _ (by omega)
    omega
theorem nv_inj (a : List Nat) : ∀ b, Ten a → Ten b → a.length = b.length → nv 0 a = nv 0 b → a = b := by
  induction a with
  | nil => intro b _ _ h _; cases b with | nil => rfl | cons => simp at h
  | cons d r ih =>
    intro b ha hb hl hv
    cases b with
    | nil => simp at hl
    | cons e s =>
      have hl2 : r.length = s.length := by simpa using hl
      have hr : Ten r := fun x hx => ha x (by simp [hx])
      have hs : Ten s := fun x hx => hb x (by simp [hx])
      rw [nv_cons, nv_mul, nv_cons, nv_mul s, ← hl2] at hv
      have h1 := nv_lt r hr
      have h2 := nv_lt s hs
      rw [← hl2] at h2
      have hp : 0 < 10 ^ r.length := by omega
      have hq : (10 * 0 + d) = (10 * 0 + e) := by
        have a1 : ((10 * 0 + d) * 10 ^ r.length + nv 0 r) / 10 ^ r.length = 10 * 0 + d := by
          rw [Nat.add_comm, Nat.add_mul_div_right _ _ hp, Nat.div_eq_of_lt h1, Nat.zero_add]
        have a2 : ((10 * 0 + e) * 10 ^ r.length + nv 0 s) / 10 ^ r.length = 10 * 0 + e := by
          rw [Nat.add_comm, Nat.add_mul_div_right _ _ hp, Nat.div_eq_of_lt h2, Nat.zero_add]
        rw [← a1, hv, a2]
      have hde : d = e := by omega
      subst hde
      rw [ih s hr hs hl2 (by omega)]
theorem Ten.append {a b : List Nat} (ha : Ten a) (hb : Ten b) : Ten (a ++ b) := fun d hd => by
  rcases List.mem_append.1 hd with h | h
  · exact ha d h
  · exact hb d h
theorem Ten.zeros (n : Nat) : Ten (List.replicate n 0) := fun d hd => by rw [(List.mem_replicate.1 hd).2]; omega
theorem nv_zeros (n : Nat) : nv 0 (List.replicate n 0) = 0 := by
  induction n with
  | zero => rfl
  | succ n ih => rw [List.replicate_succ, nv_cons]; exact ih
/-- the digits of a text -/
def dg10 (l : List UInt8) : List Nat := l.map fun c => c.toNat - 48
theorem dg10_ten (l : List UInt8) (h : l.all isDig = true) : Ten (dg10 l) := fun d hd => by
  obtain ⟨c, hc, rfl⟩ := List.mem_map.1 hd
  have := dig_lt (List.all_eq_true.1 h c hc)
  omega
theorem nv_dg10 (l : List UInt8) : ∀ n, nv n (dg10 l) = valFrom n l := by
  induction l with
  | nil => intro n; rfl
  | cons c r ih => intro n; rw [show dg10 (c :: r) = (c.toNat - 48) :: dg10 r from rfl, nv_cons, valFrom_cons]; exact ih _

/-! times, from the last digit on -/
def rv : List Nat → Nat
  | [] => 0
  | d :: r => d + 10 * rv r
theorem rv_rev (ds : List Nat) : rv ds.reverse = nv 0 ds := by
  have h : ∀ (l : List Nat) , rv l = nv 0 l.reverse := by
    intro l
    induction l with
    | nil => rfl
    | cons d r ih => rw [List.reverse_cons, nv_app, ← ih]; simp only [rv, List.length_singleton, Nat.pow_one, nv_cons, nv_nil]; omega
  rw [h, List.reverse_reverse]
def mulR (n : Nat) : List Nat → Nat → List Nat
  | [], _ => []
  | d :: r, c => (d * n + c) % 10 :: mulR n r ((d * n + c) / 10)
theorem mulR_len (n : Nat) (ds : List Nat) : ∀ c, (mulR n ds c).length = ds.length := by
  induction ds with
  | nil => intro c; rfl
  | cons d r ih => intro c; simp [mulR, ih]
theorem mulR_ten (n : Nat) (ds : List Nat) : ∀ c, Ten (mulR n ds c) := by
  induction ds with
  | nil => intro c d hd; simp [mulR] at hd
  | cons d r ih =>
    intro c e he
    simp only [mulR, List.mem_cons] at he
    rcases he with rfl | he
    · exact Nat.mod_lt _ (by omega)
    · exact ih _ e he
theorem mulR_val (n : Nat) (ds : List Nat) : ∀ c, rv (mulR n ds c) = (rv ds * n + c) % 10 ^ ds.length := by
  induction ds with
  | nil => intro c; simp [mulR, rv, Nat.mod_one]
  | cons d r ih =>
    intro c
    simp only [mulR, rv, ih, List.length_cons]
    have e : (d + 10 * rv r) * n + c = (d * n + c) % 10 + 10 * (rv r * n + (d * n + c) / 10) := by
      have h1 := Nat.mod_add_div (d * n + c) 10
      have h2 : (d + 10 * rv r) * n = d * n + 10 * (rv r * n) := by rw [Nat.add_mul, Nat.mul_assoc]
      omega
    rw [e, Nat.pow_succ, Nat.mul_comm (10 ^ r.length) 10, Nat.mod_mul]
    have h3 : ((d * n + c) % 10 + 10 * (rv r * n + (d * n + c) / 10)) % 10 = (d * n + c) % 10 := by omega
    have h4 : ((d * n + c) % 10 + 10 * (rv r * n + (d * n + c) / 10)) / 10 = rv r * n + (d * n + c) / 10 := by omega
    rw [h3, h4]
/-- ds times n, two digits longer -/
def mulD (n : Nat) (ds : List Nat) : List Nat := (mulR n (0 :: 0 :: ds).reverse 0).reverse
theorem mulD_len (n : Nat) (ds : List Nat) : (mulD n ds).length = ds.length + 2 := by simp [mulD, mulR_len]
theorem mulD_ten (n : Nat) (ds : List Nat) : Ten (mulD n ds) := fun d hd => mulR_ten n _ 0 d (List.mem_reverse.1 hd)
theorem nv_00 (ds : List Nat) : nv 0 (0 :: 0 :: ds) = nv 0 ds := rfl
theorem mulD_val (n : Nat) (ds : List Nat) (h : nv 0 ds * n < 10 ^ (ds.length + 2)) : nv 0 (mulD n ds) = nv 0 ds * n := by
  rw [← rv_rev, mulD, List.reverse_reverse, mulR_val, rv_rev, nv_00, Nat.add_zero, Nat.mod_eq_of_lt]
  simpa using h

/-! over, from the first digit on -/
def ovq (n : Nat) : List Nat → Nat → List Nat
  | [], _ => []
  | d :: r, c => (10 * c + d) / n :: ovq n r ((10 * c + d) % n)
def ovr (n : Nat) : List Nat → Nat → Nat
  | [], c => c
  | d :: r, c => ovr n r ((10 * c + d) % n)
theorem ovq_len (n : Nat) (ds : List Nat) : ∀ c, (ovq n ds c).length = ds.length := by
  induction ds with
  | nil => intro c; rfl
  | cons d r ih => intro c; simp [ovq, ih]
theorem ovq_ten (n : Nat) (ds : List Nat) (hd : Ten ds) : ∀ c, c < n → Ten (ovq n ds c) := by
  induction ds with
  | nil => intro c _ d hd; simp [ovq] at hd
  | cons d r ih =>
    intro c hc e he
    simp only [ovq, List.mem_cons] at he
    rcases he with rfl | he
    · rw [Nat.div_lt_iff_lt_mul (by omega)]
      have := hd d (by simp)
      omega
    · exact ih (fun x hx => hd x (by simp [hx])) _ (Nat.mod_lt _ (by omega)) e he
theorem ov_val (n : Nat) (hn : 0 < n) (ds : List Nat) : ∀ c, c < n → nv c ds = nv 0 (ovq n ds c) * n + ovr n ds c ∧ ovr n ds c < n := by
  induction ds with
  | nil => intro c hc; simp [ovq, ovr, nv_nil, hc]
  | cons d r ih =>
    intro c hc
    obtain ⟨h1, h2⟩ := ih ((10 * c + d) % n) (Nat.mod_lt _ hn)
    refine ⟨?_, h2⟩
    rw [nv_cons, nv_mul]
    rw [nv_mul] at h1
    simp only [ovq, ovr, nv_cons]
    rw [nv_mul (ovq n r _), ovq_len]
    have h3 := Nat.mod_add_div (10 * c + d) n
    have e : (10 * 0 + (10 * c + d) / n) * 10 ^ r.length * n = n * ((10 * c + d) / n) * 10 ^ r.length := by
      rw [Nat.mul_zero, Nat.zero_add, Nat.mul_comm _ n, Nat.mul_assoc]
    have e2 : (10 * c + d) * 10 ^ r.length = (10 * c + d) % n * 10 ^ r.length + n * ((10 * c + d) / n) * 10 ^ r.length := by
      rw [← Nat.add_mul, h3]
    rw [Nat.add_mul _ _ n, e, e2]
    omega
theorem ovq_val (n : Nat) (hn : 0 < n) (ds : List Nat) : nv 0 (ovq n ds 0) = nv 0 ds / n ∧ ovr n ds 0 = nv 0 ds % n := by
  obtain ⟨h1, h2⟩ := ov_val n hn ds 0 hn
  have h3 := Nat.div_add_mod (nv 0 ds) n
  have h4 := Nat.mod_lt (nv 0 ds) hn
  have e : nv 0 ds / n = nv 0 (ovq n ds 0) := by
    rw [h1, Nat.add_comm, Nat.add_mul_div_right _ _ hn, Nat.div_eq_of_lt h2, Nat.zero_add]
  have e2 : nv 0 ds % n = ovr n ds 0 := by
    rw [h1, Nat.add_comm, Nat.add_mul_mod_self_right, Nat.mod_eq_of_lt h2]
  exact ⟨e.symm, e2.symm⟩

/-! the digits of a numeral -/
theorem decDigits_all (n : Nat) : (Lib.decDigits n).all isDig = true := by
  induction n using Nat.strongRecOn with
  | _ n ih =>
    have hd : ∀ m, m < 10 → isDig (UInt8.ofNat (48 + m)) = true := by decide
    rw [Lib.decDigits]
    split
    · rw [List.all_cons, hd n ‹_›]; rfl
    · rw [List.all_append, ih (n / 10) (by omega)]
      rw [List.all_cons, hd (n % 10) (Nat.mod_lt _ (by omega))]; rfl
theorem decDigits_val (n : Nat) : val (Lib.decDigits n) = n := by
  induction n using Nat.strongRecOn with
  | _ n ih =>
    have hd : ∀ m, m < 10 → (UInt8.ofNat (48 + m)).toNat - 48 = m := by decide
    rw [Lib.decDigits]
    split
    · unfold val; rw [valFrom_cons, hd n ‹_›, valFrom_nil]; omega
    · rw [val_append, ih (n / 10) (by omega)]
      unfold val; rw [valFrom_cons, hd (n % 10) (Nat.mod_lt _ (by omega)), valFrom_nil]
      simp; omega
theorem decDigits_head (n : Nat) : ∃ c r, Lib.decDigits n = c :: r ∧ (c = 48 → r = []) := by
  have hd : ∀ m, m < 10 → UInt8.ofNat (48 + m) = 48 → m = 0 := by decide
  have key : ∀ n, 1 ≤ n → ∃ c r, Lib.decDigits n = c :: r ∧ c ≠ 48 := by
    intro n
    induction n using Nat.strongRecOn with
    | _ n ih =>
      intro h1
      rw [Lib.decDigits]
      split
      · exact ⟨_, [], rfl, fun h => by have := hd n ‹_› h; omega⟩
      · obtain ⟨c, r, h2, h3⟩ := ih (n / 10) (by omega) (by omega)
        rw [h2]
        exact ⟨c, _, rfl, h3⟩
  rcases Nat.eq_zero_or_pos n with rfl | h
  · exact ⟨48, [], by rw [Lib.decDigits]; rfl, fun _ => rfl⟩
  · obtain ⟨c, r, h1, h2⟩ := key n h
    exact ⟨c, r, h1, fun h => absurd h h2⟩
theorem nDigits20 (n : Nat) (h : n < 100000000000000000000) : Lib.nDigits n ≤ 20 := by
  rcases Nat.lt_or_ge 20 (Lib.nDigits n) with h1 | h1
  · exfalso
    have key : ∀ (k m : Nat), k + 1 ≤ Lib.nDigits m → 1 ≤ k → 10 ^ k ≤ m := by
      intro k
      induction k with
      | zero => intro m _ h; omega
      | succ k ih =>
        intro m hm _
        have hb : ¬ m < 10 := fun h => by rw [Lib.nDigits_small h] at hm; omega
        rw [Lib.nDigits_big hb] at hm
        rcases Nat.eq_zero_or_pos k with rfl | hk
        · simp; omega
        · have := ih (m / 10) (by omega) hk
          rw [Nat.pow_succ]
          omega
    have := key 20 n (by omega) (by omega)
    omega
  · exact h1
theorem good_dec (n : Nat) (h : n < 100000000000000000000) : good (Lib.decDigits n) = true := by
  have h1 := decDigits_all n
  have h2 := nDigits20 n h
  have h3 := Lib.nDigits_pos n
  have h4 := Lib.decDigits_length n
  unfold good
  rw [cut_all_digits _ h1]
  simp only [Bool.not_false, Bool.true_or, Bool.and_true]
  unfold digsOk
  rw [h1]
  have : (Lib.decDigits n).isEmpty = false := by
    cases hh : Lib.decDigits n with
    | nil => rw [hh] at h4; simp at h4; omega
    | cons => rfl
  rw [this]
  simp; omega
theorem amt_dec (n : Nat) (h : n < 100000000000000000000) (name : List UInt8) : amt (Lib.decDigits n) name = match unitOf name with
    | none => (0, 0, 6)
    | some (dim, num, den) => amtOf n 0 0 dim num den := by
  rw [amt_good _ _ (good_dec n h), cut_all_digits _ (decDigits_all n)]
  simp only [decDigits_val]
  rfl
end Go.Proofs.YtahjkibjcibpgaaDoor.U
