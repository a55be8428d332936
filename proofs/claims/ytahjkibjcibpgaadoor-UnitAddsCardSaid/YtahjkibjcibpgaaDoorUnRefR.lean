/- UnitRatios and UnitAdds are true, in plain Lean over the printed functions. -/
import Derived.Test.YtahjkibjcibpgaaDoorUnRefB
import Derived.Test.YtahjkibjcibpgaaDoorPUnx7
import Derived.Test.YtahjkibjcibpgaaDoorPUnx8
namespace Go.Proofs.YtahjkibjcibpgaaDoor.U
open Go.RowKit Go.Proofs.YtahjkibjcibpgaaDoorW.PrintWords Go.Proofs.YtahjkibjcibpgaaDoor.PUn

/-! ### product -/
theorem Ten.cons {d : Nat} {l : List Nat} (h : d < 10) (hl : Ten l) : Ten (d :: l) := fun x hx => by
  simp only [List.mem_cons] at hx
  rcases hx with rfl | hx
  · exact h
  · exact hl x hx
theorem bt_mid (p : List UInt8) (c : UInt8) (s : List UInt8) (i : Int) (hi : i = (p.length : Int)) : bt (⟨(p ++ c :: s).toArray⟩ : ByteArray) i = (c.toNat : Int) := by
  subst hi
  have h : ((p.length : Int)).toNat < (⟨(p ++ c :: s).toArray⟩ : ByteArray).size := by rw [size_list]; simp
  rw [← bt_at _ _ h]
  have e : (⟨(p ++ c :: s).toArray⟩ : ByteArray)[((p.length : Int)).toNat]'h = c := by
    show (p ++ c :: s).toArray[((p.length : Int)).toNat]'_ = c
    simp
  rw [e]
theorem product_l1 (ds : List Nat) (z : Nat) (m : Nat) : ∀ (done : Nat), done + m = z → ds.length + z < 1000000 →
    Ev (fun k => bournelaw14_product.l1 k z (I (ds ++ List.replicate done 0)) done) (I (ds ++ List.replicate z 0)) := by
  induction m with
  | zero =>
    intro done hz hl
    obtain rfl : done = z := by omega
    refine Ev.step (f := fun _ => some (I (ds ++ List.replicate done 0))) (fun k => ?_) (Ev.now _)
    simp only [bournelaw14_product.l1]
    rw [if_neg (by omega)]
  | succ m ih =>
    intro done hz hl
    refine Ev.step (f := fun k => bournelaw14_product.l1 k z (I (ds ++ List.replicate (done + 1) 0)) ((done + 1 : Nat) : Int)) (fun k => ?_) (ih (done + 1) (by omega) hl)
    simp only [bournelaw14_product.l1]
    rw [if_pos (by omega), I_len, if_pos (by simp; omega), wrap_small _ (by omega) (by omega)]
    have e : I (ds ++ List.replicate done 0) ++ [0] = I (ds ++ List.replicate (done + 1) 0) := by
      rw [List.replicate_succ', ← List.append_assoc, I_app (ds ++ List.replicate done 0)]
      rfl
    rw [e]
    rfl
/-- the digits that product comes to -/
def prodD (N m z : Nat) : List Nat := mulD 1 (mulD m (0 :: 0 :: dg10 (Lib.decDigits N))) ++ List.replicate z 0
theorem product_l0 (m z : Nat) (hm : m < 10000) (hz : z < 100) (R : List Int) (s : List UInt8) : ∀ (p : List UInt8) , (p ++ s).length < 1000 → (p ++ s).all isDig = true →
    R = I (mulD 1 (mulD m (0 :: 0 :: dg10 (p ++ s))) ++ List.replicate z 0) →
    Ev (fun k => bournelaw14_product.l0 k m z (I (0 :: 0 :: dg10 p)) (⟨(p ++ s).toArray⟩ : ByteArray) p.length) R := by
  induction s with
  | nil =>
    intro p hl ha hR
    rw [List.append_nil] at hl ha hR ⊢
    have ht : Ten (0 :: 0 :: dg10 p) := Ten.cons (by omega) (Ten.cons (by omega) (dg10_ten p ha))
    have hlen : (0 :: 0 :: dg10 p).length = p.length + 2 := by simp [dg10]
    refine Ev.step (f := fun k => (bourneref14_Times.f k (I (0 :: 0 :: dg10 p)) m).bind fun t221 => ((bourneref14_Times.f k t221 1).bind fun t224 => (bournelaw14_product.l1 k z t224 0))) (fun k => ?_) ?_
    · simp only [bournelaw14_product.l0]
      rw [size_list, if_neg (by omega)]
    · refine Ev.bind (times_f m hm _ ht (by rw [hlen]; omega)) ?_
      refine Ev.bind (times_f 1 (by omega) _ (mulD_ten _ _) (by rw [mulD_len, hlen]; omega)) ?_
      have := product_l1 (mulD 1 (mulD m (0 :: 0 :: dg10 p))) z z 0 (by omega) (by rw [mulD_len, mulD_len, hlen]; omega)
      rw [List.replicate_zero, List.append_nil] at this
      rw [hR]
      exact this
  | cons c r ih =>
    intro p hl ha hR
    have hc : isDig c = true := by
      rw [List.all_append, Bool.and_eq_true] at ha
      have := ha.2
      rw [List.all_cons, Bool.and_eq_true] at this
      exact this.1
    have hdr := dig_lt hc
    have e0 : p ++ c :: r = (p ++ [c]) ++ r := by simp
    have hl2 : p.length + (r.length + 1) < 1000 := by simpa using hl
    refine Ev.step (f := fun k => bournelaw14_product.l0 k m z (I (0 :: 0 :: dg10 (p ++ [c]))) (⟨((p ++ [c]) ++ r).toArray⟩ : ByteArray) ((p ++ [c]).length : Nat)) (fun k => ?_) (ih (p ++ [c]) (by rw [← e0]; exact hl) (by rw [← e0]; exact ha) (by rw [← e0]; exact hR))
    have hlenI : (I (0 :: 0 :: dg10 p)).length = p.length + 2 := by rw [I_len]; simp [dg10]
    have hb := bt_mid p c r (p.length : Int) rfl
    have hv : ((c.toNat : Int) - 48) % 256 = ((c.toNat - 48 : Nat) : Int) := by omega
    simp only [bournelaw14_product.l0]
    rw [size_list, if_pos (by simp; omega), if_pos (by omega), hlenI, if_pos (by omega), hb, hv, wrap_small _ (by omega) (by omega), ← e0]
    have e1 : I (0 :: 0 :: dg10 p) ++ [((c.toNat - 48 : Nat) : Int)] = I (0 :: 0 :: dg10 (p ++ [c])) := by simp [I, dg10]
    rw [e1]
    simp
theorem product_f (N m z : Nat) (hN : N < 9223372036854775808) (hm : m < 10000) (hz : z < 100) : Ev (fun k => bournelaw14_product.f k N m z) (I (prodD N m z)) := by
  refine Ev.bind (digits_f N hN) ?_
  have h20 := nDigits20 N (by omega)
  have hlen := Lib.decDigits_length N
  exact product_l0 m z hm hz (I (prodD N m z)) (Lib.decDigits N) [] (by simp; omega) (by simpa using decDigits_all N) rfl
theorem prodD_ten (N m z : Nat) : Ten (prodD N m z) := (mulD_ten _ _).append (Ten.zeros z)
theorem prodD_len (N m z : Nat) (hN : N < 9223372036854775808) (hz : z < 100) : (prodD N m z).length < 1000 := by
  have h20 := nDigits20 N (by omega)
  have hlen := Lib.decDigits_length N
  unfold prodD
  rw [List.length_append, mulD_len, mulD_len]
  simp [dg10]
  omega
theorem prodD_val (N m z : Nat) (hm : m < 10000) : nv 0 (prodD N m z) = N * m * 10 ^ z := by
  have ht : Ten (dg10 (Lib.decDigits N)) := dg10_ten _ (decDigits_all N)
  have h1 := nv_lt _ ht
  have hv : nv 0 (0 :: 0 :: dg10 (Lib.decDigits N)) = N := by rw [nv_00, nv_dg10]; exact decDigits_val N
  have hv2 : nv 0 (dg10 (Lib.decDigits N)) = N := by rw [nv_dg10]; exact decDigits_val N
  rw [hv2] at h1
  have hlen : (0 :: 0 :: dg10 (Lib.decDigits N)).length = (dg10 (Lib.decDigits N)).length + 2 := by simp
  have hb : N * m < 10 ^ ((0 :: 0 :: dg10 (Lib.decDigits N)).length + 2) := by
    rw [hlen, Nat.pow_succ, Nat.pow_succ, Nat.pow_succ, Nat.pow_succ]
    have : N * m ≤ N * 10000 := Nat.mul_le_mul_left _ (by omega)
    omega
  have e1 : nv 0 (mulD m (0 :: 0 :: dg10 (Lib.decDigits N))) = N * m := by rw [mulD_val _ _ (by rw [hv]; exact hb), hv]
  unfold prodD
  rw [nv_app, nv_zeros, List.length_replicate, Nat.add_zero, mulD_val, e1, Nat.mul_one]
  rw [e1, Nat.mul_one, mulD_len]
  exact Nat.lt_of_lt_of_le hb (Nat.pow_le_pow_right (by omega) (by omega))

/-! ### same -/
theorem same_l2 (a : List Nat) : ∀ (p : List Nat), (p ++ a).length < 1000000 → Ev (fun k => bournelaw14_same.l2 k (I (p ++ a)) (I (p ++ a)) p.length) true := by
  induction a with
  | nil =>
    intro p _
    refine Ev.step (f := fun _ => some true) (fun k => ?_) (Ev.now _)
    simp only [bournelaw14_same.l2]
    rw [I_len, if_neg (by simp)]
  | cons d r ih =>
    intro p hl
    have hl2 : p.length + (r.length + 1) < 1000000 := by simpa using hl
    have e0 : p ++ d :: r = (p ++ [d]) ++ r := by simp
    refine Ev.step (f := fun k => bournelaw14_same.l2 k (I ((p ++ [d]) ++ r)) (I ((p ++ [d]) ++ r)) ((p ++ [d]).length : Nat)) (fun k => ?_) (ih (p ++ [d]) (by rw [← e0]; exact hl))
    simp only [bournelaw14_same.l2]
    rw [I_len, if_pos (by simp; omega), if_pos (by omega), if_pos (by simp; omega), if_pos trivial, wrap_small _ (by omega) (by omega), ← e0]
    simp
theorem nv_0cons (l : List Nat) : nv 0 (0 :: l) = nv 0 l := rfl
theorem same_l1 (m : Nat) : ∀ (a b : List Nat), b.length + m = a.length → a.length < 100000 → Ten a → Ten b → nv 0 a = nv 0 b → Ev (fun k => bournelaw14_same.l1 k (I a) (I b)) true := by
  induction m with
  | zero =>
    intro a b hl hs ha hb hv
    have e := nv_inj a b ha hb (by omega) hv
    subst e
    refine Ev.step (f := fun k => bournelaw14_same.l2 k (I a) (I a) 0) (fun k => ?_) (same_l2 a [] (by simpa using (by omega : a.length < 1000000)))
    simp only [bournelaw14_same.l1]
    rw [if_neg (by omega)]
  | succ m ih =>
    intro a b hl hs ha hb hv
    refine Ev.step (f := fun k => bournelaw14_same.l1 k (I a) (I (0 :: b))) (fun k => ?_) (ih a (0 :: b) (by simp; omega) hs ha (hb.cons (by omega)) hv)
    simp only [bournelaw14_same.l1, Option.bind_some]
    rw [I_len, I_len, if_pos (by omega), if_pos (by simp; omega)]
    rfl
theorem same_l0 (m : Nat) : ∀ (a b : List Nat), (a.length + m = b.length ∨ (m = 0 ∧ b.length ≤ a.length)) → a.length < 50000 ∧ b.length < 50000 → Ten a → Ten b → nv 0 a = nv 0 b → Ev (fun k => bournelaw14_same.l0 k (I a) (I b)) true := by
  induction m with
  | zero =>
    intro a b hl hs ha hb hv
    refine Ev.step (f := fun k => bournelaw14_same.l1 k (I a) (I b)) (fun k => ?_) (same_l1 (a.length - b.length) a b (by omega) (by omega) ha hb hv)
    simp only [bournelaw14_same.l0]
    rw [I_len, I_len, if_neg (by omega)]
  | succ m ih =>
    intro a b hl hs ha hb hv
    refine Ev.step (f := fun k => bournelaw14_same.l0 k (I (0 :: a)) (I b)) (fun k => ?_) ?_
    · simp only [bournelaw14_same.l0, Option.bind_some]
      rw [I_len, I_len, if_pos (by omega), if_pos (by simp; omega)]
      rfl
    · by_cases hm : m = 0
      · subst hm
        exact ih (0 :: a) b (Or.inl (by simp; omega)) ⟨by simp; omega, hs.2⟩ (ha.cons (by omega)) hb hv
      · exact ih (0 :: a) b (Or.inl (by simp; omega)) ⟨by simp; omega, hs.2⟩ (ha.cons (by omega)) hb hv
theorem same_f (a b : List Nat) (hs : a.length + b.length < 5000) (ha : Ten a) (hb : Ten b) (hv : nv 0 a = nv 0 b) : Ev (fun k => bournelaw14_same.f k (I a) (I b)) true := by
  by_cases h : a.length ≤ b.length
  · exact same_l0 (b.length - a.length) a b (Or.inl (by omega)) ⟨by omega, by omega⟩ ha hb hv
  · exact same_l0 0 a b (Or.inr ⟨rfl, by omega⟩) ⟨by omega, by omega⟩ ha hb hv

/-! ### UnitRatios -/
theorem amtOf0 (n dim num den : Nat) : amtOf n 0 0 dim num den = if n * num % den = 0 ∧ n * num / den ≤ 1125899906842624 then (((n * num / den : Nat) : Int), (dim : Int), 0) else (0, 0, 7) := by
  unfold amtOf
  simp only [Nat.pow_zero, Nat.mul_one, Nat.add_zero, Nat.one_mul]
/-- an amount of a whole number that is told without an error -/
theorem amt_ok (n : Nat) (h : n < 100000000000000000000) (name : List UInt8) (h0 : (amt (Lib.decDigits n) name).2.2 = 0) :
    ∃ dim c z den A, factorOf name = some (dim, c, z, den) ∧ A ≤ 1125899906842624 ∧ A * den = n * (c * 10 ^ z) ∧ amt (Lib.decDigits n) name = ((A : Int), (dim : Int), 0) := by
  rw [amt_dec n h, unit_factor] at h0 ⊢
  cases hf : factorOf name with
  | none => rw [hf] at h0; simp at h0
  | some u =>
    obtain ⟨dim, c, z, den⟩ := u
    rw [hf] at h0
    simp only [Option.map_some] at h0 ⊢
    rw [amtOf0] at h0 ⊢
    by_cases hc : n * (c * 10 ^ z) % den = 0 ∧ n * (c * 10 ^ z) / den ≤ 1125899906842624
    · rw [if_pos hc]
      exact ⟨dim, c, z, den, _, rfl, hc.2, Nat.div_mul_cancel (Nat.dvd_of_mod_eq_zero hc.1), rfl⟩
    · rw [if_neg hc] at h0; simp at h0
theorem ratios_j1 (a1 a2 : ByteArray) (dim1 c1 z1 den1 dim2 c2 z2 den2 A B n : Nat) (h1 : factorOf a1.data.toList = some (dim1, c1, z1, den1)) (h2 : factorOf a2.data.toList = some (dim2, c2, z2, den2))
    (hA : A ≤ 1125899906842624) (hB : B ≤ 1125899906842624) (eA : A * den1 = n * (c1 * 10 ^ z1)) (eB : B * den2 = n * (c2 * 10 ^ z2)) (x58 : Bool) (u v : Int) :
    Ev (fun k => bournelaw14_UnitRatios.j1 k a1 a2 true x58 A u B v) true := by
  cases x58 with
  | true =>
    refine Ev.step (f := fun _ => some true) (fun k => ?_) (Ev.now _)
    simp only [bournelaw14_UnitRatios.j1, if_true]
  | false =>
    obtain ⟨_, p2, p3, p4, p5, p6⟩ := factorOf_ok _ _ h1
    obtain ⟨_, q2, q3, q4, q5, q6⟩ := factorOf_ok _ _ h2
    simp only at p2 p3 p4 p5 p6 q2 q3 q4 q5 q6
    have hm1 : c1 * den2 ≤ 36 * 24 := Nat.mul_le_mul p3 q6
    have hm2 : c2 * den1 ≤ 36 * 24 := Nat.mul_le_mul q3 p6
    refine Ev.step (f := fun k => (bournelaw14_product.f k B ((c1 * den2 : Nat) : Int) z1).bind fun t265 => ((bournelaw14_product.f k A ((c2 * den1 : Nat) : Int) z2).bind fun t268 => ((bournelaw14_same.f k t265 t268).bind fun t271 => (some t271)))) (fun k => ?_) ?_
    · simp only [bournelaw14_UnitRatios.j1, Bool.false_eq_true, if_false, if_true]
      rw [factor_f, factor_f, h1, h2]
      simp only [Option.bind_some]
      rw [← Int.natCast_mul, ← Int.natCast_mul, wrapI _ (by omega), wrapI _ (by omega)]
    · refine Ev.bind (product_f B (c1 * den2) z1 (by omega) (by omega) (by omega)) (Ev.bind (product_f A (c2 * den1) z2 (by omega) (by omega) (by omega)) ?_)
      refine Ev.bind (same_f _ _ ?_ (prodD_ten _ _ _) (prodD_ten _ _ _) ?_) (Ev.now _)
      · have := prodD_len B (c1 * den2) z1 (by omega) (by omega)
        have := prodD_len A (c2 * den1) z2 (by omega) (by omega)
        omega
      · rw [prodD_val _ _ _ (by omega), prodD_val _ _ _ (by omega)]
        have e1 : B * (c1 * den2) * 10 ^ z1 = (B * den2) * (c1 * 10 ^ z1) := by ac_rfl
        have e2 : A * (c2 * den1) * 10 ^ z2 = (A * den1) * (c2 * 10 ^ z2) := by ac_rfl
        rw [e1, e2, eA, eB]
        ac_rfl
theorem ratios_true (a0 : Int) (a1 a2 : ByteArray) : ∃ k, bournelaw14_UnitRatios.f k a0 a1 a2 = some true := by
  apply Ev.rounds
  have hout : Ev (fun k => bournelaw14_UnitRatios.j0 k a0 a1 a2 true true) true := by
    refine Ev.step (f := fun _ => some true) (fun k => ?_) (Ev.now _)
    simp only [bournelaw14_UnitRatios.j0, if_true]
  unfold bournelaw14_UnitRatios.f
  rw [small_true]
  simp only [Option.bind_some]
  by_cases h0 : a0 < 0
  · simp only [if_pos h0]; exact hout
  · by_cases h1 : a0 > 1099511627776
    · simp only [if_neg h0, decide_eq_true h1]; exact hout
    · simp only [if_neg h0, decide_eq_false h1]
      obtain ⟨n, rfl⟩ : ∃ n : Nat, a0 = (n : Int) := ⟨a0.toNat, by omega⟩
      have h20 := nDigits20 n (by omega)
      have hlen := Lib.decDigits_length n
      have hsz : (⟨(Lib.decDigits n).toArray⟩ : ByteArray).size < 4294967281 := by rw [size_list]; omega
      have hx : ∀ (dim1 dim2 A B : Int), Ev (fun k => bournelaw14_UnitRatios.j1 k a1 a2 true true A dim1 B dim2) true := fun dim1 dim2 A B => by
        refine Ev.step (f := fun _ => some true) (fun k => ?_) (Ev.now _)
        simp only [bournelaw14_UnitRatios.j1, if_true]
      refine Ev.step (f := fun k => (bourneref14_Digits.f k n).bind fun t245 => ((Ex.unit_Amount.f t245 a1).bind fun bt246 => ((bourneref14_Digits.f k n).bind fun t250 => ((Ex.unit_Amount.f t250 a2).bind fun bt251 => (if bt246.2.2 = 0 then (if bt251.2.2 = 0 then (bournelaw14_UnitRatios.j1 k a1 a2 true (bt246.2.1 != bt251.2.1) bt246.1 bt246.2.1 bt251.1 bt251.2.1) else (bournelaw14_UnitRatios.j1 k a1 a2 true true bt246.1 bt246.2.1 bt251.1 bt251.2.1)) else (bournelaw14_UnitRatios.j1 k a1 a2 true true bt246.1 bt246.2.1 bt251.1 bt251.2.1)))))) (fun k => ?_) ?_
      · simp only [bournelaw14_UnitRatios.j0, Bool.false_eq_true, if_false]
      · refine Ev.bind (digits_f n (by omega)) ?_
        rw [ex_amount _ _ hsz]
        simp only [Option.bind_some]
        refine Ev.bind (digits_f n (by omega)) ?_
        rw [ex_amount _ _ hsz]
        simp only [Option.bind_some]
        by_cases o1 : (amt (Lib.decDigits n) a1.data.toList).2.2 = 0
        · by_cases o2 : (amt (Lib.decDigits n) a2.data.toList).2.2 = 0
          · obtain ⟨dim1, c1, z1, den1, A, f1, hA, eA, v1⟩ := amt_ok n (by omega) _ o1
            obtain ⟨dim2, c2, z2, den2, B, f2, hB, eB, v2⟩ := amt_ok n (by omega) _ o2
            rw [v1, v2]
            simp only [if_true]
            exact ratios_j1 a1 a2 dim1 c1 z1 den1 dim2 c2 z2 den2 A B n f1 f2 hA hB eA eB _ _ _
          · simp only [if_pos o1, if_neg o2]; exact hx _ _ _ _
        · simp only [if_neg o1]; exact hx _ _ _ _

/-! ### UnitAdds -/
theorem adds_true (a0 a1 : Int) (a2 : ByteArray) : ∃ k, bournelaw14_UnitAdds.f k a0 a1 a2 = some true := by
  apply Ev.rounds
  have hout : Ev (fun k => bournelaw14_UnitAdds.j0 k a0 a1 a2 true true) true := by
    refine Ev.step (f := fun _ => some true) (fun k => ?_) (Ev.now _)
    simp only [bournelaw14_UnitAdds.j0, if_true]
  unfold bournelaw14_UnitAdds.f
  rw [small_true]
  simp only [Option.bind_some]
  by_cases h0 : a0 < 0
  · simp only [if_pos h0]; exact hout
  · by_cases h1 : a0 > 1099511627776
    · simp only [if_neg h0, if_pos h1]; exact hout
    · by_cases h2 : a1 < 0
      · simp only [if_neg h0, if_neg h1, if_pos h2]; exact hout
      · by_cases h3 : a1 > 1099511627776
        · simp only [if_neg h0, if_neg h1, if_neg h2, decide_eq_true h3]; exact hout
        · simp only [if_neg h0, if_neg h1, if_neg h2, decide_eq_false h3]
          obtain ⟨n, rfl⟩ : ∃ n : Nat, a0 = (n : Int) := ⟨a0.toNat, by omega⟩
          obtain ⟨m, rfl⟩ : ∃ m : Nat, a1 = (m : Int) := ⟨a1.toNat, by omega⟩
          have hsz : ∀ n : Nat, n < 100000000000000000000 → (⟨(Lib.decDigits n).toArray⟩ : ByteArray).size < 4294967281 := fun n hn => by
            have h20 := nDigits20 n hn
            have hlen := Lib.decDigits_length n
            rw [size_list]; omega
          have hx : ∀ (c : Int) (d1 d2 d3 A B C : Int), Ev (fun k => bournelaw14_UnitAdds.j1 k true c true A d1 B d2 C d3) true := fun c d1 d2 d3 A B C => by
            refine Ev.step (f := fun _ => some true) (fun k => ?_) (Ev.now _)
            simp only [bournelaw14_UnitAdds.j1, if_true]
          refine Ev.step (f := fun k => (bourneref14_Digits.f k n).bind fun t273 => ((Ex.unit_Amount.f t273 a2).bind fun bt274 => ((bourneref14_Digits.f k m).bind fun t278 => ((Ex.unit_Amount.f t278 a2).bind fun bt279 => ((bourneref14_Digits.f k ((n + m : Nat) : Int)).bind fun t283 => ((Ex.unit_Amount.f t283 a2).bind fun bt284 => (if bt274.2.2 = 0 then (bournelaw14_UnitAdds.j1 k true bt284.2.2 (bt279.2.2 != 0) bt274.1 bt274.2.1 bt279.1 bt279.2.1 bt284.1 bt284.2.1) else (bournelaw14_UnitAdds.j1 k true bt284.2.2 true bt274.1 bt274.2.1 bt279.1 bt279.2.1 bt284.1 bt284.2.1)))))))) (fun k => ?_) ?_
          · simp only [bournelaw14_UnitAdds.j0, Bool.false_eq_true, if_false]
            rw [← Int.natCast_add, wrapI _ (by omega)]
          · refine Ev.bind (digits_f n (by omega)) ?_
            rw [ex_amount _ _ (hsz n (by omega))]
            simp only [Option.bind_some]
            refine Ev.bind (digits_f m (by omega)) ?_
            rw [ex_amount _ _ (hsz m (by omega))]
            simp only [Option.bind_some]
            refine Ev.bind (digits_f (n + m) (by omega)) ?_
            rw [ex_amount _ _ (hsz (n + m) (by omega))]
            simp only [Option.bind_some]
            by_cases o1 : (amt (Lib.decDigits n) a2.data.toList).2.2 = 0
            · simp only [if_pos o1]
              by_cases o2 : (amt (Lib.decDigits m) a2.data.toList).2.2 = 0
              · obtain ⟨dim, c, z, den, A, f1, hA, eA, v1⟩ := amt_ok n (by omega) _ o1
                obtain ⟨dim2, c2, z2, den2, B, f2, hB, eB, v2⟩ := amt_ok m (by omega) _ o2
                rw [f1] at f2
                have hh := Option.some.inj f2
                simp only [Prod.mk.injEq] at hh
                obtain ⟨rfl, rfl, rfl, rfl⟩ := hh
                obtain ⟨_, _, _, _, p5, _⟩ := factorOf_ok _ _ f1
                simp only at p5
                have eC : (n + m) * (c * 10 ^ z) = (A + B) * den := by rw [Nat.add_mul, Nat.add_mul, eA, eB]
                have v3 : amt (Lib.decDigits (n + m)) a2.data.toList = if A + B ≤ 1125899906842624 then (((A + B : Nat) : Int), (dim : Int), 0) else (0, 0, 7) := by
                  rw [amt_dec _ (by omega), unit_factor, f1]
                  simp only [Option.map_some]
                  rw [amtOf0, eC, Nat.mul_mod_left, Nat.mul_div_cancel _ (by omega)]
                  simp only [true_and]
                rw [v1, v2, v3]
                refine Ev.step (f := fun _ => some true) (fun k => ?_) (Ev.now _)
                simp only [bournelaw14_UnitAdds.j1]
                rw [← Int.natCast_add, wrapI _ (by omega)]
                by_cases hC : A + B ≤ 1125899906842624
                · rw [if_pos hC]
                  rw [if_neg (by simp), if_neg (by omega)]
                  simp
                · rw [if_neg hC]
                  rw [if_neg (by simp), if_pos (by omega)]
                  simp
              · have : ((amt (Lib.decDigits m) a2.data.toList).2.2 != 0) = true := bne_iff_ne.2 o2
                rw [this]
                exact hx _ _ _ _ _ _ _
            · simp only [if_neg o1]; exact hx _ _ _ _ _ _ _
end Go.Proofs.YtahjkibjcibpgaaDoor.U
