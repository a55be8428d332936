/- UnitBack and UnitZeros are true, in plain Lean over the printed functions. -/
import Derived.Test.YtahjkibjcibpgaaDoorUnRefW
import Derived.Test.YtahjkibjcibpgaaDoorPUnx6
namespace Go.Proofs.YtahjkibjcibpgaaDoor.U
open Go.RowKit Go.Proofs.YtahjkibjcibpgaaDoorW.PrintWords Go.Proofs.YtahjkibjcibpgaaDoor.PUn

theorem amtOf_one (n d : Nat) (h : n ≤ 1125899906842624) : amtOf n 0 0 d 1 1 = ((n : Int), (d : Int), 0) := by
  unfold amtOf
  simp [Nat.mod_one, h]
theorem bt_head (c : UInt8) (r : List UInt8) : bt (⟨(c :: r).toArray⟩ : ByteArray) 0 = (c.toNat : Int) := by
  rw [← bt_at _ 0 (by rw [size_list]; simp)]
  rfl
theorem extract_all (x : ByteArray) : x.extract 0 x.size = x := by
  apply bytes_ext
  have := Lib.extract_to_end x 0
  rw [this]; rfl

theorem back_true (N D : Int) : ∃ k, bournelaw14_UnitBack.f k N D = some true := by
  apply Ev.rounds
  have hout : ∀ b : ByteArray, wrt N D = [] → Ev (fun k => bournelaw14_UnitBack.j0 k true (⟨(wrt N D).toArray⟩ : ByteArray) b true N D) true := by
    intro b hw
    refine Ev.step (f := fun _ => some true) (fun k => ?_) (Ev.now _)
    rw [hw]
    simp only [bournelaw14_UnitBack.j0, if_true]
    rw [Lib.toList_data]
    rfl
  unfold bournelaw14_UnitBack.f Ex.unit_Write.f
  rw [small_true]
  simp only [Option.bind_some]
  by_cases hD : D < 0 ∨ 7 ≤ D
  · rw [base_out D hD]
    simp only [Option.bind_some, Bool.false_eq_true, if_false]
    exact hout _ (wrt_dim N D hD)
  · obtain ⟨d, rfl⟩ : ∃ d : Nat, D = (d : Int) := ⟨D.toNat, by omega⟩
    have hd : d < 7 := by omega
    rw [base_in d hd]
    simp only [Option.bind_some, if_true]
    by_cases hN : N < 0
    · simp only [if_pos hN]
      exact hout _ (wrt_range N _ (Or.inl hN))
    · by_cases hN2 : N > 1125899906842624
      · simp only [if_neg hN, decide_eq_true hN2]
        exact hout _ (wrt_range N _ (Or.inr hN2))
      · obtain ⟨n, rfl⟩ : ∃ n : Nat, N = (n : Int) := ⟨N.toNat, by omega⟩
        simp only [if_neg hN, decide_eq_false hN2]
        rw [wrt_in n (by omega) d hd]
        have hs := base_sizes d hd
        have hb := base_unit d hd
        have hamt := amt_dec n (by omega) (bases.getD d ByteArray.empty).data.toList
        rw [hb] at hamt
        simp only at hamt
        rw [amtOf_one n d (by omega)] at hamt
        have h20 := nDigits20 n (by omega)
        have hlen := Lib.decDigits_length n
        have hpos := Lib.nDigits_pos n
        obtain ⟨c, r, hcr, hc⟩ := decDigits_head n
        generalize bases.getD d ByteArray.empty = b at hs hamt
        by_cases hnil : b.data.toList = []
        · rw [if_pos hnil]
          refine Ev.step (f := fun _ => some true) (fun k => ?_) (Ev.now _)
          simp only [bournelaw14_UnitBack.j0, Bool.false_eq_true, if_false, if_true]
          rw [if_pos (by rw [Lib.toList_data]; exact hnil), if_pos (by omega), if_pos (Int.le_refl _), Int.toNat_natCast, extract_all, ex_amount _ _ (by rw [size_list]; omega)]
          simp only [Option.bind_some]
          rw [hamt]
          simp only [beq_self_eq_true, Bool.and_self, if_true]
          rw [if_pos (by rw [size_list]; omega)]
          rw [hcr, bt_head]
          by_cases h48 : (c.toNat : Int) = 48
          · rw [if_pos h48]
            have hc48 : c = 48 := UInt8.toNat_inj.1 (show c.toNat = 48 by omega)
            rw [hc hc48]
            rfl
          · rw [if_neg h48]
        · rw [if_neg hnil]
          have hbs : b.size = b.data.toList.length := Lib.size_eq b
          have hbl : 1 ≤ b.data.toList.length := by
            cases hh : b.data.toList with
            | nil => exact absurd hh hnil
            | cons => simp
          have hsz : (⟨(Lib.decDigits n ++ 32 :: b.data.toList).toArray⟩ : ByteArray).size = (Lib.decDigits n).length + 1 + b.size := by
            rw [size_list, hbs]; simp; omega
          have hat : wrap64 (wrap64 (((⟨(Lib.decDigits n ++ 32 :: b.data.toList).toArray⟩ : ByteArray).size : Int) - (b.size : Int)) - 1) = ((Lib.decDigits n).length : Int) := by
            rw [hsz]
            have e1 : (((Lib.decDigits n).length + 1 + b.size : Nat) : Int) - (b.size : Int) = (((Lib.decDigits n).length + 1 : Nat) : Int) := by omega
            rw [e1, wrapI _ (by omega)]
            have e2 : (((Lib.decDigits n).length + 1 : Nat) : Int) - 1 = ((Lib.decDigits n).length : Int) := by omega
            rw [e2, wrapI _ (by omega)]
          have hx1 : ((⟨(Lib.decDigits n ++ 32 :: b.data.toList).toArray⟩ : ByteArray).extract (Lib.decDigits n).length (⟨(Lib.decDigits n ++ 32 :: b.data.toList).toArray⟩ : ByteArray).size).toList = ((⟨#[32]⟩ : ByteArray) ++ b).toList := by
            rw [Lib.toList_data, Lib.toList_data, Lib.extract_to_end]
            simp
          have hx2 : (⟨(Lib.decDigits n ++ 32 :: b.data.toList).toArray⟩ : ByteArray).extract 0 (Lib.decDigits n).length = ⟨(Lib.decDigits n).toArray⟩ := by
            apply bytes_ext
            simp
          refine Ev.step (f := fun _ => some true) (fun k => ?_) (Ev.now _)
          simp only [bournelaw14_UnitBack.j0, Bool.false_eq_true, if_false, if_true]
          rw [if_neg (by rw [Lib.toList_data]; exact hnil), hat, if_neg (by omega), if_pos (by omega), if_pos (by rw [hsz]; omega), if_pos (by omega), Int.toNat_natCast, if_pos hx1, hx2, ex_amount _ _ (by rw [size_list]; omega)]
          simp only [Option.bind_some]
          rw [hamt]
          simp only [beq_self_eq_true, Bool.and_self, if_true]
          rw [if_pos (by rw [hsz]; omega)]
          rw [hcr, List.cons_append, bt_head]
          by_cases h48 : (c.toNat : Int) = 48
          · rw [if_pos h48]
            have hc48 : c = 48 := UInt8.toNat_inj.1 (show c.toNat = 48 by omega)
            rw [hc hc48]
            rfl
          · rw [if_neg h48]

/-! ### zeros -/
def zs (m : Nat) : List UInt8 := List.replicate m 48
theorem zs_all (m : Nat) : (zs m).all isDig = true := by
  rw [List.all_eq_true]
  intro c hc
  rw [(List.mem_replicate.1 hc).2]; decide
theorem zs_val (m : Nat) : val (zs m) = 0 := by
  induction m with
  | zero => rfl
  | succ m ih =>
    unfold zs at ih ⊢
    rw [List.replicate_succ]
    unfold val at ih ⊢
    rw [valFrom_cons]
    exact ih
theorem zs_len (m : Nat) : (zs m).length = m := by simp [zs]
theorem amtOf_zeros (W F k b dim num den : Nat) : amtOf W (F * 10 ^ b) (k + b) dim num den = amtOf W F k dim num den := by
  have hp : 0 < 10 ^ b := Nat.pow_pos (by omega)
  have e1 : (W * 10 ^ (k + b) + F * 10 ^ b) * num = 10 ^ b * ((W * 10 ^ k + F) * num) := by
    rw [Nat.pow_add, ← Nat.mul_assoc, ← Nat.add_mul, Nat.mul_comm _ (10 ^ b), Nat.mul_assoc]
  have e2 : 10 ^ (k + b) * den = 10 ^ b * (10 ^ k * den) := by
    rw [Nat.pow_add, Nat.mul_comm (10 ^ k), Nat.mul_assoc]
  unfold amtOf
  rw [e1, e2, Nat.mul_div_mul_left _ _ hp, Nat.mul_mod_mul_left]
  have e3 : (10 ^ b * ((W * 10 ^ k + F) * num % (10 ^ k * den)) = 0) = ((W * 10 ^ k + F) * num % (10 ^ k * den) = 0) := by
    refine propext ⟨fun h => ?_, fun h => by rw [h, Nat.mul_zero]⟩
    rcases Nat.mul_eq_zero.1 h with h | h
    · omega
    · exact h
  simp only [e3]
theorem amt_zeros (l name : List UInt8) (a b : Nat) (h : good l = true) (h2 : good (zs a ++ l ++ zs b) = true) (hb : b = 0 ∨ (Lib.cut l [46]).2.2 = true) : amt (zs a ++ l ++ zs b) name = amt l name := by
  obtain ⟨h1, _⟩ := good_spec l h
  have hj := cut_join l
  rw [amt_good _ _ h, amt_good _ _ h2]
  cases hf : (Lib.cut l [46]).2.2 with
  | false =>
    obtain ⟨j1, j2⟩ := hj.1 hf
    have hb0 : b = 0 := by rcases hb with hb | hb; exact hb; rw [hf] at hb; cases hb
    subst hb0
    have hall : l.all isDig = true := by rw [← j1]; exact h1
    have e : Lib.cut (zs a ++ l ++ zs 0) [46] = (zs a ++ l, [], false) := by
      have : zs a ++ l ++ zs 0 = zs a ++ l := by simp [zs]
      rw [this]
      exact cut_all_digits _ (by rw [List.all_append, zs_all, hall]; rfl)
    rw [e, j1, j2]
    simp only [val_append, zs_val, Nat.zero_mul, Nat.zero_add]
  | true =>
    have hl := hj.2 hf
    have e : Lib.cut (zs a ++ l ++ zs b) [46] = (zs a ++ (Lib.cut l [46]).1, (Lib.cut l [46]).2.1 ++ zs b, true) := by
      conv => lhs; rw [hl]
      have : zs a ++ ((Lib.cut l [46]).1 ++ 46 :: (Lib.cut l [46]).2.1) ++ zs b = (zs a ++ (Lib.cut l [46]).1) ++ 46 :: ((Lib.cut l [46]).2.1 ++ zs b) := by simp
      rw [this]
      exact cut_two _ _ (by rw [List.all_append, zs_all, h1]; rfl)
    rw [e]
    simp only [val_append, zs_val, Nat.zero_mul, Nat.zero_add, List.length_append, zs_len, Nat.add_zero]
    split
    · rfl
    · exact amtOf_zeros _ _ _ _ _ _ _
theorem good_len (l : List UInt8) (h : good l = true) : l.length ≤ 30 := by
  obtain ⟨h1, h2, h3, h4, h5, h6, h7⟩ := good_spec l h
  have hj := cut_join l
  cases hf : (Lib.cut l [46]).2.2 with
  | false => rw [(hj.1 hf).1] at h4; omega
  | true =>
    have := congrArg List.length (hj.2 hf)
    simp only [List.length_append, List.length_cons] at this
    omega
theorem zeros_j3 (x0 x1 x13 : ByteArray) (a b : Nat) (hg : good x0.data.toList = true) (h13 : x13.data.toList = zs a ++ x0.data.toList ++ zs b) (ha : a ≤ 5) (hb5 : b ≤ 5) (hb : b = 0 ∨ (Lib.cut x0.data.toList [46]).2.2 = true) :
    Ev (fun k => bournelaw14_UnitZeros.j3 k x0 x1 true x13) true := by
  have hl := good_len _ hg
  have hs0 : x0.size = x0.data.toList.length := Lib.size_eq x0
  have hs13 : x13.size = x13.data.toList.length := Lib.size_eq x13
  have hlen : x13.data.toList.length = a + x0.data.toList.length + b := by rw [h13]; simp [zs_len]; omega
  refine Ev.step (f := fun k => (bourneref14_Split.f k x13).bind fun bt201 => (if bt201.2.2 = true then ((Ex.unit_Amount.f x0 x1).bind fun bt206 => ((Ex.unit_Amount.f x13 x1).bind fun bt210 => (if ((true : Bool) = true) then (if (bt206.1 == bt210.1 && (bt206.2.1 == bt210.2.1)) = true then (some (bt206.2.2 == bt210.2.2)) else (some false)) else (some false)))) else (some true))) (fun k => ?_) ?_
  · simp only [bournelaw14_UnitZeros.j3]
  · refine Ev.bind (split_f x13 (by omega)) ?_
    cases h2 : good x13.data.toList with
    | false =>
      rw [split_bad _ h2]
      exact Ev.congr (f := fun _ => some true) (fun k => by simp) (Ev.now _)
    | true =>
      rw [split_good _ h2, ex_amount _ _ (by omega), ex_amount _ _ (by omega)]
      have := amt_zeros x0.data.toList x1.data.toList a b hg (by rw [← h13]; exact h2) hb
      rw [← h13] at this
      rw [this]
      exact Ev.congr (f := fun _ => some true) (fun k => by simp) (Ev.now _)
theorem zs_snoc (m : Nat) : zs m ++ [48] = zs (m + 1) := by
  unfold zs
  rw [List.replicate_succ']
theorem zeros_l1 (x0 x1 : ByteArray) (d n : Nat) (hn : n < 5) (hg : good x0.data.toList = true) (hd : 0 < d → (Lib.cut x0.data.toList [46]).2.2 = true) (x3 : Int) (hx3 : wrap64 (Int.tmod x3 5) = (n : Int)) (a : Nat) (ha : a ≤ 5) (m : Nat) :
    ∀ (b : Nat) (x13 : ByteArray), b + m = n → x13.data.toList = zs a ++ x0.data.toList ++ zs b → (b = 0 ∨ (Lib.cut x0.data.toList [46]).2.2 = true) → Ev (fun k => bournelaw14_UnitZeros.l1 k x0 x1 x3 true d x13 b) true := by
  have hl := good_len _ hg
  have hs0 : x0.size = x0.data.toList.length := Lib.size_eq x0
  induction m with
  | zero =>
    intro b x13 hbm h13 hb
    refine Ev.step (f := fun k => bournelaw14_UnitZeros.j3 k x0 x1 true x13) (fun k => ?_) (zeros_j3 x0 x1 x13 a b hg h13 ha (by omega) hb)
    simp only [bournelaw14_UnitZeros.l1]
    rw [hx3, if_neg (by omega)]
  | succ m ih =>
    intro b x13 hbm h13 hb
    by_cases hd0 : 0 < d
    · have hs13 : x13.size = x13.data.toList.length := Lib.size_eq x13
      have hlen : x13.data.toList.length = a + x0.data.toList.length + b := by rw [h13]; simp [zs_len]; omega
      refine Ev.step (f := fun k => bournelaw14_UnitZeros.l1 k x0 x1 x3 true d (x13 ++ (⟨#[48]⟩ : ByteArray)) ((b + 1 : Nat) : Int)) (fun k => ?_) (ih (b + 1) _ (by omega) ?_ (Or.inr (hd hd0)))
      · simp only [bournelaw14_UnitZeros.l1]
        rw [hx3, if_pos (by omega), if_pos (by omega), if_pos (by omega), wrap_small _ (by omega) (by omega)]
        rfl
      · have e : (x13 ++ (⟨#[48]⟩ : ByteArray)).data.toList = x13.data.toList ++ [48] := by simp
        rw [e, h13, List.append_assoc, zs_snoc]
    · refine Ev.step (f := fun k => bournelaw14_UnitZeros.j3 k x0 x1 true x13) (fun k => ?_) (zeros_j3 x0 x1 x13 a b hg h13 ha (by omega) hb)
      simp only [bournelaw14_UnitZeros.l1]
      rw [hx3, if_pos (by omega), if_neg (by omega)]
theorem zeros_l0 (x0 x1 : ByteArray) (d n n2 : Nat) (hn : n < 5) (hn2 : n2 < 5) (hg : good x0.data.toList = true) (hd : 0 < d → (Lib.cut x0.data.toList [46]).2.2 = true) (x2 x3 : Int) (hx2 : wrap64 (Int.tmod x2 5) = (n2 : Int)) (hx3 : wrap64 (Int.tmod x3 5) = (n : Int)) (m : Nat) :
    ∀ (a : Nat) (x13 : ByteArray), a + m = n2 → x13.data.toList = zs a ++ x0.data.toList → Ev (fun k => bournelaw14_UnitZeros.l0 k x0 x1 x2 x3 true d x13 a) true := by
  have hl := good_len _ hg
  have hs0 : x0.size = x0.data.toList.length := Lib.size_eq x0
  induction m with
  | zero =>
    intro a x13 ham h13
    refine Ev.step (f := fun k => bournelaw14_UnitZeros.l1 k x0 x1 x3 true d x13 0) (fun k => ?_) (zeros_l1 x0 x1 d n hn hg hd x3 hx3 a (by omega) n 0 x13 (by omega) (by rw [h13]; simp [zs]) (Or.inl rfl))
    simp only [bournelaw14_UnitZeros.l0]
    rw [hx2, if_neg (by omega)]
  | succ m ih =>
    intro a x13 ham h13
    have hs13 : x13.size = x13.data.toList.length := Lib.size_eq x13
    have hlen : x13.data.toList.length = a + x0.data.toList.length := by rw [h13]; simp [zs_len]
    refine Ev.step (f := fun k => bournelaw14_UnitZeros.l0 k x0 x1 x2 x3 true d ((⟨#[48]⟩ : ByteArray) ++ x13) ((a + 1 : Nat) : Int)) (fun k => ?_) (ih (a + 1) _ (by omega) ?_)
    · simp only [bournelaw14_UnitZeros.l0]
      rw [hx2, if_pos (by omega), if_pos (by omega), wrap_small _ (by omega) (by omega)]
      rfl
    · have e : ((⟨#[48]⟩ : ByteArray) ++ x13).data.toList = 48 :: x13.data.toList := by simp
      rw [e, h13]
      unfold zs
      rw [List.replicate_succ]; rfl
theorem mod5 (x : Int) (h0 : 0 ≤ x) (h1 : x ≤ 255) : ∃ n : Nat, n < 5 ∧ wrap64 (Int.tmod x 5) = (n : Int) := by
  obtain ⟨m, rfl⟩ : ∃ m : Nat, x = (m : Int) := ⟨x.toNat, by omega⟩
  refine ⟨m % 5, Nat.mod_lt _ (by omega), ?_⟩
  rw [show (5 : Int) = ((5 : Nat) : Int) from rfl, tmodN, wrapI _ (by omega)]
theorem wf_u8 {a : Int} (h : (Lit.int .u8 a).wf = true) : 0 ≤ a ∧ a ≤ 255 := by
  have e1 : IntKind.min .u8 = 0 := by decide
  have e2 : IntKind.max .u8 = 255 := by decide
  have h2 : (decide (IntKind.min .u8 ≤ a) && decide (a ≤ IntKind.max .u8)) = true := h
  rw [e1, e2, Bool.and_eq_true, decide_eq_true_eq, decide_eq_true_eq] at h2
  exact h2
theorem wf_i64 {a : Int} (h : (Lit.int .i64 a).wf = true) : -9223372036854775808 ≤ a ∧ a ≤ 9223372036854775807 := by
  have e1 : IntKind.min .i64 = -9223372036854775808 := by decide
  have e2 : IntKind.max .i64 = 9223372036854775807 := by decide
  have h2 : (decide (IntKind.min .i64 ≤ a) && decide (a ≤ IntKind.max .i64)) = true := h
  rw [e1, e2, Bool.and_eq_true, decide_eq_true_eq, decide_eq_true_eq] at h2
  exact h2
theorem zeros_true (a0 a1 : ByteArray) (a2 a3 : Int) (h : a0.size < 17592186044416) (w2 : (Lit.int .u8 a2).wf = true) (w3 : (Lit.int .u8 a3).wf = true) : ∃ k, bournelaw14_UnitZeros.f k a0 a1 a2 a3 = some true := by
  apply Ev.rounds
  have b2 := wf_u8 w2
  have b3 := wf_u8 w3
  obtain ⟨n2, hn2, e2⟩ := mod5 a2 b2.1 b2.2
  obtain ⟨n3, hn3, e3⟩ := mod5 a3 b3.1 b3.2
  have hout : ∀ d : Int, Ev (fun k => bournelaw14_UnitZeros.j0 k a0 a1 a2 a3 true d true) true := fun d => by
    refine Ev.step (f := fun _ => some true) (fun k => ?_) (Ev.now _)
    simp only [bournelaw14_UnitZeros.j0, if_true]
  unfold bournelaw14_UnitZeros.f
  rw [small_true]
  simp only [Option.bind_some]
  refine Ev.bind (split_f a0 h) ?_
  cases hg : good a0.data.toList with
  | false =>
    rw [split_bad _ hg]
    exact Ev.congr (fun k => by rw [if_neg (by simp)]) (hout _)
  | true =>
    obtain ⟨_, _, _, _, _, h6, _⟩ := good_spec _ hg
    rw [split_good _ hg]
    by_cases h60 : (a1.size : Int) > 60
    · exact Ev.congr (fun k => by rw [if_pos rfl, decide_eq_true h60]) (hout _)
    · refine Ev.congr (f := fun k => bournelaw14_UnitZeros.j0 k a0 a1 a2 a3 true ((Lib.cut a0.data.toList [46]).2.1.length : Nat) false) (fun k => by rw [if_pos rfl, decide_eq_false h60]) ?_
      refine Ev.step (f := fun k => bournelaw14_UnitZeros.l0 k a0 a1 a2 a3 true ((Lib.cut a0.data.toList [46]).2.1.length : Nat) a0 0) (fun k => ?_) ?_
      · simp only [bournelaw14_UnitZeros.j0, Bool.false_eq_true, if_false]
      · refine zeros_l0 a0 a1 _ n3 n2 hn3 hn2 hg (fun hp => ?_) a2 a3 e2 e3 n2 0 a0 (by omega) (by simp [zs])
        cases hf : (Lib.cut a0.data.toList [46]).2.2 with
        | true => rfl
        | false => rw [h6 hf] at hp; simp at hp
end Go.Proofs.YtahjkibjcibpgaaDoor.U
