/- bourneref14's Base, Digits, Write as plain facts: they come to wrt; bournelaw14.small is true; UnitTells is true. -/
import Derived.Test.YtahjkibjcibpgaaDoorUnRef
import Derived.Test.YtahjkibjcibpgaaDoorPUnx4
import Derived.Test.YtahjkibjcibpgaaDoorPUnx5
import Derived.Lib.LazyBuf
namespace Go.Proofs.YtahjkibjcibpgaaDoor.U
open Go.RowKit Go.Proofs.YtahjkibjcibpgaaDoorW.PrintWords Go.Proofs.YtahjkibjcibpgaaDoor.PUn

theorem bytes_ext (a b : ByteArray) (h : a.data.toList = b.data.toList) : a = b := by
  cases a; cases b; exact congrArg ByteArray.mk (Array.toList_inj.1 h)
theorem one_dig (m : Nat) (h : m < 10) : strOfNums ([(wrap64 (48 + (m : Int))) % 256] : List Int) = ⟨#[UInt8.ofNat (48 + m)]⟩ := by
  have e : (wrap64 (48 + (m : Int))) % 256 = (((UInt8.ofNat (48 + m)).toNat : Nat) : Int) := by
    rw [wrap_small _ (by omega) (by omega)]
    simp
  rw [e]
  exact Lib.Lz.strOfNums_map [UInt8.ofNat (48 + m)]
theorem dec_last (n : Nat) : Lib.decDigits n = (if n < 10 then [] else Lib.decDigits (n / 10)) ++ [UInt8.ofNat (48 + n % 10)] := by
  rw [Lib.decDigits]
  split
  · rw [Nat.mod_eq_of_lt ‹_›]; rfl
  · rfl
theorem app_list (a b : List UInt8) : (⟨a.toArray⟩ : ByteArray) ++ (⟨b.toArray⟩ : ByteArray) = ⟨(a ++ b).toArray⟩ := by
  apply bytes_ext
  simp
theorem size_list (a : List UInt8) : (⟨a.toArray⟩ : ByteArray).size = a.length := by
  show a.toArray.size = a.length
  simp
theorem digits_l0 (n : Nat) : ∀ (s : List UInt8), n < 9223372036854775808 → Lib.nDigits n + s.length < 1000 →
    Ev (fun k => bourneref14_Digits.l0 k n (⟨(UInt8.ofNat (48 + n % 10) :: s).toArray⟩ : ByteArray)) (⟨(Lib.decDigits n ++ s).toArray⟩ : ByteArray) := by
  induction n using Nat.strongRecOn with
  | _ n ih =>
    intro s hn hl
    by_cases h : n < 10
    · refine Ev.step (f := fun _ => some (⟨(Lib.decDigits n ++ s).toArray⟩ : ByteArray)) (fun k => ?_) (Ev.now _)
      simp only [bourneref14_Digits.l0]
      rw [if_neg (by omega), dec_last, if_pos h]
      rfl
    · have hd : n / 10 < n := by omega
      have hnd := Lib.nDigits_big h
      refine Ev.step (f := fun k => bourneref14_Digits.l0 k (n / 10 : Nat) (⟨(UInt8.ofNat (48 + n / 10 % 10) :: UInt8.ofNat (48 + n % 10) :: s).toArray⟩ : ByteArray)) (fun k => ?_) ?_
      · simp only [bourneref14_Digits.l0]
        rw [if_pos (by omega), show (10 : Int) = ((10 : Nat) : Int) from rfl, tdivN, wrapI _ (by omega), tmodN]
        simp only [Option.bind_some]
        rw [one_dig _ (Nat.mod_lt _ (by omega))]
        have e : (⟨#[UInt8.ofNat (48 + n / 10 % 10)]⟩ : ByteArray) ++ (⟨(UInt8.ofNat (48 + n % 10) :: s).toArray⟩ : ByteArray) = ⟨(UInt8.ofNat (48 + n / 10 % 10) :: UInt8.ofNat (48 + n % 10) :: s).toArray⟩ := app_list [UInt8.ofNat (48 + n / 10 % 10)] _
        rw [e, if_pos]
        rw [size_list, size_list]
        simp only [List.length_cons, List.length_nil]
        omega
      · have := ih (n / 10) hd (UInt8.ofNat (48 + n % 10) :: s) (by omega) (by simp only [List.length_cons]; omega)
        rw [dec_last n, if_neg h, List.append_assoc]
        exact this
theorem digits_f (n : Nat) (hn : n < 9223372036854775808) : Ev (fun k => bourneref14_Digits.f k n) (⟨(Lib.decDigits n).toArray⟩ : ByteArray) := by
  have h20 := nDigits20 n (by omega)
  have := digits_l0 n [] hn (by simp; omega)
  rw [List.append_nil] at this
  refine Ev.congr (fun k => ?_) this
  unfold bourneref14_Digits.f
  rw [show (10 : Int) = ((10 : Nat) : Int) from rfl, tmodN, one_dig _ (Nat.mod_lt _ (by omega))]

/-- the seven names of Base -/
def bases : List ByteArray := [(⟨#[]⟩ : ByteArray), (⟨#[108]⟩ : ByteArray), (⟨#[108, 112, 104]⟩ : ByteArray), (⟨#[109, 109]⟩ : ByteArray), (⟨#[104]⟩ : ByteArray), (⟨#[109, 50]⟩ : ByteArray), (⟨#[112, 101, 114, 109, 105, 108, 108, 101]⟩ : ByteArray)]
theorem base_out (D : Int) (h : D < 0 ∨ 7 ≤ D) : bourneref14_Base.f D = some ((⟨#[]⟩ : ByteArray), false) := by
  unfold bourneref14_Base.f
  simp only [Option.bind_some]
  rcases h with h | h
  · rw [if_pos h]
  · rw [if_neg (by omega), if_pos (by simp; omega)]
theorem base_in (D : Nat) (h : D < 7) : bourneref14_Base.f D = some (bases.getD D ByteArray.empty, true) := by
  unfold bourneref14_Base.f
  simp only [Option.bind_some]
  rw [if_neg (by omega), if_neg (by simp; omega), if_pos (by omega), if_pos (by simp; omega)]
  rfl
theorem wrt_in (N : Nat) (hN : N ≤ 1125899906842624) (D : Nat) (h : D < 7) :
    wrt N D = if (bases.getD D ByteArray.empty).data.toList = [] then Lib.decDigits N else Lib.decDigits N ++ 32 :: (bases.getD D ByteArray.empty).data.toList := by
  unfold wrt
  rw [if_neg (by omega), Lib.itoa_nonneg]
  have key : ∀ D : Nat, D < 7 → ∃ r, units.find? (fun u => ((u.2.1 : Nat) : Int) == (D : Int)) = some ((bases.getD D ByteArray.empty).data.toList, r) := by
    intro D h
    have hD : D = 0 ∨ D = 1 ∨ D = 2 ∨ D = 3 ∨ D = 4 ∨ D = 5 ∨ D = 6 := by omega
    rcases hD with rfl | rfl | rfl | rfl | rfl | rfl | rfl <;> exact ⟨_, rfl⟩
  obtain ⟨r, hr⟩ := key D h
  rw [hr]
theorem wrt_range (N D : Int) (h : N < 0 ∨ 1125899906842624 < N) : wrt N D = [] := by
  unfold wrt; rw [if_pos h]
theorem wrt_dim (N D : Int) (h : D < 0 ∨ 7 ≤ D) : wrt N D = [] := by
  unfold wrt
  split
  · rfl
  · have : units.find? (fun u => ((u.2.1 : Nat) : Int) == D) = none := by
      rw [List.find?_eq_none]
      intro u hu he
      have h1 := (unit_ok u hu).2.2.2.2
      have h2 : ((u.2.1 : Nat) : Int) = D := by simpa using he
      omega
    rw [this]
theorem base_unit : ∀ D, D < 7 → unitOf (bases.getD D ByteArray.empty).data.toList = some (D, 1, 1) := by decide +kernel
theorem base_sizes : ∀ D, D < 7 → (bases.getD D ByteArray.empty).size ≤ 8 := by decide +kernel

theorem write_f (N D : Int) : Ev (fun k => bourneref14_Write.f k N D) (⟨(wrt N D).toArray⟩ : ByteArray) := by
  unfold bourneref14_Write.f
  by_cases hD : D < 0 ∨ 7 ≤ D
  · rw [base_out D hD, wrt_dim N D hD]
    simp only [Option.bind_some, Bool.false_eq_true, if_false]
    refine Ev.step (f := fun _ => some (⟨#[]⟩ : ByteArray)) (fun k => ?_) (Ev.now _)
    simp only [bourneref14_Write.j0, if_true]
  · obtain ⟨d, rfl⟩ : ∃ d : Nat, D = (d : Int) := ⟨D.toNat, by omega⟩
    have hd : d < 7 := by omega
    rw [base_in d hd]
    simp only [Option.bind_some, if_true]
    by_cases hN : N < 0
    · rw [wrt_range N _ (Or.inl hN)]
      refine Ev.step (f := fun _ => some (⟨#[]⟩ : ByteArray)) (fun k => ?_) (Ev.now _)
      rw [if_pos hN]
      simp only [bourneref14_Write.j0, if_true]
    · by_cases hN2 : N > 1125899906842624
      · rw [wrt_range N _ (Or.inr hN2)]
        refine Ev.step (f := fun _ => some (⟨#[]⟩ : ByteArray)) (fun k => ?_) (Ev.now _)
        simp only [if_neg hN, decide_eq_true hN2]
        simp only [bourneref14_Write.j0, if_true]
      · obtain ⟨n, rfl⟩ : ∃ n : Nat, N = (n : Int) := ⟨N.toNat, by omega⟩
        rw [wrt_in n (by omega) d hd]
        have hf := digits_f n (by omega)
        have hs := base_sizes d hd
        have h20 := nDigits20 n (by omega)
        have hlen := Lib.decDigits_length n
        generalize bases.getD d ByteArray.empty = b at hs
        simp only [if_neg hN, decide_eq_false hN2]
        by_cases hb : b.data.toList = []
        · rw [if_pos hb]
          refine Ev.step (f := fun k => (bourneref14_Digits.f k n).bind fun t => some t) (fun k => ?_) (Ev.bind hf (Ev.now _))
          simp only [bourneref14_Write.j0, Bool.false_eq_true, if_false]
          rw [if_pos (by rw [Lib.toList_data]; exact hb)]
        · rw [if_neg hb]
          refine Ev.step (f := fun k => (bourneref14_Digits.f k n).bind fun t169 => (if t169.size + 1 ≤ 9223372036854775807 then (if (t169 ++ (⟨#[32]⟩ : ByteArray)).size + b.size ≤ 9223372036854775807 then (some ((t169 ++ (⟨#[32]⟩ : ByteArray)) ++ b)) else (none)) else (none))) (fun k => ?_) ?_
          · simp only [bourneref14_Write.j0, Bool.false_eq_true, if_false]
            rw [if_neg (by rw [Lib.toList_data]; exact hb)]
          · refine Ev.bind hf ?_
            refine Ev.congr (f := fun _ => some _) (fun k => ?_) (Ev.now _)
            have e : (⟨(Lib.decDigits n).toArray⟩ : ByteArray) ++ (⟨#[32]⟩ : ByteArray) = ⟨(Lib.decDigits n ++ [32]).toArray⟩ := app_list _ [32]
            rw [e, size_list, size_list, if_pos (by omega), if_pos (by simp; omega)]
            congr 1
            apply bytes_ext
            simp

/-! ### small -/
theorem cut_15 : Lib.cut [49, 46, 53] [46] = ([49], [53], true) := by decide +kernel
theorem small_true : bournelaw14_small.f = some true := by
  have a1 : Ex.unit_Amount.f (⟨#[49, 46, 53]⟩ : ByteArray) (⟨#[77, 76]⟩ : ByteArray) = some (1500000, 1, 0) := by decide +kernel
  have a2 : Ex.unit_Amount.f (⟨#[49]⟩ : ByteArray) (⟨#[77, 76, 112, 100]⟩ : ByteArray) = some (0, 0, 7) := by decide +kernel
  have a3 : Ex.unit_Amount.f (⟨#[49, 46]⟩ : ByteArray) (⟨#[108]⟩ : ByteArray) = some (0, 0, 2) := by decide +kernel
  have a4 : wrt 1500000 1 = [49, 53, 48, 48, 48, 48, 48, 32, 108] := by
    have h : Lib.decDigits 1500000 = [49, 53, 48, 48, 48, 48, 48] := by
      rw [dec_last, if_neg (by omega), dec_last, if_neg (by omega), dec_last, if_neg (by omega), dec_last, if_neg (by omega), dec_last, if_neg (by omega), dec_last, if_neg (by omega), dec_last, if_pos (by omega)]
      rfl
    have := wrt_in 1500000 (by omega) 1 (by omega)
    rw [h] at this
    exact this
  unfold bournelaw14_small.f Ex.unit_Write.f
  rw [a1, a2, a3]
  simp only [Option.bind_some]
  rw [a4]
  decide +kernel

/-! ### UnitTells -/
theorem ex_amount (a b : ByteArray) (h : a.size < 4294967281) : Ex.unit_Amount.f a b = some (amt a.data.toList b.data.toList) := by
  unfold Ex.unit_Amount.f; rw [if_pos h]
theorem tells_true (a b : ByteArray) (N D : Int) : ∃ k, bournelaw14_UnitTells.f k a b N D = some true := by
  apply Ev.rounds
  have hj : ∀ x : Bool, (x = false → a.size ≤ 100) → Ev (fun k => bournelaw14_UnitTells.j0 k a b true x N D) true := by
    intro x hx
    cases x with
    | true =>
      refine Ev.step (f := fun _ => some true) (fun k => ?_) (Ev.now _)
      simp only [bournelaw14_UnitTells.j0, if_true]
    | false =>
      have hs := hx rfl
      refine Ev.step (f := fun k => (bourneref14_Amount.f k a b).bind fun bt176 => (if ((amt a.data.toList b.data.toList).1 == bt176.1 && ((amt a.data.toList b.data.toList).2.1 == bt176.2.1)) = true then (if (amt a.data.toList b.data.toList).2.2 = bt176.2.2 then ((Ex.unit_Write.f N D).bind fun t180 => ((bourneref14_Write.f k N D).bind fun t181 => (some (t180.toList == t181.toList)))) else (some false)) else (some false))) (fun k => ?_) ?_
      · simp only [bournelaw14_UnitTells.j0, Bool.false_eq_true, if_false, if_true]
        rw [ex_amount a b (by omega)]
        simp only [Option.bind_some]
      · refine Ev.bind (amount_f a b (by omega)) ?_
        simp only [beq_self_eq_true, Bool.and_self, if_true]
        unfold Ex.unit_Write.f
        simp only [Option.bind_some]
        refine Ev.bind (write_f N D) ?_
        simp only [beq_self_eq_true]
        exact Ev.now _
  unfold bournelaw14_UnitTells.f
  rw [small_true]
  simp only [Option.bind_some]
  by_cases h : (a.size : Int) > 100
  · refine Ev.congr (fun k => by rw [if_pos h]) (hj true (by simp))
  · refine Ev.congr (fun k => by rw [if_neg h]) (hj _ (fun _ => by omega))
end Go.Proofs.YtahjkibjcibpgaaDoor.U
