/- bourneref14.Split, Factor, Digits, Times, Over as plain facts. -/
import Derived.Test.YtahjkibjcibpgaaDoorPUnx2
import Derived.Test.YtahjkibjcibpgaaDoorPUnx3
import Derived.Test.YtahjkibjcibpgaaDoorUnPlain
namespace Go.Proofs.YtahjkibjcibpgaaDoor.U
open Go.RowKit Go.Proofs.YtahjkibjcibpgaaDoorW.PrintWords Go.Proofs.YtahjkibjcibpgaaDoor.PUn

theorem wrap_small (n : Int) (h0 : -9223372036854775808 ≤ n) (h1 : n ≤ 9223372036854775807) : wrap64 n = n := by unfold wrap64; omega

theorem drop_cons (x : ByteArray) (i : Nat) (c : UInt8) (r : List UInt8) (h : x.data.toList.drop i = c :: r) : i < x.size ∧ bt x (i : Int) = (c.toNat : Int) ∧ x.data.toList.drop (i + 1) = r := by
  have hl : i < x.data.toList.length := by
    rcases Nat.lt_or_ge i x.data.toList.length with h1 | h1
    · exact h1
    · rw [List.drop_eq_nil_of_le h1] at h; cases h
  have hs : x.size = x.data.toList.length := Lib.size_eq x
  rw [List.drop_eq_getElem_cons hl] at h
  injection h with h1 h2
  refine ⟨by omega, ?_, h2⟩
  have hi : ((i : Int)).toNat < x.size := by simp; omega
  rw [← bt_at x i hi]
  have : (x[((i : Int)).toNat]'hi) = x.data.toList[i] := rfl
  rw [this, h1]
theorem drop_nil (x : ByteArray) (i : Nat) (h : x.data.toList.drop i = []) : x.size ≤ i := by
  have hs : x.size = x.data.toList.length := Lib.size_eq x
  have := List.drop_eq_nil_iff.1 h
  omega

/-- what Split comes to at the rest l of a string -/
def splitL : List UInt8 → List Int → Nat → Nat → Bool → List Int × Int × Bool
  | [], acc, b, a, pt => (acc, (a : Int), decide (1 ≤ b) && decide (b ≤ 20) && decide (a ≤ 9) && (pt == decide (0 < a)))
  | c :: r, acc, b, a, pt =>
    if c.toNat = 46 ∧ pt = false then splitL r acc b a true
    else if isDig c then splitL r (acc ++ [(c.toNat : Int) - 48]) (if pt then b else b + 1) (if pt then a + 1 else a) pt
    else ([], 0, false)

theorem split_ev (x : ByteArray) (hx : x.size < 17592186044416) (l : List UInt8) : ∀ (acc : List Int) (b a : Nat) (pt : Bool) (i : Nat), x.data.toList.drop i = l → acc.length ≤ i → b ≤ i → a ≤ i → i ≤ x.size →
    Ev (fun k => bourneref14_Split.l0 k x acc b a pt i) (splitL l acc b a pt) := by
  induction l with
  | nil =>
    intro acc b a pt i hd h1 h2 h3 h4
    have hi := drop_nil x i hd
    refine Ev.step (f := fun _ => some (splitL [] acc b a pt)) (fun k => ?_) (Ev.now _)
    simp only [bourneref14_Split.l0, splitL]
    rw [if_neg (by omega)]
    by_cases c1 : 1 ≤ b
    · rw [if_pos (by omega)]
      by_cases c2 : b ≤ 20
      · rw [if_pos (by omega)]
        by_cases c3 : a ≤ 9
        · rw [if_pos (by omega)]
          have : (decide ((a : Int) > 0)) = decide (0 < a) := by simp
          simp [c1, c2, c3]
        · rw [if_neg (by omega)]; simp [c3]
      · rw [if_neg (by omega)]; simp [c2]
    · rw [if_neg (by omega)]; simp [c1]
  | cons c r ih =>
    intro acc b a pt i hd h1 h2 h3 h4
    obtain ⟨hi, hb, hd2⟩ := drop_cons x i c r hd
    have hw : wrap64 ((i : Int) + 1) = ((i + 1 : Nat) : Int) := by rw [wrap_small _ (by omega) (by omega)]; omega
    have h255 : c.toNat < 256 := c.toNat_lt
    by_cases hp : c.toNat = 46 ∧ pt = false
    · obtain ⟨hc, rfl⟩ := hp
      refine Ev.step (f := fun k => bourneref14_Split.j1 k x acc b a false i c.toNat true) (fun k => ?_) (Ev.step (f := fun k => bourneref14_Split.l0 k x acc b a true ((i + 1 : Nat) : Int)) (fun k => ?_) ?_)
      · simp only [bourneref14_Split.l0]
        rw [if_pos (by omega), if_pos (by omega), hb, if_pos (by omega)]
        rfl
      · simp only [bourneref14_Split.j1, if_true]
        rw [hw]
      · rw [show splitL (c :: r) acc b a false = splitL r acc b a true by simp [splitL, hc]]
        exact ih acc b a true (i + 1) hd2 (by omega) (by omega) (by omega) (by omega)
    · have hj1 : Ev (fun k => bourneref14_Split.j1 k x acc b a pt i c.toNat false) (splitL (c :: r) acc b a pt) := by
        have hj2 : ∀ bad : Bool, bad = !isDig c → Ev (fun k => bourneref14_Split.j2 k x acc b a pt i c.toNat bad) (splitL (c :: r) acc b a pt) := by
          intro bad hbad
          cases hdg : isDig c with
          | false =>
            rw [hdg] at hbad
            subst hbad
            refine Ev.step (f := fun _ => some (splitL (c :: r) acc b a pt)) (fun k => ?_) (Ev.now _)
            simp only [bourneref14_Split.j2, splitL, Bool.not_false, if_true]
            rw [if_neg hp, hdg]
            simp
          | true =>
            rw [hdg] at hbad
            subst hbad
            have hdr := dig_lt hdg
            have hv : ((c.toNat : Int) - 48) % 256 = (c.toNat : Int) - 48 := by omega
            rw [show splitL (c :: r) acc b a pt = splitL r (acc ++ [(c.toNat : Int) - 48]) (if pt then b else b + 1) (if pt then a + 1 else a) pt by simp only [splitL]; rw [if_neg hp, hdg]; simp]
            cases pt with
            | true =>
              refine Ev.step (f := fun k => bourneref14_Split.l0 k x (acc ++ [(c.toNat : Int) - 48]) b ((a + 1 : Nat) : Int) true ((i + 1 : Nat) : Int)) (fun k => ?_) ?_
              · simp only [bourneref14_Split.j2]
                rw [if_neg (by simp), if_pos (by omega), hw, hv, show wrap64 ((a : Int) + 1) = ((a + 1 : Nat) : Int) by rw [wrap_small _ (by omega) (by omega)]; omega]
                rfl
              · exact ih _ b (a + 1) true (i + 1) hd2 (by simp; omega) (by omega) (by omega) (by omega)
            | false =>
              refine Ev.step (f := fun k => bourneref14_Split.l0 k x (acc ++ [(c.toNat : Int) - 48]) ((b + 1 : Nat) : Int) a false ((i + 1 : Nat) : Int)) (fun k => ?_) ?_
              · simp only [bourneref14_Split.j2]
                rw [if_neg (by simp), if_pos (by omega), hw, hv, show wrap64 ((b : Int) + 1) = ((b + 1 : Nat) : Int) by rw [wrap_small _ (by omega) (by omega)]; omega]
                rfl
              · exact ih _ (b + 1) a false (i + 1) hd2 (by simp; omega) (by omega) (by omega) (by omega)
        by_cases hlo : (c.toNat : Int) < 48
        · refine Ev.step (f := fun k => bourneref14_Split.j2 k x acc b a pt i c.toNat true) (fun k => ?_) (hj2 true ?_)
          · simp only [bourneref14_Split.j1]
            rw [if_neg (by simp), if_pos hlo]
          · have : isDig c = false := by simp [isDig]; omega
            rw [this]; rfl
        · refine Ev.step (f := fun k => bourneref14_Split.j2 k x acc b a pt i c.toNat (decide ((c.toNat : Int) > 57))) (fun k => ?_) (hj2 _ ?_)
          · simp only [bourneref14_Split.j1]
            rw [if_neg (by simp), if_neg hlo]
          · have e : isDig c = decide (c.toNat ≤ 57) := by
              have : decide (48 ≤ c.toNat) = true := by simp; omega
              unfold isDig; rw [this]; rfl
            rw [e]
            by_cases h57 : c.toNat ≤ 57
            · have h2 : ¬ ((c.toNat : Int) > 57) := by omega
              simp [h57, h2]
            · have h2 : ((c.toNat : Int) > 57) := by omega
              simp [h57, h2]
      by_cases hc : c.toNat = 46
      · have hpt : pt = true := by cases pt with | true => rfl | false => exact absurd ⟨hc, rfl⟩ hp
        subst hpt
        refine Ev.step (f := fun k => bourneref14_Split.j1 k x acc b a true i c.toNat false) (fun k => ?_) hj1
        simp only [bourneref14_Split.l0]
        rw [if_pos (by omega), if_pos (by omega), hb, if_pos (by omega)]
        rfl
      · refine Ev.step (f := fun k => bourneref14_Split.j1 k x acc b a pt i c.toNat false) (fun k => ?_) hj1
        simp only [bourneref14_Split.l0]
        rw [if_pos (by omega), if_pos (by omega), hb, if_neg (by omega)]

theorem split_f (x : ByteArray) (hx : x.size < 17592186044416) : Ev (fun k => bourneref14_Split.f k x) (splitL x.data.toList [] 0 0 false) := by
  have := split_ev x hx x.data.toList [] 0 0 false 0 rfl (by simp) (by omega) (by omega) (by omega)
  exact this
end Go.Proofs.YtahjkibjcibpgaaDoor.U
