/- bourneref14's Split, Factor, Times, Over, Amount as plain facts: they come to amt. -/
import Derived.Test.YtahjkibjcibpgaaDoorUnSplit
import Derived.Test.YtahjkibjcibpgaaDoorUnLists
namespace Go.Proofs.YtahjkibjcibpgaaDoor.U
open Go.RowKit Go.Proofs.YtahjkibjcibpgaaDoorW.PrintWords Go.Proofs.YtahjkibjcibpgaaDoor.PUn

def I (ds : List Nat) : List Int := ds.map fun (d : Nat) => (d : Int)
theorem I_app (a b : List Nat) : I (a ++ b) = I a ++ I b := by simp [I]
theorem I_len (a : List Nat) : (I a).length = a.length := by simp [I]
theorem rd_mid (a : List Nat) (d : Nat) (b : List Nat) (i : Int) (hi : i = (a.length : Int)) : rd (I (a ++ d :: b)) i = (d : Int) := by
  subst hi
  unfold rd I
  rw [List.getD_eq_getElem?_getD]
  simp
theorem set_mid (a : List Nat) (d e : Nat) (b : List Nat) (i : Int) (hi : i = (a.length : Int)) : (I (a ++ d :: b)).set i.toNat (e : Int) = I (a ++ e :: b) := by
  subst hi
  unfold I
  simp

/-! ### Split -/
def splitTail (acc : List Int) (b a : Nat) (l m : List UInt8) (f : Bool) : List Int × Int × Bool :=
  if l.all isDig && m.all isDig then (acc ++ I (dg10 (l ++ m)), ((a + m.length : Nat) : Int), decide (1 ≤ b + l.length) && decide (b + l.length ≤ 20) && decide (a + m.length ≤ 9) && (f == decide (0 < a + m.length)))
  else ([], 0, false)
theorem dig_cast {c : UInt8} (h : isDig c = true) : ((c.toNat - 48 : Nat) : Int) = (c.toNat : Int) - 48 := by
  have := dig_lt h
  omega
theorem I_cons {c : UInt8} (h : isDig c = true) (acc : List Int) (l : List UInt8) : acc ++ I (dg10 (c :: l)) = acc ++ [(c.toNat : Int) - 48] ++ I (dg10 l) := by
  have e : I (dg10 (c :: l)) = ((c.toNat - 48 : Nat) : Int) :: I (dg10 l) := rfl
  rw [e, dig_cast h, List.append_assoc]; rfl
theorem split_pt (l : List UInt8) : ∀ (acc : List Int) (b a : Nat), splitL l acc b a true = splitTail acc b a [] l true := by
  induction l with
  | nil => intro acc b a; simp [splitL, splitTail, I, dg10]
  | cons c r ih =>
    intro acc b a
    simp only [splitL]
    rw [if_neg (by simp)]
    cases hd : isDig c with
    | false => simp [splitTail, hd]
    | true =>
      rw [if_pos rfl]; simp only [if_true]; rw [ih]
      unfold splitTail
      simp only [List.all_nil, List.all_cons, hd, Bool.true_and, List.nil_append, List.length_nil, List.length_cons]
      cases r.all isDig with
      | false => rfl
      | true => rw [if_pos rfl, if_pos rfl, I_cons hd]; simp only [Nat.add_assoc, Nat.add_comm 1 r.length]
theorem split_no (l : List UInt8) : ∀ (acc : List Int) (b : Nat), splitL l acc b 0 false = splitTail acc b 0 (Lib.cut l [46]).1 (Lib.cut l [46]).2.1 (Lib.cut l [46]).2.2 := by
  induction l with
  | nil => intro acc b; rw [cut_nil]; simp [splitL, splitTail, I, dg10]
  | cons c r ih =>
    intro acc b
    by_cases hc : c = 46
    · subst hc
      rw [cut_dot]
      simp only [splitL]
      rw [if_pos (by decide), split_pt]
    · have hn : ¬ (c.toNat = 46 ∧ True) := fun h => hc (UInt8.toNat_inj.1 h.1)
      rw [cut_cons c r hc]
      simp only [splitL]
      rw [if_neg hn]
      cases hd : isDig c with
      | false => simp [splitTail, hd]
      | true =>
        rw [if_pos rfl]; simp only [Bool.false_eq_true, if_false]; rw [ih]
        unfold splitTail
        simp only [List.all_cons, hd, Bool.true_and, List.cons_append, List.length_cons]
        cases ((Lib.cut r [46]).1.all isDig && (Lib.cut r [46]).2.1.all isDig) with
        | false => rfl
        | true => rw [if_pos rfl, if_pos rfl, I_cons hd]; simp only [Nat.add_assoc, Nat.add_comm 1 (Lib.cut r [46]).1.length]
theorem split_good (l : List UInt8) (h : good l = true) : splitL l [] 0 0 false = (I (dg10 ((Lib.cut l [46]).1 ++ (Lib.cut l [46]).2.1)), (((Lib.cut l [46]).2.1.length : Nat) : Int), true) := by
  obtain ⟨h1, h2, h3, h4, h5, h6, h7⟩ := good_spec l h
  rw [split_no]
  unfold splitTail
  rw [h1, h2, if_pos (by rfl)]
  simp only [List.nil_append, Nat.zero_add, Prod.mk.injEq, true_and]
  have e1 : decide (1 ≤ (Lib.cut l [46]).1.length) = true := decide_eq_true h3
  have e2 : decide ((Lib.cut l [46]).1.length ≤ 20) = true := decide_eq_true h4
  have e3 : decide ((Lib.cut l [46]).2.1.length ≤ 9) = true := decide_eq_true h5
  rw [e1, e2, e3]
  cases hf : (Lib.cut l [46]).2.2 with
  | false => rw [h6 hf]; rfl
  | true => rw [decide_eq_true (show 0 < (Lib.cut l [46]).2.1.length from h7 hf)]; rfl
theorem split_bad (l : List UInt8) (h : good l = false) : (splitL l [] 0 0 false).2.2 = false := by
  rw [split_no]
  unfold splitTail
  split
  · rename_i ha
    simp only [Bool.and_eq_true] at ha
    obtain ⟨h1, h2⟩ := ha
    unfold good digsOk at h
    rw [h1, h2] at h
    have hj := cut_join l
    have hemp : ∀ l : List UInt8, l.isEmpty = decide (l.length = 0) := fun l => by cases l <;> simp
    simp only [Nat.zero_add]
    rw [← h, hemp, hemp, Bool.eq_iff_iff]
    cases hf : (Lib.cut l [46]).2.2 with
    | false =>
      have h3 : (Lib.cut l [46]).2.1.length = 0 := by rw [(hj.1 hf).2]; rfl
      have e : (false == decide (0 < (Lib.cut l [46]).2.1.length)) = true := by rw [h3]; rfl
      rw [e]
      simp only [Bool.and_eq_true, Bool.not_eq_true', decide_eq_true_eq, decide_eq_false_iff_not, Bool.not_false, Bool.true_or, and_true]
      omega
    | true =>
      simp only [Bool.and_eq_true, Bool.not_eq_true', decide_eq_true_eq, decide_eq_false_iff_not, Bool.not_true, Bool.false_or, beq_iff_eq, and_true]
      have e : (true = decide (0 < (Lib.cut l [46]).2.1.length)) ↔ 0 < (Lib.cut l [46]).2.1.length := by
        rw [eq_comm, decide_eq_true_eq]
      rw [e]
      omega
  · rfl

/-! ### Times -/
theorem wrapI (n : Nat) (h : n < 9223372036854775808) : wrap64 (n : Int) = (n : Int) := wrap_small _ (by omega) (by omega)
theorem tmodN (m n : Nat) : Int.tmod (m : Int) (n : Int) = ((m % n : Nat) : Int) := rfl
theorem tdivN (m n : Nat) : Int.tdiv (m : Int) (n : Int) = ((m / n : Nat) : Int) := rfl
theorem times_l0 (n : Nat) (hn : n < 10000) (pr : List Nat) : ∀ (s : List Nat) (c : Nat), Ten pr → c < 10000 → pr.length + s.length < 17592186044416 →
    Ev (fun k => bourneref14_Times.l0 k n (I (pr.reverse ++ s)) c ((pr.length : Int) - 1)) (I ((mulR n pr c).reverse ++ s)) := by
  induction pr with
  | nil =>
    intro s c _ _ _
    refine Ev.step (f := fun _ => some (I ((mulR n [] c).reverse ++ s))) (fun k => ?_) (Ev.now _)
    simp only [bourneref14_Times.l0]
    rw [if_neg (by simp)]
    rfl
  | cons d r ih =>
    intro s c ht hc hl
    have hd := ht d (by simp)
    simp only [List.length_cons] at hl
    have hdn : d * n ≤ 9 * n := Nat.mul_le_mul_right n (by omega)
    have e0 : (d :: r).reverse ++ s = r.reverse ++ d :: s := by simp
    have e1 : (((d :: r).length : Nat) : Int) - 1 = (r.length : Int) := by simp
    refine Ev.step (f := fun k => bourneref14_Times.l0 k n (I (r.reverse ++ ((d * n + c) % 10) :: s)) ((d * n + c) / 10 : Nat) ((r.length : Int) - 1)) (fun k => ?_) ?_
    · rw [e0, e1]
      simp only [bourneref14_Times.l0]
      have hr := rd_mid r.reverse d s (r.length : Int) (by simp)
      have hm : wrap64 ((d : Int) * (n : Int)) = ((d * n : Nat) : Int) := by rw [← Int.natCast_mul]; exact wrapI _ (by omega)
      have hs : wrap64 (((d * n : Nat) : Int) + (c : Int)) = ((d * n + c : Nat) : Int) := by rw [← Int.natCast_add]; exact wrapI _ (by omega)
      rw [hr, hm, hs, if_pos (by omega), if_pos (by omega), I_len, if_pos (by simp; omega)]
      rw [show (10 : Int) = ((10 : Nat) : Int) from rfl, tmodN, tdivN, wrapI _ (by omega), set_mid _ d _ s _ (by simp), wrap_small _ (by omega) (by omega)]
    · have := ih (((d * n + c) % 10) :: s) ((d * n + c) / 10) (fun x hx => ht x (by simp [hx])) (by omega) (by simp; omega)
      have e2 : (mulR n (d :: r) c).reverse ++ s = (mulR n r ((d * n + c) / 10)).reverse ++ ((d * n + c) % 10) :: s := by simp [mulR]
      rw [e2]
      exact this
theorem times_f (n : Nat) (hn : n < 10000) (ds : List Nat) (ht : Ten ds) (hl : ds.length < 1000000000) : Ev (fun k => bourneref14_Times.f k (I ds) n) (I (mulD n ds)) := by
  have h0 : Ten (0 :: 0 :: ds) := fun x hx => by
    simp only [List.mem_cons] at hx
    rcases hx with rfl | rfl | hx
    · omega
    · omega
    · exact ht x hx
  have hr : Ten (0 :: 0 :: ds).reverse := fun x hx => h0 x (List.mem_reverse.1 hx)
  have := times_l0 n hn (0 :: 0 :: ds).reverse [] 0 hr (by omega) (by simp; omega)
  refine Ev.congr (f := fun k => bourneref14_Times.l0 k n (I ((0 :: 0 :: ds).reverse.reverse ++ [])) (0 : Nat) (((0 :: 0 :: ds).reverse.length : Int) - 1)) (fun k => ?_) ?_
  · unfold bourneref14_Times.f
    simp only [Option.bind_some]
    have e : ([0, 0] : List Int) ++ I ds = I ((0 :: 0 :: ds).reverse.reverse ++ []) := by simp [I]
    rw [if_pos (by rw [I_len]; simp; omega), e]
    have e2 : wrap64 (((I ((0 :: 0 :: ds).reverse.reverse ++ [])).length : Int) - 1) = ((0 :: 0 :: ds).reverse.length : Int) - 1 := by
      rw [I_len]; simp; rw [wrap_small _ (by omega) (by omega)]; omega
    rw [e2]
    rfl
  · rw [show mulD n ds = (mulR n (0 :: 0 :: ds).reverse 0).reverse ++ [] by rw [List.append_nil]; rfl]
    exact this

/-! ### Over -/
theorem over_l0 (n : Nat) (hn0 : 0 < n) (hn : n < 10000) (l : List Nat) : ∀ (pre acc : List Nat) (c : Nat), Ten l → c < n → pre.length + l.length < 1000000000 → acc.length = pre.length →
    Ev (fun k => bourneref14_Over.l0 k (I (pre ++ l)) n (I acc) c (pre.length : Int)) (I (acc ++ ovq n l c), (ovr n l c : Int)) := by
  induction l with
  | nil =>
    intro pre acc c _ _ _ _
    refine Ev.step (f := fun _ => some (I (acc ++ ovq n [] c), (ovr n [] c : Int))) (fun k => ?_) (Ev.now _)
    simp only [bourneref14_Over.l0]
    rw [I_len, if_neg (by simp)]
    simp [ovq, ovr]
  | cons d r ih =>
    intro pre acc c ht hc hl ha
    have hd := ht d (by simp)
    simp only [List.length_cons] at hl
    refine Ev.step (f := fun k => bourneref14_Over.l0 k (I (pre ++ [d] ++ r)) n (I (acc ++ [(10 * c + d) / n])) (((10 * c + d) % n : Nat) : Int) ((pre ++ [d]).length : Int)) (fun k => ?_) ?_
    · simp only [bourneref14_Over.l0]
      have hr := rd_mid pre d r (pre.length : Int) rfl
      have hm : wrap64 (10 * (c : Int)) = ((10 * c : Nat) : Int) := by rw [wrap_small _ (by omega) (by omega)]; omega
      have hs : wrap64 (((10 * c : Nat) : Int) + (d : Int)) = ((10 * c + d : Nat) : Int) := by rw [← Int.natCast_add]; exact wrapI _ (by omega)
      have hq : (10 * c + d) / n ≤ 10 * c + d := Nat.div_le_self _ _
      have hq2 : (10 * c + d) % n ≤ 10 * c + d := Nat.mod_le _ _
      rw [hr, hm, hs, I_len, if_pos (by simp; omega), if_pos (by omega), if_neg (by omega), I_len, if_pos (by omega), tdivN, tmodN, wrapI _ (by omega), wrap_small _ (by omega) (by omega)]
      rw [I_app acc]
      simp [I]
    · have := ih (pre ++ [d]) (acc ++ [(10 * c + d) / n]) ((10 * c + d) % n) (fun x hx => ht x (by simp [hx])) (Nat.mod_lt _ hn0) (by simp; omega) (by simp [ha])
      have e2 : acc ++ ovq n (d :: r) c = acc ++ [(10 * c + d) / n] ++ ovq n r ((10 * c + d) % n) := by simp [ovq]
      rw [e2]
      exact this
theorem over_f (n : Nat) (hn0 : 0 < n) (hn : n < 10000) (l : List Nat) (ht : Ten l) (hl : l.length < 1000000000) : Ev (fun k => bourneref14_Over.f k (I l) n) (I (ovq n l 0), (ovr n l 0 : Int)) :=
  over_l0 n hn0 hn l [] [] 0 ht hn0 (by simpa using hl) rfl

/-! ### Amount's loops -/
def fin (dim : Int) (x : Int) (v : Nat) : Int × Int × Int := if v ≤ 1125899906842624 ∧ x = 0 then ((v : Int), dim, 0) else (0, 0, 7)
theorem nv_ge (ds : List Nat) (n : Nat) : n ≤ nv n ds := by
  rw [nv_mul]
  have h : 1 ≤ 10 ^ ds.length := Nat.one_le_pow _ _ (by omega)
  have : n * 1 ≤ n * 10 ^ ds.length := Nat.mul_le_mul_left _ h
  omega
theorem amount_l2 (dim x : Int) (l : List Nat) : ∀ (pre : List Nat) (v : Nat), Ten l → v ≤ 1125899906842624 → pre.length + l.length < 1000000000 →
    Ev (fun k => bourneref14_Amount.l2 k (I (pre ++ l)) dim x v (pre.length : Int)) (fin dim x (nv v l)) := by
  induction l with
  | nil =>
    intro pre v _ hv _
    refine Ev.step (f := fun _ => some (fin dim x (nv v []))) (fun k => ?_) (Ev.now _)
    simp only [bourneref14_Amount.l2]
    rw [I_len, if_neg (by simp), nv_nil]
    unfold fin
    by_cases hx : x = 0
    · rw [if_pos hx, if_pos ⟨hv, hx⟩]
    · rw [if_neg hx, if_neg (fun h => hx h.2)]
  | cons d r ih =>
    intro pre v ht hv hl
    have hd := ht d (by simp)
    simp only [List.length_cons] at hl
    have hr := rd_mid pre d r (pre.length : Int) rfl
    have hm : wrap64 (10 * (v : Int)) = ((10 * v : Nat) : Int) := by rw [wrap_small _ (by omega) (by omega)]; omega
    have hs : wrap64 (((10 * v : Nat) : Int) + (d : Int)) = ((10 * v + d : Nat) : Int) := by rw [← Int.natCast_add]; exact wrapI _ (by omega)
    rw [nv_cons]
    by_cases hb : 10 * v + d ≤ 1125899906842624
    · refine Ev.step (f := fun k => bourneref14_Amount.l2 k (I (pre ++ [d] ++ r)) dim x ((10 * v + d : Nat) : Int) ((pre ++ [d]).length : Int)) (fun k => ?_) ?_
      · simp only [bourneref14_Amount.l2]
        rw [hr, hm, hs, I_len, if_pos (by simp; omega), if_pos (by omega), if_neg (by omega), wrap_small _ (by omega) (by omega)]
        simp
      · exact ih (pre ++ [d]) (10 * v + d) (fun x hx => ht x (by simp [hx])) hb (by simp; omega)
    · refine Ev.step (f := fun _ => some (fin dim x (nv (10 * v + d) r))) (fun k => ?_) (Ev.now _)
      simp only [bourneref14_Amount.l2]
      rw [hr, hm, hs, I_len, if_pos (by simp; omega), if_pos (by omega), if_pos (by omega)]
      have := nv_ge r (10 * v + d)
      unfold fin
      rw [if_neg (fun h => by omega)]
theorem amount_l1 (dim : Int) (R : Int × Int × Int) (p : List Nat) (tr : List Nat) : ∀ (t2 : List Nat) (x : Int), p.length + tr.length + t2.length < 1000000000 →
    (∀ y : Int, (y = 0 ↔ x = 0 ∧ ∀ d ∈ tr, d = 0) → Ev (fun k => bourneref14_Amount.l2 k (I p) dim y 0 0) R) →
    Ev (fun k => bourneref14_Amount.l1 k (I (p ++ tr.reverse ++ t2)) ((tr.length + t2.length : Nat) : Int) dim x (t2.length : Int)) R := by
  induction tr with
  | nil =>
    intro t2 x hl hk
    refine Ev.step (f := fun k => bourneref14_Amount.l2 k (I p) dim x 0 0) (fun k => ?_) (hk x (by simp))
    simp only [bourneref14_Amount.l1]
    simp only [List.length_nil, Nat.zero_add] at hl ⊢
    have e : wrap64 (((I (p ++ [].reverse ++ t2)).length : Int) - (t2.length : Int)) = (p.length : Int) := by
      rw [I_len]; simp; rw [wrap_small _ (by omega) (by omega)]
    rw [if_neg (by omega), e, if_pos (by omega), if_pos (by rw [I_len]; simp; omega)]
    have e2 : (I (p ++ [].reverse ++ t2)).take ((p.length : Int)).toNat = I p := by
      simp [I]
    rw [e2]
  | cons d r ih =>
    intro t2 x hl hk
    simp only [List.length_cons] at hl
    have e0 : p ++ (d :: r).reverse ++ t2 = (p ++ r.reverse) ++ d :: t2 := by simp
    have ei : wrap64 (wrap64 (((I ((p ++ r.reverse) ++ d :: t2)).length : Int) - 1) - (t2.length : Int)) = ((p ++ r.reverse).length : Int) := by
      have e3 : wrap64 (((I ((p ++ r.reverse) ++ d :: t2)).length : Int) - 1) = (p.length : Int) + r.length + t2.length := by
        rw [I_len]; simp
        rw [wrap_small _ (by omega) (by omega)]; omega
      rw [e3, wrap_small _ (by omega) (by omega)]; simp
    have hr := rd_mid (p ++ r.reverse) d t2 ((p ++ r.reverse).length : Int) rfl
    have ec : (((d :: r).length + t2.length : Nat) : Int) = ((r.length + (d :: t2).length : Nat) : Int) := by simp; omega
    have ew : wrap64 ((t2.length : Int) + 1) = ((d :: t2).length : Int) := by rw [wrap_small _ (by omega) (by omega)]; simp
    refine Ev.step (f := fun k => bourneref14_Amount.l1 k (I (p ++ r.reverse ++ d :: t2)) ((r.length + (d :: t2).length : Nat) : Int) dim (if d = 0 then x else 1) ((d :: t2).length : Int)) (fun k => ?_) ?_
    · rw [e0, ec]
      simp only [bourneref14_Amount.l1]
      rw [ei, hr, ew, if_pos (by simp; omega), if_pos (by omega), if_pos (by rw [I_len]; simp; omega)]
      by_cases hd : d = 0
      · rw [if_pos (by omega), if_pos hd]
      · rw [if_neg (by omega), if_neg hd]
    · refine ih (d :: t2) _ (by simp; omega) fun y hy => hk y ?_
      rw [hy]
      by_cases hd : d = 0
      · rw [if_pos hd]; simp [hd]
      · rw [if_neg hd]; simp [hd]
theorem zeros_iff (l : List Nat) : nv 0 l = 0 ↔ ∀ d ∈ l, d = 0 := by
  induction l with
  | nil => simp [nv_nil]
  | cons d r ih =>
    rw [nv_cons, nv_mul]
    have h : 1 ≤ 10 ^ r.length := Nat.one_le_pow _ _ (by omega)
    constructor
    · intro he
      have h1 : (10 * 0 + d) * 10 ^ r.length = 0 := by omega
      have h2 : d = 0 := by
        rcases Nat.mul_eq_zero.1 h1 with h3 | h3
        · omega
        · omega
      have h3 := ih.1 (by omega)
      intro e he
      simp only [List.mem_cons] at he
      rcases he with rfl | he
      · exact h2
      · exact h3 e he
    · intro he
      have h2 := he d (by simp)
      have h3 := ih.2 fun e h => he e (by simp [h])
      rw [h2, h3]; simp
/-- Amount behind Over: digits q, dec decimals, rest x -/
theorem amount_tail (dim : Int) (q : List Nat) (dec : Nat) (x : Int) (hd : dec ≤ q.length) (ht : Ten q) (hl : q.length < 1000000000) :
    Ev (fun k => bourneref14_Amount.l1 k (I q) dec dim x 0) (if x = 0 ∧ nv 0 q % 10 ^ dec = 0 ∧ nv 0 q / 10 ^ dec ≤ 1125899906842624 then (((nv 0 q / 10 ^ dec : Nat) : Int), dim, 0) else (0, 0, 7)) := by
  have hq : q = q.take (q.length - dec) ++ (q.drop (q.length - dec)).reverse.reverse ++ [] := by simp
  have hdl : (q.drop (q.length - dec)).length = dec := by simp; omega
  have hv : nv 0 q = nv 0 (q.take (q.length - dec)) * 10 ^ dec + nv 0 (q.drop (q.length - dec)) := by
    conv => lhs; rw [← List.take_append_drop (q.length - dec) q]
    rw [nv_app, hdl]
  have hlt : nv 0 (q.drop (q.length - dec)) < 10 ^ dec := by
    have := nv_lt (q.drop (q.length - dec)) (fun d hd => ht d (List.mem_of_mem_drop hd))
    rwa [hdl] at this
  have hp : 0 < 10 ^ dec := by omega
  have e1 : nv 0 q % 10 ^ dec = nv 0 (q.drop (q.length - dec)) := by rw [hv, Nat.add_comm, Nat.add_mul_mod_self_right, Nat.mod_eq_of_lt hlt]
  have e2 : nv 0 q / 10 ^ dec = nv 0 (q.take (q.length - dec)) := by rw [hv, Nat.add_comm, Nat.add_mul_div_right _ _ hp, Nat.div_eq_of_lt hlt, Nat.zero_add]
  have h1 := amount_l1 dim (if x = 0 ∧ nv 0 q % 10 ^ dec = 0 ∧ nv 0 q / 10 ^ dec ≤ 1125899906842624 then (((nv 0 q / 10 ^ dec : Nat) : Int), dim, 0) else (0, 0, 7))
    (q.take (q.length - dec)) (q.drop (q.length - dec)).reverse [] x (by simp; omega) ?_
  · rw [← hq] at h1
    have e3 : (((q.drop (q.length - dec)).reverse.length + ([] : List Nat).length : Nat) : Int) = (dec : Int) := by rw [List.length_reverse, hdl]; simp
    rw [e3] at h1
    exact h1
  · intro y hy
    have h2 := amount_l2 dim y (q.take (q.length - dec)) [] 0 (fun d hd => ht d (List.mem_of_mem_take hd)) (by omega) (by simp; omega)
    have e4 : fin dim y (nv 0 (q.take (q.length - dec))) = (if x = 0 ∧ nv 0 q % 10 ^ dec = 0 ∧ nv 0 q / 10 ^ dec ≤ 1125899906842624 then (((nv 0 q / 10 ^ dec : Nat) : Int), dim, 0) else (0, 0, 7)) := by
      rw [e1, e2]
      unfold fin
      have hz : (y = 0 ↔ x = 0 ∧ nv 0 (q.drop (q.length - dec)) = 0) := by
        rw [hy, zeros_iff]
        simp
      by_cases hx : x = 0 ∧ nv 0 (q.drop (q.length - dec)) = 0
      · have hy0 := hz.2 hx
        by_cases hb : nv 0 (q.take (q.length - dec)) ≤ 1125899906842624
        · rw [if_pos ⟨hb, hy0⟩, if_pos ⟨hx.1, hx.2, hb⟩]
        · rw [if_neg (fun h => hb h.1), if_neg (fun h => hb h.2.2)]
      · rw [if_neg (fun h => hx (hz.1 h.2)), if_neg (fun h => hx ⟨h.1, h.2.1⟩)]
    rw [← e4]
    exact h2
theorem div_two (V a b : Nat) (ha : 0 < a) : (V % a = 0 ∧ V / a % b = 0) ↔ V % (b * a) = 0 := by
  rw [Nat.mul_comm b a, Nat.mod_mul]
  constructor
  · rintro ⟨h1, h2⟩; rw [h1, h2]; simp
  · intro h
    have h1 : V % a = 0 := by omega
    have h2 : a * (V / a % b) = 0 := by omega
    rcases Nat.mul_eq_zero.1 h2 with h3 | h3
    · omega
    · exact ⟨h1, h3⟩
theorem amount_l0 (dim : Int) (ds : List Nat) (dec den : Nat) (hd0 : 0 < den) (hd : den ≤ 24) (z : Nat) : ∀ (done : Nat), Ten ds → dec ≤ ds.length → ds.length + z < 1000000 → z + done ≤ 9 →
    Ev (fun k => bourneref14_Amount.l0 k (I ds) dec dim ((done + z : Nat) : Int) den (done : Int))
      (if nv 0 ds * 10 ^ z % (10 ^ dec * den) = 0 ∧ nv 0 ds * 10 ^ z / (10 ^ dec * den) ≤ 1125899906842624 then (((nv 0 ds * 10 ^ z / (10 ^ dec * den) : Nat) : Int), dim, 0) else (0, 0, 7)) := by
  induction z generalizing ds with
  | zero =>
    intro done ht hdec hl _
    refine Ev.step (f := fun k => (bourneref14_Over.f k (I ds) den).bind fun bt146 => (bourneref14_Amount.l1 k bt146.1 dec dim bt146.2 0)) (fun k => ?_) ?_
    · simp only [bourneref14_Amount.l0]
      rw [if_neg (by omega)]
    · refine Ev.bind (over_f den hd0 (by omega) ds ht (by omega)) ?_
      have h1 := amount_tail dim (ovq den ds 0) dec (ovr den ds 0 : Int) (by rw [ovq_len]; exact hdec) (ovq_ten den ds ht 0 hd0) (by rw [ovq_len]; omega)
      obtain ⟨e1, e2⟩ := ovq_val den hd0 ds
      rw [e1, e2] at h1
      rw [Nat.pow_zero, Nat.mul_one]
      have e3 : nv 0 ds / (10 ^ dec * den) = nv 0 ds / den / 10 ^ dec := by rw [Nat.div_div_eq_div_mul, Nat.mul_comm]
      have e4 : ((((nv 0 ds % den : Nat) : Int) = 0 ∧ nv 0 ds / den % 10 ^ dec = 0 ∧ nv 0 ds / den / 10 ^ dec ≤ 1125899906842624)) = (nv 0 ds % (10 ^ dec * den) = 0 ∧ nv 0 ds / den / 10 ^ dec ≤ 1125899906842624) := by
        have := div_two (nv 0 ds) den (10 ^ dec) hd0
        refine propext ⟨fun ⟨a, b, c⟩ => ⟨this.1 ⟨by omega, b⟩, c⟩, fun ⟨a, b⟩ => ⟨by have := (this.2 a).1; omega, (this.2 a).2, b⟩⟩
      rw [e3]
      simp only [e4] at h1
      rw [e2]
      exact h1
  | succ z ih =>
    intro done ht hdec hl hz
    refine Ev.step (f := fun k => bourneref14_Amount.l0 k (I (ds ++ [0])) dec dim ((done + 1 + z : Nat) : Int) den ((done + 1 : Nat) : Int)) (fun k => ?_) ?_
    · simp only [bourneref14_Amount.l0]
      rw [if_pos (by omega), I_len, if_pos (by omega), wrap_small _ (by omega) (by omega), I_app]
      have e : ((done + (z + 1) : Nat) : Int) = ((done + 1 + z : Nat) : Int) := by omega
      rw [e]
      rfl
    · have := ih (ds ++ [0]) (done + 1) (ht.append (fun d hd => by simp at hd; omega)) (by simp; omega) (by simp; omega) (by omega)
      have e : nv 0 (ds ++ [0]) * 10 ^ z = nv 0 ds * 10 ^ (z + 1) := by
        rw [nv_app, Nat.pow_succ]; simp [nv_cons, nv_nil]
        rw [Nat.mul_assoc, Nat.mul_comm 10]
      rw [e] at this
      exact this

/-! ### Factor -/
def factors : List (List UInt8 × Nat × Nat × Nat × Nat) :=
  [([], 0, 1, 0, 1), ([108], 1, 1, 0, 1), ([109, 51], 1, 1, 3, 1), ([77, 76], 1, 1, 6, 1), ([71, 76], 1, 1, 9, 1),
   ([108, 112, 104], 2, 1, 0, 1), ([108, 112, 115], 2, 36, 2, 1), ([109, 51, 112, 115], 2, 36, 5, 1), ([77, 76, 112, 100], 2, 1, 6, 24),
   ([109, 109], 3, 1, 0, 1), ([99, 109], 3, 1, 1, 1), ([109], 3, 1, 3, 1), ([104], 4, 1, 0, 1), ([100], 4, 24, 0, 1),
   ([109, 50], 5, 1, 0, 1), ([104, 97], 5, 1, 4, 1), ([107, 109, 50], 5, 1, 6, 1), ([112, 101, 114, 109, 105, 108, 108, 101], 6, 1, 0, 1), ([112, 101, 114, 99, 101, 110, 116], 6, 1, 1, 1)]
def factorOf (name : List UInt8) : Option (Nat × Nat × Nat × Nat) := (factors.find? (fun u => u.1 == name)).map (·.2)
theorem factors_ok : ∀ u ∈ factors, u.2.1 ≤ 6 ∧ 1 ≤ u.2.2.1 ∧ u.2.2.1 ≤ 36 ∧ u.2.2.2.1 ≤ 9 ∧ 1 ≤ u.2.2.2.2 ∧ u.2.2.2.2 ≤ 24 := by decide
theorem units_factors : units = factors.map fun u => (u.1, u.2.1, u.2.2.1 * 10 ^ u.2.2.2.1, u.2.2.2.2) := by decide +kernel
theorem unit_factor (name : List UInt8) : unitOf name = (factorOf name).map fun u => (u.1, u.2.1 * 10 ^ u.2.2.1, u.2.2.2) := by
  unfold unitOf factorOf
  rw [units_factors, List.find?_map, Option.map_map, Option.map_map]
  rfl
theorem factorOf_ok (name : List UInt8) (u : Nat × Nat × Nat × Nat) (h : factorOf name = some u) : u.1 ≤ 6 ∧ 1 ≤ u.2.1 ∧ u.2.1 ≤ 36 ∧ u.2.2.1 ≤ 9 ∧ 1 ≤ u.2.2.2 ∧ u.2.2.2 ≤ 24 := by
  unfold factorOf at h
  obtain ⟨v, hv, rfl⟩ := Option.map_eq_some_iff.1 h
  exact factors_ok v (List.mem_of_find?_eq_some hv)
theorem facts_none (l : List UInt8) : (∀ u ∈ factors, l ≠ u.1) → factorOf l = none := fun h => by
    unfold factorOf
    rw [Option.map_eq_none_iff, List.find?_eq_none]
    intro u hu he
    have he2 : u.1 = l := by simpa using he
    exact h u hu he2.symm
theorem factor_f (a : ByteArray) : bourneref14_Factor.f a = match factorOf a.data.toList with
    | none => some (0, 0, 0, 0, false)
    | some (dim, c, z, den) => some ((dim : Int), (c : Int), (z : Int), (den : Int), true) := by
  have ht : a.toList = a.data.toList := Lib.toList_data a
  unfold bourneref14_Factor.f
  rw [ht]
  generalize a.data.toList = l
  by_cases h : ∃ u ∈ factors, l = u.1
  · obtain ⟨u, hu, rfl⟩ := h
    revert u
    decide +kernel
  · have h2 : ∀ u ∈ factors, l ≠ u.1 := fun u hu he => h ⟨u, hu, he⟩
    rw [facts_none l h2]
    simp only [factors, List.forall_mem_cons, List.not_mem_nil] at h2
    obtain ⟨h1, h2, h3, h4, h5, h6, h7, h8, h9, h10, h11, h12, h13, h14, h15, h16, h17, h18, h19, _⟩ := h2
    rw [if_neg h1, if_neg h2, if_neg h3, if_neg h4, if_neg h5, if_neg h6, if_neg h7, if_neg h8, if_neg h9, if_neg h10, if_neg h11, if_neg h12, if_neg h13, if_neg h14, if_neg h15, if_neg h16, if_neg h17, if_neg h18, if_neg h19]

/-! ### Amount -/
theorem amount_f (a0 a1 : ByteArray) (h0 : a0.size < 17592186044416) : Ev (fun k => bourneref14_Amount.f k a0 a1) (amt a0.data.toList a1.data.toList) := by
  refine Ev.bind (split_f a0 h0) ?_
  cases hg : good a0.data.toList with
  | false =>
    rw [split_bad _ hg, amt_bad _ _ hg]
    exact Ev.congr (f := fun _ => some (0, 0, 2)) (fun k => by rw [if_neg (by simp)]) (Ev.now _)
  | true =>
    obtain ⟨h1, h2, h3, h4, h5, h6, h7⟩ := good_spec _ hg
    rw [split_good _ hg, amt_good _ _ hg, unit_factor, factor_f]
    generalize hl : (Lib.cut a0.data.toList [46]).1 = l1 at *
    generalize hm : (Lib.cut a0.data.toList [46]).2.1 = l2 at *
    cases hf : factorOf a1.data.toList with
    | none => exact Ev.congr (f := fun _ => some (0, 0, 6)) (fun k => by simp) (Ev.now _)
    | some u =>
      obtain ⟨dim, c, z, den⟩ := u
      obtain ⟨g1, g2, g3, g4, g5, g6⟩ := factorOf_ok _ _ hf
      simp only at g1 g2 g3 g4 g5 g6
      have hall : (l1 ++ l2).all isDig = true := by rw [List.all_append, h1, h2]; rfl
      have ht := dg10_ten _ hall
      have hlen : (dg10 (l1 ++ l2)).length = l1.length + l2.length := by simp [dg10]
      have hv : nv 0 (dg10 (l1 ++ l2)) = val l1 * 10 ^ l2.length + val l2 := by rw [nv_dg10, ← val_append]; rfl
      have hmv : nv 0 (mulD c (dg10 (l1 ++ l2))) = (val l1 * 10 ^ l2.length + val l2) * c := by
        rw [mulD_val, hv]
        have h8 := nv_lt _ ht
        have h9 : nv 0 (dg10 (l1 ++ l2)) * c ≤ nv 0 (dg10 (l1 ++ l2)) * 36 := Nat.mul_le_mul_left _ g3
        rw [Nat.pow_succ, Nat.pow_succ]
        omega
      refine Ev.congr (f := fun k => (bourneref14_Times.f k (I (dg10 (l1 ++ l2))) c).bind fun t140 => (bourneref14_Amount.l0 k t140 l2.length dim z den 0)) (fun k => by simp) ?_
      refine Ev.bind (times_f c (by omega) _ ht (by omega)) ?_
      have := amount_l0 (dim : Int) (mulD c (dg10 (l1 ++ l2))) l2.length den (by omega) (by omega) z 0 (mulD_ten _ _) (by rw [mulD_len]; omega) (by rw [mulD_len]; omega) (by omega)
      rw [hmv] at this
      simp only [Option.map_some]
      unfold amtOf
      rw [Nat.mul_assoc, Nat.zero_add] at this
      exact this
end Go.Proofs.YtahjkibjcibpgaaDoor.U
