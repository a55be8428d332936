/- (unit.measure).amount, walked. -/
import Derived.Test.YtahjkibjcibpgaaDoorUnWalkB
import Derived.Test.YtahjkibjcibpgaaDoorWWords
import Derived.LoopTactic
import Derived.Outline
import Derived.Laws.RangeAny
namespace Go.Proofs.YtahjkibjcibpgaaDoor.U
open Go.RowKit Go.Shelf Go.Proofs.YtahjkibjcibpgaaDoorW.PrintWords

theorem decode_dig (s : ByteArray) (hd : s.data.toList.all isDig = true) (pos : Nat) (h : pos < s.size) : (Utf8.decode s pos).2 = 1 := by
  have hz : s.size = s.data.toList.length := Lib.size_eq s
  have hm : (s[pos]'h) ∈ s.data.toList := by
    have : (s[pos]'h) = s.data.toList[pos]'(by omega) := rfl
    rw [this]; exact List.getElem_mem _
  have := dig_lt (List.all_eq_true.1 hd _ hm)
  rw [decode_ascii s pos h (by omega)]

/-- the blocks of a call of amount: the unit, the result -/
structure Bx (B : Nat) (name : ByteArray) (dim num den : Nat) (r0 r1 : Int) (w wx : World) : Prop where
  unit : wx.heap[B]? = some (.cells #[.string name, .int .i64 dim, .int .u64 num, .int .u64 den] 49 (0, 0))
  res : wx.heap[B + 1]? = some (.cells #[.int .i64 r0, .int .i64 r1] 23 (0, 0))
  below : Below w.heap.size w wx

theorem Bx.step {B : Nat} {name : ByteArray} {dim num den : Nat} {r0 r1 : Int} {w wx wy : World} (h : Bx B name dim num den r0 r1 w wx) (hb : Below wx.heap.size wx wy) : Bx B name dim num den r0 r1 w wy :=
  ⟨blk_below h.unit hb, blk_below h.res hb, below_step h.below hb⟩
theorem Bx.lt {B : Nat} {name : ByteArray} {dim num den : Nat} {r0 r1 : Int} {w wx : World} (h : Bx B name dim num den r0 r1 w wx) : B + 1 < wx.heap.size := lt_of_heap h.res

/-- what a call of amount is told beside its arguments -/
structure Told (W P F num den hi1 lo1 lo2 c hi2 t1 t0 y q rest : Nat) : Prop where
  mul : ∀ w, Calls Tryd.prog 28 #[.int .u64 (W : Int), .int .u64 (P : Int)] w fun e w' => e = .returned (.tuple #[.int .u64 (hi1 : Int), .int .u64 (lo1 : Int)]) ∧ w' = w
  add : ∀ w, (callFunc 29 #[.int .u64 (lo1 : Int), .int .u64 (F : Int), .int .u64 0]).run Tryd.prog w = .ok (.value (.tuple #[.int .u64 (lo2 : Int), .int .u64 (c : Int)])) w
  high : IntKind.u64.wrap ((hi1 : Int) + (c : Int)) = (hi2 : Int)
  scaled : ∀ w, Calls Tryd.prog 30 #[.int .u64 (hi2 : Int), .int .u64 (lo2 : Int), .int .u64 (num : Int)] w fun e w' => e = .returned (.tuple #[.agg #[.int .u64 (t1 : Int), .int .u64 (t0 : Int)], .bool false]) ∧ Below w.heap.size w w'
  scale : IntKind.u64.wrap ((P : Int) * (den : Int)) = (y : Int)
  div : t1 < y → ∀ w, Calls Tryd.prog 31 #[.int .u64 (t1 : Int), .int .u64 (t0 : Int), .int .u64 (y : Int)] w fun e w' => e = .returned (.tuple #[.int .u64 (q : Int), .int .u64 (rest : Int)]) ∧ Below w.heap.size w w'

set_option maxHeartbeats 4000000 in
set_option maxRecDepth 100000 in
theorem amount_core (name : ByteArray) (dim num den P F W hi1 lo1 lo2 c hi2 t1 t0 y q rest : Nat) (R0 R1 R2 : Int) (hR : Hid ((R0, R1, R2) = if y ≤ t1 ∨ rest ≠ 0 ∨ 1125899906842624 < q then ((0, 0, 7) : Int × Int × Int) else ((q : Int), (dim : Int), 0)))
    (whole fr : ByteArray) (hfd : Hid (fr.data.toList.all isDig = true)) (hfs : fr.size ≤ 9) (hP : Hid (P = 10 ^ fr.size)) (hF : Hid (F = val fr.data.toList)) (hcF : Hid (cap F = F))
    (hwh : whole.size ≤ 281474976710656) (hwn : whole.data.toList ≠ []) (hwd : Hid (whole.data.toList.all isDig = true)) (hW : Hid (W = cap (val whole.data.toList))) (T : Told W P F num den hi1 lo1 lo2 c hi2 t1 t0 y q rest) (w : World) (hw : UW w) :
    Calls Tryd.prog 21 #[.agg #[.string name, .int .i64 dim, .int .u64 num, .int .u64 den], .string whole, .string fr] w fun e w' => e = .returned (.tuple #[.agg #[.int .i64 R0, .int .i64 R1], .int .i64 R2]) ∧ Below w.heap.size w w' := by
  go_enter Tryd.func21, Tryd.ntmps21
  go_upto_block 0 with fail
  go_cut [8] (fun a wx => a = .int .u64 P ∧ Bx w.heap.size name dim num den 0 0 w wx)
  case first =>
    obtain ⟨W1, hW1⟩ : ∃ W1 : World, W1 = ((w.alloc (Obj.cells #[Value.string name, Value.int IntKind.i64 ↑dim, Value.int IntKind.u64 ↑num, Value.int IntKind.u64 ↑den] 49)).alloc (Obj.cells #[Value.int IntKind.i64 0, Value.int IntKind.i64 0] 23)) := ⟨_, rfl⟩
    have HZ := Lib.hid (show W1.heap.size = w.heap.size + 1 + 1 by rw [hW1]; simp)
    rw [← hW1]
    have hbx : ∀ pos, Bx w.heap.size name dim num den 0 0 w (W1.iter fr pos) := by
      intro pos
      rw [hW1]
      refine ⟨blk_alloc (blk_alloc (blk_new _ _) _) _, ?_, (((Below.refl _ _).alloc (Nat.le_refl _) _).alloc (by simp) _).alloc (by simp; omega) _⟩
      refine blk_alloc ?_ _
      have := blk_new (w.alloc (Obj.cells #[Value.string name, Value.int IntKind.i64 ↑dim, Value.int IntKind.u64 ↑num, Value.int IntKind.u64 ↑den] 49)) (Obj.cells #[Value.int IntKind.i64 0, Value.int IntKind.i64 0] 23)
      simpa using this
    have HB := Lib.hid hbx
    clear hbx hW1
    go_wp2_with fail
    go_loopw [8] (fun n wr => ∃ pos p : Nat, pos ≤ fr.size ∧ wr = W1.iter fr pos ∧ n = .int .u64 p ∧ Hid (p = 10 ^ pos)) (fun _ wr => fr.size - wr.iterPos (w.heap.size + 1 + 1))
    case atStart => exact ⟨0, 1, Nat.zero_le _, rfl, rfl, Lib.hid rfl⟩
    case round =>
      obtain ⟨pos, p, hp, rfl, rfl, hpp⟩ := hrel
      by_cases hlt : pos < fr.size
      · have hnx := fun ty => run_next_any (P := Tryd.prog) W1 fr pos ty hlt
        rw [decode_dig fr hfd.out pos hlt, HZ.out] at hnx
        have hp2 : p ≤ 100000000 := by
          rw [hpp.out]
          exact Nat.le_trans (Nat.pow_le_pow_right (by omega) (show pos ≤ 8 by omega)) (by decide)
        go_wp2
        go_roundw
        case rel => exact ⟨pos + 1, p * 10, hlt, rfl, by go_num, Lib.hid (by rw [hpp.out, Nat.pow_succ])⟩
        case measure =>
          have q1 := World.iterPos_iter W1 fr pos
          have q2 := World.iterPos_iter W1 fr (pos + 1)
          rw [HZ.out] at q1 q2
          rw [q1, q2]; omega
      · have hnx := fun ty => run_next_end (P := Tryd.prog) W1 fr pos ty hlt
        rw [HZ.out] at hnx
        obtain rfl : p = P := by rw [hpp.out, hP.out, show pos = fr.size by omega]
        go_wp2
        go_meet
        exact ⟨rfl, HB.out _⟩
  case rest =>
    obtain ⟨rfl, hbx⟩ := hcut
    go_upto_if 24 with (fail)
    go_cut [9] (fun a wx => a = .int .u64 F ∧ Bx w.heap.size name dim num den 0 0 w wx)
    case first =>
      by_cases he : fr.data.toList = []
      · have he1 : fr.toList.isEmpty = true := by rw [Lib.toList_data, he]; rfl
        have he2 : (!fr.toList.isEmpty) = false := by rw [he1]; rfl
        obtain rfl : F = 0 := by rw [hF.out, he]; rfl
        rw [he2]
        clear he he1 he2
        go_wp2_with fail
        go_meet
        exact ⟨rfl, hbx⟩
      · have he1 : fr.toList.isEmpty = false := by rw [Lib.toList_data]; cases h : fr.data.toList with | nil => exact absurd h he | cons _ _ => rfl
        have hv := value_any fr (by omega) he hfd.out wc (hw.step hbx.below)
        rw [← hF.out, hcF.out] at hv
        have he2 : (!fr.toList.isEmpty) = true := by rw [he1]; rfl
        rw [he2]
        clear he he1 he2
        go_wp2_with fail
        refine hv.mono ?_
        rintro e w' ⟨rfl, hB⟩
        go_wp2_with fail
        go_meet
        exact ⟨rfl, hbx.step hB⟩
    case rest =>
      clear hbx
      obtain ⟨rfl, hbx⟩ := hcut
      rename_i wd _ _ _
      have hv := value_any whole hwh hwn hwd.out _ (hw.step hbx.below)
      rw [← hW.out] at hv
      go_wp2_with fail
      refine hv.mono ?_
      rintro e w2 ⟨rfl, hB⟩
      have hbx2 := hbx.step hB
      clear hbx hB hv
      have ha := T.add
      have hs := T.high
      have hc2 := blk_cell hbx2.unit 2
      have hc2' : w2.cell? ⟨w.heap.size, 2, none⟩ = some (.int .u64 (num : Int)) := hc2
      clear hc2
      go_wp2_with fail
      refine (T.mul _).mono ?_
      rintro e w3 ⟨rfl, h3⟩
      rw [h3]
      go_wp2_with fail
      refine (T.scaled _).mono ?_
      rintro e w4 ⟨rfl, h4⟩
      have hbx4 := hbx2.step h4
      clear hbx2 hc2' h3 h4 ha hs
      have l4 := hbx4.lt
      have hbx5 : Bx w.heap.size name dim num den 0 0 w (w4.alloc (.cells #[.int .u64 (t1 : Int), .int .u64 (t0 : Int)] 62)) := hbx4.step ((Below.refl _ _).alloc (Nat.le_refl _) _)
      have hwd5 := blk_new w4 (.cells #[.int .u64 (t1 : Int), .int .u64 (t0 : Int)] 62)
      go_upto_region 11 with fail
      generalize w4.alloc (.cells #[.int .u64 (t1 : Int), .int .u64 (t0 : Int)] 62) = w5 at hbx5 hwd5 ⊢
      generalize w4.heap.size = B5 at hwd5 ⊢
      clear hbx4 l4
      have d0 : w5.cell? ⟨B5, 0, none⟩ = some (.int .u64 (t1 : Int)) := blk_cell hwd5 0
      have d1 : w5.cell? ⟨B5, 1, none⟩ = some (.int .u64 (t0 : Int)) := blk_cell hwd5 1
      have c3 : w5.cell? ⟨w.heap.size, 3, none⟩ = some (.int .u64 (den : Int)) := blk_cell hbx5.unit 3
      have r0 : w5.cell? ⟨w.heap.size + 1, 0, none⟩ = some (.int .i64 0) := blk_cell hbx5.res 0
      have r1 : w5.cell? ⟨w.heap.size + 1, 1, none⟩ = some (.int .i64 0) := blk_cell hbx5.res 1
      have z0 : w5.frozen? ⟨w.heap.size + 1, 0, none⟩ = false := blk_frozen hbx5.res 0
      have z1 : w5.frozen? ⟨w.heap.size + 1, 1, none⟩ = false := blk_frozen hbx5.res 1
      have hsc := T.scale
      by_cases hA : y ≤ t1
      · have hA1 : decide ((y : Int) ≤ (t1 : Int)) = true := decide_eq_true (by omega)
        have hR2 := hR.out
        rw [if_pos (Or.inl hA)] at hR2
        simp only [Prod.mk.injEq] at hR2
        obtain ⟨rfl, rfl, rfl⟩ := hR2
        go_wp2_with fail
        refine bodyPost_ret (results_ct rfl _ _ (w.heap.size + 1) 23 #[.int .i64 0, .int .i64 0] (0, 0) _ rfl (blk_put (cs := #[.int .i64 0, .int .i64 0]) (blk_put (cs := #[.int .i64 0, .int .i64 0]) hbx5.res 0 _ rfl) 1 _ rfl) Tryd.underlying23 rfl (by kernel_rfl)) rfl ?_
        exact ⟨rfl, below_set (below_set hbx5.below (by omega)) (by omega)⟩
      · have hA1 : decide ((y : Int) ≤ (t1 : Int)) = false := decide_eq_false (by omega)
        have hdv := T.div (by omega) w5
        clear hA1
        go_wp2_with fail
        refine hdv.mono ?_
        rintro e w6 ⟨rfl, h6⟩
        have hbx6 := hbx5.step h6
        clear d0 d1 c3 r0 r1 z0 z1 hdv h6 hbx5 hwd5 hsc
        have c1 : w6.cell? ⟨w.heap.size, 1, none⟩ = some (.int .i64 (dim : Int)) := blk_cell hbx6.unit 1
        have r0 : w6.cell? ⟨w.heap.size + 1, 0, none⟩ = some (.int .i64 0) := blk_cell hbx6.res 0
        have r1 : w6.cell? ⟨w.heap.size + 1, 1, none⟩ = some (.int .i64 0) := blk_cell hbx6.res 1
        have z0 : w6.frozen? ⟨w.heap.size + 1, 0, none⟩ = false := blk_frozen hbx6.res 0
        have z1 : w6.frozen? ⟨w.heap.size + 1, 1, none⟩ = false := blk_frozen hbx6.res 1
        have hR2 := hR.out
        by_cases hB : rest = 0
        · subst hB
          by_cases hC : 1125899906842624 < q
          · rw [if_pos (Or.inr (Or.inr hC))] at hR2
            simp only [Prod.mk.injEq] at hR2
            obtain ⟨rfl, rfl, rfl⟩ := hR2
            have hC1 : decide ((1125899906842624 : Int) < (q : Int)) = true := decide_eq_true (by omega)
            clear hC
            go_wp2_with fail
            refine bodyPost_ret (results_ct rfl _ _ (w.heap.size + 1) 23 #[.int .i64 0, .int .i64 0] (0, 0) _ rfl (blk_put (cs := #[.int .i64 0, .int .i64 0]) (blk_put (cs := #[.int .i64 0, .int .i64 0]) hbx6.res 0 _ rfl) 1 _ rfl) Tryd.underlying23 rfl (by kernel_rfl)) rfl ?_
            exact ⟨rfl, below_set (below_set hbx6.below (by omega)) (by omega)⟩
          · rw [if_neg (by omega)] at hR2
            simp only [Prod.mk.injEq] at hR2
            obtain ⟨rfl, rfl, rfl⟩ := hR2
            have hC1 : decide ((1125899906842624 : Int) < (q : Int)) = false := decide_eq_false (by omega)
            go_wp2_with fail
            refine bodyPost_ret (results_ct rfl _ _ (w.heap.size + 1) 23 #[.int .i64 (q : Int), .int .i64 (dim : Int)] (0, 0) _ rfl (blk_put (cs := #[.int .i64 (q : Int), .int .i64 0]) (blk_put (cs := #[.int .i64 0, .int .i64 0]) hbx6.res 0 _ rfl) 1 _ rfl) Tryd.underlying23 rfl (by kernel_rfl)) rfl ?_
            exact ⟨rfl, below_set (below_set hbx6.below (by omega)) (by omega)⟩
        · have hB1 : ((rest : Int) != 0) = true := by rw [bne_iff_ne]; omega
          have hB2 : ((rest : Int) == 0) = false := beq_eq_false_iff_ne.2 (by omega)
          rw [if_pos (Or.inr (Or.inl hB))] at hR2
          simp only [Prod.mk.injEq] at hR2
          obtain ⟨rfl, rfl, rfl⟩ := hR2
          clear hB
          go_wp2_with fail
          refine bodyPost_ret (results_ct rfl _ _ (w.heap.size + 1) 23 #[.int .i64 0, .int .i64 0] (0, 0) _ rfl (blk_put (cs := #[.int .i64 0, .int .i64 0]) (blk_put (cs := #[.int .i64 0, .int .i64 0]) hbx6.res 0 _ rfl) 1 _ rfl) Tryd.underlying23 rfl (by kernel_rfl)) rfl ?_
          exact ⟨rfl, below_set (below_set hbx6.below (by omega)) (by omega)⟩


theorem told_bounds (W P F num : Nat) (hW : W ≤ 54043195528445952) (hP : P ≤ 1000000000) (hF : F < P) (hn : num ≤ 1000000000) :
    W * P ≤ 54043195528445952000000000 ∧ (W * P + F) * num < 340282366920938463463374607431768211456 := by
  have h1 : W * P ≤ 54043195528445952 * P := Nat.mul_le_mul_right _ hW
  have h2 : W * P ≤ 54043195528445952000000000 := by omega
  have h3 : (W * P + F) * num ≤ (W * P + F) * 1000000000 := Nat.mul_le_mul_left _ hn
  exact ⟨h2, by omega⟩

theorem told (W P F num den : Nat) (hW : W ≤ 54043195528445952) (hP : P ≤ 1000000000) (hF : F < P) (hn : num ≤ 1000000000) (hd2 : den ≤ 24) :
    Told W P F num den (W * P / 18446744073709551616) (W * P % 18446744073709551616) ((W * P + F) % 18446744073709551616) ((W * P % 18446744073709551616 + F) / 18446744073709551616) ((W * P + F) / 18446744073709551616)
      ((W * P + F) * num / 18446744073709551616) ((W * P + F) * num % 18446744073709551616) (P * den) ((W * P + F) * num / (P * den)) ((W * P + F) * num % (P * den)) := by
  obtain ⟨b1, b2⟩ := told_bounds W P F num hW hP hF hn
  have hPd : P * den ≤ P * 24 := Nat.mul_le_mul_left _ hd2
  refine ⟨fun w => Tryd.bits_Mul64 W P (by omega) (by omega) w, ?_, ?_, ?_, ?_, ?_⟩
  · intro w
    have h := add64 (W * P % 18446744073709551616) F 0 (Nat.mod_lt _ (by omega)) (by omega) (by omega) w
    have e1 : (W * P % 18446744073709551616 + F + 0) % 18446744073709551616 = (W * P + F) % 18446744073709551616 := by
      generalize W * P = x at *
      omega
    rw [e1] at h
    exact h
  · have e : W * P / 18446744073709551616 + (W * P % 18446744073709551616 + F) / 18446744073709551616 = (W * P + F) / 18446744073709551616 := by
      generalize W * P = x at *
      omega
    rw [← Int.natCast_add, e]
    exact wrapN _ (by generalize W * P = x at *; omega)
  · intro w
    have e : (W * P + F) / 18446744073709551616 * 18446744073709551616 + (W * P + F) % 18446744073709551616 = W * P + F := Nat.div_add_mod' _ _
    have h := scaled_any ((W * P + F) / 18446744073709551616) ((W * P + F) % 18446744073709551616) num (by generalize W * P = x at *; omega) (Nat.mod_lt _ (by omega)) (by omega) (by rw [e]; exact b2) w
    rw [e] at h
    exact h
  · have h := wrapN (P * den) (by omega)
    rw [Int.natCast_mul] at h
    rw [h, Int.natCast_mul]
  · intro hlt w
    have e : (W * P + F) * num / 18446744073709551616 * 18446744073709551616 + (W * P + F) * num % 18446744073709551616 = (W * P + F) * num := Nat.div_add_mod' _ _
    have h := div_any ((W * P + F) * num / 18446744073709551616) ((W * P + F) * num % 18446744073709551616) (P * den) hlt (Nat.mod_lt _ (by omega)) (by omega) w
    rw [e] at h
    exact h

theorem outcome (W F k dim num den : Nat) (hd : 1 ≤ den) : amtOf W F k dim num den =
    if 10 ^ k * den ≤ (W * 10 ^ k + F) * num / 18446744073709551616 ∨ (W * 10 ^ k + F) * num % (10 ^ k * den) ≠ 0 ∨ 1125899906842624 < (W * 10 ^ k + F) * num / (10 ^ k * den) then ((0, 0, 7) : Int × Int × Int)
    else ((((W * 10 ^ k + F) * num / (10 ^ k * den) : Nat) : Int), (dim : Int), 0) := by
  have hp : 0 < 10 ^ k * den := Nat.mul_pos (Nat.pow_pos (by omega)) (by omega)
  have key : 10 ^ k * den ≤ (W * 10 ^ k + F) * num / 18446744073709551616 → 1125899906842624 < (W * 10 ^ k + F) * num / (10 ^ k * den) := by
    intro h
    have h1 : 10 ^ k * den * 18446744073709551616 ≤ (W * 10 ^ k + F) * num := (Nat.le_div_iff_mul_le (by omega)).1 h
    have h2 : 18446744073709551616 ≤ (W * 10 ^ k + F) * num / (10 ^ k * den) := (Nat.le_div_iff_mul_le hp).2 (by rw [Nat.mul_comm]; exact h1)
    omega
  unfold amtOf
  by_cases h : (W * 10 ^ k + F) * num % (10 ^ k * den) = 0 ∧ (W * 10 ^ k + F) * num / (10 ^ k * den) ≤ 1125899906842624
  · rw [if_pos h, if_neg]
    rintro (h1 | h1 | h1)
    · exact absurd (key h1) (by omega)
    · exact h1 h.1
    · omega
  · rw [if_neg h, if_pos]
    by_cases h1 : (W * 10 ^ k + F) * num % (10 ^ k * den) = 0
    · exact Or.inr (Or.inr (Nat.lt_of_not_le (fun h2 => h ⟨h1, h2⟩)))
    · exact Or.inr (Or.inl h1)

/-- (unit.measure).amount at the parts of a number -/
theorem amount_any (name : ByteArray) (dim num den : Nat) (hn1 : 1 ≤ num) (hn : num ≤ 1000000000) (hd : 1 ≤ den) (hd2 : den ≤ 24) (whole fr : ByteArray)
    (hw1 : digsOk whole.data.toList 20 = true) (hf : fr.data.toList.all isDig = true) (hfs : fr.size ≤ 9) (w : World) (hw : UW w) :
    Calls Tryd.prog 21 #[.agg #[.string name, .int .i64 dim, .int .u64 num, .int .u64 den], .string whole, .string fr] w fun e w' =>
      e = .returned (.tuple #[.agg #[.int .i64 (amtOf (val whole.data.toList) (val fr.data.toList) fr.data.toList.length dim num den).1, .int .i64 (amtOf (val whole.data.toList) (val fr.data.toList) fr.data.toList.length dim num den).2.1],
        .int .i64 (amtOf (val whole.data.toList) (val fr.data.toList) fr.data.toList.length dim num den).2.2]) ∧ Below w.heap.size w w' := by
  simp only [digsOk, Bool.and_eq_true, decide_eq_true_eq] at hw1
  obtain ⟨⟨hwn, hwl⟩, hwd⟩ := hw1
  have hz : whole.size = whole.data.toList.length := Lib.size_eq whole
  have hzf : fr.size = fr.data.toList.length := Lib.size_eq fr
  have hF : val fr.data.toList < 10 ^ fr.size := by rw [hzf]; exact val_lt _ hf
  have hP : 10 ^ fr.size ≤ 1000000000 := Nat.le_trans (Nat.pow_le_pow_right (by omega) hfs) (by decide)
  have T := told (cap (val whole.data.toList)) (10 ^ fr.size) (val fr.data.toList) num den (cap_le _) hP hF hn hd2
  rw [← amtOf_cap _ _ _ dim num den hn1 hd hd2, outcome _ _ _ _ _ _ hd, ← hzf]
  exact amount_core name dim num den _ _ _ _ _ _ _ _ _ _ _ _ _ _ _ _ (Lib.hid rfl) whole fr (Lib.hid hf) hfs (Lib.hid rfl) (Lib.hid rfl) (Lib.hid (by unfold cap; rw [if_pos (by omega)])) (by omega)
    (by intro h; rw [h] at hwn; simp at hwn) (Lib.hid hwd) (Lib.hid rfl) T w hw
end Go.Proofs.YtahjkibjcibpgaaDoor.U
