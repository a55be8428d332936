/- unit.Amount, walked. -/
import Derived.Test.YtahjkibjcibpgaaDoorUnWalkC
namespace Go.Proofs.YtahjkibjcibpgaaDoor.U
open Go.RowKit Go.Shelf Go.Proofs.YtahjkibjcibpgaaDoorW.PrintWords

/-- row k of the units' table, as a value -/
def unitVal (k : Nat) : Value := .agg #[.string ⟨(units.getD k ([], 0, 0, 0)).1.toArray⟩, .int .i64 ((units.getD k ([], 0, 0, 0)).2.1 : Nat), .int .u64 ((units.getD k ([], 0, 0, 0)).2.2.1 : Nat), .int .u64 ((units.getD k ([], 0, 0, 0)).2.2.2 : Nat)]

set_option maxRecDepth 100000 in
theorem index_units (k : Nat) (h : k < 19) : ∀ w, (Instr.index 50 (.agg unitCells) (.int .i64 (k : Int))).run Tryd.prog w = .ok (unitVal k) w := by
  have hk : k = 0 ∨ k = 1 ∨ k = 2 ∨ k = 3 ∨ k = 4 ∨ k = 5 ∨ k = 6 ∨ k = 7 ∨ k = 8 ∨ k = 9 ∨ k = 10 ∨ k = 11 ∨ k = 12 ∨ k = 13 ∨ k = 14 ∨ k = 15 ∨ k = 16 ∨ k = 17 ∨ k = 18 := by omega
  rcases hk with rfl | rfl | rfl | rfl | rfl | rfl | rfl | rfl | rfl | rfl | rfl | rfl | rfl | rfl | rfl | rfl | rfl | rfl | rfl <;> exact fun _ => by kernel_rfl

theorem find_at (l : List (List UInt8 × Nat × Nat × Nat)) (name : List UInt8) (k : Nat) (hk : k < l.length) (hne : ∀ j, j < k → (l.getD j ([], 0, 0, 0)).1 ≠ name) (he : (l.getD k ([], 0, 0, 0)).1 = name) :
    (l.find? (fun u => u.1 == name)) = some (l.getD k ([], 0, 0, 0)) := by
  induction l generalizing k with
  | nil => simp at hk
  | cons a r ih =>
    cases k with
    | zero => simp at he ⊢; simp [he]
    | succ k =>
      have h0 := hne 0 (by omega)
      simp at h0
      have := ih k (by simpa using hk) (fun j hj => by simpa using hne (j + 1) (by omega)) (by simpa using he)
      rw [List.find?_cons_of_neg (by simpa using h0), this]
      simp
theorem find_none (l : List (List UInt8 × Nat × Nat × Nat)) (name : List UInt8) (hne : ∀ j, j < l.length → (l.getD j ([], 0, 0, 0)).1 ≠ name) : (l.find? (fun u => u.1 == name)) = none := by
  rw [List.find?_eq_none]
  intro u hu
  obtain ⟨j, hj, rfl⟩ := List.getElem_of_mem hu
  have := hne j hj
  simpa [List.getD, List.getElem?_eq_getElem hj] using this

/-- the result's block of a call of Amount -/
structure Rx (B : Nat) (w wx : World) : Prop where
  res : wx.heap[B]? = some (.cells #[.int .i64 0, .int .i64 0] 23 (0, 0))
  below : Below w.heap.size w wx
theorem Rx.step {B : Nat} {w wx wy : World} (h : Rx B w wx) (hb : Below wx.heap.size wx wy) : Rx B w wy := ⟨blk_below h.res hb, below_step h.below hb⟩
theorem Rx.lt {B : Nat} {w wx : World} (h : Rx B w wx) : B < wx.heap.size := lt_of_heap h.res

set_option maxHeartbeats 4000000 in
set_option maxRecDepth 100000 in
theorem Amount_loop (number name whole fr : ByteArray) (point : Bool) (R0 R1 R2 : Int)
    (hcut : ∀ w, UW w → Calls Tryd.prog 19 #[.string number, .string ⟨#[46]⟩] w fun e w' => e = .returned (.tuple #[.string whole, .string fr, .bool point]) ∧ Below w.heap.size w w')
    (hws : whole.size ≤ 9223372036854775807) (hfs : fr.size ≤ 9223372036854775807) (hw1 : Hid (digsOk whole.data.toList 20 = true)) (hp : Hid (point = true → digsOk fr.data.toList 9 = true)) (hf9 : fr.size ≤ 9) (hfd : Hid (fr.data.toList.all isDig = true))
    (hR : Hid ((R0, R1, R2) = match unitOf name.data.toList with | none => (0, 0, 6) | some (dim, num, den) => amtOf (val whole.data.toList) (val fr.data.toList) fr.data.toList.length dim num den))
    (w : World) (hw : UW w) :
    Calls Tryd.prog 9 #[.string number, .string name] w fun e w' => e = .returned (.tuple #[.agg #[.int .i64 R0, .int .i64 R1], .int .i64 R2]) ∧ Below w.heap.size w w' := by
  have HU := Lib.hid hw
  have HC := Lib.hid hcut
  clear hcut hw
  go_enter Tryd.func9, Tryd.ntmps9
  go_wp2_with fail
  have hrx : Rx w.heap.size w (w.alloc (.cells #[.int .i64 0, .int .i64 0] 23)) := ⟨blk_new _ _, (Below.refl _ _).alloc (Nat.le_refl _) _⟩
  refine (HC.out _ (HU.out.step hrx.below)).mono ?_
  rintro e w1 ⟨rfl, h1⟩
  have hrx1 := hrx.step h1
  clear hrx h1
  go_upto_region 2 with fail
  go_cut [27] (fun a wx => a = .bool false ∧ Rx w.heap.size w wx)
  case first =>
    have hd1 := digits_any whole 20 w1 hws
    rw [hw1.out] at hd1
    cases point with
    | false =>
      go_wp2_with fail
      refine hd1.mono ?_
      rintro e w2 ⟨rfl, h2⟩
      have hrx2 := hrx1.step h2
      clear hrx1 h2 hd1
      go_wp2_with fail
      go_meet
      exact ⟨rfl, hrx2⟩
    | true =>
      have hp2 := Lib.hid (hp.out rfl)
      clear hp
      go_wp2_with fail
      refine hd1.mono ?_
      rintro e w2 ⟨rfl, h2⟩
      have hrx2 := hrx1.step h2
      clear hrx1 h2 hd1
      have hd2 := digits_any fr 9 w2 hfs
      rw [hp2.out] at hd2
      go_wp2_with fail
      refine hd2.mono ?_
      rintro e w3 ⟨rfl, h3⟩
      have hrx3 := hrx2.step h3
      clear hrx2 h3 hd2
      go_wp2_with fail
      go_meet
      exact ⟨rfl, hrx3⟩
  case rest =>
    clear hrx1 hp
    obtain ⟨rfl, hrx⟩ := hcut
    obtain ⟨t0, fr0, hu⟩ := (HU.out.step hrx.below).units
    go_wp2_with (refine wpList_load_row rfl 50 _ rfl 0 rfl t0 _ fr0 _ hu Tryd.underlying50 rfl (by kernel_rfl) ?_)
    clear hu
    go_loopw [30] (fun n wr => ∃ k : Nat, k ≤ 19 ∧ n = .int .i64 k ∧ Hid (∀ j, j < k → (units.getD j ([], 0, 0, 0)).1 ≠ name.data.toList) ∧ Rx w.heap.size w wr) (fun n _ => 19 - (Go.RowKit.intOf n).toNat)
    case atStart => exact ⟨0, by omega, rfl, Lib.hid (fun j h => absurd h (Nat.not_lt_zero _)), hrx⟩
    case round =>
      clear hrx
      obtain ⟨k, hk, rfl, hne, hrx⟩ := hrel
      by_cases hlt : k < 19
      · have hi := index_units k hlt wr
        have hu := unit_ok (units.getD k ([], 0, 0, 0)) (by rw [List.getD, List.getElem?_eq_getElem (show k < units.length from hlt)]; exact List.getElem_mem _)
        unfold unitVal at hi
        obtain ⟨u, hud⟩ : ∃ u, u = units.getD k ([], 0, 0, 0) := ⟨_, rfl⟩
        rw [← hud] at hi hu
        obtain ⟨nm, dim, num, den⟩ := u
        simp only at hi hu
        have HD := Lib.hid hud
        clear hud
        obtain ⟨u1, u2, u3, u4, u5⟩ := hu
        by_cases he : nm = name.data.toList
        · have he1 : (nm == name.toList) = true := by rw [Lib.toList_data, he]; exact beq_self_eq_true _
          have hf := find_at units name.data.toList k hlt hne.out (by rw [← HD.out]; exact he)
          rw [← HD.out] at hf
          have hR2 := hR.out
          rw [show unitOf name.data.toList = some (dim, num, den) by unfold unitOf; rw [hf]; rfl] at hR2
          simp only at hR2
          have ham := fun w => amount_any ⟨nm.toArray⟩ dim num den u1 u2 u3 u4 whole fr hw1.out hfd.out hf9 w
          rw [← hR2] at ham
          simp only at ham
          have HA := Lib.hid ham
          clear ham hR2 hf he
          go_wp2_with fail
          refine (HA.out _ (HU.out.step (hrx.step ((Below.refl _ _).alloc (Nat.le_refl _) _)).below)).mono ?_
          rintro e w5 ⟨rfl, h5⟩
          have hrx5 := (hrx.step ((Below.refl _ _).alloc (Nat.le_refl _) (.cells #[.string ⟨nm.toArray⟩, .int .i64 (dim : Int), .int .u64 (num : Int), .int .u64 (den : Int)] 49))).step h5
          have r0 : w5.cell? ⟨w.heap.size, 0, none⟩ = some (.int .i64 0) := blk_cell hrx5.res 0
          have r1 : w5.cell? ⟨w.heap.size, 1, none⟩ = some (.int .i64 0) := blk_cell hrx5.res 1
          have z0 : w5.frozen? ⟨w.heap.size, 0, none⟩ = false := blk_frozen hrx5.res 0
          have z1 : w5.frozen? ⟨w.heap.size, 1, none⟩ = false := blk_frozen hrx5.res 1
          clear h5 hi he1
          go_wp2_with fail
          refine bodyPost_ret (results_ct rfl _ _ w.heap.size 23 #[.int .i64 R0, .int .i64 R1] (0, 0) _ rfl (blk_put (cs := #[.int .i64 R0, .int .i64 0]) (blk_put (cs := #[.int .i64 0, .int .i64 0]) hrx5.res 0 _ rfl) 1 _ rfl) Tryd.underlying23 rfl (by kernel_rfl)) rfl ?_
          exact ⟨rfl, below_set (below_set hrx5.below (by omega)) (by omega)⟩
        · have he1 : (nm == name.toList) = false := by rw [Lib.toList_data]; exact beq_eq_false_iff_ne.2 he
          have hne2 : Hid (∀ j, j < k + 1 → (units.getD j ([], 0, 0, 0)).1 ≠ name.data.toList) := Lib.hid (fun j hj => by
            by_cases h : j = k
            · subst h; rw [← HD.out]; exact he
            · exact hne.out j (by omega))
          go_wp2_with fail
          go_roundw
          case rel => exact ⟨k + 1, hlt, by go_num, hne2, hrx.step ((Below.refl _ _).alloc (Nat.le_refl _) _)⟩
          case measure => simp [Go.RowKit.intOf]; omega
      · obtain rfl : k = 19 := by omega
        have hR2 := hR.out
        rw [show unitOf name.data.toList = none by unfold unitOf; rw [find_none units name.data.toList hne.out]; rfl] at hR2
        simp only [Prod.mk.injEq] at hR2
        obtain ⟨rfl, rfl, rfl⟩ := hR2
        have r0 : wr.cell? ⟨w.heap.size, 0, none⟩ = some (.int .i64 0) := blk_cell hrx.res 0
        have r1 : wr.cell? ⟨w.heap.size, 1, none⟩ = some (.int .i64 0) := blk_cell hrx.res 1
        have z0 : wr.frozen? ⟨w.heap.size, 0, none⟩ = false := blk_frozen hrx.res 0
        have z1 : wr.frozen? ⟨w.heap.size, 1, none⟩ = false := blk_frozen hrx.res 1
        go_wp2_with fail
        refine bodyPost_ret (results_ct rfl _ _ w.heap.size 23 #[.int .i64 0, .int .i64 0] (0, 0) _ rfl (blk_put (cs := #[.int .i64 0, .int .i64 0]) (blk_put (cs := #[.int .i64 0, .int .i64 0]) hrx.res 0 _ rfl) 1 _ rfl) Tryd.underlying23 rfl (by kernel_rfl)) rfl ?_
        exact ⟨rfl, below_set (below_set hrx.below (by omega)) (by omega)⟩

set_option maxHeartbeats 4000000 in
set_option maxRecDepth 100000 in
theorem Amount_form (number name whole fr : ByteArray) (point : Bool)
    (hcut : ∀ w, UW w → Calls Tryd.prog 19 #[.string number, .string ⟨#[46]⟩] w fun e w' => e = .returned (.tuple #[.string whole, .string fr, .bool point]) ∧ Below w.heap.size w w')
    (hws : whole.size ≤ 9223372036854775807) (hfs : fr.size ≤ 9223372036854775807) (hbad : Hid (digsOk whole.data.toList 20 = false ∨ digsOk whole.data.toList 20 = true ∧ point = true ∧ digsOk fr.data.toList 9 = false))
    (w : World) (hw : UW w) :
    Calls Tryd.prog 9 #[.string number, .string name] w fun e w' => e = .returned (.tuple #[.agg #[.int .i64 0, .int .i64 0], .int .i64 2]) ∧ Below w.heap.size w w' := by
  have HU := Lib.hid hw
  have HC := Lib.hid hcut
  clear hcut hw
  go_enter Tryd.func9, Tryd.ntmps9
  go_wp2_with fail
  have hrx : Rx w.heap.size w (w.alloc (.cells #[.int .i64 0, .int .i64 0] 23)) := ⟨blk_new _ _, (Below.refl _ _).alloc (Nat.le_refl _) _⟩
  refine (HC.out _ (HU.out.step hrx.below)).mono ?_
  rintro e w1 ⟨rfl, h1⟩
  have hrx1 := hrx.step h1
  clear hrx h1
  go_upto_region 2 with fail
  go_cut [27] (fun a wx => a = .bool true ∧ Rx w.heap.size w wx)
  case first =>
    have hd1 := digits_any whole 20 w1 hws
    rcases hbad.out with hb | ⟨hb, hpt, hb2⟩
    · rw [hb] at hd1
      clear hb
      go_wp2_with fail
      refine hd1.mono ?_
      rintro e w2 ⟨rfl, h2⟩
      have hrx2 := hrx1.step h2
      clear hrx1 h2 hd1
      go_wp2_with fail
      all_goals (go_meet; exact ⟨rfl, hrx2⟩)
    · rw [hb] at hd1
      subst hpt
      have hb3 := Lib.hid hb2
      clear hb hb2
      go_wp2_with fail
      refine hd1.mono ?_
      rintro e w2 ⟨rfl, h2⟩
      have hrx2 := hrx1.step h2
      clear hrx1 h2 hd1
      have hd2 := digits_any fr 9 w2 hfs
      rw [hb3.out] at hd2
      go_wp2_with fail
      refine hd2.mono ?_
      rintro e w3 ⟨rfl, h3⟩
      have hrx3 := hrx2.step h3
      clear hrx2 h3 hd2
      go_wp2_with fail
      go_meet
      exact ⟨rfl, hrx3⟩
  case rest =>
    clear hrx1
    obtain ⟨rfl, hrx⟩ := hcut
    have r0 : wc.cell? ⟨w.heap.size, 0, none⟩ = some (.int .i64 0) := blk_cell hrx.res 0
    have r1 : wc.cell? ⟨w.heap.size, 1, none⟩ = some (.int .i64 0) := blk_cell hrx.res 1
    have z0 : wc.frozen? ⟨w.heap.size, 0, none⟩ = false := blk_frozen hrx.res 0
    have z1 : wc.frozen? ⟨w.heap.size, 1, none⟩ = false := blk_frozen hrx.res 1
    go_wp2_with fail
    refine bodyPost_ret (results_ct rfl _ _ w.heap.size 23 #[.int .i64 0, .int .i64 0] (0, 0) _ rfl (blk_put (cs := #[.int .i64 0, .int .i64 0]) (blk_put (cs := #[.int .i64 0, .int .i64 0]) hrx.res 0 _ rfl) 1 _ rfl) Tryd.underlying23 rfl (by kernel_rfl)) rfl ?_
    exact ⟨rfl, below_set (below_set hrx.below (by omega)) (by omega)⟩

theorem cut_le (s sep : List UInt8) : (Lib.cut s sep).1.length ≤ s.length ∧ (Lib.cut s sep).2.1.length ≤ s.length ∧ ((Lib.cut s sep).2.2 = false → (Lib.cut s sep).2.1 = []) := by
  unfold Lib.cut
  split
  · exact ⟨by simp [List.length_take]; omega, by simp, by simp⟩
  · exact ⟨Nat.le_refl _, by simp, fun _ => rfl⟩

/-- unit.Amount -/
theorem Amount_any (number name : ByteArray) (hn : number.size < 4294967281) (w : World) (hw : UW w) :
    Calls Tryd.prog 9 #[.string number, .string name] w fun e w' =>
      e = .returned (.tuple #[.agg #[.int .i64 (amt number.data.toList name.data.toList).1, .int .i64 (amt number.data.toList name.data.toList).2.1], .int .i64 (amt number.data.toList name.data.toList).2.2]) ∧ Below w.heap.size w w' := by
  obtain ⟨l1, l2, l3⟩ := cut_le number.data.toList [46]
  have hz : number.size = number.data.toList.length := Lib.size_eq number
  have hc : ∀ w, UW w → Calls Tryd.prog 19 #[.string number, .string ⟨#[46]⟩] w fun e w' => e = .returned (.tuple #[.string ⟨(Lib.cut number.data.toList [46]).1.toArray⟩, .string ⟨(Lib.cut number.data.toList [46]).2.1.toArray⟩, .bool (Lib.cut number.data.toList [46]).2.2]) ∧ Below w.heap.size w w' := by
    intro w hw
    obtain ⟨m, hm⟩ := hw.most
    refine (Tryd.strings_Cut number ⟨#[46]⟩ m w hn hm).mono ?_
    rintro e w' ⟨he, n, rfl⟩
    exact ⟨he, below_drewN (Below.refl _ _) n⟩
  unfold amt
  simp only
  generalize Lib.cut number.data.toList [46] = c at *
  obtain ⟨wl, fl, pt⟩ := c
  simp only at *
  have s1 : (⟨wl.toArray⟩ : ByteArray).size = wl.length := rfl
  have s2 : (⟨fl.toArray⟩ : ByteArray).size = fl.length := rfl
  by_cases h1 : digsOk wl 20 = true
  · by_cases h2 : (pt && !digsOk fl 9) = true
    · rw [h1, h2]
      simp only [Bool.and_eq_true, Bool.not_eq_true'] at h2
      exact Amount_form number name ⟨wl.toArray⟩ ⟨fl.toArray⟩ pt hc (by omega) (by omega) (Lib.hid (Or.inr ⟨h1, h2.1, h2.2⟩)) w hw
    · have h3 : (pt && !digsOk fl 9) = false := by simpa using h2
      rw [h1, h3]
      have h4 : pt = true → digsOk fl 9 = true := by
        intro hp; rw [hp] at h3; simpa using h3
      have h5 : fl.all isDig = true ∧ fl.length ≤ 9 := by
        cases pt with
        | false => rw [l3 rfl]; exact ⟨rfl, by simp⟩
        | true =>
          have := h4 rfl
          simp only [digsOk, Bool.and_eq_true, decide_eq_true_eq] at this
          exact ⟨this.2, by omega⟩
      have := Amount_loop number name ⟨wl.toArray⟩ ⟨fl.toArray⟩ pt _ _ _ hc (by omega) (by omega) (Lib.hid h1) (Lib.hid h4) (by omega) (Lib.hid h5.1) (Lib.hid rfl) w hw
      simp only [Bool.not_true, Bool.or_false, Bool.false_eq_true, if_false]
      exact this
  · have h1' : digsOk wl 20 = false := by simpa using h1
    rw [h1']
    exact Amount_form number name ⟨wl.toArray⟩ ⟨fl.toArray⟩ pt hc (by omega) (by omega) (Lib.hid (Or.inl h1')) w hw
end Go.Proofs.YtahjkibjcibpgaaDoor.U
