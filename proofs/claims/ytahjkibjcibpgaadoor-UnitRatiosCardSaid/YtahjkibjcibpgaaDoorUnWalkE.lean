/- unit.Write, walked. -/
import Derived.Test.YtahjkibjcibpgaaDoorUnWalkD
import Derived.Deep.RegionHeld3
import Derived.Lib.AppendIntMem
import Derived.Lib.ItoaLen
namespace Go.Proofs.YtahjkibjcibpgaaDoor.U
open Go.RowKit Go.Shelf Go.Proofs.YtahjkibjcibpgaaDoorW.PrintWords

/-- what unit.Write writes -/
def wrt (N D : Int) : List UInt8 :=
  if N < 0 ∨ 1125899906842624 < N then []
  else match units.find? (fun u => ((u.2.1 : Nat) : Int) == D) with
    | none => []
    | some u => if u.1 = [] then Lib.itoa N else Lib.itoa N ++ (32 :: u.1)

theorem itoa_any (n : Int) (h0 : -9223372036854775808 ≤ n) (h1 : n ≤ 9223372036854775807) (w : World) (hw : UW w) :
    Calls Tryd.prog 24 #[.int .i64 n] w fun e w' => e = .returned (.string ⟨(Lib.itoa n).toArray⟩) ∧ Below w.heap.size w w' := by
  refine (Tryd.strconv_Itoa n h0 h1 w hw.pow).mono ?_
  rintro e w' ⟨he, k, os, rfl⟩
  exact ⟨he, Lib.below_grow _ _ (Nat.le_refl _) k os⟩

theorem find_dim (l : List (List UInt8 × Nat × Nat × Nat)) (D : Int) (k : Nat) (hk : k < l.length) (hne : ∀ j, j < k → (((l.getD j ([], 0, 0, 0)).2.1 : Nat) : Int) ≠ D) (he : (((l.getD k ([], 0, 0, 0)).2.1 : Nat) : Int) = D) :
    (l.find? (fun u => ((u.2.1 : Nat) : Int) == D)) = some (l.getD k ([], 0, 0, 0)) := by
  induction l generalizing k with
  | nil => simp at hk
  | cons a r ih =>
    cases k with
    | zero => simp at he ⊢; simp [he]
    | succ k =>
      have h0 := hne 0 (by omega)
      simp at h0
      have := ih k (by simpa using hk) (fun j hj => by simpa using hne (j + 1) (by omega)) (by simpa using he)
      rw [List.find?_cons_of_neg (by simpa using h0), this]
      simp
theorem find_dim_none (l : List (List UInt8 × Nat × Nat × Nat)) (D : Int) (hne : ∀ j, j < l.length → (((l.getD j ([], 0, 0, 0)).2.1 : Nat) : Int) ≠ D) : (l.find? (fun u => ((u.2.1 : Nat) : Int) == D)) = none := by
  rw [List.find?_eq_none]
  intro u hu
  obtain ⟨j, hj, rfl⟩ := List.getElem_of_mem hu
  have := hne j hj
  simpa [List.getD, List.getElem?_eq_getElem hj] using this

/-- the amount's block of a call of Write -/
structure Ax (B : Nat) (N D : Int) (w wx : World) : Prop where
  arg : wx.heap[B]? = some (.cells #[.int .i64 N, .int .i64 D] 23 (0, 0))
  below : Below w.heap.size w wx
theorem Ax.step {B : Nat} {N D : Int} {w wx wy : World} (h : Ax B N D w wx) (hb : Below wx.heap.size wx wy) : Ax B N D w wy := ⟨blk_below h.arg hb, below_step h.below hb⟩

theorem units_small : ∀ u ∈ units, (⟨u.1.toArray⟩ : ByteArray).size ≤ 100 := by decide
theorem itoa_size (N : Int) (h0 : 0 ≤ N) (h1 : N ≤ 1125899906842624) : (⟨(Lib.itoa N).toArray⟩ : ByteArray).size ≤ 100 := by
  have := Lib.itoa_length_le N (by omega) (by omega)
  rw [Lib.size_mk]
  omega

set_option maxHeartbeats 4000000 in
set_option maxRecDepth 100000 in
theorem Write_loop (N D : Int) (hN0 : 0 ≤ N) (hN : N ≤ 1125899906842624) (R : ByteArray) (hR : Hid (R = ⟨(wrt N D).toArray⟩)) (w : World) (hw : UW w) :
    Calls Tryd.prog 11 #[.agg #[.int .i64 N, .int .i64 D]] w fun e w' => e = .returned (.string R) ∧ Below w.heap.size w w' := by
  have HU := Lib.hid hw
  clear hw
  have n1 : decide (N < 0) = false := decide_eq_false (by omega)
  have n2 : decide (1125899906842624 < N) = false := decide_eq_false (by omega)
  go_enter Tryd.func11, Tryd.ntmps11
  go_upto_region 3 with fail
  have hax : Ax w.heap.size N D w (w.alloc (.cells #[.int .i64 N, .int .i64 D] 23)) := ⟨blk_new _ _, (Below.refl _ _).alloc (Nat.le_refl _) _⟩
  generalize w.alloc (.cells #[.int .i64 N, .int .i64 D] 23) = w1 at hax ⊢
  obtain ⟨t0, fr0, hu⟩ := (HU.out.step hax.below).units
  go_wp2_with (refine wpList_load_row rfl 50 _ rfl 0 rfl t0 _ fr0 _ hu Tryd.underlying50 rfl (by kernel_rfl) ?_)
  clear hu
  go_loopw [14] (fun n wr => ∃ k : Nat, k ≤ 19 ∧ n = .int .i64 k ∧ Hid (∀ j, j < k → (((units.getD j ([], 0, 0, 0)).2.1 : Nat) : Int) ≠ D) ∧ Ax w.heap.size N D w wr) (fun n _ => 19 - (Go.RowKit.intOf n).toNat)
  case atStart => exact ⟨0, by omega, rfl, Lib.hid (fun j h => absurd h (Nat.not_lt_zero _)), hax⟩
  case round =>
    clear hax
    obtain ⟨k, hk, rfl, hne, hax⟩ := hrel
    by_cases hlt : k < 19
    · have hi := index_units k hlt wr
      unfold unitVal at hi
      obtain ⟨u, hud⟩ : ∃ u, u = units.getD k ([], 0, 0, 0) := ⟨_, rfl⟩
      rw [← hud] at hi
      obtain ⟨nm, dim, num, den⟩ := u
      simp only at hi
      have HD := Lib.hid hud
      clear hud
      go_upto_region 6 with fail
      have hax2 : Ax w.heap.size N D w (wr.alloc (.cells #[.string ⟨nm.toArray⟩, .int .i64 (dim : Int), .int .u64 (num : Int), .int .u64 (den : Int)] 49)) := hax.step ((Below.refl _ _).alloc (Nat.le_refl _) _)
      have hub := blk_new wr (.cells #[.string ⟨nm.toArray⟩, .int .i64 (dim : Int), .int .u64 (num : Int), .int .u64 (den : Int)] 49)
      clear hax hi
      generalize wr.alloc (.cells #[.string ⟨nm.toArray⟩, .int .i64 (dim : Int), .int .u64 (num : Int), .int .u64 (den : Int)] 49) = w2 at hax2 hub ⊢
      generalize wr.heap.size = Bu at hub ⊢
      have a0 : w2.cell? ⟨w.heap.size, 0, none⟩ = some (.int .i64 N) := blk_cell hax2.arg 0
      have a1 : w2.cell? ⟨w.heap.size, 1, none⟩ = some (.int .i64 D) := blk_cell hax2.arg 1
      have u0 : w2.cell? ⟨Bu, 0, none⟩ = some (.string ⟨nm.toArray⟩) := blk_cell hub 0
      have u1 : w2.cell? ⟨Bu, 1, none⟩ = some (.int .i64 (dim : Int)) := blk_cell hub 1
      by_cases he : (dim : Int) = D
      · have he1 : ((dim : Int) != D) = false := by rw [he]; simp
        have he2 : ((dim : Int) == D) = true := by rw [he]; simp
        have hf := find_dim units D k hlt hne.out (by rw [← HD.out]; exact he)
        rw [← HD.out] at hf
        have hIt := Lib.hid (itoa_any N (by omega) (by omega) w2 (HU.out.step hax2.below))
        by_cases hnm : nm = []
        · subst hnm
          have hR2 := hR.out
          rw [show wrt N D = Lib.itoa N by unfold wrt; rw [if_neg (by omega), hf]; rfl] at hR2
          clear he hf
          go_wp2_with fail
          refine hIt.out.mono ?_
          rintro e w3 ⟨rfl, h3⟩
          go_wp2_with fail
          go_ret
          exact ⟨by rw [hR2]; rfl, below_step hax2.below h3⟩
        · have hnm1 : nm.isEmpty = false := by cases nm with | nil => exact absurd rfl hnm | cons _ _ => rfl
          have hR2 := hR.out
          rw [show wrt N D = Lib.itoa N ++ (32 :: nm) by unfold wrt; rw [if_neg (by omega), hf]; simp only; rw [if_neg hnm]] at hR2
          clear he hf hnm
          go_upto_region 9 with fail
          have hax3 := hax2.step (Below.refl w2.heap.size w2).drew
          have hub3 := blk_drew hub
          have hIt2 := (itoa_any N (by omega) (by omega) w2.drew (HU.out.step hax3.below)).mono (R' := fun e w' => e = .returned (.string ⟨(Lib.itoa N).toArray⟩) ∧ w'.cell? ⟨w.heap.size, 0, none⟩ = some (.int .i64 N) ∧ w'.cell? ⟨Bu, 0, none⟩ = some (.string ⟨nm.toArray⟩) ∧ Below w2.drew.heap.size w2.drew w')
            (fun e w' ⟨h, hb⟩ => ⟨h, blk_cell (blk_below hax3.arg hb) 0, blk_cell (blk_below hub3 hb) 0, hb⟩)
          have hs1 : (⟨(Lib.itoa N).toArray⟩ : ByteArray).size ≤ 100 := itoa_size N hN0 hN
          have hm1 : (⟨nm.toArray⟩ : ByteArray).size ≤ 100 := by
            have := units_small (units.getD k ([], 0, 0, 0)) (by rw [List.getD, List.getElem?_eq_getElem (show k < units.length from hlt)]; exact List.getElem_mem _)
            rw [← HD.out] at this
            exact this
          have hR3 : R = (⟨(Lib.itoa N).toArray⟩ ++ ⟨#[32]⟩ ++ ⟨nm.toArray⟩ : ByteArray) := by
            rw [hR2]; apply ByteArray.ext; simp
          clear hR2 hIt
          generalize (⟨(Lib.itoa N).toArray⟩ : ByteArray) = s at hIt2 hs1 hR3
          generalize (⟨nm.toArray⟩ : ByteArray) = m at hIt2 hm1 hR3 u0 hub hub3 ⊢
          have hz1 : (s ++ ⟨#[32]⟩ : ByteArray).size = s.size + 1 := by rw [ByteArray.size_append]; rfl
          have l1 : s.size + 1 ≤ 9223372036854775807 := by omega
          have l2 : (s ++ ⟨#[32]⟩ : ByteArray).size + m.size ≤ 9223372036854775807 := by omega
          have l3 : (9223372036854775807 < s.size + 1) = False := eq_false (by omega)
          have l4 : (9223372036854775807 < (s ++ ⟨#[32]⟩ : ByteArray).size + m.size) = False := eq_false (by omega)
          have l5 : (s.size + 1 ≤ 9223372036854775807) = True := eq_true l1
          have l6 : ((s ++ ⟨#[32]⟩ : ByteArray).size + m.size ≤ 9223372036854775807) = True := eq_true l2
          have l7 : (9223372036854775807 < s.size + 1 + m.size) = False := eq_false (by omega)
          have l8 : (s.size + 1 + m.size ≤ 9223372036854775807) = True := eq_true (by omega)
          clear l1 l2
          have HI := Lib.hid hIt2
          have HR := Lib.hid hR3
          clear hIt2 hR3 hz1
          go_region_held3 (fun w' => w'.cell? ⟨w.heap.size, 0, none⟩ = some (.int .i64 N) ∧ w'.cell? ⟨Bu, 0, none⟩ = some (.string m)) (go_keep)
            (first | (go_at_call 24; refine HI.out.mono ?_; rintro e w' ⟨rfl, q0, q1, hB⟩))
          go_wp2_with fail
          go_ret
          exact ⟨by rw [HR.out]; rfl, below_step hax3.below hB⟩
      · have he1 : ((dim : Int) != D) = true := by rw [bne_iff_ne]; exact he
        have he2 : ((dim : Int) == D) = false := beq_eq_false_iff_ne.2 he
        have hne2 : Hid (∀ j, j < k + 1 → (((units.getD j ([], 0, 0, 0)).2.1 : Nat) : Int) ≠ D) := Lib.hid (fun j hj => by
          by_cases h : j = k
          · subst h; rw [← HD.out]; exact he
          · exact hne.out j (by omega))
        go_wp2_with fail
        go_roundw
        case rel => exact ⟨k + 1, hlt, by go_num, hne2, hax2⟩
        case measure => simp [Go.RowKit.intOf]; omega
    · obtain rfl : k = 19 := by omega
      have hR2 := hR.out
      rw [show wrt N D = [] by unfold wrt; rw [if_neg (by omega), find_dim_none units D hne.out]] at hR2
      subst hR2
      go_wp2_with fail
      go_ret
      exact ⟨rfl, hax.below⟩

set_option maxHeartbeats 1000000 in
theorem Write_out (N D : Int) (hN : N < 0 ∨ 1125899906842624 < N) (w : World) :
    Calls Tryd.prog 11 #[.agg #[.int .i64 N, .int .i64 D]] w fun e w' => e = .returned (.string ⟨#[]⟩) ∧ Below w.heap.size w w' := by
  rcases hN with h | h
  · have n1 : decide (N < 0) = true := decide_eq_true h
    clear h
    go_enter Tryd.func11, Tryd.ntmps11
    go_wp2_with fail
    go_ret
    exact ⟨rfl, (Below.refl _ _).alloc (Nat.le_refl _) _⟩
  · have n1 : decide (N < 0) = false := decide_eq_false (by omega)
    have n2 : decide (1125899906842624 < N) = true := decide_eq_true h
    clear h
    go_enter Tryd.func11, Tryd.ntmps11
    go_wp2_with fail
    go_ret
    exact ⟨rfl, (Below.refl _ _).alloc (Nat.le_refl _) _⟩

/-- unit.Write -/
theorem Write_any (N D : Int) (w : World) (hw : UW w) :
    Calls Tryd.prog 11 #[.agg #[.int .i64 N, .int .i64 D]] w fun e w' => e = .returned (.string ⟨(wrt N D).toArray⟩) ∧ Below w.heap.size w w' := by
  by_cases h : N < 0 ∨ 1125899906842624 < N
  · rw [show wrt N D = [] by unfold wrt; rw [if_pos h]]
    exact Write_out N D h w
  · exact Write_loop N D (by omega) (by omega) _ (Lib.hid rfl) w hw
end Go.Proofs.YtahjkibjcibpgaaDoor.U

/-! the functions of the layer unit, in the form of a printed function -/
namespace Go.Proofs.YtahjkibjcibpgaaDoor.Ex
open Go.RowKit Go.Proofs.YtahjkibjcibpgaaDoor.U
def unit_Amount.f (a0 a1 : ByteArray) : Option (Int × Int × Int) := if a0.size < 4294967281 then some (amt a0.data.toList a1.data.toList) else none
theorem unit_Amount.calls (a0 a1 : ByteArray) (r1 r2 r3 : Int) (w : World) (hg : UW w) (h : unit_Amount.f a0 a1 = some (r1, r2, r3)) :
    Calls Tryd.prog 9 #[.string a0, .string a1] w fun e w' => e = .returned (.tuple #[.agg #[.int .i64 r1, .int .i64 r2], .int .i64 r3]) ∧ Below w.heap.size w w' := by
  unfold unit_Amount.f at h
  split at h
  · have := Amount_any a0 a1 ‹_› w hg
    have e := Option.some.inj h
    rw [e] at this
    exact this
  · cases h
def unit_Write.f (a0 a1 : Int) : Option ByteArray := some ⟨(wrt a0 a1).toArray⟩
theorem unit_Write.calls (a0 a1 : Int) (r : ByteArray) (w : World) (hg : UW w) (h : unit_Write.f a0 a1 = some r) :
    Calls Tryd.prog 11 #[.agg #[.int .i64 a0, .int .i64 a1]] w fun e w' => e = .returned (.string r) ∧ Below w.heap.size w w' := by
  have e := Option.some.inj h
  have := Write_any a0 a1 w hg
  rw [e] at this
  exact this
end Go.Proofs.YtahjkibjcibpgaaDoor.Ex
