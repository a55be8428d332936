/- What this claim's texts prove on the way, joined by program (wip/tools/merge.py), without what no text of the claim names. -/
import Derived.Test.YtahjkibjcibpgaaGreatDoorMB2
import Derived.Deep.RegionHeld3
import Derived.Deep.LoopGhost
import Derived.Deep.DrawnRows
import Derived.Defers
import Derived.Recover
section
namespace Go.Proofs.YtahjkibjcibpgaaGreatDoor.PTr
open Go.RowKit Go.Proofs.YtahjkibjcibpgaaGreatDoorW.Sq Go.Proofs.YtahjkibjcibpgaaGreatDoorW.PrintWords Go.Proofs.YtahjkibjcibpgaaGreatDoorW.PrintLast Go.Proofs.YtahjkibjcibpgaaGreatDoorW.PrintMore
attribute [local go_sem] max2_int min2_int max_two min_two max_three min_three max_four min_four   -- for this text's walks alone
set_option linter.unusedVariables false
set_option linter.unusedSimpArgs false
mutual
def tree_decl.j0 : Nat → Bool → Int → ByteArray → Int → Int → Int → List (S26) → Option (Bool)
  | 0, _, _, _, _, _, _, _ => none
  | k + 1, x19, x151000, x151001, x151002, x151003, x151004, x151005 => if x19 = true then (some false) else (tree_decl.l0 k true x151005 (x151005.length : Int) 0)
def tree_decl.l0 : Nat → Bool → List (S26) → Int → Int → Option (Bool)
  | 0, _, _, _, _ => none
  | k + 1, x3, x21, x22, x23 => if x23 < x22 then (if 0 ≤ x23 then (if x23 < (x21.length : Int) then (if x3 = true then (if ((rd_T26 x21 x23).f0) = 3 then (tree_decl.j2 k true x21 x22 x23 ((rd_T26 x21 x23).f0) ((rd_T26 x21 x23).f1) ((rd_T26 x21 x23).f2.f0) ((rd_T26 x21 x23).f2.f1) ((rd_T26 x21 x23).f3) ((rd_T26 x21 x23).f4)) else (tree_decl.j2 k (((rd_T26 x21 x23).f0) == 4) x21 x22 x23 ((rd_T26 x21 x23).f0) ((rd_T26 x21 x23).f1) ((rd_T26 x21 x23).f2.f0) ((rd_T26 x21 x23).f2.f1) ((rd_T26 x21 x23).f3) ((rd_T26 x21 x23).f4))) else (tree_decl.j2 k false x21 x22 x23 ((rd_T26 x21 x23).f0) ((rd_T26 x21 x23).f1) ((rd_T26 x21 x23).f2.f0) ((rd_T26 x21 x23).f2.f1) ((rd_T26 x21 x23).f3) ((rd_T26 x21 x23).f4))) else (none)) else (none)) else (some true)
def tree_decl.j2 : Nat → Bool → List (S26) → Int → Int → Int → ByteArray → Int → Int → Int → List (S26) → Option (Bool)
  | 0, _, _, _, _, _, _, _, _, _, _ => none
  | k + 1, x3, x21, x22, x23, x155000, x155001, x155002, x155003, x155004, x155005 => if x3 = true then ((tree_value.f k x155000 x155001 x155002 x155003 x155004 x155005 0).bind fun t155 => (if t155 = true then (tree_decl.l0 k x3 x21 x22 (wrap64 (x23 + 1))) else (some false))) else ((tree_prop.f k x155000 x155001 x155002 x155003 x155004 x155005).bind fun t156 => (if t156 = true then (tree_decl.l0 k x3 x21 x22 (wrap64 (x23 + 1))) else (some false)))
end
def tree_decl.f (k : Nat) (a0_0 : Int) (a0_1 : ByteArray) (a0_2 : Int) (a0_3 : Int) (a0_4 : Int) (l0_5 : List (S26)) : Option (Bool) := if a0_0 = 1 then ((tree_plain.f a0_0 a0_1 a0_2 a0_3 a0_4 l0_5).bind fun t151 => (if t151 = true then ((tree_one.f k a0_1 0).bind fun t152 => (tree_decl.j0 k (!t152) a0_0 a0_1 a0_2 a0_3 a0_4 l0_5)) else (tree_decl.j0 k true a0_0 a0_1 a0_2 a0_3 a0_4 l0_5))) else (tree_decl.j0 k true a0_0 a0_1 a0_2 a0_3 a0_4 l0_5)
theorem tree_decl.mono_l : ∀ k, (∀ y0 y1 y2 y3 y4 y5 y6, LeO (tree_decl.j0 k y0 y1 y2 y3 y4 y5 y6) (tree_decl.j0 (k + 1) y0 y1 y2 y3 y4 y5 y6)) ∧ (∀ y0 y1 y2 y3, LeO (tree_decl.l0 k y0 y1 y2 y3) (tree_decl.l0 (k + 1) y0 y1 y2 y3)) ∧ (∀ y0 y1 y2 y3 y4 y5 y6 y7 y8 y9, LeO (tree_decl.j2 k y0 y1 y2 y3 y4 y5 y6 y7 y8 y9) (tree_decl.j2 (k + 1) y0 y1 y2 y3 y4 y5 y6 y7 y8 y9))
  | 0 => ⟨fun _ _ _ _ _ _ _ r h => by simp [tree_decl.j0] at h, fun _ _ _ _ r h => by simp [tree_decl.l0] at h, fun _ _ _ _ _ _ _ _ _ _ r h => by simp [tree_decl.j2] at h⟩
  | k + 1 => by
    obtain ⟨ih0, ih1, ih2⟩ := tree_decl.mono_l k
    refine ⟨?_, ?_, ?_⟩
    · intro y0 y1 y2 y3 y4 y5 y6
      unfold tree_decl.j0
      repeat' first
      | (with_reducible exact ih0 _ _ _ _ _ _ _)
      | (with_reducible exact ih1 _ _ _ _)
      | (with_reducible exact ih2 _ _ _ _ _ _ _ _ _ _)
      | (with_reducible exact tree_one.mono _ _ _)
      | (with_reducible exact tree_prop.mono _ _ _ _ _ _ _)
      | (with_reducible exact tree_value.mono _ _ _ _ _ _ _ _)
      | (with_reducible exact LeO.refl _)
      | (with_reducible exact LeO.none _)
      | (with_reducible refine LeO.ite ?_ ?_)
      | (with_reducible refine LeO.bind ?_ (fun _ => ?_))
      | exact ih0 _ _ _ _ _ _ _
      | exact ih1 _ _ _ _
      | exact ih2 _ _ _ _ _ _ _ _ _ _
      | exact tree_one.mono _ _ _
      | exact tree_prop.mono _ _ _ _ _ _ _
      | exact tree_value.mono _ _ _ _ _ _ _ _
      | exact LeO.none _
      | refine LeO.ite ?_ ?_
      | refine LeO.bind ?_ (fun _ => ?_)
    · intro y0 y1 y2 y3
      unfold tree_decl.l0
      repeat' first
      | (with_reducible exact ih0 _ _ _ _ _ _ _)
      | (with_reducible exact ih1 _ _ _ _)
      | (with_reducible exact ih2 _ _ _ _ _ _ _ _ _ _)
      | (with_reducible exact tree_one.mono _ _ _)
      | (with_reducible exact tree_prop.mono _ _ _ _ _ _ _)
      | (with_reducible exact tree_value.mono _ _ _ _ _ _ _ _)
      | (with_reducible exact LeO.refl _)
      | (with_reducible exact LeO.none _)
      | (with_reducible refine LeO.ite ?_ ?_)
      | (with_reducible refine LeO.bind ?_ (fun _ => ?_))
      | exact ih0 _ _ _ _ _ _ _
      | exact ih1 _ _ _ _
      | exact ih2 _ _ _ _ _ _ _ _ _ _
      | exact tree_one.mono _ _ _
      | exact tree_prop.mono _ _ _ _ _ _ _
      | exact tree_value.mono _ _ _ _ _ _ _ _
      | exact LeO.none _
      | refine LeO.ite ?_ ?_
      | refine LeO.bind ?_ (fun _ => ?_)
    intro y0 y1 y2 y3 y4 y5 y6 y7 y8 y9
    unfold tree_decl.j2
    repeat' first
    | (with_reducible exact ih0 _ _ _ _ _ _ _)
    | (with_reducible exact ih1 _ _ _ _)
    | (with_reducible exact ih2 _ _ _ _ _ _ _ _ _ _)
    | (with_reducible exact tree_one.mono _ _ _)
    | (with_reducible exact tree_prop.mono _ _ _ _ _ _ _)
    | (with_reducible exact tree_value.mono _ _ _ _ _ _ _ _)
    | (with_reducible exact LeO.refl _)
    | (with_reducible exact LeO.none _)
    | (with_reducible refine LeO.ite ?_ ?_)
    | (with_reducible refine LeO.bind ?_ (fun _ => ?_))
    | exact ih0 _ _ _ _ _ _ _
    | exact ih1 _ _ _ _
    | exact ih2 _ _ _ _ _ _ _ _ _ _
    | exact tree_one.mono _ _ _
    | exact tree_prop.mono _ _ _ _ _ _ _
    | exact tree_value.mono _ _ _ _ _ _ _ _
    | exact LeO.none _
    | refine LeO.ite ?_ ?_
    | refine LeO.bind ?_ (fun _ => ?_)
theorem tree_decl.mono : ∀ a0 a1 a2 a3 a4 a5 k, LeO (tree_decl.f k a0 a1 a2 a3 a4 a5) (tree_decl.f (k + 1) a0 a1 a2 a3 a4 a5) := by
  intro a0 a1 a2 a3 a4 a5 k
  obtain ⟨ih0, ih1, ih2⟩ := tree_decl.mono_l k
  unfold tree_decl.f
  repeat' first
      | (with_reducible exact ih0 _ _ _ _ _ _ _)
      | (with_reducible exact ih1 _ _ _ _)
      | (with_reducible exact ih2 _ _ _ _ _ _ _ _ _ _)
      | (with_reducible exact tree_one.mono _ _ _)
      | (with_reducible exact tree_prop.mono _ _ _ _ _ _ _)
      | (with_reducible exact tree_value.mono _ _ _ _ _ _ _ _)
      | (with_reducible exact LeO.refl _)
      | (with_reducible exact LeO.none _)
      | (with_reducible refine LeO.ite ?_ ?_)
      | (with_reducible refine LeO.bind ?_ (fun _ => ?_))
      | exact ih0 _ _ _ _ _ _ _
      | exact ih1 _ _ _ _
      | exact ih2 _ _ _ _ _ _ _ _ _ _
      | exact tree_one.mono _ _ _
      | exact tree_prop.mono _ _ _ _ _ _ _
      | exact tree_value.mono _ _ _ _ _ _ _ _
      | exact LeO.none _
      | refine LeO.ite ?_ ?_
      | refine LeO.bind ?_ (fun _ => ?_)
set_option maxHeartbeats 8000000 in
set_option maxRecDepth 100000 in
theorem tree_decl.calls (k : Nat) (a0_0 : Int) (a0_1 : ByteArray) (a0_2 : Int) (a0_3 : Int) (a0_4 : Int) (A0_5 : Option Addr) (c0_5 : Nat) (l0_5 : List (S26)) (r : Bool) (w : World) (hg : Go.Proofs.YtahjkibjcibpgaaGreatDoor.U.UW w) (hr0_5 : Kd.C k26 w A0_5 l0_5.length l0_5) (hc0_5 : l0_5.length ≤ c0_5) (h : tree_decl.f k a0_0 a0_1 a0_2 a0_3 a0_4 l0_5 = some r) :
    Calls Tryz.prog 22 #[.agg #[.int .i64 a0_0, .string a0_1, .int .i64 a0_2, .int .i64 a0_3, .int .i64 a0_4, .slice A0_5 l0_5.length c0_5]] w fun e w' => e = .returned (.bool r) ∧ Below w.heap.size w w' := by
  have hu26 := Tryz.underlying26
  have HR0_5 := Aside0.mk hr0_5
  have HC0_5 := Aside0.mk hc0_5
  clear hr0_5 hc0_5
  have HB := Aside0.mk (Below.refl w.heap.size w)
  have HGW := Aside0.mk hg
  clear hg
  have H : (if a0_0 = 1 then ((tree_plain.f a0_0 a0_1 a0_2 a0_3 a0_4 l0_5).bind fun t151 => (if t151 = true then ((tree_one.f k a0_1 0).bind fun t152 => (tree_decl.j0 k (!t152) a0_0 a0_1 a0_2 a0_3 a0_4 l0_5)) else (tree_decl.j0 k true a0_0 a0_1 a0_2 a0_3 a0_4 l0_5))) else (tree_decl.j0 k true a0_0 a0_1 a0_2 a0_3 a0_4 l0_5)) = some r := h
  clear h
  have HC2 := Aside0.mk H
  clear H
  go_enter Tryz.func22, Tryz.ntmps22
  go_upto_region 1 with (first | ((with_reducible refine gate_dst (N := 1) rfl ?_); refine box_event ?hg (N := 1) ?hd (cs := #[.int .i64 a0_0, .string a0_1, .int .i64 a0_2, .int .i64 a0_3, .int .i64 a0_4, .slice A0_5 l0_5.length c0_5]) (t := 26) ?hr ?_; (case hd => rfl); (case hg => rfl); (case hr => first | (go_simp; done) | (go_simp; rfl)); intro gb150 hg w3 hbox hb; have n0_ := Aside0.mk (below_step (by repeat with_reducible first|exact HB.out|apply ba|apply bN|apply bd) hb); have n1_ := Aside0.mk (hbox); have n2_ := Aside0.mk ((by rw [hg]; exact (below_size (by repeat with_reducible first|exact HB.out|apply ba|apply bN|apply bd)) : w.heap.size ≤ gb150)); have n3_ := Aside0.mk ((by rw [hg]; exact (below_size (by repeat with_reducible first|exact HB.out|apply ba|apply bN|apply bd)) : w.heap.size ≤ gb150)); clear HB; have HB := n0_; have BK150 := n1_; have GW150 := n2_; have GE150 := n3_; clear n0_ n1_ n2_ n3_; clear hb hbox hg))
  (try simp only [Act.put, List.setIfInBounds_toArray, List.set_cons_zero, List.set_cons_succ])
  go_cut [19] (fun v19 wc => ∃ (kq : Nat) (x19_1 : Bool), v19 = .bool x19_1 ∧ Aside0 (tree_decl.j0 kq x19_1 a0_0 a0_1 a0_2 a0_3 a0_4 l0_5 = some r) ∧ Aside0 (kq ≤ k) ∧ Aside0 (wc.heap[gb150]? = some (.cells #[.int .i64 a0_0, .string a0_1, .int .i64 a0_2, .int .i64 a0_3, .int .i64 a0_4, (.slice A0_5 l0_5.length c0_5)] 26 (0, 0))) ∧ Aside0 (Below w.heap.size w wc))
  case first =>
    have H := HC2.out
    clear HC2
    by_cases c4 : a0_0 = 1
    · rw [if_pos c4] at H
      have c4b0 : (a0_0 == 1) = true := beq_iff_eq.mpr c4
      have c4b1 : (a0_0 != 1) = false := bne_eq_false_iff_eq.mpr c4
      clear c4
      (first | rw [c4b0] | (simp only [i64_w, i32_w]; rw [c4b0]) | skip)
      replace H := Option.bind_eq_some_iff.mp H
      obtain ⟨t151, A50, H⟩ := H
      replace H : (if t151 = true then ((tree_one.f k a0_1 0).bind fun t152 => (tree_decl.j0 k (!t152) a0_0 a0_1 a0_2 a0_3 a0_4 l0_5)) else (tree_decl.j0 k true a0_0 a0_1 a0_2 a0_3 a0_4 l0_5)) = some r := H
      have A5 := Aside0.mk A50
      clear A50
      by_cases c6 : t151 = true
      · subst c6
        have H1 : ((tree_one.f k a0_1 0).bind fun t152 => (tree_decl.j0 k (!t152) a0_0 a0_1 a0_2 a0_3 a0_4 l0_5)) = some r := by rw [if_pos rfl] at H; exact H
        clear H
        have H := H1
        clear H1
        replace H := Option.bind_eq_some_iff.mp H
        obtain ⟨t152, A70, H⟩ := H
        replace H : (tree_decl.j0 k (!t152) a0_0 a0_1 a0_2 a0_3 a0_4 l0_5) = some r := H
        have A7 := Aside0.mk A70
        clear A70
        have H' := Aside0.mk H
        clear H
        obtain ⟨hcz8_0, hcz8_1, hcz8_2, hcz8_3, hcz8_4, hcz8_5, hfz8_0, hfz8_1, hfz8_2, hfz8_3, hfz8_4, hfz8_5⟩ := cl6 BK150.out
        go_wp2_with (first | (go_at_call 21; (with_reducible refine (tree_plain.calls a0_0 a0_1 a0_2 a0_3 a0_4 _ _ l0_5 true _ ?side1 ?side2 A5.out).mono ?_); (case side1 => repeat (first | exact (Kd.C_below HR0_5.out HB.out) | (with_reducible refine Kd.C_alloc ?_ _) | (with_reducible refine Kd.C_drewN ?_ _) | (with_reducible refine Kd.C_drew ?_))); (case side2 => exact HC0_5.out); rintro e w9 ⟨rfl, hb⟩; have n0_ := Aside0.mk (blk_below (g := gb150) (o := .cells #[.int .i64 a0_0, .string a0_1, .int .i64 a0_2, .int .i64 a0_3, .int .i64 a0_4, .slice A0_5 l0_5.length c0_5] 26 (0, 0)) (by (with_reducible repeat first|refine kN ?_ _|refine kd ?_|refine ka ?_ _); exact BK150.out) hb); have n1_ := Aside0.mk (below_step (by repeat with_reducible first|exact HB.out|apply ba|apply bN|apply bd|refine below_set ?_ GE150.out) hb); clear BK150; clear HB; have BK150 := n0_; have HB := n1_; clear n0_ n1_; (try clear hb); (try clear hb2); (try clear hk); (try clear hi); obtain ⟨hcz10_0, hcz10_1, hcz10_2, hcz10_3, hcz10_4, hcz10_5, hfz10_0, hfz10_1, hfz10_2, hfz10_3, hfz10_4, hfz10_5⟩ := cl6 BK150.out) | (go_at_call 34; (with_reducible refine (tree_one.calls k a0_1 0 t152 _ ?side1 A7.out).mono ?_); (case side1 => exact Go.Proofs.YtahjkibjcibpgaaGreatDoor.U.UW.step HGW.out (by repeat with_reducible first|exact HB.out|apply ba|apply bN|apply bd|refine below_set ?_ GE150.out)); rintro e w11 ⟨rfl, hb⟩; have n0_ := Aside0.mk (blk_below (g := gb150) (o := .cells #[.int .i64 a0_0, .string a0_1, .int .i64 a0_2, .int .i64 a0_3, .int .i64 a0_4, .slice A0_5 l0_5.length c0_5] 26 (0, 0)) (by (with_reducible repeat first|refine kN ?_ _|refine kd ?_|refine ka ?_ _); exact BK150.out) hb); have n1_ := Aside0.mk (below_step (by repeat with_reducible first|exact HB.out|apply ba|apply bN|apply bd|refine below_set ?_ GE150.out) hb); clear BK150; clear HB; have BK150 := n0_; have HB := n1_; clear n0_ n1_; (try clear hb); (try clear hb2); (try clear hk); (try clear hi)))
        go_meet
        case rel => exact ⟨_, (!t152), (by first|rfl|(simp;done)|(simp [*];done)), H', ⟨by first|omega|exact Nat.le_refl _⟩, ⟨by (with_reducible repeat first|refine kN ?_ _|refine kd ?_|refine ka ?_ _); exact BK150.out⟩, ⟨by repeat with_reducible first|exact HB.out|apply ba|apply bN|apply bd|refine below_set ?_ GE150.out⟩⟩
      replace c6 := Bool.eq_false_iff.mpr c6
      subst c6
      have H1 : (tree_decl.j0 k true a0_0 a0_1 a0_2 a0_3 a0_4 l0_5) = some r := by rw [if_neg (show ¬ (false = true) by decide)] at H; exact H
      clear H
      have H := H1
      clear H1
      have H' := Aside0.mk H
      clear H
      obtain ⟨hcz12_0, hcz12_1, hcz12_2, hcz12_3, hcz12_4, hcz12_5, hfz12_0, hfz12_1, hfz12_2, hfz12_3, hfz12_4, hfz12_5⟩ := cl6 BK150.out
      go_wp2_with (first | (go_at_call 21; (with_reducible refine (tree_plain.calls a0_0 a0_1 a0_2 a0_3 a0_4 _ _ l0_5 false _ ?side1 ?side2 A5.out).mono ?_); (case side1 => repeat (first | exact (Kd.C_below HR0_5.out HB.out) | (with_reducible refine Kd.C_alloc ?_ _) | (with_reducible refine Kd.C_drewN ?_ _) | (with_reducible refine Kd.C_drew ?_))); (case side2 => exact HC0_5.out); rintro e w13 ⟨rfl, hb⟩; have n0_ := Aside0.mk (blk_below (g := gb150) (o := .cells #[.int .i64 a0_0, .string a0_1, .int .i64 a0_2, .int .i64 a0_3, .int .i64 a0_4, .slice A0_5 l0_5.length c0_5] 26 (0, 0)) (by (with_reducible repeat first|refine kN ?_ _|refine kd ?_|refine ka ?_ _); exact BK150.out) hb); have n1_ := Aside0.mk (below_step (by repeat with_reducible first|exact HB.out|apply ba|apply bN|apply bd|refine below_set ?_ GE150.out) hb); clear BK150; clear HB; have BK150 := n0_; have HB := n1_; clear n0_ n1_; (try clear hb); (try clear hb2); (try clear hk); (try clear hi)))
      go_meet
      case rel => exact ⟨_, (true), (by first|rfl|(simp;done)|(simp [*];done)), H', ⟨by first|omega|exact Nat.le_refl _⟩, ⟨by (with_reducible repeat first|refine kN ?_ _|refine kd ?_|refine ka ?_ _); exact BK150.out⟩, ⟨by repeat with_reducible first|exact HB.out|apply ba|apply bN|apply bd|refine below_set ?_ GE150.out⟩⟩
    rw [if_neg c4] at H
    have c4b0 : (a0_0 == 1) = false := beq_eq_false_iff_ne.mpr c4
    have c4b1 : (a0_0 != 1) = true := bne_iff_ne.mpr c4
    (first | rw [c4b0] | (simp only [i64_w, i32_w]; rw [c4b0]) | skip)
    have H' := Aside0.mk H
    clear H
    obtain ⟨hcz14_0, hcz14_1, hcz14_2, hcz14_3, hcz14_4, hcz14_5, hfz14_0, hfz14_1, hfz14_2, hfz14_3, hfz14_4, hfz14_5⟩ := cl6 BK150.out
    go_wp2
    go_meet
    case rel => exact ⟨_, (true), (by first|rfl|(simp;done)|(simp [*];done)), H', ⟨by first|omega|exact Nat.le_refl _⟩, ⟨by (with_reducible repeat first|refine kN ?_ _|refine kd ?_|refine ka ?_ _); exact BK150.out⟩, ⟨by repeat with_reducible first|exact HB.out|apply ba|apply bN|apply bd|refine below_set ?_ GE150.out⟩⟩
  case rest =>
    clear HC2
    try clear c2;try clear p2;try clear c4;try clear c4b0;try clear c4b1;try clear c6;try clear hcz10_0;try clear hcz10_1;try clear hcz10_2;try clear hcz10_3;try clear hcz10_4;try clear hcz10_5;try clear hcz12_0;try clear hcz12_1;try clear hcz12_2;try clear hcz12_3;try clear hcz12_4;try clear hcz12_5;try clear hcz14_0;try clear hcz14_1;try clear hcz14_2;try clear hcz14_3;try clear hcz14_4;try clear hcz14_5;try clear hcz8_0;try clear hcz8_1;try clear hcz8_2;try clear hcz8_3;try clear hcz8_4;try clear hcz8_5;try clear hfz10_0;try clear hfz10_1;try clear hfz10_2;try clear hfz10_3;try clear hfz10_4;try clear hfz10_5;try clear hfz12_0;try clear hfz12_1;try clear hfz12_2;try clear hfz12_3;try clear hfz12_4;try clear hfz12_5;try clear hfz14_0;try clear hfz14_1;try clear hfz14_2;try clear hfz14_3;try clear hfz14_4;try clear hfz14_5;try clear hfz8_0;try clear hfz8_1;try clear hfz8_2;try clear hfz8_3;try clear hfz8_4;try clear hfz8_5
    obtain ⟨kq, x19_1, rfl, HA, HJ1, BK150, HB⟩ := hcut
    cases kq with
    | zero => exact absurd HA.out (by simp [tree_decl.j0])
    | succ kj1 =>
      have H := HA.out
      clear HA
      simp only [tree_decl.j0] at H
      by_cases c15 : x19_1 = true
      · subst c15
        have H1 : (some false) = some r := by rw [if_pos rfl] at H; exact H
        clear H
        have H := H1
        clear H1
        obtain rfl := Option.some.inj H
        go_wp2
        go_ret
        exact ⟨by first|rfl|(simp<;>rfl)|(simp [*]<;>rfl), by repeat with_reducible first|exact HB.out|apply ba|apply bN|apply bd|refine below_set ?_ GE150.out⟩
      replace c15 := Bool.eq_false_iff.mpr c15
      subst c15
      have H1 : (tree_decl.l0 kj1 true l0_5 (l0_5.length : Int) 0) = some r := by rw [if_neg (show ¬ (false = true) by decide)] at H; exact H
      clear H
      have H := H1
      clear H1
      have H' := Aside0.mk H
      clear H
      obtain ⟨hcz16_0, hcz16_1, hcz16_2, hcz16_3, hcz16_4, hcz16_5, hfz16_0, hfz16_1, hfz16_2, hfz16_3, hfz16_4, hfz16_5⟩ := cl6 BK150.out
      go_wp2
      go_loopg [3, 23] kj1 (fun kq v3 v23 w' => ∃ (x3_2 : Bool) (x23_2 : Int), v3 = .bool x3_2 ∧ v23 = .int .i64 x23_2 ∧ Aside0 (tree_decl.l0 kq x3_2 l0_5 (l0_5.length : Int) x23_2 = some r) ∧ Aside0 (kq ≤ kj1) ∧ Aside0 (w'.heap[gb150]? = some (.cells #[.int .i64 a0_0, .string a0_1, .int .i64 a0_2, .int .i64 a0_3, .int .i64 a0_4, (.slice A0_5 l0_5.length c0_5)] 26 (0, 0))) ∧ Aside0 (Below w.heap.size w w'))
      case atStart => exact ⟨(true), (0), (by first|rfl|(simp;done)|(simp [*];done)), (by first|rfl|(simp;done)|(simp [*];done)), H', ⟨Nat.le_refl _⟩, ⟨by (with_reducible repeat first|refine kN ?_ _|refine kd ?_|refine ka ?_ _); exact BK150.out⟩, ⟨by repeat with_reducible first|exact HB.out|apply ba|apply bN|apply bd|refine below_set ?_ GE150.out⟩⟩
      case round =>
        clear H'
        try clear c1;try clear c2;try clear p2;try clear c4;try clear c4b0;try clear c4b1;try clear c6;try clear c15;try clear hcz10_0;try clear hcz10_1;try clear hcz10_2;try clear hcz10_3;try clear hcz10_4;try clear hcz10_5;try clear hcz12_0;try clear hcz12_1;try clear hcz12_2;try clear hcz12_3;try clear hcz12_4;try clear hcz12_5;try clear hcz14_0;try clear hcz14_1;try clear hcz14_2;try clear hcz14_3;try clear hcz14_4;try clear hcz14_5;try clear hcz16_0;try clear hcz16_1;try clear hcz16_2;try clear hcz16_3;try clear hcz16_4;try clear hcz16_5;try clear hcz8_0;try clear hcz8_1;try clear hcz8_2;try clear hcz8_3;try clear hcz8_4;try clear hcz8_5;try clear hfz10_0;try clear hfz10_1;try clear hfz10_2;try clear hfz10_3;try clear hfz10_4;try clear hfz10_5;try clear hfz12_0;try clear hfz12_1;try clear hfz12_2;try clear hfz12_3;try clear hfz12_4;try clear hfz12_5;try clear hfz14_0;try clear hfz14_1;try clear hfz14_2;try clear hfz14_3;try clear hfz14_4;try clear hfz14_5;try clear hfz16_0;try clear hfz16_1;try clear hfz16_2;try clear hfz16_3;try clear hfz16_4;try clear hfz16_5;try clear hfz8_0;try clear hfz8_1;try clear hfz8_2;try clear hfz8_3;try clear hfz8_4;try clear hfz8_5;try clear p2
        obtain ⟨x3_2, x23_2, rfl, rfl, HA, HK2, BK150, HB⟩ := hrel
        cases gk with
        | zero => exact absurd HA.out (by simp [tree_decl.l0])
        | succ k2 =>
          have H := HA.out
          clear HA
          simp only [tree_decl.l0] at H
          by_cases c17 : x23_2 < (l0_5.length : Int)
          · rw [if_pos c17] at H
            have c17b0 : decide (x23_2 < (l0_5.length : Int)) = true := decide_eq_true c17
            clear c17
            by_cases c18 : 0 ≤ x23_2
            · rw [if_pos c18] at H
              have c18b0 : decide (0 ≤ x23_2) = true := decide_eq_true c18
              clear c18
              by_cases c19 : x23_2 < (l0_5.length : Int)
              · rw [if_pos c19] at H
                have c19b0 : decide (x23_2 < (l0_5.length : Int)) = true := decide_eq_true c19
                clear c19
                have HC20 := Aside0.mk H
                clear H
                have p153 : 0 ≤ (x23_2 : Int) := of_decide_eq_true (by first|with_reducible assumption|assumption)
                have q153 : x23_2 < (l0_5.length : Int) := of_decide_eq_true (by first|with_reducible assumption|assumption)
                obtain ⟨ad153, A153_5, c153_5, e153, hx153_0, hx153_1, hx153_2, hx153_3, hx153_4, hx153_5, hl153_5, hi153_5⟩ := at_T26 HR0_5.out x23_2 p153 q153
                cases e153
                replace hx153_0 := cb HB.out hx153_0
                replace hx153_1 := cb HB.out hx153_1
                replace hx153_2 := cb HB.out hx153_2
                replace hx153_3 := cb HB.out hx153_3
                replace hx153_4 := cb HB.out hx153_4
                replace hx153_5 := cb HB.out hx153_5
                have HR153_5 := Aside0.mk hi153_5
                have HC153_5 := Aside0.mk hl153_5
                clear hi153_5 hl153_5
                replace p153 := eq_true p153
                replace q153 := eq_true q153
                go_upto_region 7 with (first | ((with_reducible refine gate_dst (N := 5) rfl ?_); refine box_event ?hg (N := 5) ?hd (cs := #[.int .i64 0, .string (⟨#[]⟩ : ByteArray), .int .i64 0, .int .i64 0, .int .i64 0, .slice none 0 0]) (t := 26) ?hr ?_; (case hd => rfl); (case hg => rfl); (case hr => first | (go_simp; done) | (go_simp; rfl)); intro gb154 hg w21 hbox hb; have n0_ := Aside0.mk (blk_below (g := gb150) (o := .cells #[.int .i64 a0_0, .string a0_1, .int .i64 a0_2, .int .i64 a0_3, .int .i64 a0_4, .slice (some ad153) l0_5.length c0_5] 26 (0, 0)) (by (with_reducible repeat first|refine kN ?_ _|refine kd ?_|refine ka ?_ _); exact BK150.out) hb); have n1_ := Aside0.mk (below_step (by repeat with_reducible first|exact HB.out|apply ba|apply bN|apply bd|refine below_set ?_ GE150.out) hb); have n2_ := Aside0.mk (hbox); have n3_ := Aside0.mk ((by rw [hg]; exact (below_size (by repeat with_reducible first|exact HB.out|apply ba|apply bN|apply bd|refine below_set ?_ GE150.out)) : w.heap.size ≤ gb154)); have n4_ := Aside0.mk ((by rw [hg]; exact (below_size (by repeat with_reducible first|exact HB.out|apply ba|apply bN|apply bd|refine below_set ?_ GE150.out)) : w.heap.size ≤ gb154)); have n5_ := Aside0.mk ((by rw [hg]; exact Nat.ne_of_lt (blk_lt (g := gb150) (o := .cells #[.int .i64 a0_0, .string a0_1, .int .i64 a0_2, .int .i64 a0_3, .int .i64 a0_4, .slice (some ad153) l0_5.length c0_5] 26 (0, 0)) (by (with_reducible repeat first|refine kN ?_ _|refine kd ?_|refine ka ?_ _); exact BK150.out)) : gb150 ≠ gb154)); have n6_ := Aside0.mk ((by rw [hg]; exact Nat.ne_of_gt (blk_lt (g := gb150) (o := .cells #[.int .i64 a0_0, .string a0_1, .int .i64 a0_2, .int .i64 a0_3, .int .i64 a0_4, .slice (some ad153) l0_5.length c0_5] 26 (0, 0)) (by (with_reducible repeat first|refine kN ?_ _|refine kd ?_|refine ka ?_ _); exact BK150.out)) : gb154 ≠ gb150)); clear BK150; clear HB; have BK150 := n0_; have HB := n1_; have BK154 := n2_; have GW154 := n3_; have GE154 := n4_; have NB150_154 := n5_; have NB154_150 := n6_; clear n0_ n1_ n2_ n3_ n4_ n5_ n6_; clear hb hbox hg; have hnb22 := NB154_150.out; have hnc22 := NB150_154.out; obtain ⟨hcz23_0, hcz23_1, hcz23_2, hcz23_3, hcz23_4, hcz23_5, hfz23_0, hfz23_1, hfz23_2, hfz23_3, hfz23_4, hfz23_5⟩ := cl6 BK154.out))
                (try simp only [Act.put, List.setIfInBounds_toArray, List.set_cons_zero, List.set_cons_succ])
                go_cut [3] (fun v3 wc => ∃ (kq : Nat) (x3_19 : Bool), v3 = .bool x3_19 ∧ Aside0 (tree_decl.j2 kq x3_19 l0_5 (l0_5.length : Int) x23_2 ((rd_T26 l0_5 x23_2).f0) ((rd_T26 l0_5 x23_2).f1) ((rd_T26 l0_5 x23_2).f2.f0) ((rd_T26 l0_5 x23_2).f2.f1) ((rd_T26 l0_5 x23_2).f3) ((rd_T26 l0_5 x23_2).f4) = some r) ∧ Aside0 (kq ≤ k2) ∧ Aside0 (wc.heap[gb150]? = some (.cells #[.int .i64 a0_0, .string a0_1, .int .i64 a0_2, .int .i64 a0_3, .int .i64 a0_4, (.slice (some ad153) l0_5.length c0_5)] 26 (0, 0))) ∧ Aside0 (wc.heap[gb154]? = some (.cells #[.int .i64 ((rd_T26 l0_5 x23_2).f0), .string ((rd_T26 l0_5 x23_2).f1), .int .i64 ((rd_T26 l0_5 x23_2).f2.f0), .int .i64 ((rd_T26 l0_5 x23_2).f2.f1), .int .i64 ((rd_T26 l0_5 x23_2).f3), (.slice A153_5 ((rd_T26 l0_5 x23_2).f4).length c153_5)] 26 (0, 0))) ∧ Aside0 (Below w.heap.size w wc))
                case first =>
                  have H := HC20.out
                  clear HC20
                  by_cases c24 : x3_2 = true
                  · subst c24
                    have H1 : (if ((rd_T26 l0_5 x23_2).f0) = 3 then (tree_decl.j2 k2 true l0_5 (l0_5.length : Int) x23_2 ((rd_T26 l0_5 x23_2).f0) ((rd_T26 l0_5 x23_2).f1) ((rd_T26 l0_5 x23_2).f2.f0) ((rd_T26 l0_5 x23_2).f2.f1) ((rd_T26 l0_5 x23_2).f3) ((rd_T26 l0_5 x23_2).f4)) else (tree_decl.j2 k2 (((rd_T26 l0_5 x23_2).f0) == 4) l0_5 (l0_5.length : Int) x23_2 ((rd_T26 l0_5 x23_2).f0) ((rd_T26 l0_5 x23_2).f1) ((rd_T26 l0_5 x23_2).f2.f0) ((rd_T26 l0_5 x23_2).f2.f1) ((rd_T26 l0_5 x23_2).f3) ((rd_T26 l0_5 x23_2).f4))) = some r := by rw [if_pos rfl] at H; exact H
                    clear H
                    have H := H1
                    clear H1
                    by_cases c25 : ((rd_T26 l0_5 x23_2).f0) = 3
                    · rw [if_pos c25] at H
                      have c25b0 : (((rd_T26 l0_5 x23_2).f0) == 3) = true := beq_iff_eq.mpr c25
                      have c25b1 : (((rd_T26 l0_5 x23_2).f0) != 3) = false := bne_eq_false_iff_eq.mpr c25
                      clear c25
                      (first | rw [c25b0] | (simp only [i64_w, i32_w]; rw [c25b0]) | skip)
                      have H' := Aside0.mk H
                      clear H
                      have hnb26 := NB154_150.out
                      have hnc26 := NB150_154.out
                      obtain ⟨hcz27_0, hcz27_1, hcz27_2, hcz27_3, hcz27_4, hcz27_5, hfz27_0, hfz27_1, hfz27_2, hfz27_3, hfz27_4, hfz27_5⟩ := cl6 BK154.out
                      go_wp2
                      go_meet
                      case rel => exact ⟨_, (true), (by first|rfl|(simp;done)|(simp [*];done)), H', ⟨by have := HJ1.out; have := HK2.out; first | omega | exact Nat.le_refl _⟩, ⟨by (with_reducible repeat first|refine kN ?_ _|refine kd ?_|refine ka ?_ _); refine blk_far ?_ NB150_154.out _; (with_reducible repeat first|refine kN ?_ _|refine kd ?_|refine ka ?_ _); refine blk_far ?_ NB150_154.out _; (with_reducible repeat first|refine kN ?_ _|refine kd ?_|refine ka ?_ _); refine blk_far ?_ NB150_154.out _; (with_reducible repeat first|refine kN ?_ _|refine kd ?_|refine ka ?_ _); refine blk_far ?_ NB150_154.out _; (with_reducible repeat first|refine kN ?_ _|refine kd ?_|refine ka ?_ _); refine blk_far ?_ NB150_154.out _; (with_reducible repeat first|refine kN ?_ _|refine kd ?_|refine ka ?_ _); refine blk_far ?_ NB150_154.out _; (with_reducible repeat first|refine kN ?_ _|refine kd ?_|refine ka ?_ _); exact BK150.out⟩, ⟨by (with_reducible repeat first|refine kN ?_ _|refine kd ?_|refine ka ?_ _); refine blk_put (cs := #[.int .i64 ((rd_T26 l0_5 x23_2).f0), .string ((rd_T26 l0_5 x23_2).f1), .int .i64 ((rd_T26 l0_5 x23_2).f2.f0), .int .i64 ((rd_T26 l0_5 x23_2).f2.f1), .int .i64 ((rd_T26 l0_5 x23_2).f3), .slice none 0 0]) ?_ 5 _ rfl; (with_reducible repeat first|refine kN ?_ _|refine kd ?_|refine ka ?_ _); refine blk_put (cs := #[.int .i64 ((rd_T26 l0_5 x23_2).f0), .string ((rd_T26 l0_5 x23_2).f1), .int .i64 ((rd_T26 l0_5 x23_2).f2.f0), .int .i64 ((rd_T26 l0_5 x23_2).f2.f1), .int .i64 0, .slice none 0 0]) ?_ 4 _ rfl; (with_reducible repeat first|refine kN ?_ _|refine kd ?_|refine ka ?_ _); refine blk_put (cs := #[.int .i64 ((rd_T26 l0_5 x23_2).f0), .string ((rd_T26 l0_5 x23_2).f1), .int .i64 ((rd_T26 l0_5 x23_2).f2.f0), .int .i64 0, .int .i64 0, .slice none 0 0]) ?_ 3 _ rfl; (with_reducible repeat first|refine kN ?_ _|refine kd ?_|refine ka ?_ _); refine blk_put (cs := #[.int .i64 ((rd_T26 l0_5 x23_2).f0), .string ((rd_T26 l0_5 x23_2).f1), .int .i64 0, .int .i64 0, .int .i64 0, .slice none 0 0]) ?_ 2 _ rfl; (with_reducible repeat first|refine kN ?_ _|refine kd ?_|refine ka ?_ _); refine blk_put (cs := #[.int .i64 ((rd_T26 l0_5 x23_2).f0), .string (⟨#[]⟩ : ByteArray), .int .i64 0, .int .i64 0, .int .i64 0, .slice none 0 0]) ?_ 1 _ rfl; (with_reducible repeat first|refine kN ?_ _|refine kd ?_|refine ka ?_ _); refine blk_put (cs := #[.int .i64 0, .string (⟨#[]⟩ : ByteArray), .int .i64 0, .int .i64 0, .int .i64 0, .slice none 0 0]) ?_ 0 _ rfl; (with_reducible repeat first|refine kN ?_ _|refine kd ?_|refine ka ?_ _); exact BK154.out⟩, ⟨by repeat with_reducible first|exact HB.out|apply ba|apply bN|apply bd|refine below_set ?_ GE150.out|refine below_set ?_ GE154.out⟩⟩
                    rw [if_neg c25] at H
                    have c25b0 : (((rd_T26 l0_5 x23_2).f0) == 3) = false := beq_eq_false_iff_ne.mpr c25
                    have c25b1 : (((rd_T26 l0_5 x23_2).f0) != 3) = true := bne_iff_ne.mpr c25
                    (first | rw [c25b0] | (simp only [i64_w, i32_w]; rw [c25b0]) | skip)
                    have H' := Aside0.mk H
                    clear H
                    have hnb28 := NB154_150.out
                    have hnc28 := NB150_154.out
                    obtain ⟨hcz29_0, hcz29_1, hcz29_2, hcz29_3, hcz29_4, hcz29_5, hfz29_0, hfz29_1, hfz29_2, hfz29_3, hfz29_4, hfz29_5⟩ := cl6 BK154.out
                    go_wp2
                    go_meet
                    case rel => exact ⟨_, ((((rd_T26 l0_5 x23_2).f0) == 4)), (by first|rfl|(simp;done)|(simp [*];done)), H', ⟨by have := HJ1.out; have := HK2.out; first | omega | exact Nat.le_refl _⟩, ⟨by (with_reducible repeat first|refine kN ?_ _|refine kd ?_|refine ka ?_ _); refine blk_far ?_ NB150_154.out _; (with_reducible repeat first|refine kN ?_ _|refine kd ?_|refine ka ?_ _); refine blk_far ?_ NB150_154.out _; (with_reducible repeat first|refine kN ?_ _|refine kd ?_|refine ka ?_ _); refine blk_far ?_ NB150_154.out _; (with_reducible repeat first|refine kN ?_ _|refine kd ?_|refine ka ?_ _); refine blk_far ?_ NB150_154.out _; (with_reducible repeat first|refine kN ?_ _|refine kd ?_|refine ka ?_ _); refine blk_far ?_ NB150_154.out _; (with_reducible repeat first|refine kN ?_ _|refine kd ?_|refine ka ?_ _); refine blk_far ?_ NB150_154.out _; (with_reducible repeat first|refine kN ?_ _|refine kd ?_|refine ka ?_ _); exact BK150.out⟩, ⟨by (with_reducible repeat first|refine kN ?_ _|refine kd ?_|refine ka ?_ _); refine blk_put (cs := #[.int .i64 ((rd_T26 l0_5 x23_2).f0), .string ((rd_T26 l0_5 x23_2).f1), .int .i64 ((rd_T26 l0_5 x23_2).f2.f0), .int .i64 ((rd_T26 l0_5 x23_2).f2.f1), .int .i64 ((rd_T26 l0_5 x23_2).f3), .slice none 0 0]) ?_ 5 _ rfl; (with_reducible repeat first|refine kN ?_ _|refine kd ?_|refine ka ?_ _); refine blk_put (cs := #[.int .i64 ((rd_T26 l0_5 x23_2).f0), .string ((rd_T26 l0_5 x23_2).f1), .int .i64 ((rd_T26 l0_5 x23_2).f2.f0), .int .i64 ((rd_T26 l0_5 x23_2).f2.f1), .int .i64 0, .slice none 0 0]) ?_ 4 _ rfl; (with_reducible repeat first|refine kN ?_ _|refine kd ?_|refine ka ?_ _); refine blk_put (cs := #[.int .i64 ((rd_T26 l0_5 x23_2).f0), .string ((rd_T26 l0_5 x23_2).f1), .int .i64 ((rd_T26 l0_5 x23_2).f2.f0), .int .i64 0, .int .i64 0, .slice none 0 0]) ?_ 3 _ rfl; (with_reducible repeat first|refine kN ?_ _|refine kd ?_|refine ka ?_ _); refine blk_put (cs := #[.int .i64 ((rd_T26 l0_5 x23_2).f0), .string ((rd_T26 l0_5 x23_2).f1), .int .i64 0, .int .i64 0, .int .i64 0, .slice none 0 0]) ?_ 2 _ rfl; (with_reducible repeat first|refine kN ?_ _|refine kd ?_|refine ka ?_ _); refine blk_put (cs := #[.int .i64 ((rd_T26 l0_5 x23_2).f0), .string (⟨#[]⟩ : ByteArray), .int .i64 0, .int .i64 0, .int .i64 0, .slice none 0 0]) ?_ 1 _ rfl; (with_reducible repeat first|refine kN ?_ _|refine kd ?_|refine ka ?_ _); refine blk_put (cs := #[.int .i64 0, .string (⟨#[]⟩ : ByteArray), .int .i64 0, .int .i64 0, .int .i64 0, .slice none 0 0]) ?_ 0 _ rfl; (with_reducible repeat first|refine kN ?_ _|refine kd ?_|refine ka ?_ _); exact BK154.out⟩, ⟨by repeat with_reducible first|exact HB.out|apply ba|apply bN|apply bd|refine below_set ?_ GE150.out|refine below_set ?_ GE154.out⟩⟩
                  replace c24 := Bool.eq_false_iff.mpr c24
                  subst c24
                  have H1 : (tree_decl.j2 k2 false l0_5 (l0_5.length : Int) x23_2 ((rd_T26 l0_5 x23_2).f0) ((rd_T26 l0_5 x23_2).f1) ((rd_T26 l0_5 x23_2).f2.f0) ((rd_T26 l0_5 x23_2).f2.f1) ((rd_T26 l0_5 x23_2).f3) ((rd_T26 l0_5 x23_2).f4)) = some r := by rw [if_neg (show ¬ (false = true) by decide)] at H; exact H
                  clear H
                  have H := H1
                  clear H1
                  have H' := Aside0.mk H
                  clear H
                  go_wp2
                  go_meet
                  case rel => exact ⟨_, (false), (by first|rfl|(simp;done)|(simp [*];done)), H', ⟨by have := HJ1.out; have := HK2.out; first | omega | exact Nat.le_refl _⟩, ⟨by (with_reducible repeat first|refine kN ?_ _|refine kd ?_|refine ka ?_ _); refine blk_far ?_ NB150_154.out _; (with_reducible repeat first|refine kN ?_ _|refine kd ?_|refine ka ?_ _); refine blk_far ?_ NB150_154.out _; (with_reducible repeat first|refine kN ?_ _|refine kd ?_|refine ka ?_ _); refine blk_far ?_ NB150_154.out _; (with_reducible repeat first|refine kN ?_ _|refine kd ?_|refine ka ?_ _); refine blk_far ?_ NB150_154.out _; (with_reducible repeat first|refine kN ?_ _|refine kd ?_|refine ka ?_ _); refine blk_far ?_ NB150_154.out _; (with_reducible repeat first|refine kN ?_ _|refine kd ?_|refine ka ?_ _); refine blk_far ?_ NB150_154.out _; (with_reducible repeat first|refine kN ?_ _|refine kd ?_|refine ka ?_ _); exact BK150.out⟩, ⟨by (with_reducible repeat first|refine kN ?_ _|refine kd ?_|refine ka ?_ _); refine blk_put (cs := #[.int .i64 ((rd_T26 l0_5 x23_2).f0), .string ((rd_T26 l0_5 x23_2).f1), .int .i64 ((rd_T26 l0_5 x23_2).f2.f0), .int .i64 ((rd_T26 l0_5 x23_2).f2.f1), .int .i64 ((rd_T26 l0_5 x23_2).f3), .slice none 0 0]) ?_ 5 _ rfl; (with_reducible repeat first|refine kN ?_ _|refine kd ?_|refine ka ?_ _); refine blk_put (cs := #[.int .i64 ((rd_T26 l0_5 x23_2).f0), .string ((rd_T26 l0_5 x23_2).f1), .int .i64 ((rd_T26 l0_5 x23_2).f2.f0), .int .i64 ((rd_T26 l0_5 x23_2).f2.f1), .int .i64 0, .slice none 0 0]) ?_ 4 _ rfl; (with_reducible repeat first|refine kN ?_ _|refine kd ?_|refine ka ?_ _); refine blk_put (cs := #[.int .i64 ((rd_T26 l0_5 x23_2).f0), .string ((rd_T26 l0_5 x23_2).f1), .int .i64 ((rd_T26 l0_5 x23_2).f2.f0), .int .i64 0, .int .i64 0, .slice none 0 0]) ?_ 3 _ rfl; (with_reducible repeat first|refine kN ?_ _|refine kd ?_|refine ka ?_ _); refine blk_put (cs := #[.int .i64 ((rd_T26 l0_5 x23_2).f0), .string ((rd_T26 l0_5 x23_2).f1), .int .i64 0, .int .i64 0, .int .i64 0, .slice none 0 0]) ?_ 2 _ rfl; (with_reducible repeat first|refine kN ?_ _|refine kd ?_|refine ka ?_ _); refine blk_put (cs := #[.int .i64 ((rd_T26 l0_5 x23_2).f0), .string (⟨#[]⟩ : ByteArray), .int .i64 0, .int .i64 0, .int .i64 0, .slice none 0 0]) ?_ 1 _ rfl; (with_reducible repeat first|refine kN ?_ _|refine kd ?_|refine ka ?_ _); refine blk_put (cs := #[.int .i64 0, .string (⟨#[]⟩ : ByteArray), .int .i64 0, .int .i64 0, .int .i64 0, .slice none 0 0]) ?_ 0 _ rfl; (with_reducible repeat first|refine kN ?_ _|refine kd ?_|refine ka ?_ _); exact BK154.out⟩, ⟨by repeat with_reducible first|exact HB.out|apply ba|apply bN|apply bd|refine below_set ?_ GE150.out|refine below_set ?_ GE154.out⟩⟩
                case rest =>
                  clear HC20
                  try clear c1;try clear p1;try clear q1;try clear hx1;try clear c2;try clear p2;try clear c4;try clear c4b0;try clear c4b1;try clear c6;try clear c15;try clear p15;try clear q15;try clear hx15;try clear c17;try clear c17b0;try clear c18;try clear c18b0;try clear c19;try clear c19b0;try clear c22;try clear c24;try clear c25;try clear c25b0;try clear c25b1;try clear c26;try clear c28;try clear hcz10_0;try clear hcz10_1;try clear hcz10_2;try clear hcz10_3;try clear hcz10_4;try clear hcz10_5;try clear hcz12_0;try clear hcz12_1;try clear hcz12_2;try clear hcz12_3;try clear hcz12_4;try clear hcz12_5;try clear hcz14_0;try clear hcz14_1;try clear hcz14_2;try clear hcz14_3;try clear hcz14_4;try clear hcz14_5;try clear hcz16_0;try clear hcz16_1;try clear hcz16_2;try clear hcz16_3;try clear hcz16_4;try clear hcz16_5;try clear hcz23_0;try clear hcz23_1;try clear hcz23_2;try clear hcz23_3;try clear hcz23_4;try clear hcz23_5;try clear hcz27_0;try clear hcz27_1;try clear hcz27_2;try clear hcz27_3;try clear hcz27_4;try clear hcz27_5;try clear hcz29_0;try clear hcz29_1;try clear hcz29_2;try clear hcz29_3;try clear hcz29_4;try clear hcz29_5;try clear hcz8_0;try clear hcz8_1;try clear hcz8_2;try clear hcz8_3;try clear hcz8_4;try clear hcz8_5;try clear hfz10_0;try clear hfz10_1;try clear hfz10_2;try clear hfz10_3;try clear hfz10_4;try clear hfz10_5;try clear hfz12_0;try clear hfz12_1;try clear hfz12_2;try clear hfz12_3;try clear hfz12_4;try clear hfz12_5;try clear hfz14_0;try clear hfz14_1;try clear hfz14_2;try clear hfz14_3;try clear hfz14_4;try clear hfz14_5;try clear hfz16_0;try clear hfz16_1;try clear hfz16_2;try clear hfz16_3;try clear hfz16_4;try clear hfz16_5;try clear hfz23_0;try clear hfz23_1;try clear hfz23_2;try clear hfz23_3;try clear hfz23_4;try clear hfz23_5;try clear hfz27_0;try clear hfz27_1;try clear hfz27_2;try clear hfz27_3;try clear hfz27_4;try clear hfz27_5;try clear hfz29_0;try clear hfz29_1;try clear hfz29_2;try clear hfz29_3;try clear hfz29_4;try clear hfz29_5;try clear hfz8_0;try clear hfz8_1;try clear hfz8_2;try clear hfz8_3;try clear hfz8_4;try clear hfz8_5;try clear hx153_0;try clear hx153_1;try clear hx153_2;try clear hx153_3;try clear hx153_4;try clear hx153_5;try clear p153;try clear p2;try clear q153
                  obtain ⟨kq, x3_19, rfl, HA, HJ19, BK150, BK154, HB⟩ := hcut
                  cases kq with
                  | zero => exact absurd HA.out (by simp [tree_decl.j2])
                  | succ kj19 =>
                    have H := HA.out
                    clear HA
                    simp only [tree_decl.j2] at H
                    by_cases c30 : x3_19 = true
                    · subst c30
                      have H1 : ((tree_value.f kj19 ((rd_T26 l0_5 x23_2).f0) ((rd_T26 l0_5 x23_2).f1) ((rd_T26 l0_5 x23_2).f2.f0) ((rd_T26 l0_5 x23_2).f2.f1) ((rd_T26 l0_5 x23_2).f3) ((rd_T26 l0_5 x23_2).f4) 0).bind fun t155 => (if t155 = true then (tree_decl.l0 kj19 true l0_5 (l0_5.length : Int) (wrap64 (x23_2 + 1))) else (some false))) = some r := by rw [if_pos rfl] at H; exact H
                      clear H
                      have H := H1
                      clear H1
                      replace H := Option.bind_eq_some_iff.mp H
                      obtain ⟨t155, A310, H⟩ := H
                      replace H : (if t155 = true then (tree_decl.l0 kj19 true l0_5 (l0_5.length : Int) (wrap64 (x23_2 + 1))) else (some false)) = some r := H
                      have A31 := Aside0.mk A310
                      clear A310
                      by_cases c32 : t155 = true
                      · subst c32
                        have H1 : (tree_decl.l0 kj19 true l0_5 (l0_5.length : Int) (wrap64 (x23_2 + 1))) = some r := by rw [if_pos rfl] at H; exact H
                        clear H
                        have H := H1
                        clear H1
                        have H' := Aside0.mk H
                        clear H
                        have hnb33 := NB154_150.out
                        have hnc33 := NB150_154.out
                        obtain ⟨hcz34_0, hcz34_1, hcz34_2, hcz34_3, hcz34_4, hcz34_5, hfz34_0, hfz34_1, hfz34_2, hfz34_3, hfz34_4, hfz34_5⟩ := cl6 BK154.out
                        go_wp2_with (first | (go_at_call 35; (with_reducible refine (tree_value.calls kj19 ((rd_T26 l0_5 x23_2).f0) ((rd_T26 l0_5 x23_2).f1) ((rd_T26 l0_5 x23_2).f2.f0) ((rd_T26 l0_5 x23_2).f2.f1) ((rd_T26 l0_5 x23_2).f3) _ _ ((rd_T26 l0_5 x23_2).f4) 0 true _ ?side1 ?side2 ?side3 A31.out).mono ?_); (case side1 => exact Go.Proofs.YtahjkibjcibpgaaGreatDoor.U.UW.step HGW.out (by repeat with_reducible first|exact HB.out|apply ba|apply bN|apply bd|refine below_set ?_ GE150.out|refine below_set ?_ GE154.out)); (case side2 => repeat (first | exact (Kd.C_below HR153_5.out HB.out) | (with_reducible refine Kd.C_alloc ?_ _) | (with_reducible refine Kd.C_drewN ?_ _) | (with_reducible refine Kd.C_drew ?_))); (case side3 => exact HC153_5.out); rintro e w35 ⟨rfl, hb⟩; have n0_ := Aside0.mk (blk_below (g := gb150) (o := .cells #[.int .i64 a0_0, .string a0_1, .int .i64 a0_2, .int .i64 a0_3, .int .i64 a0_4, .slice (some ad153) l0_5.length c0_5] 26 (0, 0)) (by (with_reducible repeat first|refine kN ?_ _|refine kd ?_|refine ka ?_ _); exact BK150.out) hb); have n1_ := Aside0.mk (blk_below (g := gb154) (o := .cells #[.int .i64 ((rd_T26 l0_5 x23_2).f0), .string ((rd_T26 l0_5 x23_2).f1), .int .i64 ((rd_T26 l0_5 x23_2).f2.f0), .int .i64 ((rd_T26 l0_5 x23_2).f2.f1), .int .i64 ((rd_T26 l0_5 x23_2).f3), .slice A153_5 ((rd_T26 l0_5 x23_2).f4).length c153_5] 26 (0, 0)) (by (with_reducible repeat first|refine kN ?_ _|refine kd ?_|refine ka ?_ _); exact BK154.out) hb); have n2_ := Aside0.mk (below_step (by repeat with_reducible first|exact HB.out|apply ba|apply bN|apply bd|refine below_set ?_ GE150.out|refine below_set ?_ GE154.out) hb); clear BK150; clear BK154; clear HB; have BK150 := n0_; have BK154 := n1_; have HB := n2_; clear n0_ n1_ n2_; (try clear hb); (try clear hb2); (try clear hk); (try clear hi)))
                        go_roundg kj19
                        case measure => have := HJ1.out; have := HK2.out; have := HJ19.out; omega
                        case rel => exact ⟨(true), (wrap64 (x23_2 + 1)), (by first|rfl|(simp;done)|(simp [*];done)), (by first|rfl|(simp;done)|(simp [*];done)), H', ⟨by have := HJ1.out; have := HK2.out; have := HJ19.out; omega⟩, ⟨by (with_reducible repeat first|refine kN ?_ _|refine kd ?_|refine ka ?_ _); exact BK150.out⟩, ⟨by repeat with_reducible first|exact HB.out|apply ba|apply bN|apply bd|refine below_set ?_ GE150.out|refine below_set ?_ GE154.out⟩⟩
                      replace c32 := Bool.eq_false_iff.mpr c32
                      subst c32
                      have H1 : (some false) = some r := by rw [if_neg (show ¬ (false = true) by decide)] at H; exact H
                      clear H
                      have H := H1
                      clear H1
                      obtain rfl := Option.some.inj H
                      have hnb36 := NB154_150.out
                      have hnc36 := NB150_154.out
                      obtain ⟨hcz37_0, hcz37_1, hcz37_2, hcz37_3, hcz37_4, hcz37_5, hfz37_0, hfz37_1, hfz37_2, hfz37_3, hfz37_4, hfz37_5⟩ := cl6 BK154.out
                      go_wp2_with (first | (go_at_call 35; (with_reducible refine (tree_value.calls kj19 ((rd_T26 l0_5 x23_2).f0) ((rd_T26 l0_5 x23_2).f1) ((rd_T26 l0_5 x23_2).f2.f0) ((rd_T26 l0_5 x23_2).f2.f1) ((rd_T26 l0_5 x23_2).f3) _ _ ((rd_T26 l0_5 x23_2).f4) 0 false _ ?side1 ?side2 ?side3 A31.out).mono ?_); (case side1 => exact Go.Proofs.YtahjkibjcibpgaaGreatDoor.U.UW.step HGW.out (by repeat with_reducible first|exact HB.out|apply ba|apply bN|apply bd|refine below_set ?_ GE150.out|refine below_set ?_ GE154.out)); (case side2 => repeat (first | exact (Kd.C_below HR153_5.out HB.out) | (with_reducible refine Kd.C_alloc ?_ _) | (with_reducible refine Kd.C_drewN ?_ _) | (with_reducible refine Kd.C_drew ?_))); (case side3 => exact HC153_5.out); rintro e w38 ⟨rfl, hb⟩; have n0_ := Aside0.mk (blk_below (g := gb150) (o := .cells #[.int .i64 a0_0, .string a0_1, .int .i64 a0_2, .int .i64 a0_3, .int .i64 a0_4, .slice (some ad153) l0_5.length c0_5] 26 (0, 0)) (by (with_reducible repeat first|refine kN ?_ _|refine kd ?_|refine ka ?_ _); exact BK150.out) hb); have n1_ := Aside0.mk (blk_below (g := gb154) (o := .cells #[.int .i64 ((rd_T26 l0_5 x23_2).f0), .string ((rd_T26 l0_5 x23_2).f1), .int .i64 ((rd_T26 l0_5 x23_2).f2.f0), .int .i64 ((rd_T26 l0_5 x23_2).f2.f1), .int .i64 ((rd_T26 l0_5 x23_2).f3), .slice A153_5 ((rd_T26 l0_5 x23_2).f4).length c153_5] 26 (0, 0)) (by (with_reducible repeat first|refine kN ?_ _|refine kd ?_|refine ka ?_ _); exact BK154.out) hb); have n2_ := Aside0.mk (below_step (by repeat with_reducible first|exact HB.out|apply ba|apply bN|apply bd|refine below_set ?_ GE150.out|refine below_set ?_ GE154.out) hb); clear BK150; clear BK154; clear HB; have BK150 := n0_; have BK154 := n1_; have HB := n2_; clear n0_ n1_ n2_; (try clear hb); (try clear hb2); (try clear hk); (try clear hi)))
                      go_ret
                      exact ⟨by first|rfl|(simp<;>rfl)|(simp [*]<;>rfl), by repeat with_reducible first|exact HB.out|apply ba|apply bN|apply bd|refine below_set ?_ GE150.out|refine below_set ?_ GE154.out⟩
                    replace c30 := Bool.eq_false_iff.mpr c30
                    subst c30
                    have H1 : ((tree_prop.f kj19 ((rd_T26 l0_5 x23_2).f0) ((rd_T26 l0_5 x23_2).f1) ((rd_T26 l0_5 x23_2).f2.f0) ((rd_T26 l0_5 x23_2).f2.f1) ((rd_T26 l0_5 x23_2).f3) ((rd_T26 l0_5 x23_2).f4)).bind fun t156 => (if t156 = true then (tree_decl.l0 kj19 false l0_5 (l0_5.length : Int) (wrap64 (x23_2 + 1))) else (some false))) = some r := by rw [if_neg (show ¬ (false = true) by decide)] at H; exact H
                    clear H
                    have H := H1
                    clear H1
                    replace H := Option.bind_eq_some_iff.mp H
                    obtain ⟨t156, A390, H⟩ := H
                    replace H : (if t156 = true then (tree_decl.l0 kj19 false l0_5 (l0_5.length : Int) (wrap64 (x23_2 + 1))) else (some false)) = some r := H
                    have A39 := Aside0.mk A390
                    clear A390
                    by_cases c40 : t156 = true
                    · subst c40
                      have H1 : (tree_decl.l0 kj19 false l0_5 (l0_5.length : Int) (wrap64 (x23_2 + 1))) = some r := by rw [if_pos rfl] at H; exact H
                      clear H
                      have H := H1
                      clear H1
                      have H' := Aside0.mk H
                      clear H
                      have hnb41 := NB154_150.out
                      have hnc41 := NB150_154.out
                      obtain ⟨hcz42_0, hcz42_1, hcz42_2, hcz42_3, hcz42_4, hcz42_5, hfz42_0, hfz42_1, hfz42_2, hfz42_3, hfz42_4, hfz42_5⟩ := cl6 BK154.out
                      go_wp2_with (first | (go_at_call 36; (with_reducible refine (tree_prop.calls kj19 ((rd_T26 l0_5 x23_2).f0) ((rd_T26 l0_5 x23_2).f1) ((rd_T26 l0_5 x23_2).f2.f0) ((rd_T26 l0_5 x23_2).f2.f1) ((rd_T26 l0_5 x23_2).f3) _ _ ((rd_T26 l0_5 x23_2).f4) true _ ?side1 ?side2 ?side3 A39.out).mono ?_); (case side1 => exact Go.Proofs.YtahjkibjcibpgaaGreatDoor.U.UW.step HGW.out (by repeat with_reducible first|exact HB.out|apply ba|apply bN|apply bd|refine below_set ?_ GE150.out|refine below_set ?_ GE154.out)); (case side2 => repeat (first | exact (Kd.C_below HR153_5.out HB.out) | (with_reducible refine Kd.C_alloc ?_ _) | (with_reducible refine Kd.C_drewN ?_ _) | (with_reducible refine Kd.C_drew ?_))); (case side3 => exact HC153_5.out); rintro e w43 ⟨rfl, hb⟩; have n0_ := Aside0.mk (blk_below (g := gb150) (o := .cells #[.int .i64 a0_0, .string a0_1, .int .i64 a0_2, .int .i64 a0_3, .int .i64 a0_4, .slice (some ad153) l0_5.length c0_5] 26 (0, 0)) (by (with_reducible repeat first|refine kN ?_ _|refine kd ?_|refine ka ?_ _); exact BK150.out) hb); have n1_ := Aside0.mk (blk_below (g := gb154) (o := .cells #[.int .i64 ((rd_T26 l0_5 x23_2).f0), .string ((rd_T26 l0_5 x23_2).f1), .int .i64 ((rd_T26 l0_5 x23_2).f2.f0), .int .i64 ((rd_T26 l0_5 x23_2).f2.f1), .int .i64 ((rd_T26 l0_5 x23_2).f3), .slice A153_5 ((rd_T26 l0_5 x23_2).f4).length c153_5] 26 (0, 0)) (by (with_reducible repeat first|refine kN ?_ _|refine kd ?_|refine ka ?_ _); exact BK154.out) hb); have n2_ := Aside0.mk (below_step (by repeat with_reducible first|exact HB.out|apply ba|apply bN|apply bd|refine below_set ?_ GE150.out|refine below_set ?_ GE154.out) hb); clear BK150; clear BK154; clear HB; have BK150 := n0_; have BK154 := n1_; have HB := n2_; clear n0_ n1_ n2_; (try clear hb); (try clear hb2); (try clear hk); (try clear hi)))
                      go_roundg kj19
                      case measure => have := HJ1.out; have := HK2.out; have := HJ19.out; omega
                      case rel => exact ⟨(false), (wrap64 (x23_2 + 1)), (by first|rfl|(simp;done)|(simp [*];done)), (by first|rfl|(simp;done)|(simp [*];done)), H', ⟨by have := HJ1.out; have := HK2.out; have := HJ19.out; omega⟩, ⟨by (with_reducible repeat first|refine kN ?_ _|refine kd ?_|refine ka ?_ _); exact BK150.out⟩, ⟨by repeat with_reducible first|exact HB.out|apply ba|apply bN|apply bd|refine below_set ?_ GE150.out|refine below_set ?_ GE154.out⟩⟩
                    replace c40 := Bool.eq_false_iff.mpr c40
                    subst c40
                    have H1 : (some false) = some r := by rw [if_neg (show ¬ (false = true) by decide)] at H; exact H
                    clear H
                    have H := H1
                    clear H1
                    obtain rfl := Option.some.inj H
                    have hnb44 := NB154_150.out
                    have hnc44 := NB150_154.out
                    obtain ⟨hcz45_0, hcz45_1, hcz45_2, hcz45_3, hcz45_4, hcz45_5, hfz45_0, hfz45_1, hfz45_2, hfz45_3, hfz45_4, hfz45_5⟩ := cl6 BK154.out
                    go_wp2_with (first | (go_at_call 36; (with_reducible refine (tree_prop.calls kj19 ((rd_T26 l0_5 x23_2).f0) ((rd_T26 l0_5 x23_2).f1) ((rd_T26 l0_5 x23_2).f2.f0) ((rd_T26 l0_5 x23_2).f2.f1) ((rd_T26 l0_5 x23_2).f3) _ _ ((rd_T26 l0_5 x23_2).f4) false _ ?side1 ?side2 ?side3 A39.out).mono ?_); (case side1 => exact Go.Proofs.YtahjkibjcibpgaaGreatDoor.U.UW.step HGW.out (by repeat with_reducible first|exact HB.out|apply ba|apply bN|apply bd|refine below_set ?_ GE150.out|refine below_set ?_ GE154.out)); (case side2 => repeat (first | exact (Kd.C_below HR153_5.out HB.out) | (with_reducible refine Kd.C_alloc ?_ _) | (with_reducible refine Kd.C_drewN ?_ _) | (with_reducible refine Kd.C_drew ?_))); (case side3 => exact HC153_5.out); rintro e w46 ⟨rfl, hb⟩; have n0_ := Aside0.mk (blk_below (g := gb150) (o := .cells #[.int .i64 a0_0, .string a0_1, .int .i64 a0_2, .int .i64 a0_3, .int .i64 a0_4, .slice (some ad153) l0_5.length c0_5] 26 (0, 0)) (by (with_reducible repeat first|refine kN ?_ _|refine kd ?_|refine ka ?_ _); exact BK150.out) hb); have n1_ := Aside0.mk (blk_below (g := gb154) (o := .cells #[.int .i64 ((rd_T26 l0_5 x23_2).f0), .string ((rd_T26 l0_5 x23_2).f1), .int .i64 ((rd_T26 l0_5 x23_2).f2.f0), .int .i64 ((rd_T26 l0_5 x23_2).f2.f1), .int .i64 ((rd_T26 l0_5 x23_2).f3), .slice A153_5 ((rd_T26 l0_5 x23_2).f4).length c153_5] 26 (0, 0)) (by (with_reducible repeat first|refine kN ?_ _|refine kd ?_|refine ka ?_ _); exact BK154.out) hb); have n2_ := Aside0.mk (below_step (by repeat with_reducible first|exact HB.out|apply ba|apply bN|apply bd|refine below_set ?_ GE150.out|refine below_set ?_ GE154.out) hb); clear BK150; clear BK154; clear HB; have BK150 := n0_; have BK154 := n1_; have HB := n2_; clear n0_ n1_ n2_; (try clear hb); (try clear hb2); (try clear hk); (try clear hi)))
                    go_ret
                    exact ⟨by first|rfl|(simp<;>rfl)|(simp [*]<;>rfl), by repeat with_reducible first|exact HB.out|apply ba|apply bN|apply bd|refine below_set ?_ GE150.out|refine below_set ?_ GE154.out⟩
              rw [if_neg c19] at H
              exact absurd H (by simp)
            rw [if_neg c18] at H
            exact absurd H (by simp)
          rw [if_neg c17] at H
          have c17b0 : decide (x23_2 < (l0_5.length : Int)) = false := decide_eq_false c17
          clear c17
          obtain rfl := Option.some.inj H
          go_wp2
          go_ret
          exact ⟨by first|rfl|(simp<;>rfl)|(simp [*]<;>rfl), by repeat with_reducible first|exact HB.out|apply ba|apply bN|apply bd|refine below_set ?_ GE150.out⟩
end Go.Proofs.YtahjkibjcibpgaaGreatDoor.PTr
end
section
namespace Go.Proofs.YtahjkibjcibpgaaGreatDoor.PTr
open Go.RowKit Go.Proofs.YtahjkibjcibpgaaGreatDoorW.Sq Go.Proofs.YtahjkibjcibpgaaGreatDoorW.PrintWords Go.Proofs.YtahjkibjcibpgaaGreatDoorW.PrintLast Go.Proofs.YtahjkibjcibpgaaGreatDoorW.PrintMore
attribute [local go_sem] max2_int min2_int max_two min_two max_three min_three max_four min_four   -- for this text's walks alone
set_option linter.unusedVariables false
set_option linter.unusedSimpArgs false
mutual
def tree_Right.j0 : Nat → Bool → Int → ByteArray → Int → Int → Int → List (S26) → Option (Bool)
  | 0, _, _, _, _, _, _, _ => none
  | k + 1, x12, x158000, x158001, x158002, x158003, x158004, x158005 => if x12 = true then (some false) else (tree_Right.l0 k x158005 (x158005.length : Int) 0)
def tree_Right.l0 : Nat → List (S26) → Int → Int → Option (Bool)
  | 0, _, _, _ => none
  | k + 1, x14, x15, x16 => if x16 < x15 then (if 0 ≤ x16 then (if x16 < (x14.length : Int) then ((tree_decl.f k ((rd_T26 x14 x16).f0) ((rd_T26 x14 x16).f1) ((rd_T26 x14 x16).f2.f0) ((rd_T26 x14 x16).f2.f1) ((rd_T26 x14 x16).f3) ((rd_T26 x14 x16).f4)).bind fun t161 => (if t161 = true then (tree_Right.l0 k x14 x15 (wrap64 (x16 + 1))) else (some false))) else (none)) else (none)) else (some true)
end
def tree_Right.f (k : Nat) (a0_0 : Int) (a0_1 : ByteArray) (a0_2 : Int) (a0_3 : Int) (a0_4 : Int) (l0_5 : List (S26)) : Option (Bool) := if a0_0 = 0 then ((tree_plain.f a0_0 a0_1 a0_2 a0_3 a0_4 l0_5).bind fun t158 => (tree_Right.j0 k (!t158) a0_0 a0_1 a0_2 a0_3 a0_4 l0_5)) else (tree_Right.j0 k true a0_0 a0_1 a0_2 a0_3 a0_4 l0_5)
theorem tree_Right.mono_l : ∀ k, (∀ y0 y1 y2 y3 y4 y5 y6, LeO (tree_Right.j0 k y0 y1 y2 y3 y4 y5 y6) (tree_Right.j0 (k + 1) y0 y1 y2 y3 y4 y5 y6)) ∧ (∀ y0 y1 y2, LeO (tree_Right.l0 k y0 y1 y2) (tree_Right.l0 (k + 1) y0 y1 y2))
  | 0 => ⟨fun _ _ _ _ _ _ _ r h => by simp [tree_Right.j0] at h, fun _ _ _ r h => by simp [tree_Right.l0] at h⟩
  | k + 1 => by
    obtain ⟨ih0, ih1⟩ := tree_Right.mono_l k
    refine ⟨?_, ?_⟩
    · intro y0 y1 y2 y3 y4 y5 y6
      unfold tree_Right.j0
      repeat' first
      | (with_reducible exact ih0 _ _ _ _ _ _ _)
      | (with_reducible exact ih1 _ _ _)
      | (with_reducible exact tree_decl.mono _ _ _ _ _ _ _)
      | (with_reducible exact LeO.refl _)
      | (with_reducible exact LeO.none _)
      | (with_reducible refine LeO.ite ?_ ?_)
      | (with_reducible refine LeO.bind ?_ (fun _ => ?_))
      | exact ih0 _ _ _ _ _ _ _
      | exact ih1 _ _ _
      | exact tree_decl.mono _ _ _ _ _ _ _
      | exact LeO.none _
      | refine LeO.ite ?_ ?_
      | refine LeO.bind ?_ (fun _ => ?_)
    intro y0 y1 y2
    unfold tree_Right.l0
    repeat' first
    | (with_reducible exact ih0 _ _ _ _ _ _ _)
    | (with_reducible exact ih1 _ _ _)
    | (with_reducible exact tree_decl.mono _ _ _ _ _ _ _)
    | (with_reducible exact LeO.refl _)
    | (with_reducible exact LeO.none _)
    | (with_reducible refine LeO.ite ?_ ?_)
    | (with_reducible refine LeO.bind ?_ (fun _ => ?_))
    | exact ih0 _ _ _ _ _ _ _
    | exact ih1 _ _ _
    | exact tree_decl.mono _ _ _ _ _ _ _
    | exact LeO.none _
    | refine LeO.ite ?_ ?_
    | refine LeO.bind ?_ (fun _ => ?_)
theorem tree_Right.mono : ∀ a0 a1 a2 a3 a4 a5 k, LeO (tree_Right.f k a0 a1 a2 a3 a4 a5) (tree_Right.f (k + 1) a0 a1 a2 a3 a4 a5) := by
  intro a0 a1 a2 a3 a4 a5 k
  obtain ⟨ih0, ih1⟩ := tree_Right.mono_l k
  unfold tree_Right.f
  repeat' first
      | (with_reducible exact ih0 _ _ _ _ _ _ _)
      | (with_reducible exact ih1 _ _ _)
      | (with_reducible exact tree_decl.mono _ _ _ _ _ _ _)
      | (with_reducible exact LeO.refl _)
      | (with_reducible exact LeO.none _)
      | (with_reducible refine LeO.ite ?_ ?_)
      | (with_reducible refine LeO.bind ?_ (fun _ => ?_))
      | exact ih0 _ _ _ _ _ _ _
      | exact ih1 _ _ _
      | exact tree_decl.mono _ _ _ _ _ _ _
      | exact LeO.none _
      | refine LeO.ite ?_ ?_
      | refine LeO.bind ?_ (fun _ => ?_)
set_option maxHeartbeats 8000000 in
set_option maxRecDepth 100000 in
theorem tree_Right.calls (k : Nat) (a0_0 : Int) (a0_1 : ByteArray) (a0_2 : Int) (a0_3 : Int) (a0_4 : Int) (A0_5 : Option Addr) (c0_5 : Nat) (l0_5 : List (S26)) (r : Bool) (w : World) (hg : Go.Proofs.YtahjkibjcibpgaaGreatDoor.U.UW w) (hr0_5 : Kd.C k26 w A0_5 l0_5.length l0_5) (hc0_5 : l0_5.length ≤ c0_5) (h : tree_Right.f k a0_0 a0_1 a0_2 a0_3 a0_4 l0_5 = some r) :
    Calls Tryz.prog 11 #[.agg #[.int .i64 a0_0, .string a0_1, .int .i64 a0_2, .int .i64 a0_3, .int .i64 a0_4, .slice A0_5 l0_5.length c0_5]] w fun e w' => e = .returned (.bool r) ∧ Below w.heap.size w w' := by
  have hu26 := Tryz.underlying26
  have HR0_5 := Aside0.mk hr0_5
  have HC0_5 := Aside0.mk hc0_5
  clear hr0_5 hc0_5
  have HB := Aside0.mk (Below.refl w.heap.size w)
  have HGW := Aside0.mk hg
  clear hg
  have H : (if a0_0 = 0 then ((tree_plain.f a0_0 a0_1 a0_2 a0_3 a0_4 l0_5).bind fun t158 => (tree_Right.j0 k (!t158) a0_0 a0_1 a0_2 a0_3 a0_4 l0_5)) else (tree_Right.j0 k true a0_0 a0_1 a0_2 a0_3 a0_4 l0_5)) = some r := h
  clear h
  have HC2 := Aside0.mk H
  clear H
  go_enter Tryz.func11, Tryz.ntmps11
  go_upto_region 1 with (first | ((with_reducible refine gate_dst (N := 1) rfl ?_); refine box_event ?hg (N := 1) ?hd (cs := #[.int .i64 a0_0, .string a0_1, .int .i64 a0_2, .int .i64 a0_3, .int .i64 a0_4, .slice A0_5 l0_5.length c0_5]) (t := 26) ?hr ?_; (case hd => rfl); (case hg => rfl); (case hr => first | (go_simp; done) | (go_simp; rfl)); intro gb157 hg w3 hbox hb; have n0_ := Aside0.mk (below_step (by repeat with_reducible first|exact HB.out|apply ba|apply bN|apply bd) hb); have n1_ := Aside0.mk (hbox); have n2_ := Aside0.mk ((by rw [hg]; exact (below_size (by repeat with_reducible first|exact HB.out|apply ba|apply bN|apply bd)) : w.heap.size ≤ gb157)); have n3_ := Aside0.mk ((by rw [hg]; exact (below_size (by repeat with_reducible first|exact HB.out|apply ba|apply bN|apply bd)) : w.heap.size ≤ gb157)); clear HB; have HB := n0_; have BK157 := n1_; have GW157 := n2_; have GE157 := n3_; clear n0_ n1_ n2_ n3_; clear hb hbox hg))
  (try simp only [Act.put, List.setIfInBounds_toArray, List.set_cons_zero, List.set_cons_succ])
  go_cut [12] (fun v12 wc => ∃ (kq : Nat) (x12_1 : Bool), v12 = .bool x12_1 ∧ Aside0 (tree_Right.j0 kq x12_1 a0_0 a0_1 a0_2 a0_3 a0_4 l0_5 = some r) ∧ Aside0 (kq ≤ k) ∧ Aside0 (wc.heap[gb157]? = some (.cells #[.int .i64 a0_0, .string a0_1, .int .i64 a0_2, .int .i64 a0_3, .int .i64 a0_4, (.slice A0_5 l0_5.length c0_5)] 26 (0, 0))) ∧ Aside0 (Below w.heap.size w wc))
  case first =>
    have H := HC2.out
    clear HC2
    by_cases c4 : a0_0 = 0
    · rw [if_pos c4] at H
      have c4b0 : (a0_0 == 0) = true := beq_iff_eq.mpr c4
      have c4b1 : (a0_0 != 0) = false := bne_eq_false_iff_eq.mpr c4
      clear c4
      (first | rw [c4b0] | (simp only [i64_w, i32_w]; rw [c4b0]) | skip)
      replace H := Option.bind_eq_some_iff.mp H
      obtain ⟨t158, A50, H⟩ := H
      replace H : (tree_Right.j0 k (!t158) a0_0 a0_1 a0_2 a0_3 a0_4 l0_5) = some r := H
      have A5 := Aside0.mk A50
      clear A50
      have H' := Aside0.mk H
      clear H
      obtain ⟨hcz6_0, hcz6_1, hcz6_2, hcz6_3, hcz6_4, hcz6_5, hfz6_0, hfz6_1, hfz6_2, hfz6_3, hfz6_4, hfz6_5⟩ := cl6 BK157.out
      go_wp2_with (first | (go_at_call 21; (with_reducible refine (tree_plain.calls a0_0 a0_1 a0_2 a0_3 a0_4 _ _ l0_5 t158 _ ?side1 ?side2 A5.out).mono ?_); (case side1 => repeat (first | exact (Kd.C_below HR0_5.out HB.out) | (with_reducible refine Kd.C_alloc ?_ _) | (with_reducible refine Kd.C_drewN ?_ _) | (with_reducible refine Kd.C_drew ?_))); (case side2 => exact HC0_5.out); rintro e w7 ⟨rfl, hb⟩; have n0_ := Aside0.mk (blk_below (g := gb157) (o := .cells #[.int .i64 a0_0, .string a0_1, .int .i64 a0_2, .int .i64 a0_3, .int .i64 a0_4, .slice A0_5 l0_5.length c0_5] 26 (0, 0)) (by (with_reducible repeat first|refine kN ?_ _|refine kd ?_|refine ka ?_ _); exact BK157.out) hb); have n1_ := Aside0.mk (below_step (by repeat with_reducible first|exact HB.out|apply ba|apply bN|apply bd|refine below_set ?_ GE157.out) hb); clear BK157; clear HB; have BK157 := n0_; have HB := n1_; clear n0_ n1_; (try clear hb); (try clear hb2); (try clear hk); (try clear hi)))
      go_meet
      case rel => exact ⟨_, (!t158), (by first|rfl|(simp;done)|(simp [*];done)), H', ⟨by first|omega|exact Nat.le_refl _⟩, ⟨by (with_reducible repeat first|refine kN ?_ _|refine kd ?_|refine ka ?_ _); exact BK157.out⟩, ⟨by repeat with_reducible first|exact HB.out|apply ba|apply bN|apply bd|refine below_set ?_ GE157.out⟩⟩
    rw [if_neg c4] at H
    have c4b0 : (a0_0 == 0) = false := beq_eq_false_iff_ne.mpr c4
    have c4b1 : (a0_0 != 0) = true := bne_iff_ne.mpr c4
    (first | rw [c4b0] | (simp only [i64_w, i32_w]; rw [c4b0]) | skip)
    have H' := Aside0.mk H
    clear H
    obtain ⟨hcz8_0, hcz8_1, hcz8_2, hcz8_3, hcz8_4, hcz8_5, hfz8_0, hfz8_1, hfz8_2, hfz8_3, hfz8_4, hfz8_5⟩ := cl6 BK157.out
    go_wp2
    go_meet
    case rel => exact ⟨_, (true), (by first|rfl|(simp;done)|(simp [*];done)), H', ⟨by first|omega|exact Nat.le_refl _⟩, ⟨by (with_reducible repeat first|refine kN ?_ _|refine kd ?_|refine ka ?_ _); exact BK157.out⟩, ⟨by repeat with_reducible first|exact HB.out|apply ba|apply bN|apply bd|refine below_set ?_ GE157.out⟩⟩
  case rest =>
    clear HC2
    try clear c1;try clear p2;try clear c4;try clear c4b0;try clear c4b1;try clear hcz6_0;try clear hcz6_1;try clear hcz6_2;try clear hcz6_3;try clear hcz6_4;try clear hcz6_5;try clear hcz8_0;try clear hcz8_1;try clear hcz8_2;try clear hcz8_3;try clear hcz8_4;try clear hcz8_5;try clear hfz6_0;try clear hfz6_1;try clear hfz6_2;try clear hfz6_3;try clear hfz6_4;try clear hfz6_5;try clear hfz8_0;try clear hfz8_1;try clear hfz8_2;try clear hfz8_3;try clear hfz8_4;try clear hfz8_5
    obtain ⟨kq, x12_1, rfl, HA, HJ1, BK157, HB⟩ := hcut
    cases kq with
    | zero => exact absurd HA.out (by simp [tree_Right.j0])
    | succ kj1 =>
      have H := HA.out
      clear HA
      simp only [tree_Right.j0] at H
      by_cases c9 : x12_1 = true
      · subst c9
        have H1 : (some false) = some r := by rw [if_pos rfl] at H; exact H
        clear H
        have H := H1
        clear H1
        obtain rfl := Option.some.inj H
        go_wp2
        go_ret
        exact ⟨by first|rfl|(simp<;>rfl)|(simp [*]<;>rfl), by repeat with_reducible first|exact HB.out|apply ba|apply bN|apply bd|refine below_set ?_ GE157.out⟩
      replace c9 := Bool.eq_false_iff.mpr c9
      subst c9
      have H1 : (tree_Right.l0 kj1 l0_5 (l0_5.length : Int) 0) = some r := by rw [if_neg (show ¬ (false = true) by decide)] at H; exact H
      clear H
      have H := H1
      clear H1
      have H' := Aside0.mk H
      clear H
      obtain ⟨hcz10_0, hcz10_1, hcz10_2, hcz10_3, hcz10_4, hcz10_5, hfz10_0, hfz10_1, hfz10_2, hfz10_3, hfz10_4, hfz10_5⟩ := cl6 BK157.out
      go_wp2
      go_loopg [16] kj1 (fun kq v16 w' => ∃ (x16_2 : Int), v16 = .int .i64 x16_2 ∧ Aside0 (tree_Right.l0 kq l0_5 (l0_5.length : Int) x16_2 = some r) ∧ Aside0 (kq ≤ kj1) ∧ Aside0 (w'.heap[gb157]? = some (.cells #[.int .i64 a0_0, .string a0_1, .int .i64 a0_2, .int .i64 a0_3, .int .i64 a0_4, (.slice A0_5 l0_5.length c0_5)] 26 (0, 0))) ∧ Aside0 (Below w.heap.size w w'))
      case atStart => exact ⟨(0), (by first|rfl|(simp;done)|(simp [*];done)), H', ⟨Nat.le_refl _⟩, ⟨by (with_reducible repeat first|refine kN ?_ _|refine kd ?_|refine ka ?_ _); exact BK157.out⟩, ⟨by repeat with_reducible first|exact HB.out|apply ba|apply bN|apply bd|refine below_set ?_ GE157.out⟩⟩
      case round =>
        clear H'
        try clear c1;try clear p2;try clear c4;try clear c4b0;try clear c4b1;try clear c9;try clear hcz10_0;try clear hcz10_1;try clear hcz10_2;try clear hcz10_3;try clear hcz10_4;try clear hcz10_5;try clear hcz6_0;try clear hcz6_1;try clear hcz6_2;try clear hcz6_3;try clear hcz6_4;try clear hcz6_5;try clear hcz8_0;try clear hcz8_1;try clear hcz8_2;try clear hcz8_3;try clear hcz8_4;try clear hcz8_5;try clear hfz10_0;try clear hfz10_1;try clear hfz10_2;try clear hfz10_3;try clear hfz10_4;try clear hfz10_5;try clear hfz6_0;try clear hfz6_1;try clear hfz6_2;try clear hfz6_3;try clear hfz6_4;try clear hfz6_5;try clear hfz8_0;try clear hfz8_1;try clear hfz8_2;try clear hfz8_3;try clear hfz8_4;try clear hfz8_5;try clear p2
        obtain ⟨x16_2, rfl, HA, HK2, BK157, HB⟩ := hrel
        cases gk with
        | zero => exact absurd HA.out (by simp [tree_Right.l0])
        | succ k2 =>
          have H := HA.out
          clear HA
          simp only [tree_Right.l0] at H
          by_cases c11 : x16_2 < (l0_5.length : Int)
          · rw [if_pos c11] at H
            have c11b0 : decide (x16_2 < (l0_5.length : Int)) = true := decide_eq_true c11
            clear c11
            by_cases c12 : 0 ≤ x16_2
            · rw [if_pos c12] at H
              have c12b0 : decide (0 ≤ x16_2) = true := decide_eq_true c12
              clear c12
              by_cases c13 : x16_2 < (l0_5.length : Int)
              · rw [if_pos c13] at H
                have c13b0 : decide (x16_2 < (l0_5.length : Int)) = true := decide_eq_true c13
                clear c13
                replace H := Option.bind_eq_some_iff.mp H
                obtain ⟨t161, A140, H⟩ := H
                replace H : (if t161 = true then (tree_Right.l0 k2 l0_5 (l0_5.length : Int) (wrap64 (x16_2 + 1))) else (some false)) = some r := H
                have A14 := Aside0.mk A140
                clear A140
                by_cases c15 : t161 = true
                · subst c15
                  have H1 : (tree_Right.l0 k2 l0_5 (l0_5.length : Int) (wrap64 (x16_2 + 1))) = some r := by rw [if_pos rfl] at H; exact H
                  clear H
                  have H := H1
                  clear H1
                  have H' := Aside0.mk H
                  clear H
                  have p159 : 0 ≤ (x16_2 : Int) := of_decide_eq_true (by first|with_reducible assumption|assumption)
                  have q159 : x16_2 < (l0_5.length : Int) := of_decide_eq_true (by first|with_reducible assumption|assumption)
                  obtain ⟨ad159, A159_5, c159_5, e159, hx159_0, hx159_1, hx159_2, hx159_3, hx159_4, hx159_5, hl159_5, hi159_5⟩ := at_T26 HR0_5.out x16_2 p159 q159
                  cases e159
                  replace hx159_0 := cb HB.out hx159_0
                  replace hx159_1 := cb HB.out hx159_1
                  replace hx159_2 := cb HB.out hx159_2
                  replace hx159_3 := cb HB.out hx159_3
                  replace hx159_4 := cb HB.out hx159_4
                  replace hx159_5 := cb HB.out hx159_5
                  have HR159_5 := Aside0.mk hi159_5
                  have HC159_5 := Aside0.mk hl159_5
                  clear hi159_5 hl159_5
                  replace p159 := eq_true p159
                  replace q159 := eq_true q159
                  go_wp2_with (first | ((with_reducible refine gate_dst (N := 4) rfl ?_); refine box_event ?hg (N := 4) ?hd (cs := #[.int .i64 0, .string (⟨#[]⟩ : ByteArray), .int .i64 0, .int .i64 0, .int .i64 0, .slice none 0 0]) (t := 26) ?hr ?_; (case hd => rfl); (case hg => rfl); (case hr => first | (go_simp; done) | (go_simp; rfl)); intro gb160 hg w16 hbox hb; have n0_ := Aside0.mk (blk_below (g := gb157) (o := .cells #[.int .i64 a0_0, .string a0_1, .int .i64 a0_2, .int .i64 a0_3, .int .i64 a0_4, .slice (some ad159) l0_5.length c0_5] 26 (0, 0)) (by (with_reducible repeat first|refine kN ?_ _|refine kd ?_|refine ka ?_ _); exact BK157.out) hb); have n1_ := Aside0.mk (below_step (by repeat with_reducible first|exact HB.out|apply ba|apply bN|apply bd|refine below_set ?_ GE157.out) hb); have n2_ := Aside0.mk (hbox); have n3_ := Aside0.mk ((by rw [hg]; exact (below_size (by repeat with_reducible first|exact HB.out|apply ba|apply bN|apply bd|refine below_set ?_ GE157.out)) : w.heap.size ≤ gb160)); have n4_ := Aside0.mk ((by rw [hg]; exact (below_size (by repeat with_reducible first|exact HB.out|apply ba|apply bN|apply bd|refine below_set ?_ GE157.out)) : w.heap.size ≤ gb160)); have n5_ := Aside0.mk ((by rw [hg]; exact Nat.ne_of_lt (blk_lt (g := gb157) (o := .cells #[.int .i64 a0_0, .string a0_1, .int .i64 a0_2, .int .i64 a0_3, .int .i64 a0_4, .slice (some ad159) l0_5.length c0_5] 26 (0, 0)) (by (with_reducible repeat first|refine kN ?_ _|refine kd ?_|refine ka ?_ _); exact BK157.out)) : gb157 ≠ gb160)); have n6_ := Aside0.mk ((by rw [hg]; exact Nat.ne_of_gt (blk_lt (g := gb157) (o := .cells #[.int .i64 a0_0, .string a0_1, .int .i64 a0_2, .int .i64 a0_3, .int .i64 a0_4, .slice (some ad159) l0_5.length c0_5] 26 (0, 0)) (by (with_reducible repeat first|refine kN ?_ _|refine kd ?_|refine ka ?_ _); exact BK157.out)) : gb160 ≠ gb157)); clear BK157; clear HB; have BK157 := n0_; have HB := n1_; have BK160 := n2_; have GW160 := n3_; have GE160 := n4_; have NB157_160 := n5_; have NB160_157 := n6_; clear n0_ n1_ n2_ n3_ n4_ n5_ n6_; clear hb hbox hg; have hnb17 := NB160_157.out; have hnc17 := NB157_160.out; obtain ⟨hcz18_0, hcz18_1, hcz18_2, hcz18_3, hcz18_4, hcz18_5, hfz18_0, hfz18_1, hfz18_2, hfz18_3, hfz18_4, hfz18_5⟩ := cl6 BK160.out) | ((with_reducible refine gate_callee (f := 22) rfl ?_); refine goesL_ (some 21) rfl rfl Tryz.func22 (by kernel_rfl) rfl #[.agg #[.int .i64 ((rd_T26 l0_5 x16_2).f0), .string ((rd_T26 l0_5 x16_2).f1), .int .i64 ((rd_T26 l0_5 x16_2).f2.f0), .int .i64 ((rd_T26 l0_5 x16_2).f2.f1), .int .i64 ((rd_T26 l0_5 x16_2).f3), .slice A159_5 ((rd_T26 l0_5 x16_2).f4).length c159_5]] rfl (by (try simp only [List.map_toArray, List.map_cons, List.map_nil]); first | done | rfl | (simp only [List.length_drop, List.length_take]; rfl) | (simp only [Int.toNat_natCast, ByteArray.extract_zero_size] <;> rfl) | (rw [Int.toNat_natCast, ByteArray.extract_zero_size] <;> rfl)) ?_; (with_reducible refine (tree_decl.calls k2 ((rd_T26 l0_5 x16_2).f0) ((rd_T26 l0_5 x16_2).f1) ((rd_T26 l0_5 x16_2).f2.f0) ((rd_T26 l0_5 x16_2).f2.f1) ((rd_T26 l0_5 x16_2).f3) _ _ ((rd_T26 l0_5 x16_2).f4) true _ ?side1 ?side2 ?side3 A14.out).mono ?_); (case side1 => exact Go.Proofs.YtahjkibjcibpgaaGreatDoor.U.UW.step HGW.out (by repeat with_reducible first|exact HB.out|apply ba|apply bN|apply bd|refine below_set ?_ GE157.out|refine below_set ?_ GE160.out)); (case side2 => exact Kd.C_below HR159_5.out (by repeat with_reducible first|exact HB.out|apply ba|apply bN|apply bd|refine below_set ?_ GE157.out|refine below_set ?_ GE160.out)); (case side3 => exact HC159_5.out); rintro e w19 ⟨rfl, hb⟩; refine ⟨_, rfl, ?_⟩; have n0_ := Aside0.mk (blk_below (g := gb157) (o := .cells #[.int .i64 a0_0, .string a0_1, .int .i64 a0_2, .int .i64 a0_3, .int .i64 a0_4, .slice (some ad159) l0_5.length c0_5] 26 (0, 0)) (by (with_reducible repeat first|refine kN ?_ _|refine kd ?_|refine ka ?_ _); refine blk_far ?_ NB157_160.out _; (with_reducible repeat first|refine kN ?_ _|refine kd ?_|refine ka ?_ _); refine blk_far ?_ NB157_160.out _; (with_reducible repeat first|refine kN ?_ _|refine kd ?_|refine ka ?_ _); refine blk_far ?_ NB157_160.out _; (with_reducible repeat first|refine kN ?_ _|refine kd ?_|refine ka ?_ _); refine blk_far ?_ NB157_160.out _; (with_reducible repeat first|refine kN ?_ _|refine kd ?_|refine ka ?_ _); refine blk_far ?_ NB157_160.out _; (with_reducible repeat first|refine kN ?_ _|refine kd ?_|refine ka ?_ _); refine blk_far ?_ NB157_160.out _; (with_reducible repeat first|refine kN ?_ _|refine kd ?_|refine ka ?_ _); exact BK157.out) hb); have n1_ := Aside0.mk (blk_below (g := gb160) (o := .cells #[.int .i64 ((rd_T26 l0_5 x16_2).f0), .string ((rd_T26 l0_5 x16_2).f1), .int .i64 ((rd_T26 l0_5 x16_2).f2.f0), .int .i64 ((rd_T26 l0_5 x16_2).f2.f1), .int .i64 ((rd_T26 l0_5 x16_2).f3), .slice A159_5 ((rd_T26 l0_5 x16_2).f4).length c159_5] 26 (0, 0)) (by (with_reducible repeat first|refine kN ?_ _|refine kd ?_|refine ka ?_ _); refine blk_put (cs := #[.int .i64 ((rd_T26 l0_5 x16_2).f0), .string ((rd_T26 l0_5 x16_2).f1), .int .i64 ((rd_T26 l0_5 x16_2).f2.f0), .int .i64 ((rd_T26 l0_5 x16_2).f2.f1), .int .i64 ((rd_T26 l0_5 x16_2).f3), .slice none 0 0]) ?_ 5 _ rfl; (with_reducible repeat first|refine kN ?_ _|refine kd ?_|refine ka ?_ _); refine blk_put (cs := #[.int .i64 ((rd_T26 l0_5 x16_2).f0), .string ((rd_T26 l0_5 x16_2).f1), .int .i64 ((rd_T26 l0_5 x16_2).f2.f0), .int .i64 ((rd_T26 l0_5 x16_2).f2.f1), .int .i64 0, .slice none 0 0]) ?_ 4 _ rfl; (with_reducible repeat first|refine kN ?_ _|refine kd ?_|refine ka ?_ _); refine blk_put (cs := #[.int .i64 ((rd_T26 l0_5 x16_2).f0), .string ((rd_T26 l0_5 x16_2).f1), .int .i64 ((rd_T26 l0_5 x16_2).f2.f0), .int .i64 0, .int .i64 0, .slice none 0 0]) ?_ 3 _ rfl; (with_reducible repeat first|refine kN ?_ _|refine kd ?_|refine ka ?_ _); refine blk_put (cs := #[.int .i64 ((rd_T26 l0_5 x16_2).f0), .string ((rd_T26 l0_5 x16_2).f1), .int .i64 0, .int .i64 0, .int .i64 0, .slice none 0 0]) ?_ 2 _ rfl; (with_reducible repeat first|refine kN ?_ _|refine kd ?_|refine ka ?_ _); refine blk_put (cs := #[.int .i64 ((rd_T26 l0_5 x16_2).f0), .string (⟨#[]⟩ : ByteArray), .int .i64 0, .int .i64 0, .int .i64 0, .slice none 0 0]) ?_ 1 _ rfl; (with_reducible repeat first|refine kN ?_ _|refine kd ?_|refine ka ?_ _); refine blk_put (cs := #[.int .i64 0, .string (⟨#[]⟩ : ByteArray), .int .i64 0, .int .i64 0, .int .i64 0, .slice none 0 0]) ?_ 0 _ rfl; (with_reducible repeat first|refine kN ?_ _|refine kd ?_|refine ka ?_ _); exact BK160.out) hb); have n2_ := Aside0.mk (below_step (by repeat with_reducible first|exact HB.out|apply ba|apply bN|apply bd|refine below_set ?_ GE157.out|refine below_set ?_ GE160.out) hb); clear BK157; clear BK160; clear HB; have BK157 := n0_; have BK160 := n1_; have HB := n2_; clear n0_ n1_ n2_; (try clear hb); (try clear hb2); (try clear hk); (try clear hi)))
                  go_roundg k2
                  case measure => have := HJ1.out; have := HK2.out; omega
                  case rel => exact ⟨(wrap64 (x16_2 + 1)), (by first|rfl|(simp;done)|(simp [*];done)), H', ⟨by have := HJ1.out; have := HK2.out; omega⟩, ⟨by (with_reducible repeat first|refine kN ?_ _|refine kd ?_|refine ka ?_ _); exact BK157.out⟩, ⟨by repeat with_reducible first|exact HB.out|apply ba|apply bN|apply bd|refine below_set ?_ GE157.out|refine below_set ?_ GE160.out⟩⟩
                replace c15 := Bool.eq_false_iff.mpr c15
                subst c15
                have H1 : (some false) = some r := by rw [if_neg (show ¬ (false = true) by decide)] at H; exact H
                clear H
                have H := H1
                clear H1
                obtain rfl := Option.some.inj H
                have p159 : 0 ≤ (x16_2 : Int) := of_decide_eq_true (by first|with_reducible assumption|assumption)
                have q159 : x16_2 < (l0_5.length : Int) := of_decide_eq_true (by first|with_reducible assumption|assumption)
                obtain ⟨ad159, A159_5, c159_5, e159, hx159_0, hx159_1, hx159_2, hx159_3, hx159_4, hx159_5, hl159_5, hi159_5⟩ := at_T26 HR0_5.out x16_2 p159 q159
                cases e159
                replace hx159_0 := cb HB.out hx159_0
                replace hx159_1 := cb HB.out hx159_1
                replace hx159_2 := cb HB.out hx159_2
                replace hx159_3 := cb HB.out hx159_3
                replace hx159_4 := cb HB.out hx159_4
                replace hx159_5 := cb HB.out hx159_5
                have HR159_5 := Aside0.mk hi159_5
                have HC159_5 := Aside0.mk hl159_5
                clear hi159_5 hl159_5
                replace p159 := eq_true p159
                replace q159 := eq_true q159
                go_wp2_with (first | ((with_reducible refine gate_dst (N := 4) rfl ?_); refine box_event ?hg (N := 4) ?hd (cs := #[.int .i64 0, .string (⟨#[]⟩ : ByteArray), .int .i64 0, .int .i64 0, .int .i64 0, .slice none 0 0]) (t := 26) ?hr ?_; (case hd => rfl); (case hg => rfl); (case hr => first | (go_simp; done) | (go_simp; rfl)); intro gb160 hg w20 hbox hb; have n0_ := Aside0.mk (blk_below (g := gb157) (o := .cells #[.int .i64 a0_0, .string a0_1, .int .i64 a0_2, .int .i64 a0_3, .int .i64 a0_4, .slice (some ad159) l0_5.length c0_5] 26 (0, 0)) (by (with_reducible repeat first|refine kN ?_ _|refine kd ?_|refine ka ?_ _); exact BK157.out) hb); have n1_ := Aside0.mk (below_step (by repeat with_reducible first|exact HB.out|apply ba|apply bN|apply bd|refine below_set ?_ GE157.out) hb); have n2_ := Aside0.mk (hbox); have n3_ := Aside0.mk ((by rw [hg]; exact (below_size (by repeat with_reducible first|exact HB.out|apply ba|apply bN|apply bd|refine below_set ?_ GE157.out)) : w.heap.size ≤ gb160)); have n4_ := Aside0.mk ((by rw [hg]; exact (below_size (by repeat with_reducible first|exact HB.out|apply ba|apply bN|apply bd|refine below_set ?_ GE157.out)) : w.heap.size ≤ gb160)); have n5_ := Aside0.mk ((by rw [hg]; exact Nat.ne_of_lt (blk_lt (g := gb157) (o := .cells #[.int .i64 a0_0, .string a0_1, .int .i64 a0_2, .int .i64 a0_3, .int .i64 a0_4, .slice (some ad159) l0_5.length c0_5] 26 (0, 0)) (by (with_reducible repeat first|refine kN ?_ _|refine kd ?_|refine ka ?_ _); exact BK157.out)) : gb157 ≠ gb160)); have n6_ := Aside0.mk ((by rw [hg]; exact Nat.ne_of_gt (blk_lt (g := gb157) (o := .cells #[.int .i64 a0_0, .string a0_1, .int .i64 a0_2, .int .i64 a0_3, .int .i64 a0_4, .slice (some ad159) l0_5.length c0_5] 26 (0, 0)) (by (with_reducible repeat first|refine kN ?_ _|refine kd ?_|refine ka ?_ _); exact BK157.out)) : gb160 ≠ gb157)); clear BK157; clear HB; have BK157 := n0_; have HB := n1_; have BK160 := n2_; have GW160 := n3_; have GE160 := n4_; have NB157_160 := n5_; have NB160_157 := n6_; clear n0_ n1_ n2_ n3_ n4_ n5_ n6_; clear hb hbox hg; have hnb21 := NB160_157.out; have hnc21 := NB157_160.out; obtain ⟨hcz22_0, hcz22_1, hcz22_2, hcz22_3, hcz22_4, hcz22_5, hfz22_0, hfz22_1, hfz22_2, hfz22_3, hfz22_4, hfz22_5⟩ := cl6 BK160.out) | ((with_reducible refine gate_callee (f := 22) rfl ?_); refine goesL_ (some 21) rfl rfl Tryz.func22 (by kernel_rfl) rfl #[.agg #[.int .i64 ((rd_T26 l0_5 x16_2).f0), .string ((rd_T26 l0_5 x16_2).f1), .int .i64 ((rd_T26 l0_5 x16_2).f2.f0), .int .i64 ((rd_T26 l0_5 x16_2).f2.f1), .int .i64 ((rd_T26 l0_5 x16_2).f3), .slice A159_5 ((rd_T26 l0_5 x16_2).f4).length c159_5]] rfl (by (try simp only [List.map_toArray, List.map_cons, List.map_nil]); first | done | rfl | (simp only [List.length_drop, List.length_take]; rfl) | (simp only [Int.toNat_natCast, ByteArray.extract_zero_size] <;> rfl) | (rw [Int.toNat_natCast, ByteArray.extract_zero_size] <;> rfl)) ?_; (with_reducible refine (tree_decl.calls k2 ((rd_T26 l0_5 x16_2).f0) ((rd_T26 l0_5 x16_2).f1) ((rd_T26 l0_5 x16_2).f2.f0) ((rd_T26 l0_5 x16_2).f2.f1) ((rd_T26 l0_5 x16_2).f3) _ _ ((rd_T26 l0_5 x16_2).f4) false _ ?side1 ?side2 ?side3 A14.out).mono ?_); (case side1 => exact Go.Proofs.YtahjkibjcibpgaaGreatDoor.U.UW.step HGW.out (by repeat with_reducible first|exact HB.out|apply ba|apply bN|apply bd|refine below_set ?_ GE157.out|refine below_set ?_ GE160.out)); (case side2 => exact Kd.C_below HR159_5.out (by repeat with_reducible first|exact HB.out|apply ba|apply bN|apply bd|refine below_set ?_ GE157.out|refine below_set ?_ GE160.out)); (case side3 => exact HC159_5.out); rintro e w23 ⟨rfl, hb⟩; refine ⟨_, rfl, ?_⟩; have n0_ := Aside0.mk (blk_below (g := gb157) (o := .cells #[.int .i64 a0_0, .string a0_1, .int .i64 a0_2, .int .i64 a0_3, .int .i64 a0_4, .slice (some ad159) l0_5.length c0_5] 26 (0, 0)) (by (with_reducible repeat first|refine kN ?_ _|refine kd ?_|refine ka ?_ _); refine blk_far ?_ NB157_160.out _; (with_reducible repeat first|refine kN ?_ _|refine kd ?_|refine ka ?_ _); refine blk_far ?_ NB157_160.out _; (with_reducible repeat first|refine kN ?_ _|refine kd ?_|refine ka ?_ _); refine blk_far ?_ NB157_160.out _; (with_reducible repeat first|refine kN ?_ _|refine kd ?_|refine ka ?_ _); refine blk_far ?_ NB157_160.out _; (with_reducible repeat first|refine kN ?_ _|refine kd ?_|refine ka ?_ _); refine blk_far ?_ NB157_160.out _; (with_reducible repeat first|refine kN ?_ _|refine kd ?_|refine ka ?_ _); refine blk_far ?_ NB157_160.out _; (with_reducible repeat first|refine kN ?_ _|refine kd ?_|refine ka ?_ _); exact BK157.out) hb); have n1_ := Aside0.mk (blk_below (g := gb160) (o := .cells #[.int .i64 ((rd_T26 l0_5 x16_2).f0), .string ((rd_T26 l0_5 x16_2).f1), .int .i64 ((rd_T26 l0_5 x16_2).f2.f0), .int .i64 ((rd_T26 l0_5 x16_2).f2.f1), .int .i64 ((rd_T26 l0_5 x16_2).f3), .slice A159_5 ((rd_T26 l0_5 x16_2).f4).length c159_5] 26 (0, 0)) (by (with_reducible repeat first|refine kN ?_ _|refine kd ?_|refine ka ?_ _); refine blk_put (cs := #[.int .i64 ((rd_T26 l0_5 x16_2).f0), .string ((rd_T26 l0_5 x16_2).f1), .int .i64 ((rd_T26 l0_5 x16_2).f2.f0), .int .i64 ((rd_T26 l0_5 x16_2).f2.f1), .int .i64 ((rd_T26 l0_5 x16_2).f3), .slice none 0 0]) ?_ 5 _ rfl; (with_reducible repeat first|refine kN ?_ _|refine kd ?_|refine ka ?_ _); refine blk_put (cs := #[.int .i64 ((rd_T26 l0_5 x16_2).f0), .string ((rd_T26 l0_5 x16_2).f1), .int .i64 ((rd_T26 l0_5 x16_2).f2.f0), .int .i64 ((rd_T26 l0_5 x16_2).f2.f1), .int .i64 0, .slice none 0 0]) ?_ 4 _ rfl; (with_reducible repeat first|refine kN ?_ _|refine kd ?_|refine ka ?_ _); refine blk_put (cs := #[.int .i64 ((rd_T26 l0_5 x16_2).f0), .string ((rd_T26 l0_5 x16_2).f1), .int .i64 ((rd_T26 l0_5 x16_2).f2.f0), .int .i64 0, .int .i64 0, .slice none 0 0]) ?_ 3 _ rfl; (with_reducible repeat first|refine kN ?_ _|refine kd ?_|refine ka ?_ _); refine blk_put (cs := #[.int .i64 ((rd_T26 l0_5 x16_2).f0), .string ((rd_T26 l0_5 x16_2).f1), .int .i64 0, .int .i64 0, .int .i64 0, .slice none 0 0]) ?_ 2 _ rfl; (with_reducible repeat first|refine kN ?_ _|refine kd ?_|refine ka ?_ _); refine blk_put (cs := #[.int .i64 ((rd_T26 l0_5 x16_2).f0), .string (⟨#[]⟩ : ByteArray), .int .i64 0, .int .i64 0, .int .i64 0, .slice none 0 0]) ?_ 1 _ rfl; (with_reducible repeat first|refine kN ?_ _|refine kd ?_|refine ka ?_ _); refine blk_put (cs := #[.int .i64 0, .string (⟨#[]⟩ : ByteArray), .int .i64 0, .int .i64 0, .int .i64 0, .slice none 0 0]) ?_ 0 _ rfl; (with_reducible repeat first|refine kN ?_ _|refine kd ?_|refine ka ?_ _); exact BK160.out) hb); have n2_ := Aside0.mk (below_step (by repeat with_reducible first|exact HB.out|apply ba|apply bN|apply bd|refine below_set ?_ GE157.out|refine below_set ?_ GE160.out) hb); clear BK157; clear BK160; clear HB; have BK157 := n0_; have BK160 := n1_; have HB := n2_; clear n0_ n1_ n2_; (try clear hb); (try clear hb2); (try clear hk); (try clear hi)))
                go_ret
                exact ⟨by first|rfl|(simp<;>rfl)|(simp [*]<;>rfl), by repeat with_reducible first|exact HB.out|apply ba|apply bN|apply bd|refine below_set ?_ GE157.out|refine below_set ?_ GE160.out⟩
              rw [if_neg c13] at H
              exact absurd H (by simp)
            rw [if_neg c12] at H
            exact absurd H (by simp)
          rw [if_neg c11] at H
          have c11b0 : decide (x16_2 < (l0_5.length : Int)) = false := decide_eq_false c11
          clear c11
          obtain rfl := Option.some.inj H
          go_wp2
          go_ret
          exact ⟨by first|rfl|(simp<;>rfl)|(simp [*]<;>rfl), by repeat with_reducible first|exact HB.out|apply ba|apply bN|apply bd|refine below_set ?_ GE157.out⟩
end Go.Proofs.YtahjkibjcibpgaaGreatDoor.PTr
end
section
namespace Go.Proofs.YtahjkibjcibpgaaGreatDoor.L
open Go.RowKit Go.Proofs.YtahjkibjcibpgaaGreatDoor.U Go.Proofs.YtahjkibjcibpgaaGreatDoorW.PrintWords Go.Proofs.YtahjkibjcibpgaaGreatDoor.PTr
theorem wrap_pred (i : Nat) (h : i < 1000000000000) : wrap64 (((i + 1 : Nat) : Int) - 1) = (i : Int) := by unfold wrap64; omega
theorem drop_last (pre : List PTr.S26) (u : PTr.S26) : (pre ++ [u]).drop ((pre ++ [u]).length - 1) = [u] := by
  rw [show (pre ++ [u]).length - 1 = pre.length by simp, List.drop_left]
open Classical in
theorem prop_l0 (l : List PTr.S26) : ∀ (pre : List PTr.S26) (x0 : Int) (x1 : ByteArray) (x2 x3 x4 : Int), wtVs (pre ++ l) < 1000000000 →
    Ev (fun k => tree_prop.l0 k (pre ++ l) ((pre ++ l).length : Int) (pre.length : Int) x0 x1 x2 x3 x4 (pre ++ l)) (decide (okVs l 0 ∧ okAdj (pre.drop (pre.length - 1) ++ l))) := by
  induction l with
  | nil =>
    intro pre x0 x1 x2 x3 x4 hw
    refine Ev.step (f := fun _ => some true) (fun k => ?_) ?_
    · simp only [tree_prop.l0]
      rw [if_neg (by simp)]
    · rw [decide_eq_true]
      · exact Ev.now _
      · refine ⟨trivial, ?_⟩
        rw [List.append_nil]
        rcases List.eq_nil_or_concat pre with rfl | ⟨p, u, rfl⟩
        · trivial
        · rw [List.concat_eq_append, drop_last]; trivial
  | cons v r ih =>
    intro pre x0 x1 x2 x3 x4 hw
    have hlen := wtVs_len (pre ++ v :: r)
    have hl2 : (pre ++ v :: r).length = pre.length + 1 + r.length := by simp; omega
    have hrd := rd_at pre v r
    have hv := value_f v 0 (by decide) (by rw [wtVs_app, wtVs_cons] at hw; omega)
    have hr := ih (pre ++ [v]) x0 x1 x2 x3 x4 (by rw [List.append_assoc]; exact hw)
    rw [drop_last, List.append_assoc, List.singleton_append] at hr
    have hpl : (pre ++ [v]).length = pre.length + 1 := by simp
    rw [hpl] at hr
    have hgo : (okV v 0) → okAdj (pre.drop (pre.length - 1) ++ v :: r) = okAdj (v :: r) →
        Ev (fun k => tree_prop.l0 k (pre ++ v :: r) ((pre ++ v :: r).length : Int) (((pre.length + 1 : Nat)) : Int) x0 x1 x2 x3 x4 (pre ++ v :: r)) (decide (okVs (v :: r) 0 ∧ okAdj (pre.drop (pre.length - 1) ++ v :: r))) := by
      intro h1 h2
      rw [show decide (okVs (v :: r) 0 ∧ okAdj (pre.drop (pre.length - 1) ++ v :: r)) = decide (okVs r 0 ∧ okAdj ([v] ++ r)) from decide_eq_decide.2 (by rw [okVs, h2]; simp [h1])]
      exact hr
    by_cases h1 : okV v 0
    · rcases List.eq_nil_or_concat pre with rfl | ⟨p, u, rfl⟩
      · refine Ev.step (f := fun k => (tree_value.f k v.f0 v.f1 v.f2.f0 v.f2.f1 v.f3 v.f4 ((0 : Nat) : Int)).bind fun t146 => if t146 = true then tree_prop.l0 k ([] ++ v :: r) (([] ++ v :: r : List PTr.S26).length : Int) (((0 + 1 : Nat)) : Int) x0 x1 x2 x3 x4 ([] ++ v :: r) else some false) (fun k => ?_) (Ev.bind hv ?_)
        · simp only [tree_prop.l0, hrd]
          rw [if_pos (by omega), if_pos (by omega), if_pos (by omega), if_neg (by simp), show wrap64 ((([] : List PTr.S26).length : Int) + 1) = ((0 + 1 : Nat) : Int) from wrap_nat 0 (by decide)]
          rfl
        · simp only [decide_eq_true h1, if_true]
          exact hgo h1 rfl
      · rw [List.concat_eq_append] at *
        have hp1 : (p ++ [u]).length = p.length + 1 := by simp
        have hadj : okAdj ((p ++ [u]).drop ((p ++ [u]).length - 1) ++ v :: r) = ((u.f0 = 5 → u.f2.f1 = 0 → ¬ (v.f0 = 3 ∧ knownP v.f1 = true)) ∧ okAdj (v :: r)) := by rw [drop_last]; rfl
        have hru : PTr.rd_T26 (p ++ [u] ++ v :: r) (p.length : Int) = u := by rw [List.append_assoc, List.singleton_append]; exact rd_at p u (v :: r)
        by_cases hbad : u.f0 = 5 ∧ u.f2.f1 = 0 ∧ v.f0 = 3 ∧ knownP v.f1 = true
        · obtain ⟨b1, b2, b3, b4⟩ := hbad
          refine Ev.step (f := fun k => (tree_value.f k v.f0 v.f1 v.f2.f0 v.f2.f1 v.f3 v.f4 ((0 : Nat) : Int)).bind fun t146 => if t146 = true then some false else some false) (fun k => ?_) (Ev.bind hv ?_)
          · simp only [tree_prop.l0, hrd]
            rw [if_pos (by omega), if_pos (by omega), if_pos (by omega), if_pos (by omega), if_pos b3, known_f, b4, hp1, wrap_pred _ (by omega), hru]
            simp only [Option.bind_some, if_true]
            rw [if_pos (by omega), if_pos (by omega), if_pos b1, if_pos b2]
            rfl
          · rw [show decide (okVs (v :: r) 0 ∧ okAdj ((p ++ [u]).drop ((p ++ [u]).length - 1) ++ v :: r)) = false from decide_eq_false (by rw [hadj]; exact fun h => h.2.1 b1 b2 ⟨b3, b4⟩)]
            simp only [ite_self]
            exact Ev.now _
        · have heq : okAdj ((p ++ [u]).drop ((p ++ [u]).length - 1) ++ v :: r) = okAdj (v :: r) := by
            rw [hadj, eq_iff_iff]
            exact ⟨fun h => h.2, fun h => ⟨fun b1 b2 b3 => hbad ⟨b1, b2, b3.1, b3.2⟩, h⟩⟩
          refine Ev.step (f := fun k => (tree_value.f k v.f0 v.f1 v.f2.f0 v.f2.f1 v.f3 v.f4 ((0 : Nat) : Int)).bind fun t146 => if t146 = true then tree_prop.l0 k (p ++ [u] ++ v :: r) ((p ++ [u] ++ v :: r : List PTr.S26).length : Int) ((((p ++ [u]).length + 1 : Nat)) : Int) x0 x1 x2 x3 x4 (p ++ [u] ++ v :: r) else some false) (fun k => ?_) (Ev.bind hv ?_)
          · simp only [tree_prop.l0, hrd]
            rw [if_pos (by omega), if_pos (by omega), if_pos (by omega), if_pos (by omega), known_f, hp1, wrap_pred _ (by omega), hru, wrap_nat _ (by omega)]
            simp only [Option.bind_some]
            rw [if_pos (show (0 : Int) ≤ (p.length : Int) by omega), if_pos (show (p.length : Int) < ((p ++ [u] ++ v :: r).length : Int) by omega)]
            by_cases b3 : v.f0 = 3
            · rw [if_pos b3]
              by_cases b4 : knownP v.f1 = true
              · rw [if_pos b4]
                by_cases b1 : u.f0 = 5
                · rw [if_pos b1, if_neg (fun b2 => hbad ⟨b1, b2, b3, b4⟩)]
                  rfl
                · rw [if_neg b1]
                  rfl
              · rw [if_neg b4]
                rfl
            · rw [if_neg b3]
              rfl
          · simp only [decide_eq_true h1, if_true]
            exact hgo h1 heq
    · obtain ⟨K, hK⟩ := hv
      refine ⟨K + 1, fun n hn => ?_⟩
      obtain ⟨m, rfl⟩ : ∃ m, n = m + 1 := ⟨n - 1, by omega⟩
      have h2 := hK m (by omega)
      rw [decide_eq_false h1] at h2
      have h3 : tree_value.f m v.f0 v.f1 v.f2.f0 v.f2.f1 v.f3 v.f4 0 = some false := h2
      simp only [tree_prop.l0, hrd]
      rw [if_pos (by omega), if_pos (by omega), if_pos (by omega), h3]
      simp only [Option.bind_some, Bool.false_eq_true, if_false]
      rw [decide_eq_false (by rw [okVs]; exact fun h => h1 h.1.1)]
open Classical in
theorem head_f {α : Type} (f : Nat → Bool → Option α) (t : ByteArray) (p : Prop) (r : α) (h1 : p → gtok 0 t.data.toList → Ev (fun k => f k false) r) (h2 : ¬ (p ∧ gtok 0 t.data.toList) → Ev (fun k => f k true) r) :
    Ev (fun k => if decide p = true then (tree_one.f k t 0).bind fun x => f k (!x) else f k true) r := by
  by_cases c : p
  · refine Ev.congr (f := fun k => (tree_one.f k t 0).bind fun x => f k (!x)) (fun k => by rw [if_pos (decide_eq_true c)]) (Ev.bind (one_name t) ?_)
    by_cases d : gtok 0 t.data.toList
    · rw [decide_eq_true d]
      exact h1 c d
    · rw [decide_eq_false d]
      exact h2 (fun h => d h.2)
  · refine Ev.congr (f := fun k => f k true) (fun k => by rw [if_neg (by simpa using c)]) (h2 (fun h => c h.1))
open Classical in
theorem prop_f (p : PTr.S26) (hw : wtV p < 1000000000) : Ev (fun k => tree_prop.f k p.f0 p.f1 p.f2.f0 p.f2.f1 p.f3 p.f4) (decide (okPr p)) := by
  have hj : ∀ b, (b = true → ¬ okPr p) → (b = false → p.f0 = 2 ∧ gtok 0 p.f1.data.toList ∧ p.f2 = ⟨0, 0⟩) → Ev (fun k => tree_prop.j0 k b p.f0 p.f1 p.f2.f0 p.f2.f1 p.f3 p.f4) (decide (okPr p)) := by
    intro b ht hf
    cases b with
    | true =>
      refine Ev.step (f := fun _ => some false) (fun k => by simp only [tree_prop.j0, if_true]) ?_
      rw [decide_eq_false (ht rfl)]
      exact Ev.now _
    | false =>
      obtain ⟨h1, h2, h3⟩ := hf rfl
      have h := prop_l0 p.f4 [] p.f0 p.f1 p.f2.f0 p.f2.f1 p.f3 (by rw [wtV_eq] at hw; rw [List.nil_append]; omega)
      refine Ev.step (fun k => ?_) (show Ev _ (decide (okPr p)) from by
        rw [show decide (okPr p) = decide (okVs p.f4 0 ∧ okAdj p.f4) from decide_eq_decide.2 (by unfold okPr; simp [h1, h2, h3])]
        exact h)
      simp only [tree_prop.j0, Bool.false_eq_true, if_false]
      rfl
  by_cases h2 : p.f0 = 2
  · refine Ev.congr (f := fun k => if decide (plainP p.f0 p.f1 p.f2.f0 p.f2.f1 p.f4) = true then (tree_one.f k p.f1 0).bind fun x => tree_prop.j0 k (!x) p.f0 p.f1 p.f2.f0 p.f2.f1 p.f3 p.f4 else tree_prop.j0 k true p.f0 p.f1 p.f2.f0 p.f2.f1 p.f3 p.f4) (fun k => ?_)
      (head_f (fun k b => tree_prop.j0 k b p.f0 p.f1 p.f2.f0 p.f2.f1 p.f3 p.f4) p.f1 _ _ (fun hp hg => hj false (fun h => by cases h) (fun _ => ⟨h2, hg, ?_⟩)) (fun hn => hj true (fun _ hok => hn ⟨?_, hok.2.1⟩) (fun h => by cases h)))
    · simp only [tree_prop.f, plain_f, Option.bind_some]
      rw [if_pos h2]
    · unfold plainP at hp
      rw [h2] at hp
      simp at hp
      exact am_zero.2 hp
    · unfold plainP
      rw [h2]
      simp
      exact am_zero.1 hok.2.2.1
  · refine Ev.congr (fun k => ?_) (hj true (fun _ hok => h2 hok.1) (fun h => by cases h))
    simp only [tree_prop.f]
    rw [if_neg h2]
def DK : Bool → List PTr.S26 → Prop
  | _, [] => True
  | w, v :: r => (w = true ∧ isWord v ∧ okV v 0 ∧ DK true r) ∨ (¬ (w = true ∧ isWord v) ∧ okPr v ∧ DK false r)
theorem DK_false (l : List PTr.S26) : DK false l ↔ ∀ p ∈ l, okPr p := by
  induction l with
  | nil => simp [DK]
  | cons v r ih => simp [DK, ih]
theorem DK_true (l : List PTr.S26) : DK true l ↔ ∃ ws ps, l = ws ++ ps ∧ (∀ v ∈ ws, isWord v ∧ okV v 0) ∧ (∀ p ∈ ps, okPr p) := by
  induction l with
  | nil => exact ⟨fun _ => ⟨[], [], rfl, by simp, by simp⟩, fun _ => trivial⟩
  | cons v r ih =>
    constructor
    · rintro (⟨_, h1, h2, h3⟩ | ⟨_, h2, h3⟩)
      · obtain ⟨ws, ps, e, h4, h5⟩ := ih.1 h3
        exact ⟨v :: ws, ps, by rw [e]; rfl, by intro u hu; rcases List.mem_cons.1 hu with rfl | hu; exact ⟨h1, h2⟩; exact h4 u hu, h5⟩
      · exact ⟨[], v :: r, rfl, by simp, by intro u hu; rcases List.mem_cons.1 hu with rfl | hu; exact h2; exact (DK_false r).1 h3 u hu⟩
    · rintro ⟨ws, ps, e, h4, h5⟩
      cases ws with
      | nil =>
        rw [List.nil_append] at e
        subst e
        have hv := h5 v (by simp)
        exact .inr ⟨fun h => by have := hv.1; rcases h.2 with h | h <;> omega, hv, (DK_false r).2 (fun p hp => h5 p (by simp [hp]))⟩
      | cons u ws =>
        rw [List.cons_append] at e
        injection e with e1 e2
        subst e1
        have hv := h4 v (by simp)
        exact .inl ⟨rfl, hv.1, hv.2, ih.2 ⟨ws, ps, e2, fun u hu => h4 u (by simp [hu]), h5⟩⟩
open Classical in
theorem decl_l0 (l : List PTr.S26) : ∀ (pre : List PTr.S26) (b : Bool), wtVs (pre ++ l) < 1000000000 →
    Ev (fun k => tree_decl.l0 k b (pre ++ l) ((pre ++ l).length : Int) (pre.length : Int)) (decide (DK b l)) := by
  induction l with
  | nil =>
    intro pre b hw
    refine Ev.step (f := fun _ => some true) (fun k => ?_) ?_
    · simp only [tree_decl.l0]
      rw [if_neg (by simp)]
    · rw [decide_eq_true (show DK b [] from trivial)]
      exact Ev.now _
  | cons v r ih =>
    intro pre b hw
    have hlen := wtVs_len (pre ++ v :: r)
    have hl2 : (pre ++ v :: r).length = pre.length + 1 + r.length := by simp; omega
    have hrd := rd_at pre v r
    have hwv : wtV v < 1000000000 := by rw [wtVs_app, wtVs_cons] at hw; omega
    have hv := value_f v 0 (by decide) hwv
    have hp := prop_f v hwv
    have hr := fun c => ih (pre ++ [v]) c (by rw [List.append_assoc]; exact hw)
    rw [List.append_assoc, List.singleton_append] at hr
    have hpl : (pre ++ [v]).length = pre.length + 1 := by simp
    rw [hpl] at hr
    by_cases hb : b = true ∧ isWord v
    · refine Ev.step (f := fun k => tree_decl.j2 k true (pre ++ v :: r) ((pre ++ v :: r).length : Int) (pre.length : Int) v.f0 v.f1 v.f2.f0 v.f2.f1 v.f3 v.f4) (fun k => ?_) ?_
      · simp only [tree_decl.l0, hrd]
        rw [if_pos (by omega), if_pos (by omega), if_pos (by omega), if_pos hb.1]
        rcases hb.2 with h | h <;> rw [h] <;> rfl
      · refine Ev.step (f := fun k => (tree_value.f k v.f0 v.f1 v.f2.f0 v.f2.f1 v.f3 v.f4 ((0 : Nat) : Int)).bind fun t155 => if t155 = true then tree_decl.l0 k true (pre ++ v :: r) ((pre ++ v :: r).length : Int) (((pre.length + 1 : Nat)) : Int) else some false) (fun k => ?_) (Ev.bind hv ?_)
        · simp only [tree_decl.j2, if_true]
          rw [wrap_nat _ (by omega)]
          rfl
        · by_cases h1 : okV v 0
          · simp only [decide_eq_true h1, if_true]
            rw [show decide (DK b (v :: r)) = decide (DK true r) from decide_eq_decide.2 (by simp [DK, hb.1, hb.2, h1])]
            exact hr true
          · simp only [decide_eq_false h1, Bool.false_eq_true, if_false]
            rw [decide_eq_false (by simp [DK, hb.1, hb.2, h1])]
            exact Ev.now _
    · refine Ev.step (f := fun k => tree_decl.j2 k false (pre ++ v :: r) ((pre ++ v :: r).length : Int) (pre.length : Int) v.f0 v.f1 v.f2.f0 v.f2.f1 v.f3 v.f4) (fun k => ?_) ?_
      · simp only [tree_decl.l0, hrd]
        rw [if_pos (by omega), if_pos (by omega), if_pos (by omega)]
        by_cases hc : b = true
        · have h3 : ¬ v.f0 = 3 := fun h => hb ⟨hc, .inl h⟩
          have h4 : (v.f0 == 4) = false := by simpa using fun h => hb ⟨hc, .inr h⟩
          rw [if_pos hc, if_neg h3, h4]
        · rw [if_neg hc]
      · refine Ev.step (f := fun k => (tree_prop.f k v.f0 v.f1 v.f2.f0 v.f2.f1 v.f3 v.f4).bind fun t156 => if t156 = true then tree_decl.l0 k false (pre ++ v :: r) ((pre ++ v :: r).length : Int) (((pre.length + 1 : Nat)) : Int) else some false) (fun k => ?_) (Ev.bind hp ?_)
        · simp only [tree_decl.j2, Bool.false_eq_true, if_false]
          rw [wrap_nat _ (by omega)]
        · by_cases h1 : okPr v
          · simp only [decide_eq_true h1, if_true]
            rw [show decide (DK b (v :: r)) = decide (DK false r) from decide_eq_decide.2 (by
              simp only [DK]
              constructor
              · rintro (⟨h, h2, _⟩ | ⟨_, _, h⟩)
                · exact absurd ⟨h, h2⟩ hb
                · exact h
              · exact fun h => .inr ⟨hb, h1, h⟩)]
            exact hr false
          · simp only [decide_eq_false h1, Bool.false_eq_true, if_false]
            rw [decide_eq_false (by
              simp only [DK]
              rintro (⟨h, h2, _⟩ | ⟨_, h, _⟩)
              · exact hb ⟨h, h2⟩
              · exact h1 h)]
            exact Ev.now _
def okDe (d : PTr.S26) : Prop := ∃ ws ps, okD d ws ps
theorem okDe_iff (d : PTr.S26) : okDe d ↔ d.f0 = 1 ∧ gtok 0 d.f1.data.toList ∧ d.f2 = ⟨0, 0⟩ ∧ DK true d.f4 := by
  rw [DK_true]
  constructor
  · rintro ⟨ws, ps, h1, h2, h3, h4, h5, h6⟩
    exact ⟨h1, h2, h3, ws, ps, h4, h5, h6⟩
  · rintro ⟨h1, h2, h3, ws, ps, h4, h5, h6⟩
    exact ⟨ws, ps, h1, h2, h3, h4, h5, h6⟩
open Classical in
theorem decl_f (p : PTr.S26) (hw : wtV p < 1000000000) : Ev (fun k => tree_decl.f k p.f0 p.f1 p.f2.f0 p.f2.f1 p.f3 p.f4) (decide (okDe p)) := by
  have hj : ∀ b, (b = true → ¬ okDe p) → (b = false → p.f0 = 1 ∧ gtok 0 p.f1.data.toList ∧ p.f2 = ⟨0, 0⟩) → Ev (fun k => tree_decl.j0 k b p.f0 p.f1 p.f2.f0 p.f2.f1 p.f3 p.f4) (decide (okDe p)) := by
    intro b ht hf
    cases b with
    | true =>
      refine Ev.step (f := fun _ => some false) (fun k => by simp only [tree_decl.j0, if_true]) ?_
      rw [decide_eq_false (ht rfl)]
      exact Ev.now _
    | false =>
      obtain ⟨h1, h2, h3⟩ := hf rfl
      have h := decl_l0 p.f4 [] true (by rw [wtV_eq] at hw; rw [List.nil_append]; omega)
      refine Ev.step (fun k => ?_) (show Ev _ (decide (okDe p)) from by
        rw [show decide (okDe p) = decide (DK true p.f4) from decide_eq_decide.2 (by rw [okDe_iff]; simp [h1, h2, h3])]
        exact h)
      simp only [tree_decl.j0, Bool.false_eq_true, if_false]
      rfl
  by_cases h2 : p.f0 = 1
  · refine Ev.congr (f := fun k => if decide (plainP p.f0 p.f1 p.f2.f0 p.f2.f1 p.f4) = true then (tree_one.f k p.f1 0).bind fun x => tree_decl.j0 k (!x) p.f0 p.f1 p.f2.f0 p.f2.f1 p.f3 p.f4 else tree_decl.j0 k true p.f0 p.f1 p.f2.f0 p.f2.f1 p.f3 p.f4) (fun k => ?_)
      (head_f (fun k b => tree_decl.j0 k b p.f0 p.f1 p.f2.f0 p.f2.f1 p.f3 p.f4) p.f1 _ _ (fun hp hg => hj false (fun h => by cases h) (fun _ => ⟨h2, hg, ?_⟩)) (fun hn => hj true (fun _ hok => hn ⟨?_, ((okDe_iff p).1 hok).2.1⟩) (fun h => by cases h)))
    · simp only [tree_decl.f, plain_f, Option.bind_some]
      rw [if_pos h2]
    · unfold plainP at hp
      rw [h2] at hp
      simp at hp
      exact am_zero.2 hp
    · unfold plainP
      rw [h2]
      simp
      exact am_zero.1 ((okDe_iff p).1 hok).2.2.1
  · refine Ev.congr (fun k => ?_) (hj true (fun _ hok => h2 ((okDe_iff p).1 hok).1) (fun h => by cases h))
    simp only [tree_decl.f]
    rw [if_neg h2]
open Classical in
theorem right_l0 (l : List PTr.S26) : ∀ (pre : List PTr.S26), wtVs (pre ++ l) < 1000000000 →
    Ev (fun k => tree_Right.l0 k (pre ++ l) ((pre ++ l).length : Int) (pre.length : Int)) (decide (∀ d ∈ l, okDe d)) := by
  induction l with
  | nil =>
    intro pre hw
    refine Ev.step (f := fun _ => some true) (fun k => ?_) ?_
    · simp only [tree_Right.l0]
      rw [if_neg (by simp)]
    · rw [decide_eq_true (by simp)]
      exact Ev.now _
  | cons v r ih =>
    intro pre hw
    have hlen := wtVs_len (pre ++ v :: r)
    have hl2 : (pre ++ v :: r).length = pre.length + 1 + r.length := by simp; omega
    have hrd := rd_at pre v r
    have hv := decl_f v (by rw [wtVs_app, wtVs_cons] at hw; omega)
    have hr := ih (pre ++ [v]) (by rw [List.append_assoc]; exact hw)
    rw [List.append_assoc, List.singleton_append] at hr
    have hpl : (pre ++ [v]).length = pre.length + 1 := by simp
    rw [hpl] at hr
    refine Ev.step (f := fun k => (tree_decl.f k v.f0 v.f1 v.f2.f0 v.f2.f1 v.f3 v.f4).bind fun t161 => if t161 = true then tree_Right.l0 k (pre ++ v :: r) ((pre ++ v :: r).length : Int) (((pre.length + 1 : Nat)) : Int) else some false) (fun k => ?_) (Ev.bind hv ?_)
    · simp only [tree_Right.l0, hrd]
      rw [if_pos (by omega), if_pos (by omega), if_pos (by omega), wrap_nat _ (by omega)]
    · by_cases h1 : okDe v
      · simp only [decide_eq_true h1, if_true]
        rw [show decide (∀ d ∈ v :: r, okDe d) = decide (∀ d ∈ r, okDe d) from decide_eq_decide.2 (by simp [h1])]
        exact hr
      · simp only [decide_eq_false h1, Bool.false_eq_true, if_false]
        rw [decide_eq_false (by simp [h1])]
        exact Ev.now _
def okRoot (n : PTr.S26) : Prop := n.f0 = 0 ∧ n.f1 = ⟨#[]⟩ ∧ n.f2 = ⟨0, 0⟩ ∧ ∀ d ∈ n.f4, okDe d
open Classical in
theorem right_f (p : PTr.S26) (hw : wtV p < 1000000000) : Ev (fun k => tree_Right.f k p.f0 p.f1 p.f2.f0 p.f2.f1 p.f3 p.f4) (decide (okRoot p)) := by
  have hj : ∀ b, (b = true → ¬ okRoot p) → (b = false → p.f0 = 0 ∧ p.f1 = ⟨#[]⟩ ∧ p.f2 = ⟨0, 0⟩) → Ev (fun k => tree_Right.j0 k b p.f0 p.f1 p.f2.f0 p.f2.f1 p.f3 p.f4) (decide (okRoot p)) := by
    intro b ht hf
    cases b with
    | true =>
      refine Ev.step (f := fun _ => some false) (fun k => by simp only [tree_Right.j0, if_true]) ?_
      rw [decide_eq_false (ht rfl)]
      exact Ev.now _
    | false =>
      obtain ⟨h1, h2, h3⟩ := hf rfl
      have h := right_l0 p.f4 [] (by rw [wtV_eq] at hw; rw [List.nil_append]; omega)
      refine Ev.step (fun k => ?_) (show Ev _ (decide (okRoot p)) from by
        rw [show decide (okRoot p) = decide (∀ d ∈ p.f4, okDe d) from decide_eq_decide.2 (by unfold okRoot; simp [h1, h2, h3])]
        exact h)
      simp only [tree_Right.j0, Bool.false_eq_true, if_false]
      rfl
  by_cases h2 : p.f0 = 0
  · refine Ev.congr (f := fun k => tree_Right.j0 k (!decide (plainP p.f0 p.f1 p.f2.f0 p.f2.f1 p.f4)) p.f0 p.f1 p.f2.f0 p.f2.f1 p.f3 p.f4) (fun k => ?_) (hj _ (fun hp hok => ?_) (fun hp => ⟨h2, ?_⟩))
    · simp only [tree_Right.f, plain_f, Option.bind_some]
      rw [if_pos h2]
    · have hp : ¬ plainP p.f0 p.f1 p.f2.f0 p.f2.f1 p.f4 := by simpa using hp
      apply hp
      unfold plainP
      rw [h2]
      simp
      exact ⟨by rw [hok.2.1], am_zero.1 hok.2.2.1⟩
    · have hp : plainP p.f0 p.f1 p.f2.f0 p.f2.f1 p.f4 := by simpa using hp
      unfold plainP at hp
      rw [h2] at hp
      simp at hp
      exact ⟨bytes_nil.2 (by simpa using hp.1), am_zero.2 hp.2⟩
  · refine Ev.congr (fun k => ?_) (hj true (fun _ hok => h2 hok.1) (fun h => by cases h))
    simp only [tree_Right.f]
    rw [if_neg h2]
end Go.Proofs.YtahjkibjcibpgaaGreatDoor.L
end
section
namespace Go.Proofs.YtahjkibjcibpgaaGreatDoor.L
open Go.RowKit Go.Shelf Go.Lib Go.Proofs.YtahjkibjcibpgaaGreatDoor.U
open Go.Proofs.YtahjkibjcibpgaaGreatDoorW.PrintWords
attribute [local go_sem] Oper.semAt_some
structure PW (T : List PTr.S41) (tv : Value) (B base : Nat) (i d : Nat) (w : World) : Prop where
  blk : w.heap[B]? = some (.cells #[tv, .int .i64 (i : Int), .int .i64 (d : Int)] 60 (0, 0))
  row : PTr.k41.R 41 w base (fun k => k ≠ B) tv T
  lt : i < T.length
theorem PW.below {T : List PTr.S41} {tv : Value} {B base i d : Nat} {w w' : World} (h : PW T tv B base i d w) (hb : Below w.heap.size w w') : PW T tv B base i d w' :=
  ⟨(hb.block _ (blk_lt h.blk)).trans h.blk, Kd.R_below h.row hb, h.lt⟩
theorem results24 {W : World} {tmps : Array Value} {b : Nat} {x : Int} {y : ByteArray} {z : Int} (h2 : tmps.getD 2 undef = .pointer (some ⟨b, 0, none⟩)) (hb : W.heap[b]? = some (.cells #[.int .i64 x, .string y, .int .i64 z] 41 (0, 0))) :
    (results Tryz.f24 tmps).run Tryz.prog W = .ok (.agg #[.int .i64 x, .string y, .int .i64 z]) W := by
  have c0 : W.cell? ⟨b, 0, none⟩ = some (.int .i64 x) := blk_cell hb 0
  have c1 : W.cell? ⟨b, 0 + 1, none⟩ = some (.string y) := blk_cell hb 1
  have c2 : W.cell? ⟨b, 0 + 1 + 1, none⟩ = some (.int .i64 z) := blk_cell hb 2
  simp only [Array.getD_eq_getD_getElem?] at h2
  simp [results, Tryz.f24, go_sem, h2, c0, c1, c2]
theorem now_any (T : List PTr.S41) (tv : Value) (B base i d : Nat) (w : World) (hp : PW T tv B base i d w) :
    Calls Tryz.prog 24 #[.pointer (some ⟨B, 0, none⟩)] w fun e w' => e = .returned (.agg #[.int .i64 (tokAt T i).f0, .string (tokAt T i).f1, .int .i64 (tokAt T i).f2]) ∧ Below w.heap.size w w' := by
  go_enter Tryz.func24, Tryz.ntmps24
  go_wp2
  obtain ⟨W, hW⟩ : ∃ W, w.alloc (.cells #[.int .i64 0, .string ⟨#[]⟩, .int .i64 0] 41) = W := ⟨_, rfl⟩
  have hb : Below w.heap.size w W := by rw [← hW]; exact (Below.refl _ _).alloc (Nat.le_refl _) _
  have hn : W.heap[w.heap.size]? = some (.cells #[.int .i64 0, .string ⟨#[]⟩, .int .i64 0] 41 (0, 0)) := by rw [← hW]; exact World.alloc_heap_new w _
  have hB := blk_lt hp.blk
  obtain ⟨hblk, hrow, hlt⟩ := hp.below hb
  rw [hW]
  clear hW hp
  obtain ⟨A, c, rfl, hle, hC⟩ := Kd.R_reads hrow
  obtain ⟨ad, rfl, c0, c1, c2⟩ := PTr.at_T41 hC (i : Int) (by omega) (by omega)
  have b0 : W.cell? ⟨B, 0, none⟩ = some (.slice (some ad) T.length c) := blk_cell hblk 0
  have b1 : W.cell? ⟨B, 1, none⟩ = some (.int .i64 (i : Int)) := blk_cell hblk 1
  have d0 : W.cell? ⟨w.heap.size, 0, none⟩ = some (.int .i64 0) := blk_cell hn 0
  have d1 : W.cell? ⟨w.heap.size, 1, none⟩ = some (.string ⟨#[]⟩) := blk_cell hn 1
  have d2 : W.cell? ⟨w.heap.size, 2, none⟩ = some (.int .i64 0) := blk_cell hn 2
  have z0 := blk_frozen hn 0
  have z1 := blk_frozen hn 1
  have z2 := blk_frozen hn 2
  have l0 : (0 : Int) ≤ i := by omega
  have l1 : (i : Int) < T.length := by omega
  have l2 : i < T.length := by omega
  simp only [Int.toNat_natCast] at c0 c1 c2
  go_region
  go_wp2
  refine bodyPost_ret (results24 (b := w.heap.size) rfl (blk_set (blk_set (blk_set hn 0 (.int .i64 (PTr.rd_T41 T (i : Int)).f0)) 1 (.string (PTr.rd_T41 T (i : Int)).f1)) 2 (.int .i64 (PTr.rd_T41 T (i : Int)).f2))) rfl ⟨rfl, ?_⟩
  exact ((((hb.setCell (p := ⟨w.heap.size, 0, none⟩) (by simp) _).setCell (p := ⟨w.heap.size, 1, none⟩) (by simp) _).setCell (p := ⟨w.heap.size, 2, none⟩) (by simp) _).drew)
theorem fail_any (er at_ : Int) (w : World) : Calls Tryz.prog 56 #[.int .i64 er, .int .i64 at_] w fun e w' =>
    e = .panicked [{ v := .iface 57 (.agg #[.int .i64 er, .int .i64 at_]), recovered := false }] ∧ w' = w := by
  go_enter Tryz.func56, Tryz.ntmps56
  go_wp2
  exact ⟨rfl, rfl, rfl⟩
theorem tokf0 (k : Int) (t : ByteArray) (a : Int) (w : World) : (Instr.field 41 (.agg #[.int .i64 k, .string t, .int .i64 a]) 0).run Tryz.prog w = .ok (.int .i64 k) w := by kernel_rfl
theorem tokf1 (k : Int) (t : ByteArray) (a : Int) (w : World) : (Instr.field 41 (.agg #[.int .i64 k, .string t, .int .i64 a]) 1).run Tryz.prog w = .ok (.string t) w := by kernel_rfl
theorem tokf2 (k : Int) (t : ByteArray) (a : Int) (w : World) : (Instr.field 41 (.agg #[.int .i64 k, .string t, .int .i64 a]) 2).run Tryz.prog w = .ok (.int .i64 a) w := by kernel_rfl
set_option maxRecDepth 100000 in
theorem is_any (T : List PTr.S41) (tv : Value) (B base i d : Nat) (s : ByteArray) (w : World) (hp : PW T tv B base i d w) :
    Calls Tryz.prog 40 #[.pointer (some ⟨B, 0, none⟩), .string s] w fun e w' => e = .returned (.bool (isP T i s)) ∧ Below w.heap.size w w' := by
  have hp' := Lib.hid hp
  clear hp
  have hnow : ∀ w1, Below w.heap.size w w1 → Calls Tryz.prog 24 #[.pointer (some ⟨B, 0, none⟩)] w1 fun e w' => e = .returned (.agg #[.int .i64 (tokAt T i).f0, .string (tokAt T i).f1, .int .i64 (tokAt T i).f2]) ∧ Below w.heap.size w w' := fun w1 h1 =>
    (now_any T tv B base i d w1 (hp'.out.below h1)).mono (fun e w' h => ⟨h.1, below_step h1 h.2⟩)
  have hN := Lib.hid hnow
  clear hnow
  unfold isP
  generalize tokAt T i = x at hN
  obtain ⟨k, t, a⟩ := x
  simp only at hN
  cases h : decide (k = 3) with
  | true =>
    have hk : (k == 3) = true := by simpa using h
    clear h
    have f0 := tokf0 k t a
    have f1 := tokf1 k t a
    go_enter Tryz.func40, Tryz.ntmps40
    go_wp2_with (first | (go_at_call 24; refine (hN.out _ (Below.refl _ _)).mono ?_; rintro e w1 ⟨rfl, hb⟩) | (go_at_call 24; refine (hN.out _ hb).mono ?_; clear hb; rintro e w1 ⟨rfl, hb⟩))
    refine bodyPost_ret (results_tmp rfl _ _ _) rfl ⟨by simp, hb⟩
  | false =>
    have hk : (k == 3) = false := by simpa using h
    clear h
    have f0 := tokf0 k t a
    have f1 := tokf1 k t a
    go_enter Tryz.func40, Tryz.ntmps40
    go_wp2_with (first | (go_at_call 24; refine (hN.out _ (Below.refl _ _)).mono ?_; rintro e w1 ⟨rfl, hb⟩) | (go_at_call 24; refine (hN.out _ hb).mono ?_; clear hb; rintro e w1 ⟨rfl, hb⟩))
    refine bodyPost_ret (results_tmp rfl _ _ _) rfl ⟨by simp, hb⟩
theorem gb_below {w W : World} {B : Nat} (h : Below w.heap.size w W) : w.grownBy W (some B) := ⟨h.os, h.tape, h.output, h.size, fun k hk _ => h.block k hk⟩
theorem gb_set {w W : World} {B : Nat} (h : w.grownBy W (some B)) (j : Nat) (u : Value) : w.grownBy (W.setCell ⟨B, j, none⟩ u) (some B) :=
  ⟨h.os, h.tape, h.output, by have := h.size; simpa [World.setCell] using this, fun k hk hne => (Below.heap_setCell W ⟨B, j, none⟩ u k (fun e => hne (by rw [e]))).trans (h.block k hk hne)⟩
theorem PW.step {T : List PTr.S41} {tv : Value} {B base i d : Nat} {W : World} (h : PW T tv B base i d W) (hi : i + 1 < T.length) : PW T tv B base (i + 1) d (W.setCell ⟨B, 1, none⟩ (.int .i64 ((i : Int) + 1))) :=
  ⟨blk_set h.blk 1 _, Kd.R_far (p := ⟨B, 1, none⟩) h.row (fun _ hk => hk) _, hi⟩
theorem PW.deep {T : List PTr.S41} {tv : Value} {B base i d d' : Nat} {W : World} (h : PW T tv B base i d W) : PW T tv B base i d' (W.setCell ⟨B, 2, none⟩ (.int .i64 (d' : Int))) :=
  ⟨blk_set h.blk 2 _, Kd.R_far (p := ⟨B, 2, none⟩) h.row (fun _ hk => hk) _, h.lt⟩
theorem gb_new {w W : World} {B g : Nat} (h : w.grownBy W (some B)) (hn : w.heap.size ≤ g) (j : Nat) (u : Value) : w.grownBy (W.setCell ⟨g, j, none⟩ u) (some B) :=
  ⟨h.os, h.tape, h.output, by have := h.size; simpa [World.setCell] using this, fun k hk hne => (Below.heap_setCell W ⟨g, j, none⟩ u k (by simp; omega)).trans (h.block k hk hne)⟩
theorem PW.of {T : List PTr.S41} {tv : Value} {B base i d i' d' : Nat} {w W : World} (h : PW T tv B base i d w) (hg : w.grownBy W (some B)) (hb : W.heap[B]? = some (.cells #[tv, .int .i64 (i' : Int), .int .i64 (d' : Int)] 60 (0, 0))) (hi : i' < T.length) : PW T tv B base i' d' W :=
  ⟨hb, Kd.R_grown h.row hg (fun k hk e => hk (by injection e)), hi⟩
theorem results37 {W : World} {tmps : Array Value} {b : Nat} {x : Int} {y : ByteArray} {z : Int} (h2 : tmps.getD 4 undef = .pointer (some ⟨b, 0, none⟩)) (hb : W.heap[b]? = some (.cells #[.int .i64 x, .string y, .int .i64 z] 41 (0, 0))) :
    (results Tryz.f37 tmps).run Tryz.prog W = .ok (.agg #[.int .i64 x, .string y, .int .i64 z]) W := by
  have c0 : W.cell? ⟨b, 0, none⟩ = some (.int .i64 x) := blk_cell hb 0
  have c1 : W.cell? ⟨b, 0 + 1, none⟩ = some (.string y) := blk_cell hb 1
  have c2 : W.cell? ⟨b, 0 + 1 + 1, none⟩ = some (.int .i64 z) := blk_cell hb 2
  simp only [Array.getD_eq_getD_getElem?] at h2
  simp [results, Tryz.f37, go_sem, h2, c0, c1, c2]
def flt (er at_ : Int) : Ending := .panicked [{ v := .iface 57 (.agg #[.int .i64 er, .int .i64 at_]), recovered := false }]
theorem skip_ok (T : List PTr.S41) (tv : Value) (B base i d : Nat) (s : ByteArray) (w : World) (hp : PW T tv B base i d w) (h : isP T i s = true) (hi : i + 1 < T.length) (hl : T.length ≤ 140737488355328) :
    Calls Tryz.prog 39 #[.pointer (some ⟨B, 0, none⟩), .string s] w fun e w' => e = .returned (.tuple #[]) ∧ PW T tv B base (i + 1) d w' ∧ w.grownBy w' (some B) := by
  have hp' := Lib.hid hp
  clear hp
  go_enter Tryz.func39, Tryz.ntmps39
  go_wp2_with (first | (go_at_call 40; refine (is_any T tv B base i d s _ hp'.out).mono ?_; rintro e w1 ⟨rfl, hb⟩; rw [h]; have b1 : w1.cell? ⟨B, 1, none⟩ = some (.int .i64 (i : Int)) := blk_cell (hp'.out.below hb).blk 1; have z1 := blk_frozen (hp'.out.below hb).blk 1; have hw : wrap64 ((i : Int) + 1) = (i : Int) + 1 := (by unfold wrap64; omega)))
  go_end0
  exact ⟨rfl, (hp'.out.below hb).step hi, gb_set (gb_below hb) 1 _⟩
theorem skip_no (T : List PTr.S41) (tv : Value) (B base i d : Nat) (s : ByteArray) (w : World) (hp : PW T tv B base i d w) (h : isP T i s = false) :
    Calls Tryz.prog 39 #[.pointer (some ⟨B, 0, none⟩), .string s] w fun e w' => e = flt 2 (tokAt T i).f2 ∧ Below w.heap.size w w' := by
  have hp' := Lib.hid hp
  clear hp
  have f2 := fun k t a w => tokf2 k t a w
  go_enter Tryz.func39, Tryz.ntmps39
  go_wp2_with (first | (go_at_call 40; refine (is_any T tv B base i d s _ hp'.out).mono ?_; rintro e w1 ⟨rfl, hb⟩; rw [h]) | (go_at_call 24; refine (now_any T tv B base i d _ (hp'.out.below hb)).mono ?_; rintro e w2 ⟨rfl, hb2⟩) | (go_at_call 56; refine (fail_any _ _ _).mono ?_; rintro e w3 ⟨rfl, rfl⟩))
  exact ⟨rfl, rfl, below_step hb hb2⟩
theorem take_ok (T : List PTr.S41) (tv : Value) (B base i d : Nat) (kd : Int) (w : World) (hp : PW T tv B base i d w) (h : ((tokAt T i).f0 == kd) = true) (hi : i + 1 < T.length) (hl : T.length ≤ 140737488355328) :
    Calls Tryz.prog 37 #[.pointer (some ⟨B, 0, none⟩), .int .i64 kd] w fun e w' => e = .returned (.agg #[.int .i64 (tokAt T i).f0, .string (tokAt T i).f1, .int .i64 (tokAt T i).f2]) ∧ PW T tv B base (i + 1) d w' ∧ w.grownBy w' (some B) := by
  have hp' := Lib.hid hp
  have hp2 := hp.below ((Below.refl w.heap.size w).alloc (Nat.le_refl _) (.cells #[.int .i64 0, .string ⟨#[]⟩, .int .i64 0] 41))
  have hB := blk_lt hp.blk
  clear hp
  have hP2 := Lib.hid hp2
  clear hp2
  have hn0 := World.alloc_heap_new w (.cells #[.int .i64 0, .string ⟨#[]⟩, .int .i64 0] 41)
  obtain ⟨W0, hW0⟩ : ∃ W0, w.alloc (.cells #[.int .i64 0, .string ⟨#[]⟩, .int .i64 0] 41) = W0 := ⟨_, rfl⟩
  have hz0 : W0.heap.size = w.heap.size + 1 := by rw [← hW0, World.size_alloc]
  have hb0 : Below w.heap.size w W0 := by rw [← hW0]; exact (Below.refl _ _).alloc (Nat.le_refl _) _
  rw [hW0] at hP2 hn0
  go_enter Tryz.func37, Tryz.ntmps37
  go_wp2_with (first | (go_at_call 24; go_loud (refine (now_any T tv B base i d _ hP2.out).mono ?_; rintro e w1 ⟨rfl, hb⟩; generalize hx : tokAt T i = x at h ⊢; obtain ⟨k, t, a⟩ := x; simp only at h ⊢; have hb1 : Below W0.heap.size W0 (w1.alloc (.cells #[.int .i64 k, .string t, .int .i64 a] 41)) := hb.alloc hb.size _; have hn1 := World.alloc_heap_new w1 (.cells #[.int .i64 k, .string t, .int .i64 a] 41); have s1 := hb.size; have hP3 := Lib.hid (hP2.out.below hb1); have b1 : (w1.alloc (.cells #[.int .i64 k, .string t, .int .i64 a] 41)).cell? ⟨B, 1, none⟩ = some (.int .i64 (i : Int)) := blk_cell hP3.out.blk 1; have z1 : (w1.alloc (.cells #[.int .i64 k, .string t, .int .i64 a] 41)).frozen? ⟨B, 1, none⟩ = false := blk_frozen hP3.out.blk 1; have hm : ((w1.alloc (.cells #[.int .i64 k, .string t, .int .i64 a] 41)).heap[w.heap.size]?) = some (.cells #[.int .i64 0, .string ⟨#[]⟩, .int .i64 0] 41 (0, 0)) := (hb1.block _ (by omega)).trans hn0; have m0 : (w1.alloc (.cells #[.int .i64 k, .string t, .int .i64 a] 41)).cell? ⟨w.heap.size, 0, none⟩ = some (.int .i64 0) := blk_cell hm 0; have y0 : (w1.alloc (.cells #[.int .i64 k, .string t, .int .i64 a] 41)).frozen? ⟨w.heap.size, 0, none⟩ = false := blk_frozen hm 0; have m1 : (w1.alloc (.cells #[.int .i64 k, .string t, .int .i64 a] 41)).cell? ⟨w.heap.size, 1, none⟩ = some (.string ⟨#[]⟩) := blk_cell hm 1; have y1 : (w1.alloc (.cells #[.int .i64 k, .string t, .int .i64 a] 41)).frozen? ⟨w.heap.size, 1, none⟩ = false := blk_frozen hm 1; have m2 : (w1.alloc (.cells #[.int .i64 k, .string t, .int .i64 a] 41)).cell? ⟨w.heap.size, 2, none⟩ = some (.int .i64 0) := blk_cell hm 2; have y2 : (w1.alloc (.cells #[.int .i64 k, .string t, .int .i64 a] 41)).frozen? ⟨w.heap.size, 2, none⟩ = false := blk_frozen hm 2; have hBn : w.heap.size ≠ B := (by omega); have hw : wrap64 ((i : Int) + 1) = (i : Int) + 1 := (by unfold wrap64; omega); have hkd : (k != kd) = false := (by simp only [bne, h]; rfl))))
  rw [hx]
  have hgb : w.grownBy (((((w1.alloc (.cells #[.int .i64 k, .string t, .int .i64 a] 41)).setCell ⟨B, 1, none⟩ (.int .i64 ((i : Int) + 1))).setCell ⟨w.heap.size, 0, none⟩ (.int .i64 k)).setCell ⟨w.heap.size, 1, none⟩ (.string t)).setCell ⟨w.heap.size, 2, none⟩ (.int .i64 a)) (some B) :=
    gb_new (gb_new (gb_new (gb_set (gb_below (below_step hb0 hb1)) 1 _) (Nat.le_refl _) 0 _) (Nat.le_refl _) 1 _) (Nat.le_refl _) 2 _
  refine bodyPost_ret (results37 (b := w.heap.size) rfl (blk_set (blk_set (blk_set (blk_far hm (p := ⟨B, 1, none⟩) hBn _) 0 (.int .i64 k)) 1 (.string t)) 2 (.int .i64 a))) rfl ⟨rfl, hp'.out.of hgb ?_ hi, hgb⟩
  exact blk_far (blk_far (blk_far (blk_set hP3.out.blk 1 _) (Ne.symm hBn) _) (Ne.symm hBn) _) (Ne.symm hBn) _
theorem take_no (T : List PTr.S41) (tv : Value) (B base i d : Nat) (kd : Int) (w : World) (hp : PW T tv B base i d w) (h : ((tokAt T i).f0 == kd) = false) :
    Calls Tryz.prog 37 #[.pointer (some ⟨B, 0, none⟩), .int .i64 kd] w fun e w' => e = flt 2 (tokAt T i).f2 ∧ Below w.heap.size w w' := by
  have hp' := Lib.hid hp
  clear hp
  go_enter Tryz.func37, Tryz.ntmps37
  go_wp2_with (first | (go_at_call 24; refine (now_any T tv B base i d _ (hp'.out.below ((Below.refl _ _).alloc (Nat.le_refl _) _))).mono ?_; rintro e w1 ⟨rfl, hb⟩) | (go_at_call 56; refine (fail_any _ _ _).mono ?_; rintro e w3 ⟨rfl, rfl⟩))
  exact ⟨rfl, rfl, below_step (w := w) ((Below.refl w.heap.size w).alloc (Nat.le_refl _) (.cells #[.int .i64 0, .string ⟨#[]⟩, .int .i64 0] 41)) (hb.alloc hb.size _)⟩
end Go.Proofs.YtahjkibjcibpgaaGreatDoor.L
end
section
namespace Go.Proofs.YtahjkibjcibpgaaGreatDoor.L
open Go.RowKit Go.Shelf Go.Lib Go.Proofs.YtahjkibjcibpgaaGreatDoor.U
open Go.Proofs.YtahjkibjcibpgaaGreatDoorW.PrintWords
attribute [local go_sem] Oper.semAt_some
def nodeV (n : PTr.S26) (v5 : Value) : Value := .agg #[.int .i64 n.f0, .string n.f1, .int .i64 n.f2.f0, .int .i64 n.f2.f1, .int .i64 n.f3, v5]
theorem results38 {W : World} {tmps : Array Value} {b : Nat} {n0 : Int} {n1 : ByteArray} {n2 n3 n4 : Int} {v5 : Value} {ok : Bool} (h2 : tmps.getD 2 undef = .pointer (some ⟨b, 0, none⟩)) (h3 : tmps.getD 3 undef = .bool ok)
    (hb : W.heap[b]? = some (.cells #[.int .i64 n0, .string n1, .int .i64 n2, .int .i64 n3, .int .i64 n4, v5] 26 (0, 0))) :
    (results Tryz.f38 tmps).run Tryz.prog W = .ok (.tuple #[.agg #[.int .i64 n0, .string n1, .int .i64 n2, .int .i64 n3, .int .i64 n4, v5], .bool ok]) W := by
  have c0 : W.cell? ⟨b, 0, none⟩ = some (.int .i64 n0) := blk_cell hb 0
  have c1 : W.cell? ⟨b, 0 + 1, none⟩ = some (.string n1) := blk_cell hb 1
  have c2 : W.cell? ⟨b, 0 + 1 + 1, none⟩ = some (.int .i64 n2) := blk_cell hb 2
  have c3 : W.cell? ⟨b, 0 + 1 + 1 + 1, none⟩ = some (.int .i64 n3) := blk_cell hb 3
  have c4 : W.cell? ⟨b, 0 + 1 + 1 + 1 + 1, none⟩ = some (.int .i64 n4) := blk_cell hb 4
  have c5 : W.cell? ⟨b, 0 + 1 + 1 + 1 + 1 + 1, none⟩ = some v5 := blk_cell hb 5
  simp only [Array.getD_eq_getD_getElem?] at h2 h3
  simp [results, Tryz.f38, go_sem, h2, h3, c0, c1, c2, c3, c4, c5]
theorem leaf_name (T : List PTr.S41) (tv : Value) (B base i d : Nat) (w : World) (hp : PW T tv B base i d w) (h : ((tokAt T i).f0 == 0) = true) (hi : i + 1 < T.length) (hl : T.length ≤ 140737488355328) :
    Calls Tryz.prog 38 #[.pointer (some ⟨B, 0, none⟩)] w fun e w' => e = .returned (.tuple #[nodeV (leafN 3 (tokAt T i)) (.slice none 0 0), .bool true]) ∧ PW T tv B base (i + 1) d w' ∧ w.grownBy w' (some B) := by
  have hp' := Lib.hid hp
  have hp2 := hp.below ((Below.refl w.heap.size w).alloc (Nat.le_refl _) (.cells #[.int .i64 0, .string ⟨#[]⟩, .int .i64 0, .int .i64 0, .int .i64 0, .slice none 0 0] 26))
  have hB := blk_lt hp.blk
  clear hp
  have hP2 := Lib.hid hp2
  clear hp2
  have hn0 := World.alloc_heap_new w (.cells #[.int .i64 0, .string ⟨#[]⟩, .int .i64 0, .int .i64 0, .int .i64 0, .slice none 0 0] 26)
  obtain ⟨W0, hW0⟩ : ∃ W0, w.alloc (.cells #[.int .i64 0, .string ⟨#[]⟩, .int .i64 0, .int .i64 0, .int .i64 0, .slice none 0 0] 26) = W0 := ⟨_, rfl⟩
  have hz0 : W0.heap.size = w.heap.size + 1 := by rw [← hW0, World.size_alloc]
  have hb0 : Below w.heap.size w W0 := by rw [← hW0]; exact (Below.refl _ _).alloc (Nat.le_refl _) _
  rw [hW0] at hP2 hn0
  go_enter Tryz.func38, Tryz.ntmps38
  go_wp2_with (first | (go_at_call 24; go_loud (refine (now_any T tv B base i d _ hP2.out).mono ?_; rintro e w1 ⟨rfl, hb⟩; generalize hx : tokAt T i = x at h ⊢; obtain ⟨k, t, a⟩ := x; simp only at h ⊢; have hb1 : Below W0.heap.size W0 (w1.alloc (.cells #[.int .i64 k, .string t, .int .i64 a] 41)) := hb.alloc hb.size _; have hn1 := World.alloc_heap_new w1 (.cells #[.int .i64 k, .string t, .int .i64 a] 41); have s1 := hb.size; have hP3 := Lib.hid (hP2.out.below hb1); have b1 : (w1.alloc (.cells #[.int .i64 k, .string t, .int .i64 a] 41)).cell? ⟨B, 1, none⟩ = some (.int .i64 (i : Int)) := blk_cell hP3.out.blk 1; have z1 : (w1.alloc (.cells #[.int .i64 k, .string t, .int .i64 a] 41)).frozen? ⟨B, 1, none⟩ = false := blk_frozen hP3.out.blk 1; have hm : ((w1.alloc (.cells #[.int .i64 k, .string t, .int .i64 a] 41)).heap[w.heap.size]?) = some (.cells #[.int .i64 0, .string ⟨#[]⟩, .int .i64 0, .int .i64 0, .int .i64 0, .slice none 0 0] 26 (0, 0)) := (hb1.block _ (by omega)).trans hn0; have m0 : (w1.alloc (.cells #[.int .i64 k, .string t, .int .i64 a] 41)).cell? ⟨w.heap.size, 0, none⟩ = some (.int .i64 0) := blk_cell hm 0; have y0 : (w1.alloc (.cells #[.int .i64 k, .string t, .int .i64 a] 41)).frozen? ⟨w.heap.size, 0, none⟩ = false := blk_frozen hm 0; have m1 : (w1.alloc (.cells #[.int .i64 k, .string t, .int .i64 a] 41)).cell? ⟨w.heap.size, 1, none⟩ = some (.string ⟨#[]⟩) := blk_cell hm 1; have y1 : (w1.alloc (.cells #[.int .i64 k, .string t, .int .i64 a] 41)).frozen? ⟨w.heap.size, 1, none⟩ = false := blk_frozen hm 1; have m2 : (w1.alloc (.cells #[.int .i64 k, .string t, .int .i64 a] 41)).cell? ⟨w.heap.size, 2, none⟩ = some (.int .i64 0) := blk_cell hm 2; have y2 : (w1.alloc (.cells #[.int .i64 k, .string t, .int .i64 a] 41)).frozen? ⟨w.heap.size, 2, none⟩ = false := blk_frozen hm 2; have m3 : (w1.alloc (.cells #[.int .i64 k, .string t, .int .i64 a] 41)).cell? ⟨w.heap.size, 3, none⟩ = some (.int .i64 0) := blk_cell hm 3; have y3 : (w1.alloc (.cells #[.int .i64 k, .string t, .int .i64 a] 41)).frozen? ⟨w.heap.size, 3, none⟩ = false := blk_frozen hm 3; have m4 : (w1.alloc (.cells #[.int .i64 k, .string t, .int .i64 a] 41)).cell? ⟨w.heap.size, 4, none⟩ = some (.int .i64 0) := blk_cell hm 4; have y4 : (w1.alloc (.cells #[.int .i64 k, .string t, .int .i64 a] 41)).frozen? ⟨w.heap.size, 4, none⟩ = false := blk_frozen hm 4; have m5 : (w1.alloc (.cells #[.int .i64 k, .string t, .int .i64 a] 41)).cell? ⟨w.heap.size, 5, none⟩ = some (.slice none 0 0) := blk_cell hm 5; have y5 : (w1.alloc (.cells #[.int .i64 k, .string t, .int .i64 a] 41)).frozen? ⟨w.heap.size, 5, none⟩ = false := blk_frozen hm 5; have hBn : w.heap.size ≠ B := (by omega); have hw : wrap64 ((i : Int) + 1) = (i : Int) + 1 := (by unfold wrap64; omega))))
  rw [hx]
  have hgb : w.grownBy ((((((((w1.alloc (.cells #[.int .i64 k, .string t, .int .i64 a] 41)).setCell ⟨B, 1, none⟩ (.int .i64 ((i : Int) + 1))).setCell ⟨w.heap.size, 0, none⟩ (.int .i64 3)).setCell ⟨w.heap.size, 1, none⟩ (.string t)).setCell ⟨w.heap.size, 2, none⟩ (.int .i64 0)).setCell ⟨w.heap.size, 3, none⟩ (.int .i64 0)).setCell ⟨w.heap.size, 4, none⟩ (.int .i64 a)).setCell ⟨w.heap.size, 5, none⟩ (.slice none 0 0)) (some B) := gb_new (gb_new (gb_new (gb_new (gb_new (gb_new (gb_set (gb_below (below_step hb0 hb1)) 1 _) (Nat.le_refl _) 0 _) (Nat.le_refl _) 1 _) (Nat.le_refl _) 2 _) (Nat.le_refl _) 3 _) (Nat.le_refl _) 4 _) (Nat.le_refl _) 5 _
  refine bodyPost_ret (results38 (b := w.heap.size) rfl rfl (blk_set (blk_set (blk_set (blk_set (blk_set (blk_set (blk_far hm (p := ⟨B, 1, none⟩) hBn _) 0 (.int .i64 3)) 1 (.string t)) 2 (.int .i64 0)) 3 (.int .i64 0)) 4 (.int .i64 a)) 5 (.slice none 0 0))) rfl ⟨rfl, hp'.out.of hgb ?_ hi, hgb⟩
  exact blk_far (blk_far (blk_far (blk_far (blk_far (blk_far (blk_set hP3.out.blk 1 _) (Ne.symm hBn) _) (Ne.symm hBn) _) (Ne.symm hBn) _) (Ne.symm hBn) _) (Ne.symm hBn) _) (Ne.symm hBn) _
theorem leaf_text (T : List PTr.S41) (tv : Value) (B base i d : Nat) (w : World) (hp : PW T tv B base i d w) (h0 : ((tokAt T i).f0 == 0) = false) (h : ((tokAt T i).f0 == 2) = true) (hi : i + 1 < T.length) (hl : T.length ≤ 140737488355328) :
    Calls Tryz.prog 38 #[.pointer (some ⟨B, 0, none⟩)] w fun e w' => e = .returned (.tuple #[nodeV (leafN 4 (tokAt T i)) (.slice none 0 0), .bool true]) ∧ PW T tv B base (i + 1) d w' ∧ w.grownBy w' (some B) := by
  have hp' := Lib.hid hp
  have hp2 := hp.below ((Below.refl w.heap.size w).alloc (Nat.le_refl _) (.cells #[.int .i64 0, .string ⟨#[]⟩, .int .i64 0, .int .i64 0, .int .i64 0, .slice none 0 0] 26))
  have hB := blk_lt hp.blk
  clear hp
  have hP2 := Lib.hid hp2
  clear hp2
  have hn0 := World.alloc_heap_new w (.cells #[.int .i64 0, .string ⟨#[]⟩, .int .i64 0, .int .i64 0, .int .i64 0, .slice none 0 0] 26)
  obtain ⟨W0, hW0⟩ : ∃ W0, w.alloc (.cells #[.int .i64 0, .string ⟨#[]⟩, .int .i64 0, .int .i64 0, .int .i64 0, .slice none 0 0] 26) = W0 := ⟨_, rfl⟩
  have hz0 : W0.heap.size = w.heap.size + 1 := by rw [← hW0, World.size_alloc]
  have hb0 : Below w.heap.size w W0 := by rw [← hW0]; exact (Below.refl _ _).alloc (Nat.le_refl _) _
  rw [hW0] at hP2 hn0
  go_enter Tryz.func38, Tryz.ntmps38
  go_wp2_with (first | (go_at_call 24; go_loud (refine (now_any T tv B base i d _ hP2.out).mono ?_; rintro e w1 ⟨rfl, hb⟩; generalize hx : tokAt T i = x at h0 h ⊢; obtain ⟨k, t, a⟩ := x; simp only at h0 h ⊢; have hb1 : Below W0.heap.size W0 (w1.alloc (.cells #[.int .i64 k, .string t, .int .i64 a] 41)) := hb.alloc hb.size _; have hn1 := World.alloc_heap_new w1 (.cells #[.int .i64 k, .string t, .int .i64 a] 41); have s1 := hb.size; have hP3 := Lib.hid (hP2.out.below hb1); have b1 : (w1.alloc (.cells #[.int .i64 k, .string t, .int .i64 a] 41)).cell? ⟨B, 1, none⟩ = some (.int .i64 (i : Int)) := blk_cell hP3.out.blk 1; have z1 : (w1.alloc (.cells #[.int .i64 k, .string t, .int .i64 a] 41)).frozen? ⟨B, 1, none⟩ = false := blk_frozen hP3.out.blk 1; have hm : ((w1.alloc (.cells #[.int .i64 k, .string t, .int .i64 a] 41)).heap[w.heap.size]?) = some (.cells #[.int .i64 0, .string ⟨#[]⟩, .int .i64 0, .int .i64 0, .int .i64 0, .slice none 0 0] 26 (0, 0)) := (hb1.block _ (by omega)).trans hn0; have m0 : (w1.alloc (.cells #[.int .i64 k, .string t, .int .i64 a] 41)).cell? ⟨w.heap.size, 0, none⟩ = some (.int .i64 0) := blk_cell hm 0; have y0 : (w1.alloc (.cells #[.int .i64 k, .string t, .int .i64 a] 41)).frozen? ⟨w.heap.size, 0, none⟩ = false := blk_frozen hm 0; have m1 : (w1.alloc (.cells #[.int .i64 k, .string t, .int .i64 a] 41)).cell? ⟨w.heap.size, 1, none⟩ = some (.string ⟨#[]⟩) := blk_cell hm 1; have y1 : (w1.alloc (.cells #[.int .i64 k, .string t, .int .i64 a] 41)).frozen? ⟨w.heap.size, 1, none⟩ = false := blk_frozen hm 1; have m2 : (w1.alloc (.cells #[.int .i64 k, .string t, .int .i64 a] 41)).cell? ⟨w.heap.size, 2, none⟩ = some (.int .i64 0) := blk_cell hm 2; have y2 : (w1.alloc (.cells #[.int .i64 k, .string t, .int .i64 a] 41)).frozen? ⟨w.heap.size, 2, none⟩ = false := blk_frozen hm 2; have m3 : (w1.alloc (.cells #[.int .i64 k, .string t, .int .i64 a] 41)).cell? ⟨w.heap.size, 3, none⟩ = some (.int .i64 0) := blk_cell hm 3; have y3 : (w1.alloc (.cells #[.int .i64 k, .string t, .int .i64 a] 41)).frozen? ⟨w.heap.size, 3, none⟩ = false := blk_frozen hm 3; have m4 : (w1.alloc (.cells #[.int .i64 k, .string t, .int .i64 a] 41)).cell? ⟨w.heap.size, 4, none⟩ = some (.int .i64 0) := blk_cell hm 4; have y4 : (w1.alloc (.cells #[.int .i64 k, .string t, .int .i64 a] 41)).frozen? ⟨w.heap.size, 4, none⟩ = false := blk_frozen hm 4; have m5 : (w1.alloc (.cells #[.int .i64 k, .string t, .int .i64 a] 41)).cell? ⟨w.heap.size, 5, none⟩ = some (.slice none 0 0) := blk_cell hm 5; have y5 : (w1.alloc (.cells #[.int .i64 k, .string t, .int .i64 a] 41)).frozen? ⟨w.heap.size, 5, none⟩ = false := blk_frozen hm 5; have hBn : w.heap.size ≠ B := (by omega); have hw : wrap64 ((i : Int) + 1) = (i : Int) + 1 := (by unfold wrap64; omega))))
  rw [hx]
  have hgb : w.grownBy ((((((((w1.alloc (.cells #[.int .i64 k, .string t, .int .i64 a] 41)).setCell ⟨B, 1, none⟩ (.int .i64 ((i : Int) + 1))).setCell ⟨w.heap.size, 0, none⟩ (.int .i64 4)).setCell ⟨w.heap.size, 1, none⟩ (.string t)).setCell ⟨w.heap.size, 2, none⟩ (.int .i64 0)).setCell ⟨w.heap.size, 3, none⟩ (.int .i64 0)).setCell ⟨w.heap.size, 4, none⟩ (.int .i64 a)).setCell ⟨w.heap.size, 5, none⟩ (.slice none 0 0)) (some B) := gb_new (gb_new (gb_new (gb_new (gb_new (gb_new (gb_set (gb_below (below_step hb0 hb1)) 1 _) (Nat.le_refl _) 0 _) (Nat.le_refl _) 1 _) (Nat.le_refl _) 2 _) (Nat.le_refl _) 3 _) (Nat.le_refl _) 4 _) (Nat.le_refl _) 5 _
  refine bodyPost_ret (results38 (b := w.heap.size) rfl rfl (blk_set (blk_set (blk_set (blk_set (blk_set (blk_set (blk_far hm (p := ⟨B, 1, none⟩) hBn _) 0 (.int .i64 4)) 1 (.string t)) 2 (.int .i64 0)) 3 (.int .i64 0)) 4 (.int .i64 a)) 5 (.slice none 0 0))) rfl ⟨rfl, hp'.out.of hgb ?_ hi, hgb⟩
  exact blk_far (blk_far (blk_far (blk_far (blk_far (blk_far (blk_set hP3.out.blk 1 _) (Ne.symm hBn) _) (Ne.symm hBn) _) (Ne.symm hBn) _) (Ne.symm hBn) _) (Ne.symm hBn) _) (Ne.symm hBn) _
theorem leaf_none (T : List PTr.S41) (tv : Value) (B base i d : Nat) (w : World) (hp : PW T tv B base i d w) (h0 : ((tokAt T i).f0 == 0) = false) (h : ((tokAt T i).f0 == 2) = false)  :
    Calls Tryz.prog 38 #[.pointer (some ⟨B, 0, none⟩)] w fun e w' => e = .returned (.tuple #[nodeV PTr.z26 (.slice none 0 0), .bool false]) ∧ PW T tv B base i d w' ∧ w.grownBy w' (some B) := by
  have hp' := Lib.hid hp
  have hp2 := hp.below ((Below.refl w.heap.size w).alloc (Nat.le_refl _) (.cells #[.int .i64 0, .string ⟨#[]⟩, .int .i64 0, .int .i64 0, .int .i64 0, .slice none 0 0] 26))
  have hB := blk_lt hp.blk
  clear hp
  have hP2 := Lib.hid hp2
  clear hp2
  have hn0 := World.alloc_heap_new w (.cells #[.int .i64 0, .string ⟨#[]⟩, .int .i64 0, .int .i64 0, .int .i64 0, .slice none 0 0] 26)
  obtain ⟨W0, hW0⟩ : ∃ W0, w.alloc (.cells #[.int .i64 0, .string ⟨#[]⟩, .int .i64 0, .int .i64 0, .int .i64 0, .slice none 0 0] 26) = W0 := ⟨_, rfl⟩
  have hz0 : W0.heap.size = w.heap.size + 1 := by rw [← hW0, World.size_alloc]
  have hb0 : Below w.heap.size w W0 := by rw [← hW0]; exact (Below.refl _ _).alloc (Nat.le_refl _) _
  rw [hW0] at hP2 hn0
  go_enter Tryz.func38, Tryz.ntmps38
  go_wp2_with (first | (go_at_call 24; go_loud (refine (now_any T tv B base i d _ hP2.out).mono ?_; rintro e w1 ⟨rfl, hb⟩; generalize hx : tokAt T i = x at h0 h ⊢; obtain ⟨k, t, a⟩ := x; simp only at h0 h ⊢; have hb1 : Below W0.heap.size W0 (w1.alloc (.cells #[.int .i64 k, .string t, .int .i64 a] 41)) := hb.alloc hb.size _; have hn1 := World.alloc_heap_new w1 (.cells #[.int .i64 k, .string t, .int .i64 a] 41); have s1 := hb.size; have hP3 := Lib.hid (hP2.out.below hb1); have b1 : (w1.alloc (.cells #[.int .i64 k, .string t, .int .i64 a] 41)).cell? ⟨B, 1, none⟩ = some (.int .i64 (i : Int)) := blk_cell hP3.out.blk 1; have z1 : (w1.alloc (.cells #[.int .i64 k, .string t, .int .i64 a] 41)).frozen? ⟨B, 1, none⟩ = false := blk_frozen hP3.out.blk 1; have hm : ((w1.alloc (.cells #[.int .i64 k, .string t, .int .i64 a] 41)).heap[w.heap.size]?) = some (.cells #[.int .i64 0, .string ⟨#[]⟩, .int .i64 0, .int .i64 0, .int .i64 0, .slice none 0 0] 26 (0, 0)) := (hb1.block _ (by omega)).trans hn0; have m0 : (w1.alloc (.cells #[.int .i64 k, .string t, .int .i64 a] 41)).cell? ⟨w.heap.size, 0, none⟩ = some (.int .i64 0) := blk_cell hm 0; have y0 : (w1.alloc (.cells #[.int .i64 k, .string t, .int .i64 a] 41)).frozen? ⟨w.heap.size, 0, none⟩ = false := blk_frozen hm 0; have m1 : (w1.alloc (.cells #[.int .i64 k, .string t, .int .i64 a] 41)).cell? ⟨w.heap.size, 1, none⟩ = some (.string ⟨#[]⟩) := blk_cell hm 1; have y1 : (w1.alloc (.cells #[.int .i64 k, .string t, .int .i64 a] 41)).frozen? ⟨w.heap.size, 1, none⟩ = false := blk_frozen hm 1; have m2 : (w1.alloc (.cells #[.int .i64 k, .string t, .int .i64 a] 41)).cell? ⟨w.heap.size, 2, none⟩ = some (.int .i64 0) := blk_cell hm 2; have y2 : (w1.alloc (.cells #[.int .i64 k, .string t, .int .i64 a] 41)).frozen? ⟨w.heap.size, 2, none⟩ = false := blk_frozen hm 2; have m3 : (w1.alloc (.cells #[.int .i64 k, .string t, .int .i64 a] 41)).cell? ⟨w.heap.size, 3, none⟩ = some (.int .i64 0) := blk_cell hm 3; have y3 : (w1.alloc (.cells #[.int .i64 k, .string t, .int .i64 a] 41)).frozen? ⟨w.heap.size, 3, none⟩ = false := blk_frozen hm 3; have m4 : (w1.alloc (.cells #[.int .i64 k, .string t, .int .i64 a] 41)).cell? ⟨w.heap.size, 4, none⟩ = some (.int .i64 0) := blk_cell hm 4; have y4 : (w1.alloc (.cells #[.int .i64 k, .string t, .int .i64 a] 41)).frozen? ⟨w.heap.size, 4, none⟩ = false := blk_frozen hm 4; have m5 : (w1.alloc (.cells #[.int .i64 k, .string t, .int .i64 a] 41)).cell? ⟨w.heap.size, 5, none⟩ = some (.slice none 0 0) := blk_cell hm 5; have y5 : (w1.alloc (.cells #[.int .i64 k, .string t, .int .i64 a] 41)).frozen? ⟨w.heap.size, 5, none⟩ = false := blk_frozen hm 5; have hBn : w.heap.size ≠ B := (by omega))))
  have hgb : w.grownBy (((((((w1.alloc (.cells #[.int .i64 k, .string t, .int .i64 a] 41)).setCell ⟨w.heap.size, 0, none⟩ (.int .i64 0)).setCell ⟨w.heap.size, 1, none⟩ (.string ⟨#[]⟩)).setCell ⟨w.heap.size, 2, none⟩ (.int .i64 0)).setCell ⟨w.heap.size, 3, none⟩ (.int .i64 0)).setCell ⟨w.heap.size, 4, none⟩ (.int .i64 0)).setCell ⟨w.heap.size, 5, none⟩ (.slice none 0 0)) (some B) := gb_new (gb_new (gb_new (gb_new (gb_new (gb_new (gb_below (below_step hb0 hb1)) (Nat.le_refl _) 0 _) (Nat.le_refl _) 1 _) (Nat.le_refl _) 2 _) (Nat.le_refl _) 3 _) (Nat.le_refl _) 4 _) (Nat.le_refl _) 5 _
  refine bodyPost_ret (results38 (b := w.heap.size) rfl rfl (blk_set (blk_set (blk_set (blk_set (blk_set (blk_set (hm) 0 (.int .i64 0)) 1 (.string ⟨#[]⟩)) 2 (.int .i64 0)) 3 (.int .i64 0)) 4 (.int .i64 0)) 5 (.slice none 0 0))) rfl ⟨rfl, hp'.out.of hgb ?_ hp'.out.lt, hgb⟩
  exact blk_far (blk_far (blk_far (blk_far (blk_far (blk_far (hP3.out.blk) (Ne.symm hBn) _) (Ne.symm hBn) _) (Ne.symm hBn) _) (Ne.symm hBn) _) (Ne.symm hBn) _) (Ne.symm hBn) _
end Go.Proofs.YtahjkibjcibpgaaGreatDoor.L
end
section
namespace Go.Proofs.YtahjkibjcibpgaaGreatDoor.L
open Go.RowKit Go.Shelf Go.Lib Go.Proofs.YtahjkibjcibpgaaGreatDoor.U
open Go.Proofs.YtahjkibjcibpgaaGreatDoorW.PrintWords
attribute [local go_sem] Oper.semAt_some
theorem known_any (s : ByteArray) (w : World) (hg : UW w) :
    Calls Tryz.prog 55 #[.string s] w fun e w' => e = .returned (.bool (knownP s)) ∧ Below w.heap.size w w' := by
  have hA := fun r1 r2 r3 h => Ex.unit_Amount.calls ⟨#[48]⟩ s r1 r2 r3 w hg h
  have hA2 := hA _ _ _ (show Ex.unit_Amount.f ⟨#[48]⟩ s = some ((amt [48] s.data.toList).1, (amt [48] s.data.toList).2.1, (amt [48] s.data.toList).2.2) from rfl)
  clear hA
  unfold knownP
  generalize amt [48] s.data.toList = x at hA2 ⊢
  obtain ⟨n, d, e⟩ := x
  have hA3 := Lib.hid hA2
  clear hA2 hg
  go_enter Tryz.func55, Tryz.ntmps55
  go_wp2_with (first | (go_at_call 16; refine hA3.out.mono ?_; rintro e w1 ⟨rfl, hb⟩))
  refine bodyPost_ret (results_tmp rfl _ _ _) rfl ⟨rfl, hb.alloc hb.size _⟩
theorem amount_no (T : List PTr.S41) (tv : Value) (B base i d : Nat) (w : World) (hp : PW T tv B base i d w) (h : ((tokAt T i).f0 == 1) = false) :
    Calls Tryz.prog 81 #[.pointer (some ⟨B, 0, none⟩)] w fun e w' => e = flt 2 (tokAt T i).f2 ∧ Below w.heap.size w w' := by
  have hp2 := Lib.hid (hp.below ((Below.refl w.heap.size w).alloc (Nat.le_refl _) (.cells #[.int .i64 0, .string ⟨#[]⟩, .int .i64 0, .int .i64 0, .int .i64 0, .slice none 0 0] 26)))
  clear hp
  have hH := Lib.hid h
  clear h
  go_enter Tryz.func81, Tryz.ntmps81
  go_wp2_with (first | (go_at_call 37; refine (take_no T tv B base i d 1 _ hp2.out hH.out).mono ?_; rintro e w1 ⟨rfl, hb⟩; unfold flt))
  exact ⟨rfl, rfl, below_step ((Below.refl w.heap.size w).alloc (Nat.le_refl _) (.cells #[.int .i64 0, .string ⟨#[]⟩, .int .i64 0, .int .i64 0, .int .i64 0, .slice none 0 0] 26)) hb⟩
end Go.Proofs.YtahjkibjcibpgaaGreatDoor.L
end
section
namespace Go.Proofs.YtahjkibjcibpgaaGreatDoor.L
open Go.RowKit Go.Shelf Go.Lib Go.Proofs.YtahjkibjcibpgaaGreatDoor.U
open Go.Proofs.YtahjkibjcibpgaaGreatDoorW.PrintWords
def UB (B : Nat) (w : World) : Prop := ∃ w0, UW w0 ∧ w0.heap.size ≤ B ∧ Below w0.heap.size w0 w
theorem UB.uw {B : Nat} {w : World} (h : UB B w) : UW w := let ⟨_, h1, _, h3⟩ := h; h1.step h3
theorem UB.grown {B : Nat} {w w' : World} (h : UB B w) (hg : w.grownBy w' (some B)) : UB B w' := let ⟨_, h1, h2, h3⟩ := h; ⟨_, h1, h2, h3.grown hg h3.size (fun k e => by cases e; exact h2)⟩
theorem UB.below {B : Nat} {w w' : World} (h : UB B w) (hb : Below w.heap.size w w') : UB B w' := h.grown (gb_below hb)
theorem gb_trans {a b c : World} {row : Option Nat} (h : a.grownBy b row) (k : b.grownBy c row) : a.grownBy c row :=
  ⟨k.os.trans h.os, k.tape.trans h.tape, k.output.trans h.output, Nat.le_trans h.size k.size, fun i hi hn => (k.block i (Nat.lt_of_lt_of_le hi h.size) hn).trans (h.block i hi hn)⟩
abbrev Bx := Nat × Array Value × TypeId
structure St (T : List PTr.S41) (tv : Value) (B base i d : Nat) (w0 : World) (bl : List Bx) (W : World) : Prop where
  row0 : PTr.k41.R 41 w0 base (fun k => k ≠ B) tv T
  ub0 : UB B w0
  hB : B < w0.heap.size
  gb : w0.grownBy W (some B)
  lt : i < T.length
  bB : W.heap[B]? = some (.cells #[tv, .int .i64 (i : Int), .int .i64 (d : Int)] 60 (0, 0))
  blk : ∀ x ∈ bl, W.heap[x.1]? = some (.cells x.2.1 x.2.2 (0, 0)) ∧ w0.heap.size ≤ x.1
  ne : bl.Pairwise (fun x y => y.1 < x.1)
section
variable {T : List PTr.S41} {tv : Value} {B base i d : Nat} {w0 : World} {bl : List Bx} {W : World}
theorem St.pw (h : St T tv B base i d w0 bl W) : PW T tv B base i d W := ⟨h.bB, Kd.R_grown h.row0 h.gb (fun k hk e => hk (by injection e)), h.lt⟩
theorem St.ub (h : St T tv B base i d w0 bl W) : UB B W := h.ub0.grown h.gb
theorem St.start {w : World} (hp : PW T tv B base i d w) (hu : UB B w) : St T tv B base i d w [] w :=
  ⟨hp.row, hu, blk_lt hp.blk, gb_below (Below.refl _ _), hp.lt, hp.blk, fun _ h => by simp at h, List.Pairwise.nil⟩
theorem St.call (h : St T tv B base i d w0 bl W) {W' : World} {i' d' : Nat} (hq : PW T tv B base i' d' W') (hg : W.grownBy W' (some B)) : St T tv B base i' d' w0 bl W' :=
  ⟨h.row0, h.ub0, h.hB, gb_trans h.gb hg, hq.lt, hq.blk, fun x hx => ⟨blk_grown (h.blk x hx).1 hg (by have := (h.blk x hx).2; have := h.hB; intro e; injection e with e; omega), (h.blk x hx).2⟩, h.ne⟩
theorem St.below (h : St T tv B base i d w0 bl W) {W' : World} (hb : Below W.heap.size W W') : St T tv B base i d w0 bl W' := h.call (h.pw.below hb) (gb_below hb)
theorem St.alloc (h : St T tv B base i d w0 bl W) (cs : Array Value) (t : TypeId) : St T tv B base i d w0 ((W.heap.size, cs, t) :: bl) (W.alloc (.cells cs t)) := by
  have h2 := h.below ((Below.refl W.heap.size W).alloc (Nat.le_refl _) (.cells cs t))
  refine ⟨h2.row0, h2.ub0, h2.hB, h2.gb, h2.lt, h2.bB, fun x hx => ?_, List.Pairwise.cons (fun x hx => blk_lt (h.blk x hx).1) h2.ne⟩
  rcases List.mem_cons.1 hx with rfl | hx
  · exact ⟨World.alloc_heap_new W _, h.gb.size⟩
  · exact h2.blk x hx
theorem St.allocAt (h : St T tv B base i d w0 bl W) (b : Nat) (hb : W.heap.size = b) (cs : Array Value) (t : TypeId) : St T tv B base i d w0 ((b, cs, t) :: bl) (W.alloc (.cells cs t)) := by subst hb; exact h.alloc cs t
theorem St.forget {x : Bx} (h : St T tv B base i d w0 (x :: bl) W) : St T tv B base i d w0 bl W :=
  ⟨h.row0, h.ub0, h.hB, h.gb, h.lt, h.bB, fun y hy => h.blk y (List.mem_cons_of_mem _ hy), (List.pairwise_cons.1 h.ne).2⟩
theorem St.drop2 {x y : Bx} (h : St T tv B base i d w0 (x :: y :: bl) W) : St T tv B base i d w0 (x :: bl) W :=
  ⟨h.row0, h.ub0, h.hB, h.gb, h.lt, h.bB, fun z hz => h.blk z (by rcases List.mem_cons.1 hz with rfl | hz <;> simp [*]), List.Pairwise.cons (fun z hz => (List.pairwise_cons.1 h.ne).1 z (List.mem_cons_of_mem _ hz)) (List.pairwise_cons.1 (List.pairwise_cons.1 h.ne).2).2⟩
theorem St.get (h : St T tv B base i d w0 bl W) (k : Nat) {b : Nat} {cs : Array Value} {t : TypeId} (hk : bl[k]? = some (b, cs, t)) : W.heap[b]? = some (.cells cs t (0, 0)) := (h.blk _ (List.mem_of_getElem? hk)).1
theorem St.ge (h : St T tv B base i d w0 bl W) (k : Nat) {b : Nat} {cs : Array Value} {t : TypeId} (hk : bl[k]? = some (b, cs, t)) : w0.heap.size ≤ b := (h.blk _ (List.mem_of_getElem? hk)).2
theorem St.neB (h : St T tv B base i d w0 bl W) (k : Nat) {b : Nat} {cs : Array Value} {t : TypeId} (hk : bl[k]? = some (b, cs, t)) : b ≠ B ∧ B ≠ b := by
  have := h.ge k hk; have := h.hB; omega
theorem St.apart (h : St T tv B base i d w0 bl W) (k k' : Nat) (hl : k < k') {b b' : Nat} {cs cs' : Array Value} {t t' : TypeId} (hk : bl[k]? = some (b, cs, t)) (hk' : bl[k']? = some (b', cs', t')) : b ≠ b' ∧ b' ≠ b := by
  obtain ⟨h1, e1⟩ := List.getElem?_eq_some_iff.1 hk
  obtain ⟨h2, e2⟩ := List.getElem?_eq_some_iff.1 hk'
  have := List.pairwise_iff_getElem.1 h.ne k k' h1 h2 hl
  rw [e1, e2] at this
  simp only at this
  omega
theorem St.lt2 (h : St T tv B base i d w0 bl W) (k k' : Nat) (hl : k < k') {b b' : Nat} {cs cs' : Array Value} {t t' : TypeId} (hk : bl[k]? = some (b, cs, t)) (hk' : bl[k']? = some (b', cs', t')) : b' < b + 1 := by
  obtain ⟨h1, e1⟩ := List.getElem?_eq_some_iff.1 hk
  obtain ⟨h2, e2⟩ := List.getElem?_eq_some_iff.1 hk'
  have := List.pairwise_iff_getElem.1 h.ne k k' h1 h2 hl
  rw [e1, e2] at this
  simp only at this
  omega
theorem St.setB (h : St T tv B base i d w0 bl W) {j : Nat} {v : Value} {i' d' : Nat} (hq : PW T tv B base i' d' (W.setCell ⟨B, j, none⟩ v)) : St T tv B base i' d' w0 bl (W.setCell ⟨B, j, none⟩ v) :=
  h.call hq (gb_set (gb_below (Below.refl _ _)) j v)
theorem St.next (h : St T tv B base i d w0 bl W) (hi : i + 1 < T.length) : St T tv B base (i + 1) d w0 bl (W.setCell ⟨B, 1, none⟩ (.int .i64 ((i : Int) + 1))) := h.setB (h.pw.step hi)
theorem St.nextx (h : St T tv B base i d w0 bl W) (hi : i + 1 < T.length) (x : Int) (hx : x = (i : Int) + 1) : St T tv B base (i + 1) d w0 bl (W.setCell ⟨B, 1, none⟩ (.int .i64 x)) := by subst hx; exact h.next hi
theorem St.nest (h : St T tv B base i d w0 bl W) (d' : Nat) : St T tv B base i d' w0 bl (W.setCell ⟨B, 2, none⟩ (.int .i64 (d' : Int))) := h.setB h.pw.deep
theorem pairwise_set {l : List Bx} (h : l.Pairwise (fun x y => y.1 < x.1)) (k : Nat) {b : Nat} {cs cs' : Array Value} {t : TypeId} (hk : l[k]? = some (b, cs, t)) : (l.set k (b, cs', t)).Pairwise (fun x y => y.1 < x.1) := by
  rw [List.pairwise_iff_getElem] at h ⊢
  have key : ∀ (m : Nat) (hm : m < (l.set k (b, cs', t)).length), ((l.set k (b, cs', t))[m]).1 = (l[m]'(by simpa using hm)).1 := by
    intro m hm
    rw [List.getElem_set]
    split
    · rename_i e
      subst e
      obtain ⟨h1, h2⟩ := List.getElem?_eq_some_iff.1 hk
      rw [h2]
    · rfl
  intro m m' hm hm' hlt
  rw [key, key]
  exact h m m' _ _ hlt
theorem St.set (h : St T tv B base i d w0 bl W) (k : Nat) {b : Nat} {cs : Array Value} {t : TypeId} (hk : bl[k]? = some (b, cs, t)) (j : Nat) (v : Value) : St T tv B base i d w0 (bl.set k (b, cs.setIfInBounds j v, t)) (W.setCell ⟨b, j, none⟩ v) := by
  have hnb := h.neB k hk
  have hge := h.ge k hk
  refine ⟨h.row0, h.ub0, h.hB, gb_new h.gb hge j v, h.lt, blk_far h.bB (p := ⟨b, j, none⟩) hnb.2 v, fun x hx => ?_, pairwise_set h.ne k hk⟩
  obtain ⟨m, hm, hx⟩ := List.mem_iff_getElem.1 hx
  rw [List.getElem_set] at hx
  split at hx
  · subst hx
    exact ⟨blk_set (h.get k hk) j v, hge⟩
  · rename_i hne
    have hm' : bl[m]? = some x := by rw [← hx]; exact List.getElem?_eq_getElem (by simpa using hm)
    obtain ⟨bx, cx, tx⟩ := x
    refine ⟨blk_far (h.get m hm') (p := ⟨b, j, none⟩) ?_ v, h.ge m hm'⟩
    rcases Nat.lt_or_gt_of_ne hne with hl | hl
    · exact (h.apart k m hl hk hm').2
    · exact (h.apart m k hl hm' hk).1
theorem St.app (h : St T tv B base i d w0 bl W) {W' : World} {row : Option Nat} (hg : W.grownBy W' row) (hv : ∀ k, row = some k → w0.heap.size ≤ k ∧ ∀ x ∈ bl, x.1 ≠ k) : St T tv B base i d w0 bl W' := by
  refine ⟨h.row0, h.ub0, h.hB, ⟨hg.os.trans h.gb.os, hg.tape.trans h.gb.tape, hg.output.trans h.gb.output, Nat.le_trans h.gb.size hg.size, fun i hi hn => ?_⟩, h.lt, ?_, fun x hx => ⟨?_, (h.blk x hx).2⟩, h.ne⟩
  · exact (hg.block i (Nat.lt_of_lt_of_le hi h.gb.size) (fun e => by have := (hv i e.symm).1; omega)).trans (h.gb.block i hi hn)
  · exact blk_grown h.bB hg (fun e => by have := (hv B e.symm).1; have := h.hB; omega)
  · exact blk_grown (h.blk x hx).1 hg (fun e => (hv x.1 e.symm).2 x hx rfl)
theorem St.appH {b : Nat} {cs : Array Value} {t : TypeId} (h : St T tv B base i d w0 ((b, cs, t) :: bl) W) {W' : World} {row : Option Nat} (hg : W.grownBy W' row) (hv : ∀ k, row = some k → b + 1 ≤ k) : St T tv B base i d w0 ((b, cs, t) :: bl) W' :=
  h.app hg (fun k e => ⟨by have := hv k e; have := h.ge 0 rfl; omega, fun x hx => by
    have h1 := hv k e
    rcases List.mem_cons.1 hx with rfl | hx
    · simp only; omega
    · have := (List.pairwise_cons.1 h.ne).1 x hx
      simp only at this
      omega⟩)
theorem St.appW {b b2 : Nat} {cs cs2 : Array Value} {t t2 : TypeId} (h : St T tv B base i d w0 ((b, cs, t) :: (b2, cs2, t2) :: bl) W) {W' : World} {row : Option Nat} (hg : W.grownBy W' row) (hv : ∀ k, row = some k → b2 + 1 ≤ k) (hn : ∀ k, row = some k → k ≠ b) : St T tv B base i d w0 ((b, cs, t) :: (b2, cs2, t2) :: bl) W' :=
  h.app hg (fun k e => ⟨by have := hv k e; have := h.ge 1 rfl; omega, fun x hx => by
    have h1 := hv k e
    rcases List.mem_cons.1 hx with rfl | hx
    · exact Ne.symm (hn k e)
    · rcases List.mem_cons.1 hx with rfl | hx
      · simp only; omega
      · have := (List.pairwise_cons.1 (List.pairwise_cons.1 h.ne).2).1 x hx
        simp only at this
        omega⟩)
theorem kidsR {m : Nat} {v5 : Value} {ks : List PTr.S26} {W W' : World} (h : PTr.k26.R 26 W m (fun _ => True) v5 ks) (hm : B < m) (hg : W.grownBy W' (some B)) : PTr.k26.R 26 W' m (fun _ => True) v5 ks :=
  Kd.R_mono (Kd.R_grown (Kd.R_bound h) hg (fun k hk e => by injection e with e; have := hk.2.1; omega)) (fun _ _ => trivial)
theorem kidsSet {m : Nat} {v5 : Value} {ks : List PTr.S26} {W : World} (h : PTr.k26.R 26 W m (fun _ => True) v5 ks) {b : Nat} (hb : b < m) (j : Nat) (v : Value) : PTr.k26.R 26 (W.setCell ⟨b, j, none⟩ v) m (fun _ => True) v5 ks :=
  Kd.R_mono (Kd.R_far (p := ⟨b, j, none⟩) (Kd.R_bound h) (fun k hk e => by have := hk.2.1; have e : k = b := e; omega) v) (fun _ _ => trivial)
theorem kidsRo {m : Nat} {ok : Nat → Prop} {v5 : Value} {ks : List PTr.S26} {W W' : World} (h : PTr.k26.R 26 W m ok v5 ks) (hm : B < m) (hg : W.grownBy W' (some B)) : PTr.k26.R 26 W' m ok v5 ks :=
  Kd.R_mono (Kd.R_grown (Kd.R_bound h) hg (fun k hk e => by injection e with e; have := hk.2.1; omega)) (fun _ h => h.1)
theorem kidsNew {m : Nat} {ok : Nat → Prop} {v5 : Value} {ks : List PTr.S26} {W : World} (h : PTr.k26.R 26 W m ok v5 ks) {b : Nat} (hb : b < m) (j : Nat) (v : Value) (o : Obj) : PTr.k26.R 26 ((W.setCell ⟨b, j, none⟩ v).alloc o) m (fun k => k < W.heap.size) v5 ks :=
  Kd.R_mono (Kd.R_alloc (Kd.R_far (p := ⟨b, j, none⟩) (Kd.R_bound h) (fun k hk e => by have := hk.2.1; have e : k = b := e; omega) v) o) (fun _ h => h.2.2.1)
theorem kidsFar {m H : Nat} {v5 : Value} {ks : List PTr.S26} {W : World} (h : PTr.k26.R 26 W m (fun k => k < H) v5 ks) (j : Nat) (v : Value) : PTr.k26.R 26 (W.setCell ⟨H, j, none⟩ v) m (fun k => k < H) v5 ks :=
  Kd.R_far (p := ⟨H, j, none⟩) h (fun k hk e => by have e : k = H := e; omega) v
theorem St.c2 (h : St T tv B base i d w0 bl W) (k : Nat) {b : Nat} {v0 v1 : Value} {t : TypeId} (hk : bl[k]? = some (b, #[v0, v1], t)) :
    W.cell? ⟨b, 0, none⟩ = some v0 ∧ W.cell? ⟨b, 1, none⟩ = some v1 ∧ (∀ j, W.frozen? ⟨b, j, none⟩ = false) ∧ b < W.heap.size ∧ b ≠ B ∧ B ≠ b :=
  ⟨blk_cell (h.get k hk) 0, blk_cell (h.get k hk) 1, blk_frozen (h.get k hk), blk_lt (h.get k hk), h.neB k hk⟩
theorem St.c3 (h : St T tv B base i d w0 bl W) (k : Nat) {b : Nat} {v0 v1 v2 : Value} {t : TypeId} (hk : bl[k]? = some (b, #[v0, v1, v2], t)) :
    W.cell? ⟨b, 0, none⟩ = some v0 ∧ W.cell? ⟨b, 1, none⟩ = some v1 ∧ W.cell? ⟨b, 2, none⟩ = some v2 ∧ (∀ j, W.frozen? ⟨b, j, none⟩ = false) ∧ b < W.heap.size ∧ b ≠ B ∧ B ≠ b :=
  ⟨blk_cell (h.get k hk) 0, blk_cell (h.get k hk) 1, blk_cell (h.get k hk) 2, blk_frozen (h.get k hk), blk_lt (h.get k hk), h.neB k hk⟩
theorem St.c6 (h : St T tv B base i d w0 bl W) (k : Nat) {b : Nat} {v0 v1 v2 v3 v4 v5 : Value} {t : TypeId} (hk : bl[k]? = some (b, #[v0, v1, v2, v3, v4, v5], t)) :
    W.cell? ⟨b, 0, none⟩ = some v0 ∧ W.cell? ⟨b, 1, none⟩ = some v1 ∧ W.cell? ⟨b, 2, none⟩ = some v2 ∧ W.cell? ⟨b, 3, none⟩ = some v3 ∧ W.cell? ⟨b, 4, none⟩ = some v4 ∧ W.cell? ⟨b, 5, none⟩ = some v5 ∧ (∀ j, W.frozen? ⟨b, j, none⟩ = false) ∧ b < W.heap.size ∧ b ≠ B ∧ B ≠ b :=
  ⟨blk_cell (h.get k hk) 0, blk_cell (h.get k hk) 1, blk_cell (h.get k hk) 2, blk_cell (h.get k hk) 3, blk_cell (h.get k hk) 4, blk_cell (h.get k hk) 5, blk_frozen (h.get k hk), blk_lt (h.get k hk), h.neB k hk⟩
theorem St.cB (h : St T tv B base i d w0 bl W) : W.cell? ⟨B, 0, none⟩ = some tv ∧ W.cell? ⟨B, 1, none⟩ = some (.int .i64 (i : Int)) ∧ W.cell? ⟨B, 2, none⟩ = some (.int .i64 (d : Int)) ∧ (∀ j, W.frozen? ⟨B, j, none⟩ = false) ∧ B < W.heap.size :=
  ⟨blk_cell h.bB 0, blk_cell h.bB 1, blk_cell h.bB 2, blk_frozen h.bB, blk_lt h.bB⟩
end
abbrev zero26 : Array Value := #[.int .i64 0, .string ⟨#[]⟩, .int .i64 0, .int .i64 0, .int .i64 0, .slice none 0 0]
end Go.Proofs.YtahjkibjcibpgaaGreatDoor.L
end
section
namespace Go.Proofs.YtahjkibjcibpgaaGreatDoor.L
open Go.RowKit Go.Shelf Go.Lib Go.Proofs.YtahjkibjcibpgaaGreatDoor.U
open Go.Proofs.YtahjkibjcibpgaaGreatDoorW.PrintWords
attribute [local go_sem] Oper.semAt_some
def PEnd (T : List PTr.S41) (tv : Value) (B base d : Nat) (w : World) (r : PR PTr.S26) (e : Ending) (w' : World) : Prop :=
  match r with
  | .ok (v, j) => ∃ v5, e = .returned (nodeV v v5) ∧ PTr.k26.R 26 w' w.heap.size (fun _ => True) v5 v.f4 ∧ PW T tv B base j d w' ∧ w.grownBy w' (some B)
  | .error x => e = flt x.1 x.2 ∧ w.grownBy w' (some B)
theorem info26 : (Tryz.prog.info? 26).map (·.size) = some 6 := by kernel_rfl
theorem results26 {fn : Func} {p : Tmp} (h : fn.results = #[.cell p 26]) {tmps : Array Value} {W : World} {b : Nat} {cs : Array Value} (hs : cs.size = 6) (hp : tmps.getD p undef = .pointer (some ⟨b, 0, none⟩)) (hb : W.heap[b]? = some (.cells cs 26 (0, 0))) :
    (results fn tmps).run Tryz.prog W = .ok (.agg cs) W :=
  results_single h (.cell b 26 cs (0, 0) _ hp hb Tryz.underlying26 rfl (by rw [hs]; exact info26) .nil)
theorem amount_a (T : List PTr.S41) (tv : Value) (B base i d : Nat) (w : World) (hp : PW T tv B base i d w) (hu : UB B w) (h : ((tokAt T i).f0 == 1) = true) (h2 : ((tokAt T (i + 1)).f0 == 0) = false) (hi : i + 1 < T.length) (hl : T.length ≤ 140737488355328) (n dn : Int)
    (ha : Ex.unit_Amount.f (tokAt T i).f1 ⟨#[]⟩ = some (n, dn, 0)) :
    Calls Tryz.prog 81 #[.pointer (some ⟨B, 0, none⟩)] w fun e w' => PEnd T tv B base d w (.ok (⟨5, ⟨#[]⟩, ⟨n, dn⟩, (tokAt T i).f2, []⟩, i + 1)) e w' := by
  have S0 := Lib.hid (St.start hp hu)
  clear hp hu
  obtain ⟨k, t, a, hx⟩ : ∃ k t a, tokAt T i = ⟨k, t, a⟩ := ⟨_, _, _, rfl⟩
  obtain ⟨k2, t2, a2, hx2⟩ : ∃ k t a, tokAt T (i + 1) = ⟨k, t, a⟩ := ⟨_, _, _, rfl⟩
  have S1 := Lib.hid (S0.out.alloc zero26 26)
  have hT := take_ok T tv B base i d 1 _ S1.out.pw h hi hl
  have hN : ∀ W, PW T tv B base (i + 1) d W → Calls Tryz.prog 24 #[.pointer (some ⟨B, 0, none⟩)] W fun e w' => e = .returned (.agg #[.int .i64 k2, .string t2, .int .i64 a2]) ∧ Below W.heap.size W w' := fun W h => by
    have := now_any T tv B base (i + 1) d W h
    rw [hx2] at this
    exact this
  rw [hx] at hT ha h ⊢
  rw [hx2] at h2
  simp only at hT ha h h2 ⊢
  have hw : wrap64 ((i : Int) + 1 + 1) = (i : Int) + 1 + 1 := (by unfold wrap64; omega)
  have hT' := Lib.hid hT
  have hN' := Lib.hid hN
  have hA' := Lib.hid ha
  have hI := Lib.hid hi
  clear hT hN ha hi hx hx2 hl h
  go_enter Tryz.func81, Tryz.ntmps81
  go_wp2_with (first
    | (go_at_call 37; go_loud (refine hT'.out.mono ?_; rintro e w1 ⟨rfl, hq, hgb⟩; have S2 := Lib.hid (S1.out.call hq hgb); clear hq hgb))
    | (go_at_call 24; go_loud (have S3 := Lib.hid (S2.out.alloc #[.int .i64 k, .string t, .int .i64 a] 41); refine (hN'.out _ S3.out.pw).mono ?_; rintro e w2 ⟨rfl, hb⟩; have S4 := Lib.hid (S3.out.below hb); clear hb; have S5 := Lib.hid (S4.out.alloc #[.int .i64 k2, .string t2, .int .i64 a2] 41); obtain ⟨p0, p1, p2, pz, pl, pb⟩ := S5.out.c3 1 rfl))
    | (go_at_call 16; go_loud (refine (Ex.unit_Amount.calls _ _ _ _ _ _ S5.out.ub.uw hA'.out).mono ?_; rintro e w4 ⟨rfl, hb⟩; have S8 := Lib.hid (S5.out.below hb); clear hb; have S9 := Lib.hid (S8.out.alloc #[.int .i64 n, .int .i64 dn] 23); obtain ⟨p0, p1, p2, pz, pl, pb⟩ := S9.out.c3 2 rfl; obtain ⟨r0, r1, r2, r3, r4, r5, rz, rl, rb⟩ := S9.out.c6 3 rfl))
    | (go_at_call 56; refine (fail_any _ _ _).mono ?_; rintro e w5 ⟨rfl, rfl⟩))
  have SF := ((((((S9.out.set 3 rfl 0 (.int .i64 5)).set 3 rfl 1 (.string ⟨#[]⟩)).set 3 rfl 2 (.int .i64 n)).set 3 rfl 3 (.int .i64 dn)).set 3 rfl 4 (.int .i64 a)).set 3 rfl 5 (.slice none 0 0))
  refine bodyPost_ret (results26 rfl rfl rfl (SF.get 3 rfl)) rfl ⟨_, rfl, Kd.R_nil _ _ _ _ _, SF.pw, SF.gb⟩
theorem amount_ae (T : List PTr.S41) (tv : Value) (B base i d : Nat) (w : World) (hp : PW T tv B base i d w) (hu : UB B w) (h : ((tokAt T i).f0 == 1) = true) (h2 : ((tokAt T (i + 1)).f0 == 0) = false) (hi : i + 1 < T.length) (hl : T.length ≤ 140737488355328) (n dn er : Int)
    (ha : Ex.unit_Amount.f (tokAt T i).f1 ⟨#[]⟩ = some (n, dn, er)) (he : (er == 0) = false) :
    Calls Tryz.prog 81 #[.pointer (some ⟨B, 0, none⟩)] w fun e w' => PEnd T tv B base d w (.error (7, (tokAt T i).f2)) e w' := by
  have S0 := Lib.hid (St.start hp hu)
  clear hp hu
  obtain ⟨k, t, a, hx⟩ : ∃ k t a, tokAt T i = ⟨k, t, a⟩ := ⟨_, _, _, rfl⟩
  obtain ⟨k2, t2, a2, hx2⟩ : ∃ k t a, tokAt T (i + 1) = ⟨k, t, a⟩ := ⟨_, _, _, rfl⟩
  have S1 := Lib.hid (S0.out.alloc zero26 26)
  have hT := take_ok T tv B base i d 1 _ S1.out.pw h hi hl
  have hN : ∀ W, PW T tv B base (i + 1) d W → Calls Tryz.prog 24 #[.pointer (some ⟨B, 0, none⟩)] W fun e w' => e = .returned (.agg #[.int .i64 k2, .string t2, .int .i64 a2]) ∧ Below W.heap.size W w' := fun W h => by
    have := now_any T tv B base (i + 1) d W h
    rw [hx2] at this
    exact this
  rw [hx] at hT ha h ⊢
  rw [hx2] at h2
  simp only at hT ha h h2 ⊢
  have hw : wrap64 ((i : Int) + 1 + 1) = (i : Int) + 1 + 1 := (by unfold wrap64; omega)
  have hT' := Lib.hid hT
  have hN' := Lib.hid hN
  have hA' := Lib.hid ha
  have hI := Lib.hid hi
  clear hT hN ha hi hx hx2 hl h
  go_enter Tryz.func81, Tryz.ntmps81
  go_wp2_with (first
    | (go_at_call 37; go_loud (refine hT'.out.mono ?_; rintro e w1 ⟨rfl, hq, hgb⟩; have S2 := Lib.hid (S1.out.call hq hgb); clear hq hgb))
    | (go_at_call 24; go_loud (have S3 := Lib.hid (S2.out.alloc #[.int .i64 k, .string t, .int .i64 a] 41); refine (hN'.out _ S3.out.pw).mono ?_; rintro e w2 ⟨rfl, hb⟩; have S4 := Lib.hid (S3.out.below hb); clear hb; have S5 := Lib.hid (S4.out.alloc #[.int .i64 k2, .string t2, .int .i64 a2] 41); obtain ⟨p0, p1, p2, pz, pl, pb⟩ := S5.out.c3 1 rfl))
    | (go_at_call 16; go_loud (refine (Ex.unit_Amount.calls _ _ _ _ _ _ S5.out.ub.uw hA'.out).mono ?_; rintro e w4 ⟨rfl, hb⟩; have S8 := Lib.hid (S5.out.below hb); clear hb; have S9 := Lib.hid (S8.out.alloc #[.int .i64 n, .int .i64 dn] 23); obtain ⟨p0, p1, p2, pz, pl, pb⟩ := S9.out.c3 2 rfl; obtain ⟨r0, r1, r2, r3, r4, r5, rz, rl, rb⟩ := S9.out.c6 3 rfl))
    | (go_at_call 56; refine (fail_any _ _ _).mono ?_; rintro e w5 ⟨rfl, rfl⟩))
  exact ⟨rfl, rfl, S9.out.gb⟩
theorem amount_b (T : List PTr.S41) (tv : Value) (B base i d : Nat) (w : World) (hp : PW T tv B base i d w) (hu : UB B w) (h : ((tokAt T i).f0 == 1) = true) (h2 : ((tokAt T (i + 1)).f0 == 0) = true) (h3 : knownP (tokAt T (i + 1)).f1 = false) (hi : i + 1 < T.length) (hl : T.length ≤ 140737488355328) (n dn : Int)
    (ha : Ex.unit_Amount.f (tokAt T i).f1 ⟨#[]⟩ = some (n, dn, 0)) :
    Calls Tryz.prog 81 #[.pointer (some ⟨B, 0, none⟩)] w fun e w' => PEnd T tv B base d w (.ok (⟨5, ⟨#[]⟩, ⟨n, dn⟩, (tokAt T i).f2, []⟩, i + 1)) e w' := by
  have S0 := Lib.hid (St.start hp hu)
  clear hp hu
  obtain ⟨k, t, a, hx⟩ : ∃ k t a, tokAt T i = ⟨k, t, a⟩ := ⟨_, _, _, rfl⟩
  obtain ⟨k2, t2, a2, hx2⟩ : ∃ k t a, tokAt T (i + 1) = ⟨k, t, a⟩ := ⟨_, _, _, rfl⟩
  have S1 := Lib.hid (S0.out.alloc zero26 26)
  have hT := take_ok T tv B base i d 1 _ S1.out.pw h hi hl
  have hN : ∀ W, PW T tv B base (i + 1) d W → Calls Tryz.prog 24 #[.pointer (some ⟨B, 0, none⟩)] W fun e w' => e = .returned (.agg #[.int .i64 k2, .string t2, .int .i64 a2]) ∧ Below W.heap.size W w' := fun W h => by
    have := now_any T tv B base (i + 1) d W h
    rw [hx2] at this
    exact this
  rw [hx] at hT ha h ⊢
  rw [hx2] at h2 h3
  simp only at hT ha h h2 h3 ⊢
  have hw : wrap64 ((i : Int) + 1 + 1) = (i : Int) + 1 + 1 := (by unfold wrap64; omega)
  have hT' := Lib.hid hT
  have hN' := Lib.hid hN
  have hA' := Lib.hid ha
  have hI := Lib.hid hi
  clear hT hN ha hi hx hx2 hl h
  go_enter Tryz.func81, Tryz.ntmps81
  go_wp2_with (first
    | (go_at_call 37; go_loud (refine hT'.out.mono ?_; rintro e w1 ⟨rfl, hq, hgb⟩; have S2 := Lib.hid (S1.out.call hq hgb); clear hq hgb))
    | (go_at_call 24; go_loud (have S3 := Lib.hid (S2.out.alloc #[.int .i64 k, .string t, .int .i64 a] 41); refine (hN'.out _ S3.out.pw).mono ?_; rintro e w2 ⟨rfl, hb⟩; have S4 := Lib.hid (S3.out.below hb); clear hb; have S5 := Lib.hid (S4.out.alloc #[.int .i64 k2, .string t2, .int .i64 a2] 41); obtain ⟨p0, p1, p2, pz, pl, pb⟩ := S5.out.c3 1 rfl))
    | (go_at_call 55; go_loud (refine (known_any t2 _ (S5.out.ub.uw)).mono ?_; rintro e w3 ⟨rfl, hb⟩; rw [h3]; have S6 := Lib.hid (S5.out.below hb); clear hb; obtain ⟨p0, p1, p2, pz, pl, pb⟩ := S6.out.c3 1 rfl; obtain ⟨q0, q1, q2, qz, ql, qb⟩ := S6.out.c3 0 rfl; obtain ⟨B0, B1, B2, Bz, Bl⟩ := S6.out.cB))
    | (go_at_call 16; go_loud (refine (Ex.unit_Amount.calls _ _ _ _ _ _ S6.out.ub.uw hA'.out).mono ?_; rintro e w4 ⟨rfl, hb⟩; have S8 := Lib.hid (S6.out.below hb); clear hb; have S9 := Lib.hid (S8.out.alloc #[.int .i64 n, .int .i64 dn] 23); obtain ⟨p0, p1, p2, pz, pl, pb⟩ := S9.out.c3 2 rfl; obtain ⟨r0, r1, r2, r3, r4, r5, rz, rl, rb⟩ := S9.out.c6 3 rfl))
    | (go_at_call 56; refine (fail_any _ _ _).mono ?_; rintro e w5 ⟨rfl, rfl⟩))
  have SF := ((((((S9.out.set 3 rfl 0 (.int .i64 5)).set 3 rfl 1 (.string ⟨#[]⟩)).set 3 rfl 2 (.int .i64 n)).set 3 rfl 3 (.int .i64 dn)).set 3 rfl 4 (.int .i64 a)).set 3 rfl 5 (.slice none 0 0))
  refine bodyPost_ret (results26 rfl rfl rfl (SF.get 3 rfl)) rfl ⟨_, rfl, Kd.R_nil _ _ _ _ _, SF.pw, SF.gb⟩
theorem amount_be (T : List PTr.S41) (tv : Value) (B base i d : Nat) (w : World) (hp : PW T tv B base i d w) (hu : UB B w) (h : ((tokAt T i).f0 == 1) = true) (h2 : ((tokAt T (i + 1)).f0 == 0) = true) (h3 : knownP (tokAt T (i + 1)).f1 = false) (hi : i + 1 < T.length) (hl : T.length ≤ 140737488355328) (n dn er : Int)
    (ha : Ex.unit_Amount.f (tokAt T i).f1 ⟨#[]⟩ = some (n, dn, er)) (he : (er == 0) = false) :
    Calls Tryz.prog 81 #[.pointer (some ⟨B, 0, none⟩)] w fun e w' => PEnd T tv B base d w (.error (7, (tokAt T i).f2)) e w' := by
  have S0 := Lib.hid (St.start hp hu)
  clear hp hu
  obtain ⟨k, t, a, hx⟩ : ∃ k t a, tokAt T i = ⟨k, t, a⟩ := ⟨_, _, _, rfl⟩
  obtain ⟨k2, t2, a2, hx2⟩ : ∃ k t a, tokAt T (i + 1) = ⟨k, t, a⟩ := ⟨_, _, _, rfl⟩
  have S1 := Lib.hid (S0.out.alloc zero26 26)
  have hT := take_ok T tv B base i d 1 _ S1.out.pw h hi hl
  have hN : ∀ W, PW T tv B base (i + 1) d W → Calls Tryz.prog 24 #[.pointer (some ⟨B, 0, none⟩)] W fun e w' => e = .returned (.agg #[.int .i64 k2, .string t2, .int .i64 a2]) ∧ Below W.heap.size W w' := fun W h => by
    have := now_any T tv B base (i + 1) d W h
    rw [hx2] at this
    exact this
  rw [hx] at hT ha h ⊢
  rw [hx2] at h2 h3
  simp only at hT ha h h2 h3 ⊢
  have hw : wrap64 ((i : Int) + 1 + 1) = (i : Int) + 1 + 1 := (by unfold wrap64; omega)
  have hT' := Lib.hid hT
  have hN' := Lib.hid hN
  have hA' := Lib.hid ha
  have hI := Lib.hid hi
  clear hT hN ha hi hx hx2 hl h
  go_enter Tryz.func81, Tryz.ntmps81
  go_wp2_with (first
    | (go_at_call 37; go_loud (refine hT'.out.mono ?_; rintro e w1 ⟨rfl, hq, hgb⟩; have S2 := Lib.hid (S1.out.call hq hgb); clear hq hgb))
    | (go_at_call 24; go_loud (have S3 := Lib.hid (S2.out.alloc #[.int .i64 k, .string t, .int .i64 a] 41); refine (hN'.out _ S3.out.pw).mono ?_; rintro e w2 ⟨rfl, hb⟩; have S4 := Lib.hid (S3.out.below hb); clear hb; have S5 := Lib.hid (S4.out.alloc #[.int .i64 k2, .string t2, .int .i64 a2] 41); obtain ⟨p0, p1, p2, pz, pl, pb⟩ := S5.out.c3 1 rfl))
    | (go_at_call 55; go_loud (refine (known_any t2 _ (S5.out.ub.uw)).mono ?_; rintro e w3 ⟨rfl, hb⟩; rw [h3]; have S6 := Lib.hid (S5.out.below hb); clear hb; obtain ⟨p0, p1, p2, pz, pl, pb⟩ := S6.out.c3 1 rfl; obtain ⟨q0, q1, q2, qz, ql, qb⟩ := S6.out.c3 0 rfl; obtain ⟨B0, B1, B2, Bz, Bl⟩ := S6.out.cB))
    | (go_at_call 16; go_loud (refine (Ex.unit_Amount.calls _ _ _ _ _ _ S6.out.ub.uw hA'.out).mono ?_; rintro e w4 ⟨rfl, hb⟩; have S8 := Lib.hid (S6.out.below hb); clear hb; have S9 := Lib.hid (S8.out.alloc #[.int .i64 n, .int .i64 dn] 23); obtain ⟨p0, p1, p2, pz, pl, pb⟩ := S9.out.c3 2 rfl; obtain ⟨r0, r1, r2, r3, r4, r5, rz, rl, rb⟩ := S9.out.c6 3 rfl))
    | (go_at_call 56; refine (fail_any _ _ _).mono ?_; rintro e w5 ⟨rfl, rfl⟩))
  exact ⟨rfl, rfl, S9.out.gb⟩
theorem amount_c (T : List PTr.S41) (tv : Value) (B base i d : Nat) (w : World) (hp : PW T tv B base i d w) (hu : UB B w) (h : ((tokAt T i).f0 == 1) = true) (h2 : ((tokAt T (i + 1)).f0 == 0) = true) (h3 : knownP (tokAt T (i + 1)).f1 = true) (hi2 : i + 1 + 1 < T.length) (hi : i + 1 < T.length) (hl : T.length ≤ 140737488355328) (n dn : Int)
    (ha : Ex.unit_Amount.f (tokAt T i).f1 (tokAt T (i + 1)).f1 = some (n, dn, 0)) :
    Calls Tryz.prog 81 #[.pointer (some ⟨B, 0, none⟩)] w fun e w' => PEnd T tv B base d w (.ok (⟨5, ⟨#[]⟩, ⟨n, dn⟩, (tokAt T i).f2, []⟩, i + 1 + 1)) e w' := by
  have S0 := Lib.hid (St.start hp hu)
  clear hp hu
  obtain ⟨k, t, a, hx⟩ : ∃ k t a, tokAt T i = ⟨k, t, a⟩ := ⟨_, _, _, rfl⟩
  obtain ⟨k2, t2, a2, hx2⟩ : ∃ k t a, tokAt T (i + 1) = ⟨k, t, a⟩ := ⟨_, _, _, rfl⟩
  have S1 := Lib.hid (S0.out.alloc zero26 26)
  have hT := take_ok T tv B base i d 1 _ S1.out.pw h hi hl
  have hN : ∀ W, PW T tv B base (i + 1) d W → Calls Tryz.prog 24 #[.pointer (some ⟨B, 0, none⟩)] W fun e w' => e = .returned (.agg #[.int .i64 k2, .string t2, .int .i64 a2]) ∧ Below W.heap.size W w' := fun W h => by
    have := now_any T tv B base (i + 1) d W h
    rw [hx2] at this
    exact this
  rw [hx] at hT ha h ⊢
  rw [hx2] at h2 h3 ha
  simp only at hT ha h h2 h3 ⊢
  have hw : wrap64 ((i : Int) + 1 + 1) = (i : Int) + 1 + 1 := (by unfold wrap64; omega)
  have hT' := Lib.hid hT
  have hN' := Lib.hid hN
  have hA' := Lib.hid ha
  have hI := Lib.hid hi
  clear hT hN ha hi hx hx2 hl h
  go_enter Tryz.func81, Tryz.ntmps81
  go_wp2_with (first
    | (go_at_call 37; go_loud (refine hT'.out.mono ?_; rintro e w1 ⟨rfl, hq, hgb⟩; have S2 := Lib.hid (S1.out.call hq hgb); clear hq hgb))
    | (go_at_call 24; go_loud (have S3 := Lib.hid (S2.out.alloc #[.int .i64 k, .string t, .int .i64 a] 41); refine (hN'.out _ S3.out.pw).mono ?_; rintro e w2 ⟨rfl, hb⟩; have S4 := Lib.hid (S3.out.below hb); clear hb; have S5 := Lib.hid (S4.out.alloc #[.int .i64 k2, .string t2, .int .i64 a2] 41); obtain ⟨p0, p1, p2, pz, pl, pb⟩ := S5.out.c3 1 rfl))
    | (go_at_call 55; go_loud (refine (known_any t2 _ (S5.out.ub.uw)).mono ?_; rintro e w3 ⟨rfl, hb⟩; rw [h3]; have S6 := Lib.hid (S5.out.below hb); clear hb; obtain ⟨p0, p1, p2, pz, pl, pb⟩ := S6.out.c3 1 rfl; obtain ⟨q0, q1, q2, qz, ql, qb⟩ := S6.out.c3 0 rfl; obtain ⟨B0, B1, B2, Bz, Bl⟩ := S6.out.cB))
    | (go_at_call 16; go_loud (have S7 := Lib.hid (S6.out.nextx hi2 ((i : Int) + 1 + 1) (by omega)); refine (Ex.unit_Amount.calls _ _ _ _ _ _ S7.out.ub.uw hA'.out).mono ?_; rintro e w4 ⟨rfl, hb⟩; have S8 := Lib.hid (S7.out.below hb); clear hb; have S9 := Lib.hid (S8.out.alloc #[.int .i64 n, .int .i64 dn] 23); obtain ⟨p0, p1, p2, pz, pl, pb⟩ := S9.out.c3 2 rfl; obtain ⟨r0, r1, r2, r3, r4, r5, rz, rl, rb⟩ := S9.out.c6 3 rfl))
    | (go_at_call 56; refine (fail_any _ _ _).mono ?_; rintro e w5 ⟨rfl, rfl⟩))
  have SF := ((((((S9.out.set 3 rfl 0 (.int .i64 5)).set 3 rfl 1 (.string ⟨#[]⟩)).set 3 rfl 2 (.int .i64 n)).set 3 rfl 3 (.int .i64 dn)).set 3 rfl 4 (.int .i64 a)).set 3 rfl 5 (.slice none 0 0))
  refine bodyPost_ret (results26 rfl rfl rfl (SF.get 3 rfl)) rfl ⟨_, rfl, Kd.R_nil _ _ _ _ _, SF.pw, SF.gb⟩
theorem amount_ce (T : List PTr.S41) (tv : Value) (B base i d : Nat) (w : World) (hp : PW T tv B base i d w) (hu : UB B w) (h : ((tokAt T i).f0 == 1) = true) (h2 : ((tokAt T (i + 1)).f0 == 0) = true) (h3 : knownP (tokAt T (i + 1)).f1 = true) (hi2 : i + 1 + 1 < T.length) (hi : i + 1 < T.length) (hl : T.length ≤ 140737488355328) (n dn er : Int)
    (ha : Ex.unit_Amount.f (tokAt T i).f1 (tokAt T (i + 1)).f1 = some (n, dn, er)) (he : (er == 0) = false) :
    Calls Tryz.prog 81 #[.pointer (some ⟨B, 0, none⟩)] w fun e w' => PEnd T tv B base d w (.error (7, (tokAt T i).f2)) e w' := by
  have S0 := Lib.hid (St.start hp hu)
  clear hp hu
  obtain ⟨k, t, a, hx⟩ : ∃ k t a, tokAt T i = ⟨k, t, a⟩ := ⟨_, _, _, rfl⟩
  obtain ⟨k2, t2, a2, hx2⟩ : ∃ k t a, tokAt T (i + 1) = ⟨k, t, a⟩ := ⟨_, _, _, rfl⟩
  have S1 := Lib.hid (S0.out.alloc zero26 26)
  have hT := take_ok T tv B base i d 1 _ S1.out.pw h hi hl
  have hN : ∀ W, PW T tv B base (i + 1) d W → Calls Tryz.prog 24 #[.pointer (some ⟨B, 0, none⟩)] W fun e w' => e = .returned (.agg #[.int .i64 k2, .string t2, .int .i64 a2]) ∧ Below W.heap.size W w' := fun W h => by
    have := now_any T tv B base (i + 1) d W h
    rw [hx2] at this
    exact this
  rw [hx] at hT ha h ⊢
  rw [hx2] at h2 h3 ha
  simp only at hT ha h h2 h3 ⊢
  have hw : wrap64 ((i : Int) + 1 + 1) = (i : Int) + 1 + 1 := (by unfold wrap64; omega)
  have hT' := Lib.hid hT
  have hN' := Lib.hid hN
  have hA' := Lib.hid ha
  have hI := Lib.hid hi
  clear hT hN ha hi hx hx2 hl h
  go_enter Tryz.func81, Tryz.ntmps81
  go_wp2_with (first
    | (go_at_call 37; go_loud (refine hT'.out.mono ?_; rintro e w1 ⟨rfl, hq, hgb⟩; have S2 := Lib.hid (S1.out.call hq hgb); clear hq hgb))
    | (go_at_call 24; go_loud (have S3 := Lib.hid (S2.out.alloc #[.int .i64 k, .string t, .int .i64 a] 41); refine (hN'.out _ S3.out.pw).mono ?_; rintro e w2 ⟨rfl, hb⟩; have S4 := Lib.hid (S3.out.below hb); clear hb; have S5 := Lib.hid (S4.out.alloc #[.int .i64 k2, .string t2, .int .i64 a2] 41); obtain ⟨p0, p1, p2, pz, pl, pb⟩ := S5.out.c3 1 rfl))
    | (go_at_call 55; go_loud (refine (known_any t2 _ (S5.out.ub.uw)).mono ?_; rintro e w3 ⟨rfl, hb⟩; rw [h3]; have S6 := Lib.hid (S5.out.below hb); clear hb; obtain ⟨p0, p1, p2, pz, pl, pb⟩ := S6.out.c3 1 rfl; obtain ⟨q0, q1, q2, qz, ql, qb⟩ := S6.out.c3 0 rfl; obtain ⟨B0, B1, B2, Bz, Bl⟩ := S6.out.cB))
    | (go_at_call 16; go_loud (have S7 := Lib.hid (S6.out.nextx hi2 ((i : Int) + 1 + 1) (by omega)); refine (Ex.unit_Amount.calls _ _ _ _ _ _ S7.out.ub.uw hA'.out).mono ?_; rintro e w4 ⟨rfl, hb⟩; have S8 := Lib.hid (S7.out.below hb); clear hb; have S9 := Lib.hid (S8.out.alloc #[.int .i64 n, .int .i64 dn] 23); obtain ⟨p0, p1, p2, pz, pl, pb⟩ := S9.out.c3 2 rfl; obtain ⟨r0, r1, r2, r3, r4, r5, rz, rl, rb⟩ := S9.out.c6 3 rfl))
    | (go_at_call 56; refine (fail_any _ _ _).mono ?_; rintro e w5 ⟨rfl, rfl⟩))
  exact ⟨rfl, rfl, S9.out.gb⟩
end Go.Proofs.YtahjkibjcibpgaaGreatDoor.L
end
section
namespace Go.Proofs.YtahjkibjcibpgaaGreatDoor.L
open Go.RowKit Go.Shelf Go.Lib Go.Proofs.YtahjkibjcibpgaaGreatDoor.U
open Go.Proofs.YtahjkibjcibpgaaGreatDoorW Go.Proofs.YtahjkibjcibpgaaGreatDoorW.PrintWords Go.Proofs.YtahjkibjcibpgaaGreatDoorW.PrintLast
attribute [local go_sem] Oper.semAt_some
attribute [local go_sem ↓] Go.wp_at_zero Go.wp_at_succ
theorem und24 : Tryz.prog.underlying 24 = some (.slice 26) := by kernel_rfl
theorem info26b : (Tryz.prog.info? 26).map (fun i => (i.zero, i.size, i.bytes)) = some (some (.agg #[.int .i64 0, .string ⟨#[]⟩, .int .i64 0, .int .i64 0, .int .i64 0, .slice none 0 0]), 6, 72) := by kernel_rfl
structure Tk (T : List PTr.S41) (n : Nat) : Prop where
  hE : EndT T n
  hl : T.length ≤ 65537
  sz : ∀ i, (tokAt T i).f1.size ≤ 65536
def VC (T : List PTr.S41) (tv : Value) (B base f : Nat) : Prop := ∀ (i d : Nat) (r : PR PTr.S26) (w : World), PW T tv B base i d w → UB B w → d ≤ 40 → valueP f T i d = some r →
  Calls Tryz.prog 57 #[.pointer (some ⟨B, 0, none⟩)] w (PEnd T tv B base d w r)
abbrev node6 (k : Int) (t : ByteArray) (at_ : Int) (v5 : Value) : Array Value := #[.int .i64 k, .string t, .int .i64 0, .int .i64 0, .int .i64 at_, v5]
def GR (T : List PTr.S41) (tv : Value) (B base d : Nat) (w : World) (r n : Nat) (at_ : Int) (g : PR (List PTr.S26)) (kq : Nat) (s : ByteArray) (W : World) : Prop :=
  ∃ ks j v5, ((s = ⟨#[41]⟩ ∧ g = .ok (ks, j) ∧ isP T j ⟨#[41]⟩ = true) ∨ ((s = ⟨#[40]⟩ ∨ s = ⟨#[44]⟩) ∧ groupP kq T j (d + 1) s ks = some g)) ∧
    St T tv B base j (d + 1) w [(n, node6 6 ⟨#[]⟩ at_ v5, 26), (r, zero26, 26)] W ∧ PTr.k26.R 26 W (n + 1) (fun _ => True) v5 ks ∧ ks.length ≤ j
theorem groupP_cases {T : List PTr.S41} {kq j d : Nat} {s : ByteArray} {ks : List PTr.S26} {g : PR (List PTr.S26)} (h : groupP kq T j d s ks = some g) :
    ∃ q, kq = q + 1 ∧ ((isP T j s = false ∧ g = .error (2, (tokAt T j).f2)) ∨ (isP T j s = true ∧ ((∃ e, valueP q T (j + 1) d = some (.error e) ∧ g = .error e) ∨
      (∃ v j', valueP q T (j + 1) d = some (.ok (v, j')) ∧ ((isP T j' ⟨#[41]⟩ = true ∧ g = .ok (ks ++ [v], j')) ∨ (isP T j' ⟨#[41]⟩ = false ∧ groupP q T j' d ⟨#[44]⟩ (ks ++ [v]) = some g)))))) := by
  cases kq with
  | zero => simp [groupP] at h
  | succ q =>
    refine ⟨q, rfl, ?_⟩
    rw [groupP] at h
    by_cases c1 : isP T j s = true
    · rw [if_pos c1] at h
      refine .inr ⟨c1, ?_⟩
      cases hq : valueP q T (j + 1) d with
      | none => rw [hq] at h; simp at h
      | some x =>
        rw [hq] at h
        match x, h with
        | .error e, h => simp only at h; injection h with h; exact .inl ⟨e, rfl, h.symm⟩
        | .ok (v, j'), h =>
          simp only at h
          refine .inr ⟨v, j', rfl, ?_⟩
          by_cases c2 : isP T j' ⟨#[41]⟩ = true
          · rw [if_pos c2] at h; injection h with h; exact .inl ⟨c2, h.symm⟩
          · rw [if_neg c2] at h; exact .inr ⟨by simpa using c2, h⟩
    · rw [if_neg c1] at h; injection h with h
      exact .inl ⟨by simpa using c1, h.symm⟩
theorem goesE_ {P : Program} {ops : Array Oper} {Q : Exit → Act → World → Prop} {oi : Oper} {N : Option Tmp} {a : Act} {w : World} {K : Act → World → Prop} {f : FuncId} {fn : Func} {ars : Array Operand} {ts : Array TypeId} (hf : P.funcs[f]? = some fn) (hname : (fn.name == "runtime.NumGoroutine") = false) (hb : fn.body.isSome = true) (args : Array Value)
    (hw : Region.wanted oi (yielded ops a.tmps) = true) (hop : oi.op = .call { callee := .value (.func f), args := ars, argTypes := ts }) (hargs : ars.map a.eval = args)
    (h : Calls P f args w fun e w' => ∃ c, e = .panicked c ∧ Q (.panic c) a w') : if Region.wanted oi (yielded ops a.tmps) = true then Oper.wp P oi a w K Q else K (a.put N undef) w := by
  rw [if_pos hw]
  have he := PrintLast.enters_ hf hname hb args w
  have hrun : (execOp a.eval oi).run P w = .ok (.enter f args) w := by
    unfold execOp
    simp [hop, resolve, Deferred.ofValue, invoke, Act.eval, hargs, he]
  unfold Oper.wp
  rw [hrun, Oper.upon_enter]
  refine h.mono fun e w'' hh => ?_
  obtain ⟨c, rfl, hk⟩ := hh
  exact hk
def grpE (at_ : Int) : PR (List PTr.S26) → PR PTr.S26
  | .error e => .error e
  | .ok (ks, j) => .ok (⟨6, ⟨#[]⟩, ⟨0, 0⟩, at_, ks⟩, j + 1)
set_option maxRecDepth 100000 in
theorem group_full (T : List PTr.S41) (tv : Value) (B base i : Nat) (w : World) (hp : PW T tv B base i 40 w) (hu : UB B w) :
    Calls Tryz.prog 80 #[.pointer (some ⟨B, 0, none⟩)] w (PEnd T tv B base 40 w (.error (8, (tokAt T i).f2))) := by
  have S0 := Lib.hid (St.start hp hu)
  clear hp hu
  have S1 := Lib.hid (S0.out.alloc zero26 26)
  have hN := Lib.hid (now_any T tv B base i 40 _ S1.out.pw)
  obtain ⟨k, t, a, hx⟩ : ∃ k t a, tokAt T i = ⟨k, t, a⟩ := ⟨_, _, _, rfl⟩
  rw [hx] at hN ⊢
  simp only at hN ⊢
  clear hx
  have f2 := tokf2 k t a
  go_enter Tryz.func80, Tryz.ntmps80
  go_wp2_with (first
    | (go_at_call 24; go_loud (refine hN.out.mono ?_; rintro e w1 ⟨rfl, hb⟩; have S2 := Lib.hid (S1.out.below hb); clear hb; have S3 := Lib.hid (S2.out.alloc (node6 6 ⟨#[]⟩ a (.slice none 0 0)) 26); obtain ⟨B0, B1, B2, Bz, Bl⟩ := S3.out.cB))
    | (go_at_call 56; refine (fail_any _ _ _).mono ?_; rintro e w5 ⟨rfl, rfl⟩))
  exact ⟨rfl, rfl, S3.out.gb⟩
set_option maxRecDepth 100000 in
theorem group_calls (T : List PTr.S41) (n0 : Nat) (hT : Tk T n0) (tv : Value) (B base f : Nat) (HV : ∀ f', f' ≤ f → VC T tv B base f') (i d : Nat) (w : World) (hp : PW T tv B base i d w) (hu : UB B w) (hd : d < 40) (g : PR (List PTr.S26))
    (hg : groupP f T i (d + 1) ⟨#[40]⟩ [] = some g) :
    Calls Tryz.prog 80 #[.pointer (some ⟨B, 0, none⟩)] w (PEnd T tv B base d w (grpE (tokAt T i).f2 g)) := by
  have S0 := Lib.hid (St.start hp hu)
  clear hp hu
  have S1 := Lib.hid (S0.out.alloc zero26 26)
  have hN := Lib.hid (now_any T tv B base i d _ S1.out.pw)
  obtain ⟨k, t, a, hx⟩ : ∃ k t a, tokAt T i = ⟨k, t, a⟩ := ⟨_, _, _, rfl⟩
  rw [hx] at hN ⊢
  simp only at hN ⊢
  have f2 := tokf2 k t a
  have hG := Lib.hid hg
  have hHV := Lib.hid HV
  have hTT := Lib.hid hT
  have h40 : ((d : Int) == 40) = false := by simpa using (by omega : ¬ (d : Int) = 40)
  have hw : wrap64 ((d : Int) + 1) = (d : Int) + 1 := (by unfold wrap64; omega)
  have hw2 : wrap64 ((d : Int) + 1 - 1) = (d : Int) := (by unfold wrap64; omega)
  clear hx hg HV hT
  go_enter Tryz.func80, Tryz.ntmps80
  go_wp2_with (first
    | (go_at_call 24; go_loud (refine hN.out.mono ?_; rintro e w1 ⟨rfl, hb⟩; have S2 := Lib.hid (S1.out.below hb); clear hb; have S3 := Lib.hid (S2.out.alloc (node6 6 ⟨#[]⟩ a (.slice none 0 0)) 26); obtain ⟨B0, B1, B2, Bz, Bl⟩ := S3.out.cB)))
  have S4 := Lib.hid (S3.out.nest (d + 1))
  go_loopg [4] f (fun kq s4 W => ∃ s : ByteArray, s4 = .string s ∧ Hid (kq ≤ f) ∧ Hid (GR T tv B base d w w.heap.size w1.heap.size a g kq s W))
  case atStart => exact ⟨_, rfl, Lib.hid (Nat.le_refl _), Lib.hid ⟨[], i, _, .inr ⟨.inl rfl, hG.out⟩, S4.out, Kd.R_nil _ _ _ _ _, by simp⟩⟩
  case round =>
    obtain ⟨s, rfl, HK, HGR⟩ := hrel
    obtain ⟨ks, j, v5, hcase, hS, hR5, hle⟩ := HGR.out
    clear HGR
    have SS := Lib.hid hS
    have RR := Lib.hid hR5
    clear hS hR5
    rcases hcase with ⟨rfl, hg, hc⟩ | ⟨hs, hgp⟩
    · have C1 := Lib.hid hc
      have G1 := Lib.hid hg
      clear hc hg
      have hj1 : j + 1 < T.length := by
        have h1 := hTT.out.hE.next (i := j) (by have := SS.out.lt; have := hTT.out.hE.1; omega) (by rw [isP_kind C1.out]; decide)
        have := hTT.out.hE.1; omega
      obtain ⟨A5, c5, e5⟩ := Kd.R_slice RR.out
      generalize ks.length = m5 at e5
      subst e5
      have hw3 : wrap64 (d : Int) = (d : Int) := (by unfold wrap64; omega)
      go_wp2_with (first
        | (go_at_call 39; go_loud (refine (skip_ok T tv B base j (d + 1) _ _ SS.out.pw C1.out hj1 (by have := hTT.out.hl; omega)).mono ?_; rintro e w2 ⟨rfl, hq, hgb⟩; have SS2 := Lib.hid (SS.out.call hq hgb); have RR2 := Lib.hid (kidsR RR.out (by have := SS.out.hB; have := SS.out.ge 0 rfl; omega) hgb); clear hq hgb; obtain ⟨n0, n1, n2, n3, n4, n5, nz, nl, nb⟩ := SS2.out.c6 0 rfl; obtain ⟨r0, r1, r2, r3, r4, r5, rz, rl, rb⟩ := SS2.out.c6 1 rfl; obtain ⟨B0, B1, B2, Bz, Bl⟩ := SS2.out.cB; have rn := SS2.out.apart 0 1 (by decide) rfl rfl)))
      have SS4 := ((((((((SS2.out.nest d).set 1 rfl 0 (.int .i64 6)).set 1 rfl 1 (.string ⟨#[]⟩)).set 1 rfl 2 (.int .i64 0)).set 1 rfl 3 (.int .i64 0)).set 1 rfl 4 (.int .i64 a)).set 1 rfl 5 (.slice A5 m5 c5)))
      rw [G1.out]
      have hlt := rn.2
      have hge := SS2.out.ge 1 rfl
      refine bodyPost_ret (results26 rfl rfl rfl (SS4.get 1 rfl)) rfl ⟨_, rfl, ?_, SS4.pw, SS4.gb⟩
      have hBn : B < w1.heap.size + 1 := (by have := SS.out.hB; have := SS.out.ge 0 rfl; omega)
      have hrn : w.heap.size < w1.heap.size + 1 := SS.out.lt2 0 1 (by decide) rfl rfl
      exact Kd.R_lower (kidsSet (kidsSet (kidsSet (kidsSet (kidsSet (kidsSet (kidsSet RR2.out hBn 2 _) hrn 0 _) hrn 1 _) hrn 2 _) hrn 3 _) hrn 4 _) hrn 5 _) (by omega)
    · obtain ⟨q, hq, hh⟩ := groupP_cases hgp
      subst hq
      clear hgp
      rcases hh with ⟨c1, rfl⟩ | ⟨c1, ⟨e, hv, rfl⟩ | ⟨v, j', hv, hrest⟩⟩
      · have C1 := Lib.hid c1
        clear c1
        rcases hs with rfl | rfl
        · go_wp2_with (first
            | (go_at_call 39; go_loud (refine (skip_no T tv B base j (d + 1) _ _ SS.out.pw C1.out).mono ?_; rintro e w2 ⟨rfl, hb⟩; have SS2 := Lib.hid (SS.out.below hb); clear hb; unfold flt)))
          exact ⟨rfl, rfl, SS2.out.gb⟩
        · go_wp2_with (first
            | (go_at_call 39; go_loud (refine (skip_no T tv B base j (d + 1) _ _ SS.out.pw C1.out).mono ?_; rintro e w2 ⟨rfl, hb⟩; have SS2 := Lib.hid (SS.out.below hb); clear hb; unfold flt)))
          exact ⟨rfl, rfl, SS2.out.gb⟩
      · have hj1 : j + 1 < T.length := by
          have h1 := hTT.out.hE.next (i := j) (by have := SS.out.lt; have := hTT.out.hE.1; omega) (by rw [isP_kind c1]; decide)
          have := hTT.out.hE.1; omega
        have C1 := Lib.hid c1
        have HV1 := Lib.hid hv
        clear c1 hv
        rcases hs with rfl | rfl
        · go_wp2_with (first
            | (go_at_call 39; go_loud (refine (skip_ok T tv B base j (d + 1) _ _ SS.out.pw C1.out hj1 (by have := hTT.out.hl; omega)).mono ?_; rintro e w2 ⟨rfl, hq, hgb⟩; have SS2 := Lib.hid (SS.out.call hq hgb); have RR2 := Lib.hid (kidsR RR.out (by have := SS.out.hB; have := SS.out.ge 0 rfl; omega) hgb); clear hq hgb; obtain ⟨n0, n1, n2, n3, n4, n5, nz, nl, nb⟩ := SS2.out.c6 0 rfl)))
          refine start_ (n := 8) (S := fun w' => w'.cell? ⟨w1.heap.size, 5, none⟩ = some v5) (ds := [7]) #[false, false, false, false, false, false, false, false] (by kernel_rfl) rfl rfl (by simpa using n5) ?_
          intro hHeld
          refine pure_ (i := 0) (N := some 29) (v := ?_) (a' := ?_) #[true, false, false, false, false, false, false, false] rfl rfl (by kernel_rfl) (fun _ _ _ h => h) (Or.inl ⟨by rfl, ?_⟩) ?_ ?_
          rotate_left
          · intro w'
            go_simp
            with_reducible rfl
          rotate_left
          · simp only [Act.put, List.setIfInBounds_toArray, List.set_cons_zero, List.set_cons_succ]
            rfl
          refine pure_ (i := 2) (N := some 31) (v := ?_) (a' := ?_) #[true, false, true, false, false, false, false, false] rfl rfl (by kernel_rfl) (fun _ _ _ h => h) (Or.inl ⟨by rfl, ?_⟩) ?_ ?_
          rotate_left
          · intro w'
            go_simp
            with_reducible rfl
          rotate_left
          · simp only [Act.put, List.setIfInBounds_toArray, List.set_cons_zero, List.set_cons_succ]
            rfl
          refine take_ (i := 1) (N := some 30) (v := ?_) (a' := ?_) #[true, true, true, false, false, false, false, false] rfl rfl (by kernel_rfl) (fun _ _ _ h => h) (Or.inl ⟨by rfl, ?_⟩) hHeld ?_ ?_
          rotate_left
          · intro w' s0
            go_simp
            with_reducible rfl
          rotate_left
          · simp only [Act.put, List.setIfInBounds_toArray, List.set_cons_zero, List.set_cons_succ]
            rfl
          refine one_ (i := 3) (N := some 32) #[true, true, true, true, false, false, false, false] rfl rfl (by kernel_rfl) (by decide) (fun K hK => ?_)
          refine goesE_ Tryz.func57 (by kernel_rfl) rfl #[.pointer (some ⟨B, 0, none⟩)] (by rfl) rfl (by (try simp only [List.map_toArray, List.map_cons, List.map_nil]); first | done | rfl) ?_
          have SS3 := Lib.hid (SS2.out.below (below_drew (Below.refl _ _)))
          refine (hHV.out q (by have := HK.out; omega) (j + 1) (d + 1) _ _ SS3.out.pw SS3.out.ub (by omega) HV1.out).mono ?_
          rintro e' w3 ⟨rfl, hgb⟩
          exact ⟨_, rfl, rfl, rfl, gb_trans SS3.out.gb hgb⟩
        · go_wp2_with (first
            | (go_at_call 39; go_loud (refine (skip_ok T tv B base j (d + 1) _ _ SS.out.pw C1.out hj1 (by have := hTT.out.hl; omega)).mono ?_; rintro e w2 ⟨rfl, hq, hgb⟩; have SS2 := Lib.hid (SS.out.call hq hgb); have RR2 := Lib.hid (kidsR RR.out (by have := SS.out.hB; have := SS.out.ge 0 rfl; omega) hgb); clear hq hgb; obtain ⟨n0, n1, n2, n3, n4, n5, nz, nl, nb⟩ := SS2.out.c6 0 rfl)))
          refine start_ (n := 8) (S := fun w' => w'.cell? ⟨w1.heap.size, 5, none⟩ = some v5) (ds := [7]) #[false, false, false, false, false, false, false, false] (by kernel_rfl) rfl rfl (by simpa using n5) ?_
          intro hHeld
          refine pure_ (i := 0) (N := some 29) (v := ?_) (a' := ?_) #[true, false, false, false, false, false, false, false] rfl rfl (by kernel_rfl) (fun _ _ _ h => h) (Or.inl ⟨by rfl, ?_⟩) ?_ ?_
          rotate_left
          · intro w'
            go_simp
            with_reducible rfl
          rotate_left
          · simp only [Act.put, List.setIfInBounds_toArray, List.set_cons_zero, List.set_cons_succ]
            rfl
          refine pure_ (i := 2) (N := some 31) (v := ?_) (a' := ?_) #[true, false, true, false, false, false, false, false] rfl rfl (by kernel_rfl) (fun _ _ _ h => h) (Or.inl ⟨by rfl, ?_⟩) ?_ ?_
          rotate_left
          · intro w'
            go_simp
            with_reducible rfl
          rotate_left
          · simp only [Act.put, List.setIfInBounds_toArray, List.set_cons_zero, List.set_cons_succ]
            rfl
          refine take_ (i := 1) (N := some 30) (v := ?_) (a' := ?_) #[true, true, true, false, false, false, false, false] rfl rfl (by kernel_rfl) (fun _ _ _ h => h) (Or.inl ⟨by rfl, ?_⟩) hHeld ?_ ?_
          rotate_left
          · intro w' s0
            go_simp
            with_reducible rfl
          rotate_left
          · simp only [Act.put, List.setIfInBounds_toArray, List.set_cons_zero, List.set_cons_succ]
            rfl
          refine one_ (i := 3) (N := some 32) #[true, true, true, true, false, false, false, false] rfl rfl (by kernel_rfl) (by decide) (fun K hK => ?_)
          refine goesE_ Tryz.func57 (by kernel_rfl) rfl #[.pointer (some ⟨B, 0, none⟩)] (by rfl) rfl (by (try simp only [List.map_toArray, List.map_cons, List.map_nil]); first | done | rfl) ?_
          have SS3 := Lib.hid (SS2.out.below (below_drew (Below.refl _ _)))
          refine (hHV.out q (by have := HK.out; omega) (j + 1) (d + 1) _ _ SS3.out.pw SS3.out.ub (by omega) HV1.out).mono ?_
          rintro e' w3 ⟨rfl, hgb⟩
          exact ⟨_, rfl, rfl, rfl, gb_trans SS3.out.gb hgb⟩
      · have hj1 : j + 1 < T.length := by
          have h1 := hTT.out.hE.next (i := j) (by have := SS.out.lt; have := hTT.out.hE.1; omega) (by rw [isP_kind c1]; decide)
          have := hTT.out.hE.1; omega
        have hjj : j + 1 < j' := ((vg_goes hTT.out.hE).1 _ _ _ ⟨q, hv⟩ (by have := hTT.out.hE.1; omega)).1 _ _ rfl |>.1
        have C1 := Lib.hid c1
        have HV1 := Lib.hid hv
        have HRe := Lib.hid hrest
        clear c1 hv hrest
        rcases hs with rfl | rfl
        · go_wp2_with (first
            | (go_at_call 39; go_loud (refine (skip_ok T tv B base j (d + 1) _ _ SS.out.pw C1.out hj1 (by have := hTT.out.hl; omega)).mono ?_; rintro e w2 ⟨rfl, hq, hgb⟩; have SS2 := Lib.hid (SS.out.call hq hgb); have RR2 := Lib.hid (kidsR RR.out (by have := SS.out.hB; have := SS.out.ge 0 rfl; omega) hgb); clear hq hgb; obtain ⟨n0, n1, n2, n3, n4, n5, nz, nl, nb⟩ := SS2.out.c6 0 rfl)))
          refine start_ (n := 8) (S := fun w' => w'.cell? ⟨w1.heap.size, 5, none⟩ = some v5) (ds := [7]) #[false, false, false, false, false, false, false, false] (by kernel_rfl) rfl rfl (by simpa using n5) ?_
          intro hHeld
          refine pure_ (i := 0) (N := some 29) (v := ?_) (a' := ?_) #[true, false, false, false, false, false, false, false] rfl rfl (by kernel_rfl) (fun _ _ _ h => h) (Or.inl ⟨by rfl, ?_⟩) ?_ ?_
          rotate_left
          · intro w'
            go_simp
            with_reducible rfl
          rotate_left
          · simp only [Act.put, List.setIfInBounds_toArray, List.set_cons_zero, List.set_cons_succ]
            rfl
          refine pure_ (i := 2) (N := some 31) (v := ?_) (a' := ?_) #[true, false, true, false, false, false, false, false] rfl rfl (by kernel_rfl) (fun _ _ _ h => h) (Or.inl ⟨by rfl, ?_⟩) ?_ ?_
          rotate_left
          · intro w'
            go_simp
            with_reducible rfl
          rotate_left
          · simp only [Act.put, List.setIfInBounds_toArray, List.set_cons_zero, List.set_cons_succ]
            rfl
          refine take_ (i := 1) (N := some 30) (v := ?_) (a' := ?_) #[true, true, true, false, false, false, false, false] rfl rfl (by kernel_rfl) (fun _ _ _ h => h) (Or.inl ⟨by rfl, ?_⟩) hHeld ?_ ?_
          rotate_left
          · intro w' s0
            go_simp
            with_reducible rfl
          rotate_left
          · simp only [Act.put, List.setIfInBounds_toArray, List.set_cons_zero, List.set_cons_succ]
            rfl
          refine one_ (i := 3) (N := some 32) #[true, true, true, true, false, false, false, false] rfl rfl (by kernel_rfl) (by decide) (fun K hK => ?_)
          refine goes_ Tryz.func57 (by kernel_rfl) rfl #[.pointer (some ⟨B, 0, none⟩)] (by rfl) rfl rfl (by (try simp only [List.map_toArray, List.map_cons, List.map_nil]); first | done | rfl) ?_
          have SS3 := Lib.hid (SS2.out.below (below_drew (Below.refl _ _)))
          refine (hHV.out q (by have := HK.out; omega) (j + 1) (d + 1) _ _ SS3.out.pw SS3.out.ub (by omega) HV1.out).mono ?_
          rintro e w3 ⟨v6, rfl, hR6, hP, hgb⟩
          have SS4 := Lib.hid (SS3.out.call hP hgb)
          have RR4 := Lib.hid (kidsR (Kd.R_drew RR2.out) (by have := SS.out.hB; have := SS.out.ge 0 rfl; omega) hgb)
          have H6 := Lib.hid hR6
          have nl2 := nl
          obtain ⟨n0, n1, n2, n3, n4, n5, nz, nl, nb⟩ := SS4.out.c6 0 rfl
          refine ⟨_, rfl, hK _ _ n5 (fun hHeld => ?_)⟩
          unfold nodeV
          clear hK K
          refine one_ (i := 4) (N := some 33) #[true, true, true, true, true, false, false, false] rfl rfl (by kernel_rfl) (by decide) (fun K hK => ?_)
          refine value_ (by rfl) rfl (w1 := w3.alloc (.cells #[.int .i64 v.f0, .string v.f1, .int .i64 v.f2.f0, .int .i64 v.f2.f1, .int .i64 v.f3, v6] 26)) (v := .slice (some ⟨w3.heap.size, 0, none⟩) 1 1) ?_ ?_
          · go_simp
            try rfl
          refine hK _ _ (by go_keep) (fun hHeld => ?_)
          clear hK K
          refine one_ (i := 5) (N := some 34) #[true, true, true, true, true, true, false, false] rfl rfl (by kernel_rfl) (by decide) (fun K hK => ?_)
          refine Kd.R_append_step PTr.k26 (w0 := w3) (w1.heap.size + 1) (by rfl) (.tmp 30) (.tmp 33) 24 26 (.agg #[.int .i64 0, .string ⟨#[]⟩, .int .i64 0, .int .i64 0, .int .i64 0, .slice none 0 0]) 72 (by rfl) und24 info26b rfl (by decide) (by decide) v5 ks v [.int .i64 v.f0, .string v.f1, .int .i64 v.f2.f0, .int .i64 v.f2.f1, .int .i64 v.f3, v6] (fun _ => True) (fun k => w2.heap.size ≤ k) (by rfl) (by rfl) (PTr.k26_mkM _ _ _ _ (Kd.R_lower (Kd.R_mono (Kd.R_bound H6.out) (fun k hk => hk.2.1)) (by show w1.heap.size + 1 ≤ w2.heap.size; omega))) (fun k hk => ⟨trivial, fun e => by have := Kd.R_lt RR2.out k e.symm; omega⟩) (fun _ _ => trivial) RR4.out (Below.refl _ _) nl (by have := hTT.out.hl; omega) ?_
          intro v7 w4 h7 h8 h9 h10
          obtain ⟨A7, c7, e7⟩ := Kd.R_slice h7
          generalize (ks ++ [v]).length = m7 at e7
          subst e7
          have SS5 := Lib.hid (SS4.out.appH h9 (fun k e => Kd.R_base RR4.out k e))
          have H7 := Lib.hid h7
          clear h7 h8 h9 h10
          obtain ⟨n0, n1, n2, n3, n4, n5, nz, nl, nb⟩ := SS5.out.c6 0 rfl
          refine hK _ _ n5 (fun hHeld => ?_)
          clear hK K
          refine norm_ (a' := ?_) ?_ ?_
          rotate_left
          · show Act.put _ (some 34) _ = _
            simp only [Act.put, List.setIfInBounds_toArray, List.set_cons_zero, List.set_cons_succ]
            rfl
          refine pure_ (i := 6) (N := some 35) (v := ?_) (a' := ?_) #[true, true, true, true, true, true, true, false] rfl rfl (by kernel_rfl) (fun _ _ _ h => h) (Or.inl ⟨by rfl, ?_⟩) ?_ ?_
          rotate_left
          · intro w'
            go_simp
            with_reducible rfl
          rotate_left
          · simp only [Act.put, List.setIfInBounds_toArray, List.set_cons_zero, List.set_cons_succ]
            rfl
          refine last_ (i := 7) (N := none) #[true, true, true, true, true, true, true, true] rfl rfl (by kernel_rfl) (by decide) (fun K hK => ?_)
          refine skip_ (by rfl) rfl (w1 := w4.setCell ⟨w1.heap.size, 5, none⟩ (.slice A7 m7 c7)) ?_ ?_
          · go_simp
            try rfl
          refine hK _ _ (done_ (by kernel_rfl) ?_)
          clear hK K
          have SS6 := Lib.hid (SS5.out.set 0 rfl 5 (.slice A7 m7 c7))
          have RR6 := Lib.hid (kidsSet H7.out (b := w1.heap.size) (Nat.lt_succ_self _) 5 (.slice A7 m7 c7))
          rcases HRe.out with ⟨c2, hg2⟩ | ⟨c2, hg2⟩
          · have C2 := Lib.hid c2
            have G2 := Lib.hid hg2
            clear c2 hg2
            go_wp2_with (first
              | (go_at_call 40; go_loud (refine (is_any T tv B base j' (d + 1) _ _ SS6.out.pw).mono ?_; rintro e w5 ⟨rfl, hb⟩; rw [C2.out]; have SS7 := Lib.hid (SS6.out.below hb); have RR7 := Lib.hid (Kd.R_below RR6.out hb); clear hb)))
            go_roundg q
            case rel => exact ⟨_, rfl, Lib.hid (by have := HK.out; omega), Lib.hid ⟨ks ++ [v], j', _, .inl ⟨rfl, G2.out, C2.out⟩, SS7.out, RR7.out, by simp; omega⟩⟩
            case measure => omega
          · have C2 := Lib.hid c2
            have G2 := Lib.hid hg2
            clear c2 hg2
            go_wp2_with (first
              | (go_at_call 40; go_loud (refine (is_any T tv B base j' (d + 1) _ _ SS6.out.pw).mono ?_; rintro e w5 ⟨rfl, hb⟩; rw [C2.out]; have SS7 := Lib.hid (SS6.out.below hb); have RR7 := Lib.hid (Kd.R_below RR6.out hb); clear hb)))
            go_roundg q
            case rel => exact ⟨_, rfl, Lib.hid (by have := HK.out; omega), Lib.hid ⟨ks ++ [v], j', _, .inr ⟨.inr rfl, G2.out⟩, SS7.out, RR7.out, by simp; omega⟩⟩
            case measure => omega
        · go_wp2_with (first
            | (go_at_call 39; go_loud (refine (skip_ok T tv B base j (d + 1) _ _ SS.out.pw C1.out hj1 (by have := hTT.out.hl; omega)).mono ?_; rintro e w2 ⟨rfl, hq, hgb⟩; have SS2 := Lib.hid (SS.out.call hq hgb); have RR2 := Lib.hid (kidsR RR.out (by have := SS.out.hB; have := SS.out.ge 0 rfl; omega) hgb); clear hq hgb; obtain ⟨n0, n1, n2, n3, n4, n5, nz, nl, nb⟩ := SS2.out.c6 0 rfl)))
          refine start_ (n := 8) (S := fun w' => w'.cell? ⟨w1.heap.size, 5, none⟩ = some v5) (ds := [7]) #[false, false, false, false, false, false, false, false] (by kernel_rfl) rfl rfl (by simpa using n5) ?_
          intro hHeld
          refine pure_ (i := 0) (N := some 29) (v := ?_) (a' := ?_) #[true, false, false, false, false, false, false, false] rfl rfl (by kernel_rfl) (fun _ _ _ h => h) (Or.inl ⟨by rfl, ?_⟩) ?_ ?_
          rotate_left
          · intro w'
            go_simp
            with_reducible rfl
          rotate_left
          · simp only [Act.put, List.setIfInBounds_toArray, List.set_cons_zero, List.set_cons_succ]
            rfl
          refine pure_ (i := 2) (N := some 31) (v := ?_) (a' := ?_) #[true, false, true, false, false, false, false, false] rfl rfl (by kernel_rfl) (fun _ _ _ h => h) (Or.inl ⟨by rfl, ?_⟩) ?_ ?_
          rotate_left
          · intro w'
            go_simp
            with_reducible rfl
          rotate_left
          · simp only [Act.put, List.setIfInBounds_toArray, List.set_cons_zero, List.set_cons_succ]
            rfl
          refine take_ (i := 1) (N := some 30) (v := ?_) (a' := ?_) #[true, true, true, false, false, false, false, false] rfl rfl (by kernel_rfl) (fun _ _ _ h => h) (Or.inl ⟨by rfl, ?_⟩) hHeld ?_ ?_
          rotate_left
          · intro w' s0
            go_simp
            with_reducible rfl
          rotate_left
          · simp only [Act.put, List.setIfInBounds_toArray, List.set_cons_zero, List.set_cons_succ]
            rfl
          refine one_ (i := 3) (N := some 32) #[true, true, true, true, false, false, false, false] rfl rfl (by kernel_rfl) (by decide) (fun K hK => ?_)
          refine goes_ Tryz.func57 (by kernel_rfl) rfl #[.pointer (some ⟨B, 0, none⟩)] (by rfl) rfl rfl (by (try simp only [List.map_toArray, List.map_cons, List.map_nil]); first | done | rfl) ?_
          have SS3 := Lib.hid (SS2.out.below (below_drew (Below.refl _ _)))
          refine (hHV.out q (by have := HK.out; omega) (j + 1) (d + 1) _ _ SS3.out.pw SS3.out.ub (by omega) HV1.out).mono ?_
          rintro e w3 ⟨v6, rfl, hR6, hP, hgb⟩
          have SS4 := Lib.hid (SS3.out.call hP hgb)
          have RR4 := Lib.hid (kidsR (Kd.R_drew RR2.out) (by have := SS.out.hB; have := SS.out.ge 0 rfl; omega) hgb)
          have H6 := Lib.hid hR6
          have nl2 := nl
          obtain ⟨n0, n1, n2, n3, n4, n5, nz, nl, nb⟩ := SS4.out.c6 0 rfl
          refine ⟨_, rfl, hK _ _ n5 (fun hHeld => ?_)⟩
          unfold nodeV
          clear hK K
          refine one_ (i := 4) (N := some 33) #[true, true, true, true, true, false, false, false] rfl rfl (by kernel_rfl) (by decide) (fun K hK => ?_)
          refine value_ (by rfl) rfl (w1 := w3.alloc (.cells #[.int .i64 v.f0, .string v.f1, .int .i64 v.f2.f0, .int .i64 v.f2.f1, .int .i64 v.f3, v6] 26)) (v := .slice (some ⟨w3.heap.size, 0, none⟩) 1 1) ?_ ?_
          · go_simp
            try rfl
          refine hK _ _ (by go_keep) (fun hHeld => ?_)
          clear hK K
          refine one_ (i := 5) (N := some 34) #[true, true, true, true, true, true, false, false] rfl rfl (by kernel_rfl) (by decide) (fun K hK => ?_)
          refine Kd.R_append_step PTr.k26 (w0 := w3) (w1.heap.size + 1) (by rfl) (.tmp 30) (.tmp 33) 24 26 (.agg #[.int .i64 0, .string ⟨#[]⟩, .int .i64 0, .int .i64 0, .int .i64 0, .slice none 0 0]) 72 (by rfl) und24 info26b rfl (by decide) (by decide) v5 ks v [.int .i64 v.f0, .string v.f1, .int .i64 v.f2.f0, .int .i64 v.f2.f1, .int .i64 v.f3, v6] (fun _ => True) (fun k => w2.heap.size ≤ k) (by rfl) (by rfl) (PTr.k26_mkM _ _ _ _ (Kd.R_lower (Kd.R_mono (Kd.R_bound H6.out) (fun k hk => hk.2.1)) (by show w1.heap.size + 1 ≤ w2.heap.size; omega))) (fun k hk => ⟨trivial, fun e => by have := Kd.R_lt RR2.out k e.symm; omega⟩) (fun _ _ => trivial) RR4.out (Below.refl _ _) nl (by have := hTT.out.hl; omega) ?_
          intro v7 w4 h7 h8 h9 h10
          obtain ⟨A7, c7, e7⟩ := Kd.R_slice h7
          generalize (ks ++ [v]).length = m7 at e7
          subst e7
          have SS5 := Lib.hid (SS4.out.appH h9 (fun k e => Kd.R_base RR4.out k e))
          have H7 := Lib.hid h7
          clear h7 h8 h9 h10
          obtain ⟨n0, n1, n2, n3, n4, n5, nz, nl, nb⟩ := SS5.out.c6 0 rfl
          refine hK _ _ n5 (fun hHeld => ?_)
          clear hK K
          refine norm_ (a' := ?_) ?_ ?_
          rotate_left
          · show Act.put _ (some 34) _ = _
            simp only [Act.put, List.setIfInBounds_toArray, List.set_cons_zero, List.set_cons_succ]
            rfl
          refine pure_ (i := 6) (N := some 35) (v := ?_) (a' := ?_) #[true, true, true, true, true, true, true, false] rfl rfl (by kernel_rfl) (fun _ _ _ h => h) (Or.inl ⟨by rfl, ?_⟩) ?_ ?_
          rotate_left
          · intro w'
            go_simp
            with_reducible rfl
          rotate_left
          · simp only [Act.put, List.setIfInBounds_toArray, List.set_cons_zero, List.set_cons_succ]
            rfl
          refine last_ (i := 7) (N := none) #[true, true, true, true, true, true, true, true] rfl rfl (by kernel_rfl) (by decide) (fun K hK => ?_)
          refine skip_ (by rfl) rfl (w1 := w4.setCell ⟨w1.heap.size, 5, none⟩ (.slice A7 m7 c7)) ?_ ?_
          · go_simp
            try rfl
          refine hK _ _ (done_ (by kernel_rfl) ?_)
          clear hK K
          have SS6 := Lib.hid (SS5.out.set 0 rfl 5 (.slice A7 m7 c7))
          have RR6 := Lib.hid (kidsSet H7.out (b := w1.heap.size) (Nat.lt_succ_self _) 5 (.slice A7 m7 c7))
          rcases HRe.out with ⟨c2, hg2⟩ | ⟨c2, hg2⟩
          · have C2 := Lib.hid c2
            have G2 := Lib.hid hg2
            clear c2 hg2
            go_wp2_with (first
              | (go_at_call 40; go_loud (refine (is_any T tv B base j' (d + 1) _ _ SS6.out.pw).mono ?_; rintro e w5 ⟨rfl, hb⟩; rw [C2.out]; have SS7 := Lib.hid (SS6.out.below hb); have RR7 := Lib.hid (Kd.R_below RR6.out hb); clear hb)))
            go_roundg q
            case rel => exact ⟨_, rfl, Lib.hid (by have := HK.out; omega), Lib.hid ⟨ks ++ [v], j', _, .inl ⟨rfl, G2.out, C2.out⟩, SS7.out, RR7.out, by simp; omega⟩⟩
            case measure => omega
          · have C2 := Lib.hid c2
            have G2 := Lib.hid hg2
            clear c2 hg2
            go_wp2_with (first
              | (go_at_call 40; go_loud (refine (is_any T tv B base j' (d + 1) _ _ SS6.out.pw).mono ?_; rintro e w5 ⟨rfl, hb⟩; rw [C2.out]; have SS7 := Lib.hid (SS6.out.below hb); have RR7 := Lib.hid (Kd.R_below RR6.out hb); clear hb)))
            go_roundg q
            case rel => exact ⟨_, rfl, Lib.hid (by have := HK.out; omega), Lib.hid ⟨ks ++ [v], j', _, .inr ⟨.inr rfl, G2.out⟩, SS7.out, RR7.out, by simp; omega⟩⟩
            case measure => omega
end Go.Proofs.YtahjkibjcibpgaaGreatDoor.L
end
section
namespace Go.Proofs.YtahjkibjcibpgaaGreatDoor.L
open Go.RowKit Go.Shelf Go.Lib Go.Proofs.YtahjkibjcibpgaaGreatDoor.U
open Go.Proofs.YtahjkibjcibpgaaGreatDoorW Go.Proofs.YtahjkibjcibpgaaGreatDoorW.PrintWords Go.Proofs.YtahjkibjcibpgaaGreatDoorW.PrintLast
attribute [local go_sem] Oper.semAt_some
theorem Tk.nxt {T : List PTr.S41} {n i : Nat} (h : Tk T n) (hi : i < T.length) (hk : (tokAt T i).f0 ≠ 4) : i + 1 < T.length := by
  have h1 := h.hE.next (i := i) (by have := h.hE.1; omega) hk
  have := h.hE.1
  omega
theorem amount_all (T : List PTr.S41) (n0 : Nat) (hT : Tk T n0) (tv : Value) (B base i d : Nat) (w : World) (hp : PW T tv B base i d w) (hu : UB B w) :
    Calls Tryz.prog 81 #[.pointer (some ⟨B, 0, none⟩)] w (PEnd T tv B base d w (amountP T i)) := by
  unfold amountP
  cases c : ((tokAt T i).f0 == 1) with
  | false =>
    rw [if_neg (by simp)]
    refine (amount_no T tv B base i d w hp c).mono ?_
    rintro e w' ⟨rfl, hb⟩
    exact ⟨rfl, gb_below hb⟩
  | true =>
    rw [if_pos rfl]
    have hi := hT.nxt hp.lt (by rw [show (tokAt T i).f0 = 1 by simpa using c]; decide)
    have hl : T.length ≤ 140737488355328 := by have := hT.hl; omega
    have hsz := hT.sz i
    have ua : ∀ x : ByteArray, Ex.unit_Amount.f (tokAt T i).f1 x = some (amt (tokAt T i).f1.data.toList x.data.toList) := fun x => by
      unfold Ex.unit_Amount.f
      rw [if_pos (by omega)]
    have fin : ∀ (x : ByteArray) (j : Nat), (∀ n dn, Ex.unit_Amount.f (tokAt T i).f1 x = some (n, dn, 0) → Calls Tryz.prog 81 #[.pointer (some ⟨B, 0, none⟩)] w (PEnd T tv B base d w (.ok (⟨5, ⟨#[]⟩, ⟨n, dn⟩, (tokAt T i).f2, []⟩, j)))) →
        (∀ n dn er, Ex.unit_Amount.f (tokAt T i).f1 x = some (n, dn, er) → (er == 0) = false → Calls Tryz.prog 81 #[.pointer (some ⟨B, 0, none⟩)] w (PEnd T tv B base d w (.error (7, (tokAt T i).f2)))) → unitP T (i + 1) = (x, j) →
        Calls Tryz.prog 81 #[.pointer (some ⟨B, 0, none⟩)] w (PEnd T tv B base d w (match amt (tokAt T i).f1.data.toList (unitP T (i + 1)).1.data.toList with
          | (n, d, e) => if e = 0 then .ok (⟨5, ⟨#[]⟩, ⟨n, d⟩, (tokAt T i).f2, []⟩, (unitP T (i + 1)).2) else .error (7, (tokAt T i).f2))) := by
      intro x j h1 h2 h3
      rw [h3]
      have h4 := ua x
      generalize amt (tokAt T i).f1.data.toList x.data.toList = y at h4 ⊢
      obtain ⟨n, dn, er⟩ := y
      simp only
      by_cases he : er = 0
      · subst he; rw [if_pos rfl]; exact h1 n dn h4
      · rw [if_neg he]; exact h2 n dn er h4 (by simpa using he)
    cases c2 : ((tokAt T (i + 1)).f0 == 0) with
    | false =>
      refine fin ⟨#[]⟩ (i + 1) (fun n dn h => amount_a T tv B base i d w hp hu c c2 hi hl n dn h) (fun n dn er h he => amount_ae T tv B base i d w hp hu c c2 hi hl n dn er h he) ?_
      unfold unitP
      rw [c2]; rfl
    | true =>
      cases c3 : knownP (tokAt T (i + 1)).f1 with
      | false =>
        refine fin ⟨#[]⟩ (i + 1) (fun n dn h => amount_b T tv B base i d w hp hu c c2 c3 hi hl n dn h) (fun n dn er h he => amount_be T tv B base i d w hp hu c c2 c3 hi hl n dn er h he) ?_
        unfold unitP
        rw [c2, c3]; rfl
      | true =>
        have hi2 := hT.nxt hi (by rw [show (tokAt T (i + 1)).f0 = 0 by simpa using c2]; decide)
        refine fin (tokAt T (i + 1)).f1 (i + 1 + 1) (fun n dn h => amount_c T tv B base i d w hp hu c c2 c3 hi2 hi hl n dn h) (fun n dn er h he => amount_ce T tv B base i d w hp hu c c2 c3 hi2 hi hl n dn er h he) ?_
        unfold unitP
        rw [c2, c3]; rfl
theorem value_group (T : List PTr.S41) (tv : Value) (B base i d : Nat) (w : World) (hp : PW T tv B base i d w) (hu : UB B w) (c : isP T i ⟨#[40]⟩ = true) (r : PR PTr.S26)
    (HG : ∀ W, PW T tv B base i d W → UB B W → Calls Tryz.prog 80 #[.pointer (some ⟨B, 0, none⟩)] W (PEnd T tv B base d W r)) :
    Calls Tryz.prog 57 #[.pointer (some ⟨B, 0, none⟩)] w (PEnd T tv B base d w r) := by
  have S0 := Lib.hid (St.start hp hu)
  have S1 := Lib.hid (S0.out.alloc zero26 26)
  have HG' := Lib.hid HG
  have C := Lib.hid c
  clear hp hu HG c
  match r with
  | .error x =>
    go_enter Tryz.func57, Tryz.ntmps57
    go_wp2_with (first
      | (go_at_call 40; go_loud (refine (is_any T tv B base i d _ _ S1.out.pw).mono ?_; rintro e w1 ⟨rfl, hb⟩; rw [C.out]; have S2 := Lib.hid (S1.out.below hb); clear hb))
      | (go_at_call 80; go_loud (refine (HG'.out _ S2.out.pw S2.out.ub).mono ?_; rintro e w2 ⟨rfl, hgb⟩; have GB := Lib.hid (gb_trans S2.out.gb hgb); clear hgb; unfold flt)))
    exact ⟨rfl, rfl, GB.out⟩
  | .ok (v, j) =>
    go_enter Tryz.func57, Tryz.ntmps57
    go_wp2_with (first
      | (go_at_call 40; go_loud (refine (is_any T tv B base i d _ _ S1.out.pw).mono ?_; rintro e w1 ⟨rfl, hb⟩; rw [C.out]; have S2 := Lib.hid (S1.out.below hb); clear hb))
      | (go_at_call 80; go_loud (refine (HG'.out _ S2.out.pw S2.out.ub).mono ?_; rintro e w2 ⟨v5, rfl, hR, hq, hgb⟩; unfold nodeV; have hsz := S2.out.gb.size; have hwn := S2.out.get 0 rfl; have hBw := S2.out.hB; have hlt := blk_lt hwn; have R2 := Lib.hid (Kd.R_bound hR); have S3 := Lib.hid (S2.out.call hq hgb); obtain ⟨A5, c5, e5⟩ := Kd.R_slice hR; generalize v.f4.length = m5 at e5; subst e5; clear hR hq hgb hwn; obtain ⟨r0, r1, r2, r3, r4, r5, rz, rl, rb⟩ := S3.out.c6 0 rfl)))
    have SF := ((((((S3.out.set 0 rfl 0 (.int .i64 v.f0)).set 0 rfl 1 (.string v.f1)).set 0 rfl 2 (.int .i64 v.f2.f0)).set 0 rfl 3 (.int .i64 v.f2.f1)).set 0 rfl 4 (.int .i64 v.f3)).set 0 rfl 5 (.slice A5 m5 c5))
    refine bodyPost_ret (results26 rfl rfl rfl (SF.get 0 rfl)) rfl ⟨_, rfl, ?_, SF.pw, SF.gb⟩
    have hrn : w.heap.size < w1.heap.size := hlt
    have R3 := Kd.R_mono R2.out (ok' := fun _ => True) (fun _ _ => trivial)
    exact Kd.R_lower (kidsSet (kidsSet (kidsSet (kidsSet (kidsSet (kidsSet R3 hrn 0 _) hrn 1 _) hrn 2 _) hrn 3 _) hrn 4 _) hrn 5 _) (by omega)
theorem value_leaf (T : List PTr.S41) (tv : Value) (B base i d : Nat) (w : World) (hp : PW T tv B base i d w) (hu : UB B w) (c : isP T i ⟨#[40]⟩ = false) (k : Int)
    (HL : ∀ W, PW T tv B base i d W → Calls Tryz.prog 38 #[.pointer (some ⟨B, 0, none⟩)] W fun e w' => e = .returned (.tuple #[nodeV (leafN k (tokAt T i)) (.slice none 0 0), .bool true]) ∧ PW T tv B base (i + 1) d w' ∧ W.grownBy w' (some B)) :
    Calls Tryz.prog 57 #[.pointer (some ⟨B, 0, none⟩)] w (PEnd T tv B base d w (.ok (leafN k (tokAt T i), i + 1))) := by
  have S0 := Lib.hid (St.start hp hu)
  have S1 := Lib.hid (S0.out.alloc zero26 26)
  have HL' := Lib.hid HL
  have C := Lib.hid c
  clear hp hu HL c
  obtain ⟨k0, t, a, hx⟩ : ∃ k t a, tokAt T i = ⟨k, t, a⟩ := ⟨_, _, _, rfl⟩
  rw [hx] at HL' ⊢
  unfold leafN nodeV at HL'
  simp only at HL'
  clear hx
  go_enter Tryz.func57, Tryz.ntmps57
  go_wp2_with (first
    | (go_at_call 40; go_loud (refine (is_any T tv B base i d _ _ S1.out.pw).mono ?_; rintro e w1 ⟨rfl, hb⟩; rw [C.out]; have S2 := Lib.hid (S1.out.below hb); clear hb))
    | (go_at_call 38; go_loud (refine (HL'.out _ S2.out.pw).mono ?_; rintro e w2 ⟨rfl, hq, hgb⟩; have S3 := Lib.hid (S2.out.call hq hgb); have S4 := Lib.hid (S3.out.alloc #[.int .i64 k, .string t, .int .i64 0, .int .i64 0, .int .i64 a, .slice none 0 0] 26); clear hq hgb; obtain ⟨r0, r1, r2, r3, r4, r5, rz, rl, rb⟩ := S4.out.c6 1 rfl)))
  have SF := ((((((S4.out.set 1 rfl 0 (.int .i64 k)).set 1 rfl 1 (.string t)).set 1 rfl 2 (.int .i64 0)).set 1 rfl 3 (.int .i64 0)).set 1 rfl 4 (.int .i64 a)).set 1 rfl 5 (.slice none 0 0))
  exact bodyPost_ret (results26 rfl rfl rfl (SF.get 1 rfl)) rfl ⟨_, rfl, Kd.R_nil _ _ _ _ _, SF.pw, SF.gb⟩
theorem value_amount (T : List PTr.S41) (tv : Value) (B base i d : Nat) (w : World) (hp : PW T tv B base i d w) (hu : UB B w) (c : isP T i ⟨#[40]⟩ = false) (h0 : ((tokAt T i).f0 == 0) = false) (h2 : ((tokAt T i).f0 == 2) = false) (r : PR PTr.S26)
    (HG : ∀ W, PW T tv B base i d W → UB B W → Calls Tryz.prog 81 #[.pointer (some ⟨B, 0, none⟩)] W (PEnd T tv B base d W r)) :
    Calls Tryz.prog 57 #[.pointer (some ⟨B, 0, none⟩)] w (PEnd T tv B base d w r) := by
  have S0 := Lib.hid (St.start hp hu)
  have S1 := Lib.hid (S0.out.alloc zero26 26)
  have HG' := Lib.hid HG
  have C := Lib.hid c
  have HL := Lib.hid (fun W h => leaf_none T tv B base i d W h h0 h2)
  unfold nodeV at HL
  clear hp hu HG c h0 h2
  match r with
  | .error x =>
    go_enter Tryz.func57, Tryz.ntmps57
    go_wp2_with (first
      | (go_at_call 40; go_loud (refine (is_any T tv B base i d _ _ S1.out.pw).mono ?_; rintro e w1 ⟨rfl, hb⟩; rw [C.out]; have S2 := Lib.hid (S1.out.below hb); clear hb))
      | (go_at_call 38; go_loud (refine (HL.out _ S2.out.pw).mono ?_; rintro e w2 ⟨rfl, hq, hgb⟩; have S3 := Lib.hid (S2.out.call hq hgb); have S4 := Lib.hid (S3.out.alloc zero26 26); clear hq hgb))
      | (go_at_call 81; go_loud (refine (HG'.out _ S4.out.pw S4.out.ub).mono ?_; rintro e w3 ⟨rfl, hgb⟩; have GB := Lib.hid (gb_trans S4.out.gb hgb); clear hgb; unfold flt)))
    exact ⟨rfl, rfl, GB.out⟩
  | .ok (v, j) =>
    go_enter Tryz.func57, Tryz.ntmps57
    go_wp2_with (first
      | (go_at_call 40; go_loud (refine (is_any T tv B base i d _ _ S1.out.pw).mono ?_; rintro e w1 ⟨rfl, hb⟩; rw [C.out]; have S2 := Lib.hid (S1.out.below hb); clear hb))
      | (go_at_call 38; go_loud (refine (HL.out _ S2.out.pw).mono ?_; rintro e w2 ⟨rfl, hq, hgb⟩; have S3 := Lib.hid (S2.out.call hq hgb); have S4 := Lib.hid (S3.out.alloc zero26 26); clear hq hgb))
      | (go_at_call 81; go_loud (refine (HG'.out _ S4.out.pw S4.out.ub).mono ?_; rintro e w3 ⟨v5, rfl, hR, hq, hgb⟩; unfold nodeV; have hsz := S4.out.gb.size; have hlt := blk_lt (S4.out.get 1 rfl); have R2 := Lib.hid (Kd.R_bound hR); have S5 := Lib.hid (S4.out.call hq hgb); obtain ⟨A5, c5, e5⟩ := Kd.R_slice hR; generalize v.f4.length = m5 at e5; subst e5; clear hR hq hgb; obtain ⟨r0, r1, r2, r3, r4, r5, rz, rl, rb⟩ := S5.out.c6 1 rfl)))
    have SF := ((((((S5.out.set 1 rfl 0 (.int .i64 v.f0)).set 1 rfl 1 (.string v.f1)).set 1 rfl 2 (.int .i64 v.f2.f0)).set 1 rfl 3 (.int .i64 v.f2.f1)).set 1 rfl 4 (.int .i64 v.f3)).set 1 rfl 5 (.slice A5 m5 c5))
    refine bodyPost_ret (results26 rfl rfl rfl (SF.get 1 rfl)) rfl ⟨_, rfl, ?_, SF.pw, SF.gb⟩
    have R3 := Kd.R_mono R2.out (ok' := fun _ => True) (fun _ _ => trivial)
    exact Kd.R_lower (kidsSet (kidsSet (kidsSet (kidsSet (kidsSet (kidsSet R3 hlt 0 _) hlt 1 _) hlt 2 _) hlt 3 _) hlt 4 _) hlt 5 _) (by omega)
theorem value_all (T : List PTr.S41) (n0 : Nat) (hT : Tk T n0) (tv : Value) (B base : Nat) : ∀ f, VC T tv B base f := by
  intro f
  induction f using Nat.strongRecOn with
  | _ f ih =>
  intro i d r w hp hu hd h
  cases f with
  | zero => simp [valueP] at h
  | succ f =>
    have hl : T.length ≤ 140737488355328 := by have := hT.hl; omega
    rw [valueP] at h
    cases c : isP T i ⟨#[40]⟩ with
    | true =>
      rw [if_pos c] at h
      by_cases h40 : d = 40
      · subst h40
        rw [if_pos rfl] at h
        have e := Option.some.inj h
        subst e
        exact value_group T tv B base i 40 w hp hu c _ (fun W h1 h2 => group_full T tv B base i W h1 h2)
      · rw [if_neg h40] at h
        cases hg : groupP f T i (d + 1) ⟨#[40]⟩ [] with
        | none => rw [hg] at h; simp at h
        | some g =>
          have hr : r = grpE (tokAt T i).f2 g := by
            rw [hg] at h
            match g, hg, h with
            | .error e, _, h => simp only at h; injection h with h; rw [← h]; rfl
            | .ok (ks, j), hg, h =>
              simp only at h
              have hj : isP T j ⟨#[41]⟩ = true := (vg_ind T (fun _ _ _ => True) (fun _ _ _ _ r => ∀ ks j, r = .ok (ks, j) → isP T j ⟨#[41]⟩ = true)
                (fun _ _ => trivial) (fun _ _ _ _ _ _ _ => trivial) (fun _ _ _ _ _ _ _ _ _ => trivial) (fun _ _ _ _ => trivial) (fun _ _ _ _ _ => trivial) (fun _ _ _ _ _ => trivial)
                (fun _ _ _ _ _ _ _ e => by cases e) (fun _ _ _ _ _ _ _ _ _ _ e => by cases e) (fun _ _ _ _ _ _ _ _ _ c _ _ e => by injection e with e; injection e with _ e; rw [← e]; exact c)
                (fun _ _ _ _ _ _ _ _ _ _ _ _ h => h)).2 _ _ _ _ _ ⟨f, hg⟩ ks j rfl
              rw [if_pos hj] at h
              injection h with h; rw [← h]; rfl
          subst hr
          exact value_group T tv B base i d w hp hu c _ (fun W h1 h2 => group_calls T n0 hT tv B base f (fun f' hf => ih f' (by omega)) i d W h1 h2 (by omega) g hg)
    | false =>
      rw [if_neg (by rw [c]; simp)] at h
      cases h0 : ((tokAt T i).f0 == 0) with
      | true =>
        rw [if_pos h0] at h
        have e := Option.some.inj h
        subst e
        have hi := hT.nxt hp.lt (by rw [show (tokAt T i).f0 = 0 by simpa using h0]; decide)
        exact value_leaf T tv B base i d w hp hu c 3 (fun W h1 => leaf_name T tv B base i d W h1 h0 hi hl)
      | false =>
        rw [if_neg (by rw [h0]; simp)] at h
        cases h2 : ((tokAt T i).f0 == 2) with
        | true =>
          rw [if_pos h2] at h
          have e := Option.some.inj h
          subst e
          have hi := hT.nxt hp.lt (by rw [show (tokAt T i).f0 = 2 by simpa using h2]; decide)
          exact value_leaf T tv B base i d w hp hu c 4 (fun W h1 => leaf_text T tv B base i d W h1 h0 h2 hi hl)
        | false =>
          rw [if_neg (by rw [h2]; simp)] at h
          have e := Option.some.inj h
          subst e
          exact value_amount T tv B base i d w hp hu c h0 h2 _ (fun W h1 h2 => amount_all T n0 hT tv B base i d W h1 h2)
end Go.Proofs.YtahjkibjcibpgaaGreatDoor.L
end
section
namespace Go.Proofs.YtahjkibjcibpgaaGreatDoor.L
open Go.RowKit Go.Shelf Go.Lib Go.Proofs.YtahjkibjcibpgaaGreatDoor.U
open Go.Proofs.YtahjkibjcibpgaaGreatDoorW Go.Proofs.YtahjkibjcibpgaaGreatDoorW.PrintWords Go.Proofs.YtahjkibjcibpgaaGreatDoorW.PrintLast
attribute [local go_sem] Oper.semAt_some
attribute [local go_sem ↓] Go.wp_at_zero Go.wp_at_succ
theorem value_V (T : List PTr.S41) (n0 : Nat) (hT : Tk T n0) (tv : Value) (B base i d : Nat) (r : PR PTr.S26) (w : World) (hp : PW T tv B base i d w) (hu : UB B w) (hd : d ≤ 40) (h : V T i d r) :
    Calls Tryz.prog 57 #[.pointer (some ⟨B, 0, none⟩)] w (PEnd T tv B base d w r) := by
  obtain ⟨f, h⟩ := h
  exact value_all T n0 hT tv B base f i d r w hp hu hd h
theorem prop_no (T : List PTr.S41) (tv : Value) (B base i : Nat) (w : World) (hp : PW T tv B base i 0 w) (hu : UB B w) (c : ((tokAt T i).f0 == 0) = false) :
    Calls Tryz.prog 41 #[.pointer (some ⟨B, 0, none⟩)] w (PEnd T tv B base 0 w (.error (2, (tokAt T i).f2))) := by
  have S0 := Lib.hid (St.start hp hu)
  have S1 := Lib.hid (S0.out.alloc zero26 26)
  have C := Lib.hid c
  clear hp hu c
  go_enter Tryz.func41, Tryz.ntmps41
  go_wp2_with (first
    | (go_at_call 37; go_loud (refine (take_no T tv B base i 0 0 _ S1.out.pw C.out).mono ?_; rintro e w1 ⟨rfl, hb⟩; have S2 := Lib.hid (S1.out.below hb); clear hb; unfold flt)))
  exact ⟨rfl, rfl, S2.out.gb⟩
def PRel (T : List PTr.S41) (tv : Value) (B base : Nat) (w : World) (r t n : Nat) (tc : Array Value) (tx : ByteArray) (at_ : Int) (g : PR (List PTr.S26)) (kq : Nat) (W : World) : Prop :=
  ∃ ks j v5, PL T j ks g ∧ St T tv B base j 0 w [(n, node6 2 tx at_ v5, 26), (t, tc, 41), (r, zero26, 26)] W ∧ PTr.k26.R 26 W (n + 1) (fun _ => True) v5 ks ∧ ks.length ≤ j ∧ T.length ≤ j + kq
def propE (tx : ByteArray) (at_ : Int) : PR (List PTr.S26) → PR PTr.S26
  | .error e => .error e
  | .ok (ks, j) => .ok (⟨2, tx, ⟨0, 0⟩, at_, ks⟩, j)
set_option maxRecDepth 100000 in
theorem prop_yes (T : List PTr.S41) (n0 : Nat) (hT : Tk T n0) (tv : Value) (B base i : Nat) (w : World) (hp : PW T tv B base i 0 w) (hu : UB B w) (c : ((tokAt T i).f0 == 0) = true) (g : PR (List PTr.S26)) (hg : PL T (i + 1) [] g) :
    Calls Tryz.prog 41 #[.pointer (some ⟨B, 0, none⟩)] w (PEnd T tv B base 0 w (propE (tokAt T i).f1 (tokAt T i).f2 g)) := by
  have S0 := Lib.hid (St.start hp hu)
  have S1 := Lib.hid (S0.out.alloc zero26 26)
  have hi := hT.nxt hp.lt (by rw [show (tokAt T i).f0 = 0 by simpa using c]; decide)
  have hTk := take_ok T tv B base i 0 0 _ S1.out.pw c hi (by have := hT.hl; omega)
  obtain ⟨k, t, a, hx⟩ : ∃ k t a, tokAt T i = ⟨k, t, a⟩ := ⟨_, _, _, rfl⟩
  rw [hx] at hTk ⊢
  simp only at hTk ⊢
  have HT := Lib.hid hTk
  have hG := Lib.hid hg
  have hTT := Lib.hid hT
  clear hp hu c hTk hx hg hT hi
  go_enter Tryz.func41, Tryz.ntmps41
  go_wp2_with (first
    | (go_at_call 37; go_loud (refine HT.out.mono ?_; rintro e w1 ⟨rfl, hq, hgb⟩; have S2 := Lib.hid (S1.out.call hq hgb); clear hq hgb)))
  have S3 := Lib.hid ((S2.out.alloc #[.int .i64 k, .string t, .int .i64 a] 41).allocAt (w1.heap.size + 1) (by simp) (node6 2 t a (.slice none 0 0)) 26)
  go_loopg [] T.length (fun kq W => Hid (PRel T tv B base w w.heap.size w1.heap.size (w1.heap.size + 1) #[.int .i64 k, .string t, .int .i64 a] t a g kq W))
  case atStart => exact Lib.hid ⟨[], i + 1, _, hG.out, S3.out, Kd.R_nil _ _ _ _ _, by simp, by omega⟩
  case round =>
    obtain ⟨ks, j, v5, hpl, hS, hR5, hle, hms⟩ := hrel.out
    clear hrel
    have SS := Lib.hid hS
    have RR := Lib.hid hR5
    clear hS hR5
    rcases hpl.inv with ⟨c1, rfl⟩ | ⟨c1, ⟨e, hv, rfl⟩ | ⟨v, j', hv, hrest⟩⟩
    · have C1 := Lib.hid c1
      have hj1 : j + 1 < T.length := hTT.out.nxt SS.out.lt (by rw [isP_kind c1]; decide)
      clear hpl c1
      obtain ⟨A5, c5, e5⟩ := Kd.R_slice RR.out
      generalize ks.length = m5 at e5
      subst e5
      go_wp2_with (first
        | (go_at_call 40; go_loud (refine (is_any T tv B base j 0 _ _ SS.out.pw).mono ?_; rintro e w2 ⟨rfl, hb⟩; rw [C1.out]; have SS2 := Lib.hid (SS.out.below hb); have RR2 := Lib.hid (Kd.R_below RR.out hb); clear hb; obtain ⟨n0, n1, n2, n3, n4, n5, nz, nl, nb⟩ := SS2.out.c6 0 rfl))
        | (go_at_call 39; go_loud (refine (skip_ok T tv B base j 0 _ _ SS2.out.pw C1.out hj1 (by have := hTT.out.hl; omega)).mono ?_; rintro e w3 ⟨rfl, hq, hgb⟩; have SS3 := Lib.hid (SS2.out.call hq hgb); have RR3 := Lib.hid (kidsR RR2.out (by have := SS.out.hB; have := SS.out.ge 0 rfl; omega) hgb); clear hq hgb; obtain ⟨n0, n1, n2, n3, n4, n5, nz, nl, nb⟩ := SS3.out.c6 0 rfl; obtain ⟨r0, r1, r2, r3, r4, r5, rz, rl, rb⟩ := SS3.out.c6 2 rfl; have rn := SS3.out.apart 0 2 (by decide) rfl rfl)))
      have SS4 := (((((((SS3.out).set 2 rfl 0 (.int .i64 2)).set 2 rfl 1 (.string t)).set 2 rfl 2 (.int .i64 0)).set 2 rfl 3 (.int .i64 0)).set 2 rfl 4 (.int .i64 a)).set 2 rfl 5 (.slice A5 m5 c5))
      have hge := SS3.out.ge 0 rfl
      refine bodyPost_ret (results26 rfl rfl rfl (SS4.get 2 rfl)) rfl ⟨_, rfl, ?_, SS4.pw, SS4.gb⟩
      have hrn : w.heap.size < w1.heap.size + 1 + 1 := SS.out.lt2 0 2 (by decide) rfl rfl
      exact Kd.R_lower (kidsSet (kidsSet (kidsSet (kidsSet (kidsSet (kidsSet RR3.out hrn 0 _) hrn 1 _) hrn 2 _) hrn 3 _) hrn 4 _) hrn 5 _) (by omega)
    · have C1 := Lib.hid c1
      have HV1 := Lib.hid hv
      clear hpl c1 hv
      go_wp2_with (first
        | (go_at_call 40; go_loud (refine (is_any T tv B base j 0 _ _ SS.out.pw).mono ?_; rintro e w2 ⟨rfl, hb⟩; rw [C1.out]; have SS2 := Lib.hid (SS.out.below hb); have RR2 := Lib.hid (Kd.R_below RR.out hb); clear hb; obtain ⟨n0, n1, n2, n3, n4, n5, nz, nl, nb⟩ := SS2.out.c6 0 rfl)))
      refine start_ (n := 8) (S := fun w' => w'.cell? ⟨(w1.heap.size + 1), 5, none⟩ = some v5) (ds := [7]) #[false, false, false, false, false, false, false, false] (by kernel_rfl) rfl rfl (by simpa using n5) ?_
      intro hHeld
      refine pure_ (i := 0) (N := some 15) (v := ?_) (a' := ?_) #[true, false, false, false, false, false, false, false] rfl rfl (by kernel_rfl) (fun _ _ _ h => h) (Or.inl ⟨by rfl, ?_⟩) ?_ ?_
      rotate_left
      · intro w'
        go_simp
        with_reducible rfl
      rotate_left
      · simp only [Act.put, List.setIfInBounds_toArray, List.set_cons_zero, List.set_cons_succ]
        rfl
      refine pure_ (i := 2) (N := some 17) (v := ?_) (a' := ?_) #[true, false, true, false, false, false, false, false] rfl rfl (by kernel_rfl) (fun _ _ _ h => h) (Or.inl ⟨by rfl, ?_⟩) ?_ ?_
      rotate_left
      · intro w'
        go_simp
        with_reducible rfl
      rotate_left
      · simp only [Act.put, List.setIfInBounds_toArray, List.set_cons_zero, List.set_cons_succ]
        rfl
      refine take_ (i := 1) (N := some 16) (v := ?_) (a' := ?_) #[true, true, true, false, false, false, false, false] rfl rfl (by kernel_rfl) (fun _ _ _ h => h) (Or.inl ⟨by rfl, ?_⟩) hHeld ?_ ?_
      rotate_left
      · intro w' s0
        go_simp
        with_reducible rfl
      rotate_left
      · simp only [Act.put, List.setIfInBounds_toArray, List.set_cons_zero, List.set_cons_succ]
        rfl
      refine one_ (i := 3) (N := some 18) #[true, true, true, true, false, false, false, false] rfl rfl (by kernel_rfl) (by decide) (fun K hK => ?_)
      refine goesE_ Tryz.func57 (by kernel_rfl) rfl #[.pointer (some ⟨B, 0, none⟩)] (by rfl) rfl (by (try simp only [List.map_toArray, List.map_cons, List.map_nil]); first | done | rfl) ?_
      have SS3 := Lib.hid (SS2.out.below (below_drew (Below.refl _ _)))
      refine (value_V T _ hTT.out tv B base j 0 _ _ SS3.out.pw SS3.out.ub (by omega) HV1.out).mono ?_
      rintro e' w3 ⟨rfl, hgb⟩
      exact ⟨_, rfl, rfl, rfl, gb_trans SS3.out.gb hgb⟩
    · have hjj : j < j' := ((vg_goes hTT.out.hE).1 _ _ _ hv (by have := hTT.out.hE.1; have := SS.out.lt; omega)).1 _ _ rfl |>.1
      have C1 := Lib.hid c1
      have HV1 := Lib.hid hv
      have HRe := Lib.hid hrest
      clear hpl c1 hv hrest
      go_wp2_with (first
        | (go_at_call 40; go_loud (refine (is_any T tv B base j 0 _ _ SS.out.pw).mono ?_; rintro e w2 ⟨rfl, hb⟩; rw [C1.out]; have SS2 := Lib.hid (SS.out.below hb); have RR2 := Lib.hid (Kd.R_below RR.out hb); clear hb; obtain ⟨n0, n1, n2, n3, n4, n5, nz, nl, nb⟩ := SS2.out.c6 0 rfl)))
      refine start_ (n := 8) (S := fun w' => w'.cell? ⟨(w1.heap.size + 1), 5, none⟩ = some v5) (ds := [7]) #[false, false, false, false, false, false, false, false] (by kernel_rfl) rfl rfl (by simpa using n5) ?_
      intro hHeld
      refine pure_ (i := 0) (N := some 15) (v := ?_) (a' := ?_) #[true, false, false, false, false, false, false, false] rfl rfl (by kernel_rfl) (fun _ _ _ h => h) (Or.inl ⟨by rfl, ?_⟩) ?_ ?_
      rotate_left
      · intro w'
        go_simp
        with_reducible rfl
      rotate_left
      · simp only [Act.put, List.setIfInBounds_toArray, List.set_cons_zero, List.set_cons_succ]
        rfl
      refine pure_ (i := 2) (N := some 17) (v := ?_) (a' := ?_) #[true, false, true, false, false, false, false, false] rfl rfl (by kernel_rfl) (fun _ _ _ h => h) (Or.inl ⟨by rfl, ?_⟩) ?_ ?_
      rotate_left
      · intro w'
        go_simp
        with_reducible rfl
      rotate_left
      · simp only [Act.put, List.setIfInBounds_toArray, List.set_cons_zero, List.set_cons_succ]
        rfl
      refine take_ (i := 1) (N := some 16) (v := ?_) (a' := ?_) #[true, true, true, false, false, false, false, false] rfl rfl (by kernel_rfl) (fun _ _ _ h => h) (Or.inl ⟨by rfl, ?_⟩) hHeld ?_ ?_
      rotate_left
      · intro w' s0
        go_simp
        with_reducible rfl
      rotate_left
      · simp only [Act.put, List.setIfInBounds_toArray, List.set_cons_zero, List.set_cons_succ]
        rfl
      refine one_ (i := 3) (N := some 18) #[true, true, true, true, false, false, false, false] rfl rfl (by kernel_rfl) (by decide) (fun K hK => ?_)
      refine goes_ Tryz.func57 (by kernel_rfl) rfl #[.pointer (some ⟨B, 0, none⟩)] (by rfl) rfl rfl (by (try simp only [List.map_toArray, List.map_cons, List.map_nil]); first | done | rfl) ?_
      have SS3 := Lib.hid (SS2.out.below (below_drew (Below.refl _ _)))
      refine (value_V T _ hTT.out tv B base j 0 _ _ SS3.out.pw SS3.out.ub (by omega) HV1.out).mono ?_
      rintro e w3 ⟨v6, rfl, hR6, hP, hgb⟩
      have SS4 := Lib.hid (SS3.out.call hP hgb)
      have RR4 := Lib.hid (kidsR (Kd.R_drew RR2.out) (by have := SS.out.hB; have := SS.out.ge 0 rfl; omega) hgb)
      have H6 := Lib.hid hR6
      have nl2 := nl
      obtain ⟨n0, n1, n2, n3, n4, n5, nz, nl, nb⟩ := SS4.out.c6 0 rfl
      refine ⟨_, rfl, hK _ _ n5 (fun hHeld => ?_)⟩
      unfold nodeV
      clear hK K
      refine one_ (i := 4) (N := some 19) #[true, true, true, true, true, false, false, false] rfl rfl (by kernel_rfl) (by decide) (fun K hK => ?_)
      refine value_ (by rfl) rfl (w1 := w3.alloc (.cells #[.int .i64 v.f0, .string v.f1, .int .i64 v.f2.f0, .int .i64 v.f2.f1, .int .i64 v.f3, v6] 26)) (v := .slice (some ⟨w3.heap.size, 0, none⟩) 1 1) ?_ ?_
      · go_simp
        try rfl
      refine hK _ _ (by go_keep) (fun hHeld => ?_)
      clear hK K
      refine one_ (i := 5) (N := some 20) #[true, true, true, true, true, true, false, false] rfl rfl (by kernel_rfl) (by decide) (fun K hK => ?_)
      refine Kd.R_append_step PTr.k26 (w0 := w3) ((w1.heap.size + 1) + 1) (by rfl) (.tmp 16) (.tmp 19) 24 26 (.agg #[.int .i64 0, .string ⟨#[]⟩, .int .i64 0, .int .i64 0, .int .i64 0, .slice none 0 0]) 72 (by rfl) und24 info26b rfl (by decide) (by decide) v5 ks v [.int .i64 v.f0, .string v.f1, .int .i64 v.f2.f0, .int .i64 v.f2.f1, .int .i64 v.f3, v6] (fun _ => True) (fun k => w2.heap.size ≤ k) (by rfl) (by rfl) (PTr.k26_mkM _ _ _ _ (Kd.R_lower (Kd.R_mono (Kd.R_bound H6.out) (fun k hk => hk.2.1)) (by show (w1.heap.size + 1) + 1 ≤ w2.heap.size; omega))) (fun k hk => ⟨trivial, fun e => by have := Kd.R_lt RR2.out k e.symm; omega⟩) (fun _ _ => trivial) RR4.out (Below.refl _ _) nl (by have := hTT.out.hl; have := SS.out.lt; omega) ?_
      intro v7 w4 h7 h8 h9 h10
      obtain ⟨A7, c7, e7⟩ := Kd.R_slice h7
      generalize (ks ++ [v]).length = m7 at e7
      subst e7
      have SS5 := Lib.hid (SS4.out.appH h9 (fun k e => Kd.R_base RR4.out k e))
      have H7 := Lib.hid h7
      clear h7 h8 h9 h10
      obtain ⟨n0, n1, n2, n3, n4, n5, nz, nl, nb⟩ := SS5.out.c6 0 rfl
      refine hK _ _ n5 (fun hHeld => ?_)
      clear hK K
      refine norm_ (a' := ?_) ?_ ?_
      rotate_left
      · show Act.put _ (some 20) _ = _
        simp only [Act.put, List.setIfInBounds_toArray, List.set_cons_zero, List.set_cons_succ]
        rfl
      refine pure_ (i := 6) (N := some 21) (v := ?_) (a' := ?_) #[true, true, true, true, true, true, true, false] rfl rfl (by kernel_rfl) (fun _ _ _ h => h) (Or.inl ⟨by rfl, ?_⟩) ?_ ?_
      rotate_left
      · intro w'
        go_simp
        with_reducible rfl
      rotate_left
      · simp only [Act.put, List.setIfInBounds_toArray, List.set_cons_zero, List.set_cons_succ]
        rfl
      refine last_ (i := 7) (N := none) #[true, true, true, true, true, true, true, true] rfl rfl (by kernel_rfl) (by decide) (fun K hK => ?_)
      refine skip_ (by rfl) rfl (w1 := w4.setCell ⟨(w1.heap.size + 1), 5, none⟩ (.slice A7 m7 c7)) ?_ ?_
      · go_simp
        try rfl
      refine hK _ _ (done_ (by kernel_rfl) ?_)
      clear hK K
      have SS6 := Lib.hid (SS5.out.set 0 rfl 5 (.slice A7 m7 c7))
      have RR6 := Lib.hid (kidsSet H7.out (b := w1.heap.size + 1) (Nat.lt_succ_self _) 5 (.slice A7 m7 c7))
      go_wp2_with fail
      obtain ⟨q, hq⟩ : ∃ q, gk = q + 1 := ⟨gk - 1, by have := SS.out.lt; omega⟩
      subst hq
      go_roundg q
      case rel => exact Lib.hid ⟨ks ++ [v], j', _, HRe.out, SS6.out, RR6.out, by simp; omega, by omega⟩
      case measure => omega
theorem prop_all (T : List PTr.S41) (n0 : Nat) (hT : Tk T n0) (tv : Value) (B base i : Nat) (r : PR PTr.S26) (w : World) (hp : PW T tv B base i 0 w) (hu : UB B w) (h : PP T i r) :
    Calls Tryz.prog 41 #[.pointer (some ⟨B, 0, none⟩)] w (PEnd T tv B base 0 w r) := by
  rcases h with ⟨c, rfl⟩ | ⟨c, ⟨e, h, rfl⟩ | ⟨ks, j, h, rfl⟩⟩
  · exact prop_no T tv B base i w hp hu c
  · exact prop_yes T n0 hT tv B base i w hp hu c _ h
  · exact prop_yes T n0 hT tv B base i w hp hu c _ h
end Go.Proofs.YtahjkibjcibpgaaGreatDoor.L
end
section
namespace Go.Proofs.YtahjkibjcibpgaaGreatDoor.L
open Go.RowKit Go.Shelf Go.Lib Go.Proofs.YtahjkibjcibpgaaGreatDoor.U
open Go.Proofs.YtahjkibjcibpgaaGreatDoorW Go.Proofs.YtahjkibjcibpgaaGreatDoorW.PrintWords Go.Proofs.YtahjkibjcibpgaaGreatDoorW.PrintLast
attribute [local go_sem] Oper.semAt_some
attribute [local go_sem ↓] Go.wp_at_zero Go.wp_at_succ
theorem decl_no (T : List PTr.S41) (tv : Value) (B base i : Nat) (w : World) (hp : PW T tv B base i 0 w) (hu : UB B w) (c : ((tokAt T i).f0 == 0) = false) :
    Calls Tryz.prog 25 #[.pointer (some ⟨B, 0, none⟩)] w (PEnd T tv B base 0 w (.error (2, (tokAt T i).f2))) := by
  have S0 := Lib.hid (St.start hp hu)
  have S1 := Lib.hid (S0.out.alloc zero26 26)
  have C := Lib.hid c
  clear hp hu c
  go_enter Tryz.func25, Tryz.ntmps25
  go_wp2_with (first
    | (go_at_call 37; go_loud (refine (take_no T tv B base i 0 0 _ S1.out.pw C.out).mono ?_; rintro e w1 ⟨rfl, hb⟩; have S2 := Lib.hid (S1.out.below hb); clear hb; unfold flt)))
  exact ⟨rfl, rfl, S2.out.gb⟩
def WL (T : List PTr.S41) (l ks : List PTr.S26) (jf j : Nat) (ok : Bool) (v : PTr.S26) : Prop :=
  (ok = false ∧ l = ks ∧ jf = j) ∨ (ok = true ∧ ks.length + 1 ≤ j ∧ DA T j (ks ++ [v]) (.ok (l, jf)))
theorem leaf_any (T : List PTr.S41) (n0 : Nat) (hT : Tk T n0) (tv : Value) (B base j : Nat) (l ks : List PTr.S26) (jf : Nat) (w : World) (hp : PW T tv B base j 0 w) (h : DA T j ks (.ok (l, jf))) (hk : ks.length ≤ j) :
    Calls Tryz.prog 38 #[.pointer (some ⟨B, 0, none⟩)] w fun e w' => ∃ v ok j', e = .returned (.tuple #[nodeV v (.slice none 0 0), .bool ok]) ∧ PW T tv B base j' 0 w' ∧ w.grownBy w' (some B) ∧ j ≤ j' ∧ (ok = true → j < j') ∧ v.f4 = [] ∧ WL T l ks jf j' ok v := by
  have hl : T.length ≤ 140737488355328 := by have := hT.hl; omega
  rcases h.inv with ⟨c, e⟩ | ⟨c, ⟨e, h1, _⟩ | ⟨v, j', h1, h2⟩⟩
  · injection e with e; injection e with e1 e2
    have e2 : jf = j := e2
    simp only [Bool.and_eq_true, Bool.not_eq_true'] at c
    refine (leaf_none T tv B base j 0 w hp c.1 c.2).mono ?_
    rintro e w' ⟨rfl, h3, h4⟩
    exact ⟨PTr.z26, false, j, rfl, h3, h4, Nat.le_refl _, (fun h => by cases h), rfl, .inl ⟨rfl, e1, e2⟩⟩
  · rcases h1 with ⟨_, h1⟩ | ⟨_, _, h1⟩ <;> cases h1
  · rcases h1 with ⟨c0, e⟩ | ⟨c0, c2, e⟩
    · injection e with e; injection e with e1 e2
      subst e1 e2
      refine (leaf_name T tv B base j 0 w hp c0 (hT.nxt hp.lt (by rw [show (tokAt T j).f0 = 0 by simpa using c0]; decide)) hl).mono ?_
      rintro e w' ⟨rfl, h3, h4⟩
      exact ⟨_, true, j + 1, rfl, h3, h4, Nat.le_succ _, fun _ => Nat.lt_succ_self _, rfl, .inr ⟨rfl, by omega, h2⟩⟩
    · injection e with e; injection e with e1 e2
      subst e1 e2
      refine (leaf_text T tv B base j 0 w hp c0 c2 (hT.nxt hp.lt (by rw [show (tokAt T j).f0 = 2 by simpa using c2]; decide)) hl).mono ?_
      rintro e w' ⟨rfl, h3, h4⟩
      exact ⟨_, true, j + 1, rfl, h3, h4, Nat.le_succ _, fun _ => Nat.lt_succ_self _, rfl, .inr ⟨rfl, by omega, h2⟩⟩
def WRel (T : List PTr.S41) (tv : Value) (B base : Nat) (w : World) (r tb n : Nat) (tc : Array Value) (tx : ByteArray) (at_ : Int) (l : List PTr.S26) (jf kq wb : Nat) (ok : Bool) (W : World) : Prop :=
  ∃ ks j v5 v, WL T l ks jf j ok v ∧ St T tv B base j 0 w [(wb, #[.int .i64 v.f0, .string v.f1, .int .i64 v.f2.f0, .int .i64 v.f2.f1, .int .i64 v.f3, .slice none 0 0], 26), (n, node6 1 tx at_ v5, 26), (tb, tc, 41), (r, zero26, 26)] W ∧ PTr.k26.R 26 W (n + 1) (fun k => k ≠ wb) v5 ks ∧ ks.length ≤ j ∧ (ok = true → T.length ≤ j + kq) ∧ v.f4 = []
def QRel (T : List PTr.S41) (tv : Value) (B base : Nat) (w : World) (r t n : Nat) (tc : Array Value) (tx : ByteArray) (at_ : Int) (g : PR (List PTr.S26)) (kq : Nat) (W : World) : Prop :=
  ∃ ks j v5, DB T j ks g ∧ St T tv B base j 0 w [(n, node6 1 tx at_ v5, 26), (t, tc, 41), (r, zero26, 26)] W ∧ PTr.k26.R 26 W (n + 1) (fun _ => True) v5 ks ∧ ks.length ≤ j ∧ T.length ≤ j + kq
def declE (tx : ByteArray) (at_ : Int) : PR (List PTr.S26) → PR PTr.S26
  | .error e => .error e
  | .ok (ks, j) => .ok (⟨1, tx, ⟨0, 0⟩, at_, ks⟩, j)
set_option maxRecDepth 100000 in
theorem decl_yes (T : List PTr.S41) (n0 : Nat) (hT : Tk T n0) (tv : Value) (B base i : Nat) (w : World) (hp : PW T tv B base i 0 w) (hu : UB B w) (c : ((tokAt T i).f0 == 0) = true) (l : List PTr.S26) (jf : Nat) (hl : DA T (i + 1) [] (.ok (l, jf))) (r : PR PTr.S26)
    (hr : (isP T jf ⟨#[123]⟩ = false ∧ r = .error (2, (tokAt T jf).f2)) ∨ (isP T jf ⟨#[123]⟩ = true ∧ ∃ g, DB T (jf + 1) l g ∧ r = declE (tokAt T i).f1 (tokAt T i).f2 g)) :
    Calls Tryz.prog 25 #[.pointer (some ⟨B, 0, none⟩)] w (PEnd T tv B base 0 w r) := by
  have S0 := Lib.hid (St.start hp hu)
  have S1 := Lib.hid (S0.out.alloc zero26 26)
  have hi := hT.nxt hp.lt (by rw [show (tokAt T i).f0 = 0 by simpa using c]; decide)
  have hTk := take_ok T tv B base i 0 0 _ S1.out.pw c hi (by have := hT.hl; omega)
  obtain ⟨k, t, a, hx⟩ : ∃ k t a, tokAt T i = ⟨k, t, a⟩ := ⟨_, _, _, rfl⟩
  rw [hx] at hTk hr
  simp only at hTk hr
  have HT := Lib.hid hTk
  have hL := Lib.hid hl
  have hR := Lib.hid hr
  have hTT := Lib.hid hT
  clear hp hu c hTk hx hl hr hT hi
  go_enter Tryz.func25, Tryz.ntmps25
  go_wp2_with (first
    | (go_at_call 37; go_loud (refine HT.out.mono ?_; rintro e w1 ⟨rfl, hq, hgb⟩; have S2 := Lib.hid (S1.out.call hq hgb); clear hq hgb))
    | (go_at_call 38; go_loud (have S3 := Lib.hid ((S2.out.alloc #[.int .i64 k, .string t, .int .i64 a] 41).allocAt (w1.heap.size + 1) (by simp) (node6 1 t a (.slice none 0 0)) 26); refine (leaf_any T _ hTT.out tv B base (i + 1) l [] jf _ S3.out.pw hL.out (by simp)).mono ?_; rintro e w2 ⟨v, ok, j', rfl, hq, hgb, hj, _, hv4, hwl⟩; unfold nodeV; have S4 := Lib.hid ((S3.out.call hq hgb).alloc #[.int .i64 v.f0, .string v.f1, .int .i64 v.f2.f0, .int .i64 v.f2.f1, .int .i64 v.f3, .slice none 0 0] 26); have HWL := Lib.hid hwl; have HV4 := Lib.hid hv4; clear hq hgb hwl hv4)))
  go_loopg [5, 6] T.length (fun kq s5 s6 W => ∃ (wb : Nat) (ok : Bool), s5 = .pointer (some ⟨wb, 0, none⟩) ∧ s6 = .bool ok ∧ Hid (WRel T tv B base w w.heap.size w1.heap.size (w1.heap.size + 1) #[.int .i64 k, .string t, .int .i64 a] t a l jf kq wb ok W))
  case atStart => exact ⟨_, _, rfl, rfl, Lib.hid ⟨[], j', _, v, HWL.out, S4.out, Kd.R_nil _ _ _ _ _, by simp, fun _ => by omega, HV4.out⟩⟩
  case round =>
    clear HWL HV4
    obtain ⟨wb, ok, rfl, rfl, HW⟩ := hrel
    obtain ⟨ks, j, v5, v, hwl, hS, hR5, hle, hms, hv4⟩ := HW.out
    clear HW
    cases ok with
    | true =>
      rcases hwl with ⟨hh, _⟩ | ⟨_, hlk, hda⟩
      · cases hh
      have SS := Lib.hid hS
      have RR := Lib.hid hR5
      have HDA := Lib.hid hda
      have HV4 := Lib.hid hv4
      clear hS hR5 hda hv4
      obtain ⟨n0, n1, n2, n3, n4, n5, nz, nl, nb⟩ := SS.out.c6 1 rfl
      obtain ⟨r0, r1, r2, r3, r4, r5, rz, rl, rb⟩ := SS.out.c6 0 rfl
      have rn := SS.out.apart 0 1 (by decide) rfl rfl
      obtain ⟨q, hq⟩ : ∃ q, gk = q + 1 := ⟨gk - 1, by have := SS.out.lt; have := hms (by simp); omega⟩
      subst hq
      go_wp2_with (first
        | (at_builtin; go_loud (refine Kd.R_append PTr.k26 (w0 := wr) (w1.heap.size + 1 + 1) rfl (.tmp 26) (.tmp 28) 24 26 (.agg #[.int .i64 0, .string ⟨#[]⟩, .int .i64 0, .int .i64 0, .int .i64 0, .slice none 0 0]) 72 rfl und24 info26b rfl (by decide) (by decide) v5 ks v [.int .i64 v.f0, .string v.f1, .int .i64 v.f2.f0, .int .i64 v.f2.f1, .int .i64 v.f3, .slice none 0 0] (fun k => k ≠ wb) (fun _ => False) rfl (by rfl) (PTr.k26_mkM _ _ _ _ (by rw [HV4.out]; exact Kd.R_nil _ _ _ _ _)) (fun _ hk => hk.elim) (fun k hk => by omega) RR.out (Below.refl _ _) (by omega) (by have := hTT.out.hl; have := SS.out.lt; omega) ?_; intro v7 w4 h7 h8 h9 h10; obtain ⟨A7, c7, e7⟩ := Kd.R_slice h7; generalize (ks ++ [v]).length = m7 at e7; subst e7; have SS5 := Lib.hid (SS.out.appW h9 (fun k e => Kd.R_base RR.out k e) (fun k e => RR.out.1 k e)); have H7 := Lib.hid h7; clear h7 h8 h9 h10; obtain ⟨n0, n1, n2, n3, n4, n5, nz, nl, nb⟩ := SS5.out.c6 1 rfl; obtain ⟨r0, r1, r2, r3, r4, r5, rz, rl, rb⟩ := SS5.out.c6 0 rfl))
        | (go_at_call 38; go_loud (have SS6 := SS5.out.set 1 rfl 5 (.slice A7 m7 c7); have SS7 := Lib.hid ((SS6.allocAt w4.heap.size (by simp) #[.int .i64 v.f0, .string v.f1, .int .i64 v.f2.f0, .int .i64 v.f2.f1, .int .i64 v.f3, .slice none 0 0] 26).drop2); have RR7 := Lib.hid (kidsNew H7.out (b := w1.heap.size + 1) (Nat.lt_succ_self _) 5 (.slice A7 m7 c7) (.cells #[.int .i64 v.f0, .string v.f1, .int .i64 v.f2.f0, .int .i64 v.f2.f1, .int .i64 v.f3, .slice none 0 0] 26)); refine (leaf_any T _ hTT.out tv B base j l (ks ++ [v]) jf _ SS7.out.pw HDA.out (by simp; omega)).mono ?_; rintro e w5 ⟨v', ok', j', rfl, hq, hgb, hj, hjt, hv4, hwl⟩; unfold nodeV; have SS8 := Lib.hid (SS7.out.call hq hgb); have RR8 := Lib.hid (kidsRo RR7.out (by have := SS7.out.hB; have := SS7.out.ge 1 rfl; omega) hgb); have HWL := Lib.hid hwl; have HV4' := Lib.hid hv4; clear hq hgb hwl hv4; obtain ⟨r0, r1, r2, r3, r4, r5, rz, rl, rb⟩ := SS8.out.c6 0 rfl)))
      have SS9 := ((((((SS8.out.set 0 rfl 0 (.int .i64 v'.f0)).set 0 rfl 1 (.string v'.f1)).set 0 rfl 2 (.int .i64 v'.f2.f0)).set 0 rfl 3 (.int .i64 v'.f2.f1)).set 0 rfl 4 (.int .i64 v'.f3)).set 0 rfl 5 (.slice none 0 0))
      have RR9 := kidsFar (kidsFar (kidsFar (kidsFar (kidsFar (kidsFar RR8.out 0 (.int .i64 v'.f0)) 1 (.string v'.f1)) 2 (.int .i64 v'.f2.f0)) 3 (.int .i64 v'.f2.f1)) 4 (.int .i64 v'.f3)) 5 (.slice none 0 0)
      go_roundg q
      case rel => exact ⟨_, _, rfl, rfl, Lib.hid ⟨ks ++ [v], j', _, v', HWL.out, SS9, Kd.R_mono RR9 (fun k hk => Nat.ne_of_lt hk), by simp; omega, fun h => by have := hjt h; have := hms (by simp); omega, HV4'.out⟩⟩
      case measure => omega
    | false =>
      rcases hwl with ⟨_, rfl, rfl⟩ | ⟨hh, _⟩
      case inr => cases hh
      have SS := Lib.hid hS.forget
      have RR := Lib.hid (Kd.R_mono hR5 (ok' := fun _ => True) (fun _ _ => trivial))
      clear hS hR5 hv4 hms
      rcases hR.out with ⟨c1, rfl⟩ | ⟨c1, g, hdb, rfl⟩
      · have C1 := Lib.hid c1
        clear c1
        go_wp2_with (first
          | (go_at_call 39; go_loud (refine (skip_no T tv B base jf 0 _ _ SS.out.pw C1.out).mono ?_; rintro e w2 ⟨rfl, hb⟩; have SS2 := Lib.hid (SS.out.below hb); clear hb; unfold flt)))
        exact ⟨rfl, rfl, SS2.out.gb⟩
      · have C1 := Lib.hid c1
        have HDB := Lib.hid hdb
        have hj1 : jf + 1 < T.length := hTT.out.nxt SS.out.lt (by rw [isP_kind C1.out]; decide)
        clear c1 hdb hR
        go_wp2_with (first
          | (go_at_call 39; go_loud (refine (skip_ok T tv B base jf 0 _ _ SS.out.pw C1.out hj1 (by have := hTT.out.hl; omega)).mono ?_; rintro e w3 ⟨rfl, hq, hgb⟩; have SSa := Lib.hid (SS.out.call hq hgb); have RRa := Lib.hid (kidsR RR.out (by have := SS.out.hB; have := SS.out.ge 0 rfl; omega) hgb); clear hq hgb)))
        go_loopg [] T.length (fun kq W => Hid (QRel T tv B base w w.heap.size w1.heap.size (w1.heap.size + 1) #[.int .i64 k, .string t, .int .i64 a] t a g kq W))
        case atStart => exact Lib.hid ⟨l, jf + 1, v5, HDB.out, SSa.out, RRa.out, by omega, by omega⟩
        case round =>
          clear SS RR C1 SSa RRa HDB hj1 hle
          obtain ⟨ks, j, v5, hpl, hS, hR5, hle, hms⟩ := hrel.out
          clear hrel
          have SS := Lib.hid hS
          have RR := Lib.hid hR5
          clear hS hR5
          rcases hpl.inv with ⟨c1, rfl⟩ | ⟨c1, ⟨e, hv, rfl⟩ | ⟨v, j', hv, hrest⟩⟩
          · have C1 := Lib.hid c1
            have hj1 : j + 1 < T.length := hTT.out.nxt SS.out.lt (by rw [isP_kind c1]; decide)
            clear hpl c1
            obtain ⟨A5, c5, e5⟩ := Kd.R_slice RR.out
            generalize ks.length = m5 at e5
            subst e5
            go_wp2_with (first
              | (go_at_call 40; go_loud (refine (is_any T tv B base j 0 _ _ SS.out.pw).mono ?_; rintro e w2 ⟨rfl, hb⟩; rw [C1.out]; have SS2 := Lib.hid (SS.out.below hb); have RR2 := Lib.hid (Kd.R_below RR.out hb); clear hb; obtain ⟨n0, n1, n2, n3, n4, n5, nz, nl, nb⟩ := SS2.out.c6 0 rfl))
              | (go_at_call 39; go_loud (refine (skip_ok T tv B base j 0 _ _ SS2.out.pw C1.out hj1 (by have := hTT.out.hl; omega)).mono ?_; rintro e w3 ⟨rfl, hq, hgb⟩; have SS3 := Lib.hid (SS2.out.call hq hgb); have RR3 := Lib.hid (kidsR RR2.out (by have := SS.out.hB; have := SS.out.ge 0 rfl; omega) hgb); clear hq hgb; obtain ⟨n0, n1, n2, n3, n4, n5, nz, nl, nb⟩ := SS3.out.c6 0 rfl; obtain ⟨r0, r1, r2, r3, r4, r5, rz, rl, rb⟩ := SS3.out.c6 2 rfl; have rn := SS3.out.apart 0 2 (by decide) rfl rfl)))
            have SS4 := (((((((SS3.out).set 2 rfl 0 (.int .i64 1)).set 2 rfl 1 (.string t)).set 2 rfl 2 (.int .i64 0)).set 2 rfl 3 (.int .i64 0)).set 2 rfl 4 (.int .i64 a)).set 2 rfl 5 (.slice A5 m5 c5))
            have hge := SS3.out.ge 0 rfl
            refine bodyPost_ret (results26 rfl rfl rfl (SS4.get 2 rfl)) rfl ⟨_, rfl, ?_, SS4.pw, SS4.gb⟩
            have hrn : w.heap.size < w1.heap.size + 1 + 1 := SS.out.lt2 0 2 (by decide) rfl rfl
            exact Kd.R_lower (kidsSet (kidsSet (kidsSet (kidsSet (kidsSet (kidsSet RR3.out hrn 0 _) hrn 1 _) hrn 2 _) hrn 3 _) hrn 4 _) hrn 5 _) (by omega)
          · have C1 := Lib.hid c1
            have HV1 := Lib.hid hv
            clear hpl c1 hv
            go_wp2_with (first
              | (go_at_call 40; go_loud (refine (is_any T tv B base j 0 _ _ SS.out.pw).mono ?_; rintro e w2 ⟨rfl, hb⟩; rw [C1.out]; have SS2 := Lib.hid (SS.out.below hb); have RR2 := Lib.hid (Kd.R_below RR.out hb); clear hb; obtain ⟨n0, n1, n2, n3, n4, n5, nz, nl, nb⟩ := SS2.out.c6 0 rfl)))
            refine start_ (n := 8) (S := fun w' => w'.cell? ⟨(w1.heap.size + 1), 5, none⟩ = some v5) (ds := [7]) #[false, false, false, false, false, false, false, false] (by kernel_rfl) rfl rfl (by simpa using n5) ?_
            intro hHeld
            refine pure_ (i := 0) (N := some 37) (v := ?_) (a' := ?_) #[true, false, false, false, false, false, false, false] rfl rfl (by kernel_rfl) (fun _ _ _ h => h) (Or.inl ⟨by rfl, ?_⟩) ?_ ?_
            rotate_left
            · intro w'
              go_simp
              with_reducible rfl
            rotate_left
            · simp only [Act.put, List.setIfInBounds_toArray, List.set_cons_zero, List.set_cons_succ]
              rfl
            refine pure_ (i := 2) (N := some 39) (v := ?_) (a' := ?_) #[true, false, true, false, false, false, false, false] rfl rfl (by kernel_rfl) (fun _ _ _ h => h) (Or.inl ⟨by rfl, ?_⟩) ?_ ?_
            rotate_left
            · intro w'
              go_simp
              with_reducible rfl
            rotate_left
            · simp only [Act.put, List.setIfInBounds_toArray, List.set_cons_zero, List.set_cons_succ]
              rfl
            refine take_ (i := 1) (N := some 38) (v := ?_) (a' := ?_) #[true, true, true, false, false, false, false, false] rfl rfl (by kernel_rfl) (fun _ _ _ h => h) (Or.inl ⟨by rfl, ?_⟩) hHeld ?_ ?_
            rotate_left
            · intro w' s0
              go_simp
              with_reducible rfl
            rotate_left
            · simp only [Act.put, List.setIfInBounds_toArray, List.set_cons_zero, List.set_cons_succ]
              rfl
            refine one_ (i := 3) (N := some 40) #[true, true, true, true, false, false, false, false] rfl rfl (by kernel_rfl) (by decide) (fun K hK => ?_)
            refine goesE_ Tryz.func41 (by kernel_rfl) rfl #[.pointer (some ⟨B, 0, none⟩)] (by rfl) rfl (by (try simp only [List.map_toArray, List.map_cons, List.map_nil]); first | done | rfl) ?_
            have SS3 := Lib.hid (SS2.out.below (below_drew (Below.refl _ _)))
            refine (prop_all T _ hTT.out tv B base j _ _ SS3.out.pw SS3.out.ub HV1.out).mono ?_
            rintro e' w3 ⟨rfl, hgb⟩
            exact ⟨_, rfl, rfl, rfl, gb_trans SS3.out.gb hgb⟩
          · have hjj : j < j' := ((PP.goes hTT.out.hE hv (by have := hTT.out.hE.1; have := SS.out.lt; omega)).1 _ _ rfl).1
            have C1 := Lib.hid c1
            have HV1 := Lib.hid hv
            have HRe := Lib.hid hrest
            clear hpl c1 hv hrest
            go_wp2_with (first
              | (go_at_call 40; go_loud (refine (is_any T tv B base j 0 _ _ SS.out.pw).mono ?_; rintro e w2 ⟨rfl, hb⟩; rw [C1.out]; have SS2 := Lib.hid (SS.out.below hb); have RR2 := Lib.hid (Kd.R_below RR.out hb); clear hb; obtain ⟨n0, n1, n2, n3, n4, n5, nz, nl, nb⟩ := SS2.out.c6 0 rfl)))
            refine start_ (n := 8) (S := fun w' => w'.cell? ⟨(w1.heap.size + 1), 5, none⟩ = some v5) (ds := [7]) #[false, false, false, false, false, false, false, false] (by kernel_rfl) rfl rfl (by simpa using n5) ?_
            intro hHeld
            refine pure_ (i := 0) (N := some 37) (v := ?_) (a' := ?_) #[true, false, false, false, false, false, false, false] rfl rfl (by kernel_rfl) (fun _ _ _ h => h) (Or.inl ⟨by rfl, ?_⟩) ?_ ?_
            rotate_left
            · intro w'
              go_simp
              with_reducible rfl
            rotate_left
            · simp only [Act.put, List.setIfInBounds_toArray, List.set_cons_zero, List.set_cons_succ]
              rfl
            refine pure_ (i := 2) (N := some 39) (v := ?_) (a' := ?_) #[true, false, true, false, false, false, false, false] rfl rfl (by kernel_rfl) (fun _ _ _ h => h) (Or.inl ⟨by rfl, ?_⟩) ?_ ?_
            rotate_left
            · intro w'
              go_simp
              with_reducible rfl
            rotate_left
            · simp only [Act.put, List.setIfInBounds_toArray, List.set_cons_zero, List.set_cons_succ]
              rfl
            refine take_ (i := 1) (N := some 38) (v := ?_) (a' := ?_) #[true, true, true, false, false, false, false, false] rfl rfl (by kernel_rfl) (fun _ _ _ h => h) (Or.inl ⟨by rfl, ?_⟩) hHeld ?_ ?_
            rotate_left
            · intro w' s0
              go_simp
              with_reducible rfl
            rotate_left
            · simp only [Act.put, List.setIfInBounds_toArray, List.set_cons_zero, List.set_cons_succ]
              rfl
            refine one_ (i := 3) (N := some 40) #[true, true, true, true, false, false, false, false] rfl rfl (by kernel_rfl) (by decide) (fun K hK => ?_)
            refine goes_ Tryz.func41 (by kernel_rfl) rfl #[.pointer (some ⟨B, 0, none⟩)] (by rfl) rfl rfl (by (try simp only [List.map_toArray, List.map_cons, List.map_nil]); first | done | rfl) ?_
            have SS3 := Lib.hid (SS2.out.below (below_drew (Below.refl _ _)))
            refine (prop_all T _ hTT.out tv B base j _ _ SS3.out.pw SS3.out.ub HV1.out).mono ?_
            rintro e w3 ⟨v6, rfl, hR6, hP, hgb⟩
            have SS4 := Lib.hid (SS3.out.call hP hgb)
            have RR4 := Lib.hid (kidsR (Kd.R_drew RR2.out) (by have := SS.out.hB; have := SS.out.ge 0 rfl; omega) hgb)
            have H6 := Lib.hid hR6
            have nl2 := nl
            obtain ⟨n0, n1, n2, n3, n4, n5, nz, nl, nb⟩ := SS4.out.c6 0 rfl
            refine ⟨_, rfl, hK _ _ n5 (fun hHeld => ?_)⟩
            unfold nodeV
            clear hK K
            refine one_ (i := 4) (N := some 41) #[true, true, true, true, true, false, false, false] rfl rfl (by kernel_rfl) (by decide) (fun K hK => ?_)
            refine value_ (by rfl) rfl (w1 := w3.alloc (.cells #[.int .i64 v.f0, .string v.f1, .int .i64 v.f2.f0, .int .i64 v.f2.f1, .int .i64 v.f3, v6] 26)) (v := .slice (some ⟨w3.heap.size, 0, none⟩) 1 1) ?_ ?_
            · go_simp
              try rfl
            refine hK _ _ (by go_keep) (fun hHeld => ?_)
            clear hK K
            refine one_ (i := 5) (N := some 42) #[true, true, true, true, true, true, false, false] rfl rfl (by kernel_rfl) (by decide) (fun K hK => ?_)
            refine Kd.R_append_step PTr.k26 (w0 := w3) ((w1.heap.size + 1) + 1) (by rfl) (.tmp 38) (.tmp 41) 24 26 (.agg #[.int .i64 0, .string ⟨#[]⟩, .int .i64 0, .int .i64 0, .int .i64 0, .slice none 0 0]) 72 (by rfl) und24 info26b rfl (by decide) (by decide) v5 ks v [.int .i64 v.f0, .string v.f1, .int .i64 v.f2.f0, .int .i64 v.f2.f1, .int .i64 v.f3, v6] (fun _ => True) (fun k => w2.heap.size ≤ k) (by rfl) (by rfl) (PTr.k26_mkM _ _ _ _ (Kd.R_lower (Kd.R_mono (Kd.R_bound H6.out) (fun k hk => hk.2.1)) (by show (w1.heap.size + 1) + 1 ≤ w2.heap.size; omega))) (fun k hk => ⟨trivial, fun e => by have := Kd.R_lt RR2.out k e.symm; omega⟩) (fun _ _ => trivial) RR4.out (Below.refl _ _) nl (by have := hTT.out.hl; have := SS.out.lt; omega) ?_
            intro v7 w4 h7 h8 h9 h10
            obtain ⟨A7, c7, e7⟩ := Kd.R_slice h7
            generalize (ks ++ [v]).length = m7 at e7
            subst e7
            have SS5 := Lib.hid (SS4.out.appH h9 (fun k e => Kd.R_base RR4.out k e))
            have H7 := Lib.hid h7
            clear h7 h8 h9 h10
            obtain ⟨n0, n1, n2, n3, n4, n5, nz, nl, nb⟩ := SS5.out.c6 0 rfl
            refine hK _ _ n5 (fun hHeld => ?_)
            clear hK K
            refine norm_ (a' := ?_) ?_ ?_
            rotate_left
            · show Act.put _ (some 42) _ = _
              simp only [Act.put, List.setIfInBounds_toArray, List.set_cons_zero, List.set_cons_succ]
              rfl
            refine pure_ (i := 6) (N := some 43) (v := ?_) (a' := ?_) #[true, true, true, true, true, true, true, false] rfl rfl (by kernel_rfl) (fun _ _ _ h => h) (Or.inl ⟨by rfl, ?_⟩) ?_ ?_
            rotate_left
            · intro w'
              go_simp
              with_reducible rfl
            rotate_left
            · simp only [Act.put, List.setIfInBounds_toArray, List.set_cons_zero, List.set_cons_succ]
              rfl
            refine last_ (i := 7) (N := none) #[true, true, true, true, true, true, true, true] rfl rfl (by kernel_rfl) (by decide) (fun K hK => ?_)
            refine skip_ (by rfl) rfl (w1 := w4.setCell ⟨(w1.heap.size + 1), 5, none⟩ (.slice A7 m7 c7)) ?_ ?_
            · go_simp
              try rfl
            refine hK _ _ (done_ (by kernel_rfl) ?_)
            clear hK K
            have SS6 := Lib.hid (SS5.out.set 0 rfl 5 (.slice A7 m7 c7))
            have RR6 := Lib.hid (kidsSet H7.out (b := w1.heap.size + 1) (Nat.lt_succ_self _) 5 (.slice A7 m7 c7))
            go_wp2_with fail
            obtain ⟨q, hq⟩ : ∃ q, gk = q + 1 := ⟨gk - 1, by have := SS.out.lt; omega⟩
            subst hq
            go_roundg q
            case rel => exact Lib.hid ⟨ks ++ [v], j', _, HRe.out, SS6.out, RR6.out, by simp; omega, by omega⟩
            case measure => omega
theorem decl_all (T : List PTr.S41) (n0 : Nat) (hT : Tk T n0) (tv : Value) (B base i : Nat) (r : PR PTr.S26) (w : World) (hp : PW T tv B base i 0 w) (hu : UB B w) (h : DP T i r) :
    Calls Tryz.prog 25 #[.pointer (some ⟨B, 0, none⟩)] w (PEnd T tv B base 0 w r) := by
  rcases h with ⟨c, rfl⟩ | ⟨c, ks, j, ha, ⟨c2, rfl⟩ | ⟨c2, ⟨e, h, rfl⟩ | ⟨ks', j', h, rfl⟩⟩⟩
  · exact decl_no T tv B base i w hp hu c
  · exact decl_yes T n0 hT tv B base i w hp hu c ks j ha _ (.inl ⟨c2, rfl⟩)
  · exact decl_yes T n0 hT tv B base i w hp hu c ks j ha _ (.inr ⟨c2, _, h, rfl⟩)
  · exact decl_yes T n0 hT tv B base i w hp hu c ks j ha _ (.inr ⟨c2, _, h, rfl⟩)
end Go.Proofs.YtahjkibjcibpgaaGreatDoor.L
end
section
namespace Go.Proofs.YtahjkibjcibpgaaGreatDoor.L
open Go.RowKit Go.Shelf Go.Lib Go.Proofs.YtahjkibjcibpgaaGreatDoor.U
open Go.Proofs.YtahjkibjcibpgaaGreatDoorW Go.Proofs.YtahjkibjcibpgaaGreatDoorW.PrintWords Go.Proofs.YtahjkibjcibpgaaGreatDoorW.PrintLast
attribute [local go_sem] Oper.semAt_some
theorem rec_neq (v : Value) (w : World) : (binOp BinOp.neq 20 (.iface 57 v) .nilIface).run Tryz.prog w = .ok (.bool true) w := by kernel_rfl
theorem rec_neq0 (w : World) : (binOp BinOp.neq 20 .nilIface .nilIface).run Tryz.prog w = .ok (.bool false) w := by kernel_rfl
theorem rec_assert (er a : Int) (w : World) : (Instr.typeAssert (.iface 57 (.agg #[.int .i64 er, .int .i64 a])) 20 57 true).run Tryz.prog w = .ok (.tuple #[.agg #[.int .i64 er, .int .i64 a], .bool true]) w := by kernel_rfl
theorem catch_idle (p q r : Addr) (w : World) :
    CallsD Tryz.prog 23 #[.pointer (some p), .pointer (some q), .pointer (some r)] .returning w fun e u' w' => e = .returned (.tuple #[]) ∧ u' = .returning ∧ w' = w := by
  refine callsD_of_wpS Tryz.func23 rfl fun c₀ cs hu => ?_
  apply wpS_seq
  apply wpS_region
  simp [wpOpsS, go_sem, recoverD, hu, Tryz.ntmps23, Exit.thenS]
  refine wpS_of_wp ?_
  simp only [Array.replicate_succ, Array.replicate_zero, List.push_toArray, List.setIfInBounds_toArray, List.append_toArray, List.nil_append, List.cons_append, List.set_cons_zero, List.set_cons_succ]
  generalize hQ : (fun (e : Exit) (a' : Act) (w' : World) => _) = Q
  have h0 := rec_neq0
  go_wp2
  rw [← hQ]
  refine ⟨rfl, .returning, ?_, .tuple #[], ?_, rfl, rfl, rfl⟩
  · cases c₀
    simp_all
  · simp [results, Tryz.results23]
set_option maxRecDepth 100000 in
theorem catch_panicking (n e a : Nat) (er at_ : Int) (cn : Array Value) (ce ca : Value) (w : World) (hn : w.heap[n]? = some (.cells cn 26 (0, 0))) (hc : cn.size = 6) (he : w.heap[e]? = some (.cells #[ce] 31 (0, 0))) (ha : w.heap[a]? = some (.cells #[ca] 3 (0, 0))) (hne : n ≠ e) (hna : n ≠ a) (hea : e ≠ a) :
    CallsD Tryz.prog 23 #[.pointer (some ⟨n, 0, none⟩), .pointer (some ⟨e, 0, none⟩), .pointer (some ⟨a, 0, none⟩)] (.panicking [{ v := .iface 57 (.agg #[.int .i64 er, .int .i64 at_]), recovered := false }]) w fun x u' w' =>
      x = .returned (.tuple #[]) ∧ u' = .panicking [{ v := .iface 57 (.agg #[.int .i64 er, .int .i64 at_]), recovered := true }] ∧
      w'.heap[n]? = some (.cells zero26 26 (0, 0)) ∧ w'.heap[e]? = some (.cells #[.int .i64 er] 31 (0, 0)) ∧ w'.heap[a]? = some (.cells #[.int .i64 at_] 3 (0, 0)) ∧ (∀ M, M ≤ n → M ≤ e → M ≤ a → M ≤ w.heap.size → Below M w w') := by
  obtain ⟨c0, c1, c2, c3, c4, c5, rfl⟩ : ∃ c0 c1 c2 c3 c4 c5, cn = #[c0, c1, c2, c3, c4, c5] := by
    match cn, hc with
    | ⟨[c0, c1, c2, c3, c4, c5]⟩, _ => exact ⟨c0, c1, c2, c3, c4, c5, rfl⟩
  refine callsD_of_wpS Tryz.func23 rfl fun c₀ cs hu => ?_
  apply wpS_seq
  apply wpS_region
  simp [wpOpsS, go_sem, recoverD, hu, Tryz.ntmps23, Exit.thenS]
  refine wpS_of_wp ?_
  simp only [Array.replicate_succ, Array.replicate_zero, List.push_toArray, List.setIfInBounds_toArray, List.append_toArray, List.nil_append, List.cons_append, List.set_cons_zero, List.set_cons_succ]
  generalize hQ : (fun (e : Exit) (a' : Act) (w' : World) => _) = Q
  have h0 := rec_neq
  have h1 := rec_assert er at_
  go_wp2
  have nl := blk_lt hn
  have el := blk_lt he
  have al := blk_lt ha
  obtain ⟨W, hW⟩ : ∃ W, w.alloc (.cells #[.int .i64 er, .int .i64 at_] 57) = W := ⟨_, rfl⟩
  have hbW : Below w.heap.size w W := by rw [← hW]; exact (Below.refl _ _).alloc (Nat.le_refl _) _
  have hf : W.heap[w.heap.size]? = some (.cells #[.int .i64 er, .int .i64 at_] 57 (0, 0)) := by rw [← hW]; exact World.alloc_heap_new w _
  have hn' := blk_below hn hbW
  have he' := blk_below he hbW
  have ha' := blk_below ha hbW
  rw [hW]
  clear hW
  have HB := Lib.hid hbW
  clear hbW
  generalize w.heap.size = F at *
  have f1 : ¬ n = F := by omega
  have f2 : ¬ e = F := by omega
  have f3 : ¬ a = F := by omega
  have f4 : ¬ F = n := by omega
  have f5 : ¬ F = e := by omega
  have f6 : ¬ F = a := by omega
  have f7 : ¬ e = n := Ne.symm hne
  have f8 : ¬ a = n := Ne.symm hna
  have f9 : ¬ a = e := Ne.symm hea
  have n0 : W.cell? ⟨n, 0, none⟩ = some c0 := blk_cell hn' 0
  have n1 : W.cell? ⟨n, 1, none⟩ = some c1 := blk_cell hn' 1
  have n2 : W.cell? ⟨n, 2, none⟩ = some c2 := blk_cell hn' 2
  have n3 : W.cell? ⟨n, 3, none⟩ = some c3 := blk_cell hn' 3
  have n4 : W.cell? ⟨n, 4, none⟩ = some c4 := blk_cell hn' 4
  have n5 : W.cell? ⟨n, 5, none⟩ = some c5 := blk_cell hn' 5
  have nz := blk_frozen hn'
  have e0 : W.cell? ⟨e, 0, none⟩ = some ce := blk_cell he' 0
  have ez := blk_frozen he'
  have a0 : W.cell? ⟨a, 0, none⟩ = some ca := blk_cell ha' 0
  have az := blk_frozen ha'
  have g0 : W.cell? ⟨F, 0, none⟩ = some (.int .i64 er) := blk_cell hf 0
  have g1 : W.cell? ⟨F, 1, none⟩ = some (.int .i64 at_) := blk_cell hf 1
  go_region_held3 (fun w' => w'.cell? ⟨F, 0, none⟩ = some (.int .i64 er) ∧ w'.cell? ⟨F, 1, none⟩ = some (.int .i64 at_)) (go_keep) (fail)
  rw [← hQ]
  have hN := blk_set (blk_set (blk_set (blk_set (blk_set (blk_set hn' 0 (.int .i64 0)) 1 (.string ⟨#[]⟩)) 2 (.int .i64 0)) 3 (.int .i64 0)) 4 (.int .i64 0)) 5 (.slice none 0 0)
  refine ⟨rfl, _, rfl, .tuple #[], ?_, rfl, rfl, ?_, ?_, ?_, fun M h1 h2 h3 h4 => ?_⟩
  · simp [results, Tryz.results23]
  · exact blk_drew (blk_far (blk_far hN (p := ⟨e, 0, none⟩) hne _) (p := ⟨a, 0, none⟩) hna _)
  · exact blk_drew (blk_far (blk_set (blk_far (blk_far (blk_far (blk_far (blk_far (blk_far he' (p := ⟨n, 0, none⟩) f7 _) (p := ⟨n, 1, none⟩) f7 _) (p := ⟨n, 2, none⟩) f7 _) (p := ⟨n, 3, none⟩) f7 _) (p := ⟨n, 4, none⟩) f7 _) (p := ⟨n, 5, none⟩) f7 _) 0 (.int .i64 er)) (p := ⟨a, 0, none⟩) hea _)
  · exact blk_drew (blk_set (blk_far (blk_far (blk_far (blk_far (blk_far (blk_far (blk_far ha' (p := ⟨n, 0, none⟩) f8 _) (p := ⟨n, 1, none⟩) f8 _) (p := ⟨n, 2, none⟩) f8 _) (p := ⟨n, 3, none⟩) f8 _) (p := ⟨n, 4, none⟩) f8 _) (p := ⟨n, 5, none⟩) f8 _) (p := ⟨e, 0, none⟩) f9 _) 0 (.int .i64 at_))
  · exact (((((((((HB.out.mono h4).setCell (p := ⟨n, 0, none⟩) h1 _).setCell (p := ⟨n, 1, none⟩) h1 _).setCell (p := ⟨n, 2, none⟩) h1 _).setCell (p := ⟨n, 3, none⟩) h1 _).setCell (p := ⟨n, 4, none⟩) h1 _).setCell (p := ⟨n, 5, none⟩) h1 _).setCell (p := ⟨e, 0, none⟩) h2 _).setCell (p := ⟨a, 0, none⟩) h3 _).drew
end Go.Proofs.YtahjkibjcibpgaaGreatDoor.L
end
section
namespace Go.Proofs.YtahjkibjcibpgaaGreatDoor.L
open Go.RowKit Go.Shelf Go.Lib Go.Proofs.YtahjkibjcibpgaaGreatDoor.U
open Go.Proofs.YtahjkibjcibpgaaGreatDoorW Go.Proofs.YtahjkibjcibpgaaGreatDoorW.PrintWords Go.Proofs.YtahjkibjcibpgaaGreatDoorW.PrintLast
attribute [local go_sem] Oper.semAt_some
attribute [local go_sem ↓] Go.wp_at_zero Go.wp_at_succ
theorem firstL_kind (s : List UInt8) : (firstL s).1 ≤ 3 := by
  unfold firstL
  split
  · exact Nat.le_refl _
  · split
    · exact Nat.zero_le _
    · split
      · show 1 ≤ 3; decide
      · split
        · show 2 ≤ 3; decide
        · exact Nat.le_refl _
theorem Ch.len {s : List UInt8} {ts : List Tok} : ∀ {at_ : Nat}, Ch s at_ ts → at_ ≤ s.length → ts.length + at_ ≤ s.length := by
  induction ts with
  | nil => intro at_ h h2; simpa using h2
  | cons t ts ih =>
    intro at_ h _
    have hn := Ch.next h
    obtain ⟨h1, h2, h3, h4⟩ := h
    have hp := List.length_pos_iff.2 (okTok_ne h2)
    have hs := spaceL_le (s.drop (at_ + (firstL (s.drop at_)).2.length))
    rw [List.length_drop] at hs
    have := ih h4 (by omega)
    simp only [List.length_cons]
    omega
theorem Ch.small {s : List UInt8} {ts : List Tok} : ∀ {at_ : Nat}, Ch s at_ ts → ∀ t ∈ ts, t.kind ≤ 3 ∧ t.text.length ≤ 502 := by
  induction ts with
  | nil => intro _ _ t h; simp at h
  | cons a ts ih =>
    intro at_ h t ht
    obtain ⟨_, h2, h3, h4⟩ := h
    rcases List.mem_cons.1 ht with rfl | ht
    · rw [h3]
      refine ⟨firstL_kind _, ?_⟩
      have hl : (firstL (s.drop at_)).2.length ≤ 502 := by
        unfold okTok at h2
        simp only [Bool.and_eq_true, decide_eq_true_eq] at h2
        have := h2.2
        split at this <;> omega
      show (if (firstL (s.drop at_)).1 = 2 ∧ (firstL (s.drop at_)).2 ≠ [] then ((firstL (s.drop at_)).2.take ((firstL (s.drop at_)).2.length - 1)).drop 1 else (firstL (s.drop at_)).2).length ≤ 502
      split
      · rw [List.length_drop, List.length_take]; omega
      · exact hl
    · exact ih h4 t ht
theorem tokAt_of {T : List PTr.S41} {i : Nat} (h : i < T.length) : tokAt T i = T[i] := by
  unfold tokAt PTr.rd_T41
  rw [Int.toNat_natCast, List.getD_eq_getElem?_getD, List.getElem?_eq_getElem h]; rfl
theorem tokAt_out {T : List PTr.S41} {i : Nat} (h : T.length ≤ i) : tokAt T i = PTr.z41 := by
  unfold tokAt PTr.rd_T41
  rw [Int.toNat_natCast, List.getD_eq_getElem?_getD, List.getElem?_eq_none h]; rfl
theorem tk_of {s : List UInt8} {ts : List Tok} (h : Ch s (spaceL s) ts) (hl : s.length ≤ 65536) : Tk ((ts ++ [(⟨4, [], s.length⟩ : Tok)]).map toS) ts.length := by
  have hlen := Ch.len h (spaceL_le s)
  have hi : ∀ i (hi : i < ts.length), tokAt ((ts ++ [(⟨4, [], s.length⟩ : Tok)]).map toS) i = toS ts[i] := fun i hi => by
    rw [tokAt_of (by simp; omega)]
    simp [hi]
  have he : tokAt ((ts ++ [(⟨4, [], s.length⟩ : Tok)]).map toS) ts.length = toS ⟨4, [], s.length⟩ := by
    rw [tokAt_of (by simp)]
    simp
  refine ⟨⟨by simp, by rw [he]; rfl, fun i h1 => ?_⟩, by simp; omega, fun i => ?_⟩
  · rw [hi i h1]
    have := (Ch.small h ts[i] (List.getElem_mem _)).1
    show ((ts[i].kind : Nat) : Int) ≠ 4
    omega
  · rcases Nat.lt_trichotomy i ts.length with h1 | h1 | h1
    · rw [hi i h1]
      have := (Ch.small h ts[i] (List.getElem_mem _)).2
      show (⟨ts[i].text.toArray⟩ : ByteArray).size ≤ 65536
      rw [show (⟨ts[i].text.toArray⟩ : ByteArray).size = ts[i].text.length by simp [ByteArray.size]]
      omega
    · subst h1
      rw [he]; show (⟨([] : List UInt8).toArray⟩ : ByteArray).size ≤ 65536; decide
    · rw [tokAt_out (by simp; omega)]; decide
def PRes : PR (List PTr.S26) → PTr.S26 × Int × Int
  | .ok (l, _) => (⟨0, ⟨#[]⟩, ⟨0, 0⟩, 0, l⟩, 0, 0)
  | .error (e, a) => (PTr.z26, e, a)
def PFin (w : World) (x : PTr.S26 × Int × Int) (e : Ending) (w' : World) : Prop :=
  ∃ v5, e = .returned (.tuple #[nodeV x.1 v5, .int .i64 x.2.1, .int .i64 x.2.2]) ∧ PTr.k26.R 26 w' w.heap.size (fun _ => True) v5 x.1.f4 ∧ Below w.heap.size w w'
theorem results12 {W : World} {tmps : Array Value} {n e a : Nat} {cn : Array Value} {x y : Int} (hs : cn.size = 6) (h2 : tmps.getD 2 undef = .pointer (some ⟨n, 0, none⟩)) (h3 : tmps.getD 3 undef = .pointer (some ⟨e, 0, none⟩)) (h4 : tmps.getD 4 undef = .pointer (some ⟨a, 0, none⟩))
    (hn : W.heap[n]? = some (.cells cn 26 (0, 0))) (he : W.heap[e]? = some (.cells #[.int .i64 x] 31 (0, 0))) (ha : W.heap[a]? = some (.cells #[.int .i64 y] 3 (0, 0))) :
    (results Tryz.f12 tmps).run Tryz.prog W = .ok (.tuple #[.agg cn, .int .i64 x, .int .i64 y]) W := by
  obtain ⟨c0, c1, c2, c3, c4, c5, rfl⟩ : ∃ c0 c1 c2 c3 c4 c5, cn = #[c0, c1, c2, c3, c4, c5] := by
    match cn, hs with
    | ⟨[c0, c1, c2, c3, c4, c5]⟩, _ => exact ⟨c0, c1, c2, c3, c4, c5, rfl⟩
  have n0 : W.cell? ⟨n, 0, none⟩ = some c0 := blk_cell hn 0
  have n1 : W.cell? ⟨n, 0 + 1, none⟩ = some c1 := blk_cell hn 1
  have n2 : W.cell? ⟨n, 0 + 1 + 1, none⟩ = some c2 := blk_cell hn 2
  have n3 : W.cell? ⟨n, 0 + 1 + 1 + 1, none⟩ = some c3 := blk_cell hn 3
  have n4 : W.cell? ⟨n, 0 + 1 + 1 + 1 + 1, none⟩ = some c4 := blk_cell hn 4
  have n5 : W.cell? ⟨n, 0 + 1 + 1 + 1 + 1 + 1, none⟩ = some c5 := blk_cell hn 5
  have e0 : W.cell? ⟨e, 0, none⟩ = some (.int .i64 x) := blk_cell he 0
  have a0 : W.cell? ⟨a, 0, none⟩ = some (.int .i64 y) := blk_cell ha 0
  simp only [Array.getD_eq_getD_getElem?] at h2 h3 h4
  simp [results, Tryz.f12, go_sem, h2, h3, h4, n0, n1, n2, n3, n4, n5, e0, a0]
abbrev W3 (w : World) : World := ((w.alloc (.cells zero26 26)).alloc (.cells #[.int .i64 0] 31)).alloc (.cells #[.int .i64 0] 3)
theorem boxes3 (w : World) : Below w.heap.size w (W3 w) ∧ (W3 w).heap[w.heap.size]? = some (.cells zero26 26 (0, 0)) ∧ (W3 w).heap[w.heap.size + 1]? = some (.cells #[.int .i64 0] 31 (0, 0)) ∧ (W3 w).heap[w.heap.size + 1 + 1]? = some (.cells #[.int .i64 0] 3 (0, 0)) ∧ (W3 w).heap.size = w.heap.size + 1 + 1 + 1 := by
  refine ⟨below_alloc (below_alloc (below_alloc (Below.refl _ _) _) _) _, blk_alloc (blk_alloc (blk_new w _) _) _, ?_, ?_, by simp⟩
  · have := blk_alloc (blk_new (w.alloc (.cells zero26 26)) (.cells #[.int .i64 0] 31)) (.cells #[.int .i64 0] 3)
    rw [World.size_alloc] at this
    exact this
  · have := blk_new ((w.alloc (.cells zero26 26)).alloc (.cells #[.int .i64 0] 31)) (.cells #[.int .i64 0] 3)
    rw [World.size_alloc, World.size_alloc] at this
    exact this
set_option maxRecDepth 100000 in
set_option maxHeartbeats 400000 in
theorem parse_scan (s : ByteArray) (er at_ : Nat) (hs : (scanL s.data.toList).2 = (er, at_)) (h1 : (scanL s.data.toList).1 = []) (he : er ≠ 0) (w : World) (hg : UW w) :
    Calls Tryz.prog 12 #[.string s] w (PFin w (PTr.z26, (er : Nat), (at_ : Nat))) := by
  have hmf : ∀ (fn : Fn) (first cap : Array Value) (w : World), (Instr.makeFunc fn first cap).run Tryz.prog w = .ok (.func fn first cap) w := fun _ _ _ _ => rfl
  have hsc : Ex.lex_Scan.f s = some (([] : List PTr.S41), ((er : Nat) : Int), ((at_ : Nat) : Int)) := by
    unfold Ex.lex_Scan.f
    rw [h1, hs]; rfl
  have HS := Lib.hid hsc
  have hne2 : (((er : Nat) : Int) != 0) = true := by simpa using he
  have HG := Lib.hid hg
  clear hsc hs h1 he hg
  have H3 := Lib.hid (boxes3 w)
  go_enter_defers Tryz.func12, Tryz.ntmps12
  go_wp2_with (first
    | (go_at_call 14; go_loud (refine (Ex.lex_Scan.calls s _ _ _ (W3 w) (HG.out.step H3.out.1) HS.out).mono ?_; rintro e w1 ⟨v0, rfl, hR, hb⟩; have hn := blk_below H3.out.2.1 hb; have he := blk_below H3.out.2.2.1 hb; have ha := blk_below H3.out.2.2.2.1 hb; have HN := Lib.hid hn; have HE := Lib.hid he; have HA := Lib.hid ha; have HB := Lib.hid (below_step H3.out.1 hb); have n0 : w1.cell? ⟨w.heap.size, 0, none⟩ = some (.int .i64 0) := blk_cell hn 0; have n1 : w1.cell? ⟨w.heap.size, 1, none⟩ = some (.string ⟨#[]⟩) := blk_cell hn 1; have n2 : w1.cell? ⟨w.heap.size, 2, none⟩ = some (.int .i64 0) := blk_cell hn 2; have n3 : w1.cell? ⟨w.heap.size, 3, none⟩ = some (.int .i64 0) := blk_cell hn 3; have n4 : w1.cell? ⟨w.heap.size, 4, none⟩ = some (.int .i64 0) := blk_cell hn 4; have n5 : w1.cell? ⟨w.heap.size, 5, none⟩ = some (.slice none 0 0) := blk_cell hn 5; have nz := blk_frozen hn; have e0 : w1.cell? ⟨w.heap.size + 1, 0, none⟩ = some (.int .i64 0) := blk_cell he 0; have ez := blk_frozen he; have a0 : w1.cell? ⟨w.heap.size + 1 + 1, 0, none⟩ = some (.int .i64 0) := blk_cell ha 0; have az := blk_frozen ha; clear hn he ha hR hb)))
  have HB2 : Below w.heap.size w ((w1.setCell ⟨w.heap.size + 1, 0, none⟩ (.int .i64 (er : Int))).setCell ⟨w.heap.size + 1 + 1, 0, none⟩ (.int .i64 (at_ : Int))) := (HB.out.setCell (p := ⟨w.heap.size + 1, 0, none⟩) (by simp) _).setCell (p := ⟨w.heap.size + 1 + 1, 0, none⟩) (by simp; omega) _
  have hN2 := blk_far (blk_far HN.out (p := ⟨w.heap.size + 1, 0, none⟩) (by simp) (.int .i64 (er : Int))) (p := ⟨w.heap.size + 1 + 1, 0, none⟩) (by simp; omega) (.int .i64 (at_ : Int))
  have hE2 := blk_far (blk_set HE.out 0 (.int .i64 (er : Int))) (p := ⟨w.heap.size + 1 + 1, 0, none⟩) (by simp) (.int .i64 (at_ : Int))
  have hA2 := blk_set (blk_far HA.out (p := ⟨w.heap.size + 1, 0, none⟩) (by simp) (.int .i64 (er : Int))) 0 (.int .i64 (at_ : Int))
  generalize (w1.setCell ⟨w.heap.size + 1, 0, none⟩ (.int .i64 (er : Int))).setCell ⟨w.heap.size + 1 + 1, 0, none⟩ (.int .i64 (at_ : Int)) = W at *
  clear n0 n1 n2 n3 n4 n5 nz e0 ez a0 az HN HE HA HB
  have n0 : W.cell? ⟨w.heap.size, 0, none⟩ = some (.int .i64 0) := blk_cell hN2 0
  have n1 : W.cell? ⟨w.heap.size, 1, none⟩ = some (.string ⟨#[]⟩) := blk_cell hN2 1
  have n2 : W.cell? ⟨w.heap.size, 2, none⟩ = some (.int .i64 0) := blk_cell hN2 2
  have n3 : W.cell? ⟨w.heap.size, 3, none⟩ = some (.int .i64 0) := blk_cell hN2 3
  have n4 : W.cell? ⟨w.heap.size, 4, none⟩ = some (.int .i64 0) := blk_cell hN2 4
  have n5 : W.cell? ⟨w.heap.size, 5, none⟩ = some (.slice none 0 0) := blk_cell hN2 5
  have nz := blk_frozen hN2
  have e0 : W.cell? ⟨w.heap.size + 1, 0, none⟩ = some (.int .i64 (er : Int)) := blk_cell hE2 0
  have ez := blk_frozen hE2
  have a0 : W.cell? ⟨w.heap.size + 1 + 1, 0, none⟩ = some (.int .i64 (at_ : Int)) := blk_cell hA2 0
  have az := blk_frozen hA2
  have f1 : ¬ w.heap.size = w.heap.size + 1 := by omega
  have f2 : ¬ w.heap.size = w.heap.size + 1 + 1 := by omega
  have HB3 := Lib.hid HB2
  clear HB2
  have hE3 : ((((((W.drew.setCell ⟨w.heap.size, 0, none⟩ (.int .i64 0)).setCell ⟨w.heap.size, 1, none⟩ (.string ⟨#[]⟩)).setCell ⟨w.heap.size, 2, none⟩ (.int .i64 0)).setCell ⟨w.heap.size, 3, none⟩ (.int .i64 0)).setCell ⟨w.heap.size, 4, none⟩ (.int .i64 0)).setCell ⟨w.heap.size, 5, none⟩ (.slice none 0 0)).heap[w.heap.size + 1]? = some (.cells #[.int .i64 (er : Int)] 31 (0, 0)) := (blk_far (blk_far (blk_far (blk_far (blk_far (blk_far (blk_drew hE2) (p := ⟨w.heap.size, 0, none⟩) (by simp) _) (p := ⟨w.heap.size, 1, none⟩) (by simp) _) (p := ⟨w.heap.size, 2, none⟩) (by simp) _) (p := ⟨w.heap.size, 3, none⟩) (by simp) _) (p := ⟨w.heap.size, 4, none⟩) (by simp) _) (p := ⟨w.heap.size, 5, none⟩) (by simp) _)
  have hA3 : ((((((W.drew.setCell ⟨w.heap.size, 0, none⟩ (.int .i64 0)).setCell ⟨w.heap.size, 1, none⟩ (.string ⟨#[]⟩)).setCell ⟨w.heap.size, 2, none⟩ (.int .i64 0)).setCell ⟨w.heap.size, 3, none⟩ (.int .i64 0)).setCell ⟨w.heap.size, 4, none⟩ (.int .i64 0)).setCell ⟨w.heap.size, 5, none⟩ (.slice none 0 0)).heap[w.heap.size + 1 + 1]? = some (.cells #[.int .i64 (at_ : Int)] 3 (0, 0)) := (blk_far (blk_far (blk_far (blk_far (blk_far (blk_far (blk_drew hA2) (p := ⟨w.heap.size, 0, none⟩) (by simp; omega) _) (p := ⟨w.heap.size, 1, none⟩) (by simp; omega) _) (p := ⟨w.heap.size, 2, none⟩) (by simp; omega) _) (p := ⟨w.heap.size, 3, none⟩) (by simp; omega) _) (p := ⟨w.heap.size, 4, none⟩) (by simp; omega) _) (p := ⟨w.heap.size, 5, none⟩) (by simp; omega) _)
  have hN3 : ((((((W.drew.setCell ⟨w.heap.size, 0, none⟩ (.int .i64 0)).setCell ⟨w.heap.size, 1, none⟩ (.string ⟨#[]⟩)).setCell ⟨w.heap.size, 2, none⟩ (.int .i64 0)).setCell ⟨w.heap.size, 3, none⟩ (.int .i64 0)).setCell ⟨w.heap.size, 4, none⟩ (.int .i64 0)).setCell ⟨w.heap.size, 5, none⟩ (.slice none 0 0)).heap[w.heap.size]? = some (.cells zero26 26 (0, 0)) := (blk_set (blk_set (blk_set (blk_set (blk_set (blk_set (blk_drew hN2) 0 _) 1 _) 2 _) 3 _) 4 _) 5 _)
  have hE4 : (((((((W.drew.setCell ⟨w.heap.size, 0, none⟩ (.int .i64 0)).setCell ⟨w.heap.size, 1, none⟩ (.string ⟨#[]⟩)).setCell ⟨w.heap.size, 2, none⟩ (.int .i64 0)).setCell ⟨w.heap.size, 3, none⟩ (.int .i64 0)).setCell ⟨w.heap.size, 4, none⟩ (.int .i64 0)).setCell ⟨w.heap.size, 5, none⟩ (.slice none 0 0)).setCell ⟨w.heap.size + 1, 0, none⟩ (.int .i64 (er : Int))).heap[w.heap.size + 1]? = some (.cells #[.int .i64 (er : Int)] 31 (0, 0)) := blk_set hE3 0 _
  have hA4 : (((((((W.drew.setCell ⟨w.heap.size, 0, none⟩ (.int .i64 0)).setCell ⟨w.heap.size, 1, none⟩ (.string ⟨#[]⟩)).setCell ⟨w.heap.size, 2, none⟩ (.int .i64 0)).setCell ⟨w.heap.size, 3, none⟩ (.int .i64 0)).setCell ⟨w.heap.size, 4, none⟩ (.int .i64 0)).setCell ⟨w.heap.size, 5, none⟩ (.slice none 0 0)).setCell ⟨w.heap.size + 1, 0, none⟩ (.int .i64 (er : Int))).heap[w.heap.size + 1 + 1]? = some (.cells #[.int .i64 (at_ : Int)] 3 (0, 0)) := blk_far hA3 (p := ⟨w.heap.size + 1, 0, none⟩) (by simp) _
  have hN4 : (((((((W.drew.setCell ⟨w.heap.size, 0, none⟩ (.int .i64 0)).setCell ⟨w.heap.size, 1, none⟩ (.string ⟨#[]⟩)).setCell ⟨w.heap.size, 2, none⟩ (.int .i64 0)).setCell ⟨w.heap.size, 3, none⟩ (.int .i64 0)).setCell ⟨w.heap.size, 4, none⟩ (.int .i64 0)).setCell ⟨w.heap.size, 5, none⟩ (.slice none 0 0)).setCell ⟨w.heap.size + 1, 0, none⟩ (.int .i64 (er : Int))).heap[w.heap.size]? = some (.cells zero26 26 (0, 0)) := blk_far hN3 (p := ⟨w.heap.size + 1, 0, none⟩) (by simp) _
  have hE5 : ((((((((W.drew.setCell ⟨w.heap.size, 0, none⟩ (.int .i64 0)).setCell ⟨w.heap.size, 1, none⟩ (.string ⟨#[]⟩)).setCell ⟨w.heap.size, 2, none⟩ (.int .i64 0)).setCell ⟨w.heap.size, 3, none⟩ (.int .i64 0)).setCell ⟨w.heap.size, 4, none⟩ (.int .i64 0)).setCell ⟨w.heap.size, 5, none⟩ (.slice none 0 0)).setCell ⟨w.heap.size + 1, 0, none⟩ (.int .i64 (er : Int))).setCell ⟨w.heap.size + 1 + 1, 0, none⟩ (.int .i64 (at_ : Int))).heap[w.heap.size + 1]? = some (.cells #[.int .i64 (er : Int)] 31 (0, 0)) := blk_far hE4 (p := ⟨w.heap.size + 1 + 1, 0, none⟩) (by simp) _
  have hA5 : ((((((((W.drew.setCell ⟨w.heap.size, 0, none⟩ (.int .i64 0)).setCell ⟨w.heap.size, 1, none⟩ (.string ⟨#[]⟩)).setCell ⟨w.heap.size, 2, none⟩ (.int .i64 0)).setCell ⟨w.heap.size, 3, none⟩ (.int .i64 0)).setCell ⟨w.heap.size, 4, none⟩ (.int .i64 0)).setCell ⟨w.heap.size, 5, none⟩ (.slice none 0 0)).setCell ⟨w.heap.size + 1, 0, none⟩ (.int .i64 (er : Int))).setCell ⟨w.heap.size + 1 + 1, 0, none⟩ (.int .i64 (at_ : Int))).heap[w.heap.size + 1 + 1]? = some (.cells #[.int .i64 (at_ : Int)] 3 (0, 0)) := blk_set hA4 0 _
  have hN5 : ((((((((W.drew.setCell ⟨w.heap.size, 0, none⟩ (.int .i64 0)).setCell ⟨w.heap.size, 1, none⟩ (.string ⟨#[]⟩)).setCell ⟨w.heap.size, 2, none⟩ (.int .i64 0)).setCell ⟨w.heap.size, 3, none⟩ (.int .i64 0)).setCell ⟨w.heap.size, 4, none⟩ (.int .i64 0)).setCell ⟨w.heap.size, 5, none⟩ (.slice none 0 0)).setCell ⟨w.heap.size + 1, 0, none⟩ (.int .i64 (er : Int))).setCell ⟨w.heap.size + 1 + 1, 0, none⟩ (.int .i64 (at_ : Int))).heap[w.heap.size]? = some (.cells zero26 26 (0, 0)) := blk_far hN4 (p := ⟨w.heap.size + 1 + 1, 0, none⟩) (by simp; omega) _
  have hS3 : ((((((W.drew.setCell ⟨w.heap.size, 0, none⟩ (.int .i64 0)).setCell ⟨w.heap.size, 1, none⟩ (.string ⟨#[]⟩)).setCell ⟨w.heap.size, 2, none⟩ (.int .i64 0)).setCell ⟨w.heap.size, 3, none⟩ (.int .i64 0)).setCell ⟨w.heap.size, 4, none⟩ (.int .i64 0)).setCell ⟨w.heap.size, 5, none⟩ (.slice none 0 0)).cell? ⟨w.heap.size + 1, 0, none⟩ = some (.int .i64 (er : Int)) ∧ ((((((W.drew.setCell ⟨w.heap.size, 0, none⟩ (.int .i64 0)).setCell ⟨w.heap.size, 1, none⟩ (.string ⟨#[]⟩)).setCell ⟨w.heap.size, 2, none⟩ (.int .i64 0)).setCell ⟨w.heap.size, 3, none⟩ (.int .i64 0)).setCell ⟨w.heap.size, 4, none⟩ (.int .i64 0)).setCell ⟨w.heap.size, 5, none⟩ (.slice none 0 0)).cell? ⟨w.heap.size + 1 + 1, 0, none⟩ = some (.int .i64 (at_ : Int)) := ⟨blk_cell hE3 0, blk_cell hA3 0⟩
  have hS4 : (((((((W.drew.setCell ⟨w.heap.size, 0, none⟩ (.int .i64 0)).setCell ⟨w.heap.size, 1, none⟩ (.string ⟨#[]⟩)).setCell ⟨w.heap.size, 2, none⟩ (.int .i64 0)).setCell ⟨w.heap.size, 3, none⟩ (.int .i64 0)).setCell ⟨w.heap.size, 4, none⟩ (.int .i64 0)).setCell ⟨w.heap.size, 5, none⟩ (.slice none 0 0)).setCell ⟨w.heap.size + 1, 0, none⟩ (.int .i64 (er : Int))).cell? ⟨w.heap.size + 1, 0, none⟩ = some (.int .i64 (er : Int)) ∧ (((((((W.drew.setCell ⟨w.heap.size, 0, none⟩ (.int .i64 0)).setCell ⟨w.heap.size, 1, none⟩ (.string ⟨#[]⟩)).setCell ⟨w.heap.size, 2, none⟩ (.int .i64 0)).setCell ⟨w.heap.size, 3, none⟩ (.int .i64 0)).setCell ⟨w.heap.size, 4, none⟩ (.int .i64 0)).setCell ⟨w.heap.size, 5, none⟩ (.slice none 0 0)).setCell ⟨w.heap.size + 1, 0, none⟩ (.int .i64 (er : Int))).cell? ⟨w.heap.size + 1 + 1, 0, none⟩ = some (.int .i64 (at_ : Int)) := ⟨blk_cell hE4 0, blk_cell hA4 0⟩
  have HF3 := Lib.hid (blk_frozen hE3)
  have HF4 := Lib.hid (blk_frozen hA4)
  have HE5 := Lib.hid hE5
  have HA5 := Lib.hid hA5
  have HN5 := Lib.hid hN5
  have HS3 := Lib.hid hS3
  have HS4 := Lib.hid hS4
  clear hN2 hE2 hA2 hE3 hA3 hN3 hE4 hA4 hN4 hE5 hA5 hN5 hS3 hS4
  have HB4 : Below w.heap.size w (((((((W.drew.setCell ⟨w.heap.size, 0, none⟩ (.int .i64 0)).setCell ⟨w.heap.size, 1, none⟩ (.string ⟨#[]⟩)).setCell ⟨w.heap.size, 2, none⟩ (.int .i64 0)).setCell ⟨w.heap.size, 3, none⟩ (.int .i64 0)).setCell ⟨w.heap.size, 4, none⟩ (.int .i64 0)).setCell ⟨w.heap.size, 5, none⟩ (.slice none 0 0)).setCell ⟨w.heap.size + 1, 0, none⟩ (.int .i64 (er : Int))) := ((((((HB3.out.drew.setCell (p := ⟨w.heap.size, 0, none⟩) (by simp) _).setCell (p := ⟨w.heap.size, 1, none⟩) (by simp) _).setCell (p := ⟨w.heap.size, 2, none⟩) (by simp) _).setCell (p := ⟨w.heap.size, 3, none⟩) (by simp) _).setCell (p := ⟨w.heap.size, 4, none⟩) (by simp) _).setCell (p := ⟨w.heap.size, 5, none⟩) (by simp) _).setCell (p := ⟨w.heap.size + 1, 0, none⟩) (by simp) _
  clear HB3
  refine wp_region_noPanic ?_
  refine start_ (n := 6) (S := fun w' => w'.cell? ⟨w.heap.size + 1, 0, none⟩ = some (.int .i64 (er : Int)) ∧ w'.cell? ⟨w.heap.size + 1 + 1, 0, none⟩ = some (.int .i64 (at_ : Int))) (ds := [5]) #[false, false, false, false, false, false] (by kernel_rfl) rfl rfl ⟨e0, a0⟩ ?_
  intro hHeld
  refine pure_ (i := 0) (N := some 15) (v := ?_) (a' := ?_) #[true, false, false, false, false, false] rfl rfl (by kernel_rfl) (fun _ _ _ h => h) (Or.inl ⟨by rfl, ?_⟩) ?_ ?_
  rotate_left
  · intro w'
    go_simp
    with_reducible rfl
  rotate_left
  · simp only [Act.put, List.setIfInBounds_toArray, List.set_cons_zero, List.set_cons_succ]
    rfl
  refine take_ (i := 1) (N := some 16) (v := ?_) (a' := ?_) #[true, true, false, false, false, false] rfl rfl (by kernel_rfl) (fun _ _ _ h => h) (Or.inl ⟨by rfl, ?_⟩) hHeld ?_ ?_
  rotate_left
  · intro w' s0
    obtain ⟨s1, s2⟩ := s0
    go_simp
    with_reducible rfl
  rotate_left
  · simp only [Act.put, List.setIfInBounds_toArray, List.set_cons_zero, List.set_cons_succ]
    rfl
  refine take_ (i := 2) (N := some 17) (v := ?_) (a' := ?_) #[true, true, true, false, false, false] rfl rfl (by kernel_rfl) (fun _ _ _ h => h) (Or.inl ⟨by rfl, ?_⟩) hHeld ?_ ?_
  rotate_left
  · intro w' s0
    obtain ⟨s1, s2⟩ := s0
    go_simp
    with_reducible rfl
  rotate_left
  · simp only [Act.put, List.setIfInBounds_toArray, List.set_cons_zero, List.set_cons_succ]
    rfl
  refine one_ (i := 3) (N := none) #[true, true, true, true, false, false] rfl rfl (by kernel_rfl) (by decide) (fun K hK => ?_)
  refine skip_ (by rfl) rfl (w1 := ((((((W.drew.setCell ⟨w.heap.size, 0, none⟩ (.int .i64 0)).setCell ⟨w.heap.size, 1, none⟩ (.string ⟨#[]⟩)).setCell ⟨w.heap.size, 2, none⟩ (.int .i64 0)).setCell ⟨w.heap.size, 3, none⟩ (.int .i64 0)).setCell ⟨w.heap.size, 4, none⟩ (.int .i64 0)).setCell ⟨w.heap.size, 5, none⟩ (.slice none 0 0))) ?_ ?_
  · go_simp
  refine hK _ _ HS3.out (fun hHeld => ?_)
  clear hK K
  generalize ((((((W.drew.setCell ⟨w.heap.size, 0, none⟩ (.int .i64 0)).setCell ⟨w.heap.size, 1, none⟩ (.string ⟨#[]⟩)).setCell ⟨w.heap.size, 2, none⟩ (.int .i64 0)).setCell ⟨w.heap.size, 3, none⟩ (.int .i64 0)).setCell ⟨w.heap.size, 4, none⟩ (.int .i64 0)).setCell ⟨w.heap.size, 5, none⟩ (.slice none 0 0)) = X3 at *
  refine one_ (i := 4) (N := none) #[true, true, true, true, true, false] rfl rfl (by kernel_rfl) (by decide) (fun K hK => ?_)
  refine skip_ (by rfl) rfl (w1 := (X3.setCell ⟨w.heap.size + 1, 0, none⟩ (.int .i64 (er : Int)))) ?_ ?_
  · go_simp
    exact HF3.out 0
  refine hK _ _ HS4.out (fun hHeld => ?_)
  clear hK K
  generalize (X3.setCell ⟨w.heap.size + 1, 0, none⟩ (.int .i64 (er : Int))) = X4 at *
  have HB6 := Lib.hid HB4
  clear HB4
  refine last_ (i := 5) (N := none) #[true, true, true, true, true, true] rfl rfl (by kernel_rfl) (by decide) (fun K hK => ?_)
  refine skip_ (by rfl) rfl (w1 := (X4.setCell ⟨w.heap.size + 1 + 1, 0, none⟩ (.int .i64 (at_ : Int)))) ?_ ?_
  · go_simp
    exact HF4.out 0
  refine hK _ _ (done_ (by kernel_rfl) ?_)
  clear hK K
  refine NoPanic.normal ?_
  have HB5 : Below w.heap.size w (X4.setCell ⟨w.heap.size + 1 + 1, 0, none⟩ (.int .i64 (at_ : Int))) := HB6.out.setCell (p := ⟨w.heap.size + 1 + 1, 0, none⟩) (by simp; omega) _
  go_wp2
  exact ⟨_, results12 (by decide) rfl rfl rfl HN5.out HE5.out HA5.out, .slice none 0 0, rfl, PTr.k26.R_nil _ _ _ _, HB5⟩
end Go.Proofs.YtahjkibjcibpgaaGreatDoor.L
end
