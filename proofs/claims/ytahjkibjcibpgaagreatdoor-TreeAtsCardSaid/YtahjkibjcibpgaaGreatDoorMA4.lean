/- What this claim's texts prove on the way, joined by program (wip/tools/merge.py), without what no text of the claim names. -/
import Derived.Test.YtahjkibjcibpgaaGreatDoorMA3
import Derived.Shelf.Strings.BuilderK
section
namespace Go.Proofs.YtahjkibjcibpgaaGreatDoor.PTr
open Go.RowKit Go.Proofs.YtahjkibjcibpgaaGreatDoorW.Sq Go.Proofs.YtahjkibjcibpgaaGreatDoorW.PrintWords Go.Proofs.YtahjkibjcibpgaaGreatDoorW.PrintLast Go.Proofs.YtahjkibjcibpgaaGreatDoorW.PrintMore
attribute [local go_sem] max2_int min2_int max_two min_two max_three min_three max_four min_four   -- for this text's walks alone
set_option linter.unusedVariables false
set_option linter.unusedSimpArgs false
mutual
def bournelaw15_placed.l0 : Nat → ByteArray → Int → Int → Int → ByteArray → Int → Int → Int → List (S26) → Option (Int × Bool)
  | 0, _, _, _, _, _, _, _, _, _ => none
  | k + 1, x0, x2, x8, x297000, x297001, x297002, x297003, x297004, x297005 => if x8 < (x297005.length : Int) then (if 0 ≤ x8 then (if ((rd_T26 x297005 x8).f0) = 4 then (if 1 + ((rd_T26 x297005 x8).f1).size ≤ 9223372036854775807 then (if ((⟨#[34]⟩ : ByteArray) ++ ((rd_T26 x297005 x8).f1)).size + 1 ≤ 9223372036854775807 then (bournelaw15_placed.j1 k x0 x2 x8 (((⟨#[34]⟩ : ByteArray) ++ ((rd_T26 x297005 x8).f1)) ++ (⟨#[34]⟩ : ByteArray)) x297000 x297001 x297002 x297003 x297004 x297005 ((rd_T26 x297005 x8).f0) ((rd_T26 x297005 x8).f1) ((rd_T26 x297005 x8).f2.f0) ((rd_T26 x297005 x8).f2.f1) ((rd_T26 x297005 x8).f3) ((rd_T26 x297005 x8).f4)) else (none)) else (none)) else (bournelaw15_placed.j1 k x0 x2 x8 ((rd_T26 x297005 x8).f1) x297000 x297001 x297002 x297003 x297004 x297005 ((rd_T26 x297005 x8).f0) ((rd_T26 x297005 x8).f1) ((rd_T26 x297005 x8).f2.f0) ((rd_T26 x297005 x8).f2.f1) ((rd_T26 x297005 x8).f3) ((rd_T26 x297005 x8).f4))) else (none)) else (some (x2, true))
def bournelaw15_placed.j1 : Nat → ByteArray → Int → Int → ByteArray → Int → ByteArray → Int → Int → Int → List (S26) → Int → ByteArray → Int → Int → Int → List (S26) → Option (Int × Bool)
  | 0, _, _, _, _, _, _, _, _, _, _, _, _, _, _, _, _ => none
  | k + 1, x0, x2, x8, x10, x297000, x297001, x297002, x297003, x297004, x297005, x299000, x299001, x299002, x299003, x299004, x299005 => if x299000 = 6 then (bournelaw15_placed.j2 k x0 x2 x8 (⟨#[40]⟩ : ByteArray) x297000 x297001 x297002 x297003 x297004 x297005 x299000 x299001 x299002 x299003 x299004 x299005) else (bournelaw15_placed.j2 k x0 x2 x8 x10 x297000 x297001 x297002 x297003 x297004 x297005 x299000 x299001 x299002 x299003 x299004 x299005)
def bournelaw15_placed.j2 : Nat → ByteArray → Int → Int → ByteArray → Int → ByteArray → Int → Int → Int → List (S26) → Int → ByteArray → Int → Int → Int → List (S26) → Option (Int × Bool)
  | 0, _, _, _, _, _, _, _, _, _, _, _, _, _, _, _, _ => none
  | k + 1, x0, x2, x8, x10, x297000, x297001, x297002, x297003, x297004, x297005, x299000, x299001, x299002, x299003, x299004, x299005 => if x299004 < x2 then (bournelaw15_placed.j3 k x0 x8 true x297000 x297001 x297002 x297003 x297004 x297005 x299000 x299001 x299002 x299003 x299004 x299005) else ((bournelaw15_begins.f x0 x299004 x10).bind fun t299 => (if t299 = true then (if x299000 = 5 then (if x299004 ≥ (x0.size : Int) then (bournelaw15_placed.j3 k x0 x8 true x297000 x297001 x297002 x297003 x297004 x297005 x299000 x299001 x299002 x299003 x299004 x299005) else (if 0 ≤ x299004 then (if x299004 < (x0.size : Int) then (if (bt x0 x299004) < 48 then (bournelaw15_placed.j3 k x0 x8 true x297000 x297001 x297002 x297003 x297004 x297005 x299000 x299001 x299002 x299003 x299004 x299005) else (bournelaw15_placed.j3 k x0 x8 (decide ((bt x0 x299004) > 57)) x297000 x297001 x297002 x297003 x297004 x297005 x299000 x299001 x299002 x299003 x299004 x299005)) else (none)) else (none))) else (bournelaw15_placed.j3 k x0 x8 false x297000 x297001 x297002 x297003 x297004 x297005 x299000 x299001 x299002 x299003 x299004 x299005)) else (bournelaw15_placed.j3 k x0 x8 true x297000 x297001 x297002 x297003 x297004 x297005 x299000 x299001 x299002 x299003 x299004 x299005)))
def bournelaw15_placed.j3 : Nat → ByteArray → Int → Bool → Int → ByteArray → Int → Int → Int → List (S26) → Int → ByteArray → Int → Int → Int → List (S26) → Option (Int × Bool)
  | 0, _, _, _, _, _, _, _, _, _, _, _, _, _, _, _ => none
  | k + 1, x0, x8, x74, x297000, x297001, x297002, x297003, x297004, x297005, x299000, x299001, x299002, x299003, x299004, x299005 => if x74 = true then (some (0, false)) else ((bournelaw15_placed.f k x0 x299000 x299001 x299002 x299003 x299004 x299005 (wrap64 (x299004 + 1))).bind fun bt300 => (if bt300.2 = true then (bournelaw15_placed.l0 k x0 bt300.1 (wrap64 (x8 + 1)) x297000 x297001 x297002 x297003 x297004 x297005) else (some (0, false))))
def bournelaw15_placed.f : Nat → ByteArray → Int → ByteArray → Int → Int → Int → List (S26) → Int → Option (Int × Bool)
  | 0, _, _, _, _, _, _, _, _ => none
  | k + 1, a0, a1_0, a1_1, a1_2, a1_3, a1_4, l1_5, a2 => bournelaw15_placed.l0 k a0 a2 0 a1_0 a1_1 a1_2 a1_3 a1_4 l1_5
end
theorem bournelaw15_placed.mono_l : ∀ k, (∀ y0 y1 y2 y3 y4 y5 y6 y7, LeO (bournelaw15_placed.f k y0 y1 y2 y3 y4 y5 y6 y7) (bournelaw15_placed.f (k + 1) y0 y1 y2 y3 y4 y5 y6 y7)) ∧ (∀ y0 y1 y2 y3 y4 y5 y6 y7 y8, LeO (bournelaw15_placed.l0 k y0 y1 y2 y3 y4 y5 y6 y7 y8) (bournelaw15_placed.l0 (k + 1) y0 y1 y2 y3 y4 y5 y6 y7 y8)) ∧ (∀ y0 y1 y2 y3 y4 y5 y6 y7 y8 y9 y10 y11 y12 y13 y14 y15, LeO (bournelaw15_placed.j1 k y0 y1 y2 y3 y4 y5 y6 y7 y8 y9 y10 y11 y12 y13 y14 y15) (bournelaw15_placed.j1 (k + 1) y0 y1 y2 y3 y4 y5 y6 y7 y8 y9 y10 y11 y12 y13 y14 y15)) ∧ (∀ y0 y1 y2 y3 y4 y5 y6 y7 y8 y9 y10 y11 y12 y13 y14 y15, LeO (bournelaw15_placed.j2 k y0 y1 y2 y3 y4 y5 y6 y7 y8 y9 y10 y11 y12 y13 y14 y15) (bournelaw15_placed.j2 (k + 1) y0 y1 y2 y3 y4 y5 y6 y7 y8 y9 y10 y11 y12 y13 y14 y15)) ∧ (∀ y0 y1 y2 y3 y4 y5 y6 y7 y8 y9 y10 y11 y12 y13 y14, LeO (bournelaw15_placed.j3 k y0 y1 y2 y3 y4 y5 y6 y7 y8 y9 y10 y11 y12 y13 y14) (bournelaw15_placed.j3 (k + 1) y0 y1 y2 y3 y4 y5 y6 y7 y8 y9 y10 y11 y12 y13 y14))
  | 0 => ⟨fun _ _ _ _ _ _ _ _ r h => by simp [bournelaw15_placed.f] at h, fun _ _ _ _ _ _ _ _ _ r h => by simp [bournelaw15_placed.l0] at h, fun _ _ _ _ _ _ _ _ _ _ _ _ _ _ _ _ r h => by simp [bournelaw15_placed.j1] at h, fun _ _ _ _ _ _ _ _ _ _ _ _ _ _ _ _ r h => by simp [bournelaw15_placed.j2] at h, fun _ _ _ _ _ _ _ _ _ _ _ _ _ _ _ r h => by simp [bournelaw15_placed.j3] at h⟩
  | k + 1 => by
    obtain ⟨ih0, ih1, ih2, ih3, ih4⟩ := bournelaw15_placed.mono_l k
    refine ⟨?_, ?_, ?_, ?_, ?_⟩
    · intro y0 y1 y2 y3 y4 y5 y6 y7
      unfold bournelaw15_placed.f
      repeat' first
      | (with_reducible exact ih0 _ _ _ _ _ _ _ _)
      | (with_reducible exact ih1 _ _ _ _ _ _ _ _ _)
      | (with_reducible exact ih2 _ _ _ _ _ _ _ _ _ _ _ _ _ _ _ _)
      | (with_reducible exact ih3 _ _ _ _ _ _ _ _ _ _ _ _ _ _ _ _)
      | (with_reducible exact ih4 _ _ _ _ _ _ _ _ _ _ _ _ _ _ _)
      | (with_reducible exact LeO.refl _)
      | (with_reducible exact LeO.none _)
      | (with_reducible refine LeO.ite ?_ ?_)
      | (with_reducible refine LeO.bind ?_ (fun _ => ?_))
      | exact ih0 _ _ _ _ _ _ _ _
      | exact ih1 _ _ _ _ _ _ _ _ _
      | exact ih2 _ _ _ _ _ _ _ _ _ _ _ _ _ _ _ _
      | exact ih3 _ _ _ _ _ _ _ _ _ _ _ _ _ _ _ _
      | exact ih4 _ _ _ _ _ _ _ _ _ _ _ _ _ _ _
      | exact LeO.none _
      | refine LeO.ite ?_ ?_
      | refine LeO.bind ?_ (fun _ => ?_)
    · intro y0 y1 y2 y3 y4 y5 y6 y7 y8
      unfold bournelaw15_placed.l0
      repeat' first
      | (with_reducible exact ih0 _ _ _ _ _ _ _ _)
      | (with_reducible exact ih1 _ _ _ _ _ _ _ _ _)
      | (with_reducible exact ih2 _ _ _ _ _ _ _ _ _ _ _ _ _ _ _ _)
      | (with_reducible exact ih3 _ _ _ _ _ _ _ _ _ _ _ _ _ _ _ _)
      | (with_reducible exact ih4 _ _ _ _ _ _ _ _ _ _ _ _ _ _ _)
      | (with_reducible exact LeO.refl _)
      | (with_reducible exact LeO.none _)
      | (with_reducible refine LeO.ite ?_ ?_)
      | (with_reducible refine LeO.bind ?_ (fun _ => ?_))
      | exact ih0 _ _ _ _ _ _ _ _
      | exact ih1 _ _ _ _ _ _ _ _ _
      | exact ih2 _ _ _ _ _ _ _ _ _ _ _ _ _ _ _ _
      | exact ih3 _ _ _ _ _ _ _ _ _ _ _ _ _ _ _ _
      | exact ih4 _ _ _ _ _ _ _ _ _ _ _ _ _ _ _
      | exact LeO.none _
      | refine LeO.ite ?_ ?_
      | refine LeO.bind ?_ (fun _ => ?_)
    · intro y0 y1 y2 y3 y4 y5 y6 y7 y8 y9 y10 y11 y12 y13 y14 y15
      unfold bournelaw15_placed.j1
      repeat' first
      | (with_reducible exact ih0 _ _ _ _ _ _ _ _)
      | (with_reducible exact ih1 _ _ _ _ _ _ _ _ _)
      | (with_reducible exact ih2 _ _ _ _ _ _ _ _ _ _ _ _ _ _ _ _)
      | (with_reducible exact ih3 _ _ _ _ _ _ _ _ _ _ _ _ _ _ _ _)
      | (with_reducible exact ih4 _ _ _ _ _ _ _ _ _ _ _ _ _ _ _)
      | (with_reducible exact LeO.refl _)
      | (with_reducible exact LeO.none _)
      | (with_reducible refine LeO.ite ?_ ?_)
      | (with_reducible refine LeO.bind ?_ (fun _ => ?_))
      | exact ih0 _ _ _ _ _ _ _ _
      | exact ih1 _ _ _ _ _ _ _ _ _
      | exact ih2 _ _ _ _ _ _ _ _ _ _ _ _ _ _ _ _
      | exact ih3 _ _ _ _ _ _ _ _ _ _ _ _ _ _ _ _
      | exact ih4 _ _ _ _ _ _ _ _ _ _ _ _ _ _ _
      | exact LeO.none _
      | refine LeO.ite ?_ ?_
      | refine LeO.bind ?_ (fun _ => ?_)
    · intro y0 y1 y2 y3 y4 y5 y6 y7 y8 y9 y10 y11 y12 y13 y14 y15
      unfold bournelaw15_placed.j2
      repeat' first
      | (with_reducible exact ih0 _ _ _ _ _ _ _ _)
      | (with_reducible exact ih1 _ _ _ _ _ _ _ _ _)
      | (with_reducible exact ih2 _ _ _ _ _ _ _ _ _ _ _ _ _ _ _ _)
      | (with_reducible exact ih3 _ _ _ _ _ _ _ _ _ _ _ _ _ _ _ _)
      | (with_reducible exact ih4 _ _ _ _ _ _ _ _ _ _ _ _ _ _ _)
      | (with_reducible exact LeO.refl _)
      | (with_reducible exact LeO.none _)
      | (with_reducible refine LeO.ite ?_ ?_)
      | (with_reducible refine LeO.bind ?_ (fun _ => ?_))
      | exact ih0 _ _ _ _ _ _ _ _
      | exact ih1 _ _ _ _ _ _ _ _ _
      | exact ih2 _ _ _ _ _ _ _ _ _ _ _ _ _ _ _ _
      | exact ih3 _ _ _ _ _ _ _ _ _ _ _ _ _ _ _ _
      | exact ih4 _ _ _ _ _ _ _ _ _ _ _ _ _ _ _
      | exact LeO.none _
      | refine LeO.ite ?_ ?_
      | refine LeO.bind ?_ (fun _ => ?_)
    intro y0 y1 y2 y3 y4 y5 y6 y7 y8 y9 y10 y11 y12 y13 y14
    unfold bournelaw15_placed.j3
    repeat' first
    | (with_reducible exact ih0 _ _ _ _ _ _ _ _)
    | (with_reducible exact ih1 _ _ _ _ _ _ _ _ _)
    | (with_reducible exact ih2 _ _ _ _ _ _ _ _ _ _ _ _ _ _ _ _)
    | (with_reducible exact ih3 _ _ _ _ _ _ _ _ _ _ _ _ _ _ _ _)
    | (with_reducible exact ih4 _ _ _ _ _ _ _ _ _ _ _ _ _ _ _)
    | (with_reducible exact LeO.refl _)
    | (with_reducible exact LeO.none _)
    | (with_reducible refine LeO.ite ?_ ?_)
    | (with_reducible refine LeO.bind ?_ (fun _ => ?_))
    | exact ih0 _ _ _ _ _ _ _ _
    | exact ih1 _ _ _ _ _ _ _ _ _
    | exact ih2 _ _ _ _ _ _ _ _ _ _ _ _ _ _ _ _
    | exact ih3 _ _ _ _ _ _ _ _ _ _ _ _ _ _ _ _
    | exact ih4 _ _ _ _ _ _ _ _ _ _ _ _ _ _ _
    | exact LeO.none _
    | refine LeO.ite ?_ ?_
    | refine LeO.bind ?_ (fun _ => ?_)
theorem bournelaw15_placed.mono : ∀ a0 a1 a2 a3 a4 a5 a6 a7 k, LeO (bournelaw15_placed.f k a0 a1 a2 a3 a4 a5 a6 a7) (bournelaw15_placed.f (k + 1) a0 a1 a2 a3 a4 a5 a6 a7) := by
  intro a0 a1 a2 a3 a4 a5 a6 a7 k
  obtain ⟨ih0, ih1, ih2, ih3, ih4⟩ := bournelaw15_placed.mono_l k
  exact ih0 a0 a1 a2 a3 a4 a5 a6 a7
set_option maxHeartbeats 8000000 in
set_option maxRecDepth 100000 in
theorem bournelaw15_placed.calls (k : Nat) : ∀ (a0 : ByteArray) (a1_0 : Int) (a1_1 : ByteArray) (a1_2 : Int) (a1_3 : Int) (a1_4 : Int) (A1_5 : Option Addr) (c1_5 : Nat) (l1_5 : List (S26)) (a2 : Int) (r1 : Int) (r2 : Bool) (w : World) (hr1_5 : Kd.C k26 w A1_5 l1_5.length l1_5) (hc1_5 : l1_5.length ≤ c1_5) (h : bournelaw15_placed.f k a0 a1_0 a1_1 a1_2 a1_3 a1_4 l1_5 a2 = some (r1, r2)),
    Calls Tryz.prog 17 #[.string a0, .agg #[.int .i64 a1_0, .string a1_1, .int .i64 a1_2, .int .i64 a1_3, .int .i64 a1_4, .slice A1_5 l1_5.length c1_5], .int .i64 a2] w fun e w' => e = .returned (.tuple #[.int .i64 r1, .bool r2]) ∧ Below w.heap.size w w' := by
  induction k using Nat.strongRecOn with
  | _ k ih =>
  intro a0 a1_0 a1_1 a1_2 a1_3 a1_4 A1_5 c1_5 l1_5 a2 r1 r2 w hr1_5 hc1_5 h
  cases k with
  | zero => exact absurd h (by simp [bournelaw15_placed.f])
  | succ k =>
  simp only [bournelaw15_placed.f] at h
  have hu26 := Tryz.underlying26
  have HR1_5 := Aside0.mk hr1_5
  have HC1_5 := Aside0.mk hc1_5
  clear hr1_5 hc1_5
  have HB := Aside0.mk (Below.refl w.heap.size w)
  have H : (bournelaw15_placed.l0 k a0 a2 0 a1_0 a1_1 a1_2 a1_3 a1_4 l1_5) = some (r1, r2) := h
  clear h
  have H' := Aside0.mk H
  clear H
  go_enter Tryz.func17, Tryz.ntmps17
  go_wp2_with (first | ((with_reducible refine gate_dst (N := 4) rfl ?_); (try (refine gate_guard (by rfl) ?_; dsimp only)); refine box_event ?hg (N := 4) ?hd (cs := #[.int .i64 a1_0, .string a1_1, .int .i64 a1_2, .int .i64 a1_3, .int .i64 a1_4, .slice A1_5 l1_5.length c1_5]) (t := 26) ?hr ?_; (case hd => rfl); (case hg => rfl); (case hr => first | (go_simp; done) | (go_simp; rfl)); intro gb296 hg w4 hbox hb; have n0_ := Aside0.mk (below_step (by repeat with_reducible first|exact HB.out|apply ba|apply bN|apply bd) hb); have n1_ := Aside0.mk (hbox); have n2_ := Aside0.mk ((by rw [hg]; exact (below_size (by repeat with_reducible first|exact HB.out|apply ba|apply bN|apply bd)) : w.heap.size ≤ gb296)); have n3_ := Aside0.mk ((by rw [hg]; exact (below_size (by repeat with_reducible first|exact HB.out|apply ba|apply bN|apply bd)) : w.heap.size ≤ gb296)); clear HB; have HB := n0_; have BK296 := n1_; have GW296 := n2_; have GE296 := n3_; clear n0_ n1_ n2_ n3_; clear hb hbox hg))
  go_loopg [2, 8] k (fun kq v2 v8 w' => ∃ (x2_1 : Int) (x8_1 : Int), v2 = .int .i64 x2_1 ∧ v8 = .int .i64 x8_1 ∧ Aside0 (bournelaw15_placed.l0 kq a0 x2_1 x8_1 a1_0 a1_1 a1_2 a1_3 a1_4 l1_5 = some (r1, r2)) ∧ Aside0 (kq ≤ k) ∧ Aside0 (w'.heap[gb296]? = some (.cells #[.int .i64 a1_0, .string a1_1, .int .i64 a1_2, .int .i64 a1_3, .int .i64 a1_4, (.slice A1_5 l1_5.length c1_5)] 26 (0, 0))) ∧ Aside0 (Below w.heap.size w w'))
  case atStart => exact ⟨(a2), (0), (by first|rfl|(simp;done)|(simp [*];done)), (by first|rfl|(simp;done)|(simp [*];done)), H', ⟨Nat.le_refl _⟩, ⟨by (with_reducible repeat first|refine kN ?_ _|refine kd ?_|refine ka ?_ _); exact BK296.out⟩, ⟨by repeat with_reducible first|exact HB.out|apply ba|apply bN|apply bd|refine below_set ?_ GE296.out⟩⟩
  case round =>
    clear H'
    try clear c1;try clear p2
    obtain ⟨x2_1, x8_1, rfl, rfl, HA, HK1, BK296, HB⟩ := hrel
    cases gk with
    | zero => exact absurd HA.out (by simp [bournelaw15_placed.l0])
    | succ k1 =>
      have H := HA.out
      clear HA
      simp only [bournelaw15_placed.l0] at H
      by_cases c5 : x8_1 < (l1_5.length : Int)
      · rw [if_pos c5] at H
        have c5b0 : decide (x8_1 < (l1_5.length : Int)) = true := decide_eq_true c5
        clear c5
        by_cases c6 : 0 ≤ x8_1
        · rw [if_pos c6] at H
          have c6b0 : decide (0 ≤ x8_1) = true := decide_eq_true c6
          clear c6
          have HC7 := Aside0.mk H
          clear H
          obtain ⟨hcz8_0, hcz8_1, hcz8_2, hcz8_3, hcz8_4, hcz8_5, hfz8_0, hfz8_1, hfz8_2, hfz8_3, hfz8_4, hfz8_5⟩ := cl6 BK296.out
          have p297 : 0 ≤ (x8_1 : Int) := of_decide_eq_true (by first|with_reducible assumption|assumption)
          have q297 : x8_1 < (l1_5.length : Int) := of_decide_eq_true (by first|with_reducible assumption|assumption)
          obtain ⟨ad297, A297_5, c297_5, e297, hx297_0, hx297_1, hx297_2, hx297_3, hx297_4, hx297_5, hl297_5, hi297_5⟩ := at_T26 HR1_5.out x8_1 p297 q297
          cases e297
          replace hx297_0 := cb HB.out hx297_0
          replace hx297_1 := cb HB.out hx297_1
          replace hx297_2 := cb HB.out hx297_2
          replace hx297_3 := cb HB.out hx297_3
          replace hx297_4 := cb HB.out hx297_4
          replace hx297_5 := cb HB.out hx297_5
          have HR297_5 := Aside0.mk hi297_5
          have HC297_5 := Aside0.mk hl297_5
          clear hi297_5 hl297_5
          replace p297 := eq_true p297
          replace q297 := eq_true q297
          go_upto_if 29 with (first | ((with_reducible refine gate_dst (N := 9) rfl ?_); (try (refine gate_guard (by rfl) ?_; dsimp only)); refine box_event ?hg (N := 9) ?hd (cs := #[.int .i64 0, .string (⟨#[]⟩ : ByteArray), .int .i64 0, .int .i64 0, .int .i64 0, .slice none 0 0]) (t := 26) ?hr ?_; (case hd => rfl); (case hg => rfl); (case hr => first | (go_simp; done) | (go_simp; rfl)); intro gb298 hg w9 hbox hb; have n0_ := Aside0.mk (blk_below (g := gb296) (o := .cells #[.int .i64 a1_0, .string a1_1, .int .i64 a1_2, .int .i64 a1_3, .int .i64 a1_4, .slice (some ad297) l1_5.length c1_5] 26 (0, 0)) (by (with_reducible repeat first|refine kN ?_ _|refine kd ?_|refine ka ?_ _); exact BK296.out) hb); have n1_ := Aside0.mk (below_step (by repeat with_reducible first|exact HB.out|apply ba|apply bN|apply bd|refine below_set ?_ GE296.out) hb); have n2_ := Aside0.mk (hbox); have n3_ := Aside0.mk ((by rw [hg]; exact (below_size (by repeat with_reducible first|exact HB.out|apply ba|apply bN|apply bd|refine below_set ?_ GE296.out)) : w.heap.size ≤ gb298)); have n4_ := Aside0.mk ((by rw [hg]; exact (below_size (by repeat with_reducible first|exact HB.out|apply ba|apply bN|apply bd|refine below_set ?_ GE296.out)) : w.heap.size ≤ gb298)); have n5_ := Aside0.mk ((by rw [hg]; exact Nat.ne_of_lt (blk_lt (g := gb296) (o := .cells #[.int .i64 a1_0, .string a1_1, .int .i64 a1_2, .int .i64 a1_3, .int .i64 a1_4, .slice (some ad297) l1_5.length c1_5] 26 (0, 0)) (by (with_reducible repeat first|refine kN ?_ _|refine kd ?_|refine ka ?_ _); exact BK296.out)) : gb296 ≠ gb298)); have n6_ := Aside0.mk ((by rw [hg]; exact Nat.ne_of_gt (blk_lt (g := gb296) (o := .cells #[.int .i64 a1_0, .string a1_1, .int .i64 a1_2, .int .i64 a1_3, .int .i64 a1_4, .slice (some ad297) l1_5.length c1_5] 26 (0, 0)) (by (with_reducible repeat first|refine kN ?_ _|refine kd ?_|refine ka ?_ _); exact BK296.out)) : gb298 ≠ gb296)); clear BK296; clear HB; have BK296 := n0_; have HB := n1_; have BK298 := n2_; have GW298 := n3_; have GE298 := n4_; have NB296_298 := n5_; have NB298_296 := n6_; clear n0_ n1_ n2_ n3_ n4_ n5_ n6_; clear hb hbox hg; have hnb10 := NB298_296.out; have hnc10 := NB296_298.out; obtain ⟨hcz11_0, hcz11_1, hcz11_2, hcz11_3, hcz11_4, hcz11_5, hfz11_0, hfz11_1, hfz11_2, hfz11_3, hfz11_4, hfz11_5⟩ := cl6 BK298.out))
          (try simp only [Act.put, List.setIfInBounds_toArray, List.set_cons_zero, List.set_cons_succ])
          go_cut [10] (fun v10 wc => ∃ (kq : Nat) (x10_6 : ByteArray), v10 = .string x10_6 ∧ Aside0 (bournelaw15_placed.j1 kq a0 x2_1 x8_1 x10_6 a1_0 a1_1 a1_2 a1_3 a1_4 l1_5 ((rd_T26 l1_5 x8_1).f0) ((rd_T26 l1_5 x8_1).f1) ((rd_T26 l1_5 x8_1).f2.f0) ((rd_T26 l1_5 x8_1).f2.f1) ((rd_T26 l1_5 x8_1).f3) ((rd_T26 l1_5 x8_1).f4) = some (r1, r2)) ∧ Aside0 (kq ≤ k1) ∧ Aside0 (wc.heap[gb296]? = some (.cells #[.int .i64 a1_0, .string a1_1, .int .i64 a1_2, .int .i64 a1_3, .int .i64 a1_4, (.slice (some ad297) l1_5.length c1_5)] 26 (0, 0))) ∧ Aside0 (wc.heap[gb298]? = some (.cells #[.int .i64 ((rd_T26 l1_5 x8_1).f0), .string ((rd_T26 l1_5 x8_1).f1), .int .i64 ((rd_T26 l1_5 x8_1).f2.f0), .int .i64 ((rd_T26 l1_5 x8_1).f2.f1), .int .i64 ((rd_T26 l1_5 x8_1).f3), (.slice A297_5 ((rd_T26 l1_5 x8_1).f4).length c297_5)] 26 (0, 0))) ∧ Aside0 (Below w.heap.size w wc))
          case first =>
            have H := HC7.out
            clear HC7
            by_cases c12 : ((rd_T26 l1_5 x8_1).f0) = 4
            · rw [if_pos c12] at H
              have c12b0 : (((rd_T26 l1_5 x8_1).f0) == 4) = true := beq_iff_eq.mpr c12
              have c12b1 : (((rd_T26 l1_5 x8_1).f0) != 4) = false := bne_eq_false_iff_eq.mpr c12
              clear c12
              (first | rw [c12b0] | (simp only [i64_w, i32_w]; rw [c12b0]) | skip)
              by_cases c13 : 1 + ((rd_T26 l1_5 x8_1).f1).size ≤ 9223372036854775807
              · rw [if_pos c13] at H
                have c13b0 := eq_true c13
                have c13b1 : decide (1 + ((rd_T26 l1_5 x8_1).f1).size ≤ 9223372036854775807) = true := decide_eq_true c13
                try have c13b2 : (9223372036854775807 < 1 + ((rd_T26 l1_5 x8_1).f1).size) = False := eq_false (Nat.not_lt.2 c13)
                by_cases c14 : ((⟨#[34]⟩ : ByteArray) ++ ((rd_T26 l1_5 x8_1).f1)).size + 1 ≤ 9223372036854775807
                · rw [if_pos c14] at H
                  have c14b0 := eq_true c14
                  have c14b1 : decide (((⟨#[34]⟩ : ByteArray) ++ ((rd_T26 l1_5 x8_1).f1)).size + 1 ≤ 9223372036854775807) = true := decide_eq_true c14
                  try have c14b2 : (9223372036854775807 < ((⟨#[34]⟩ : ByteArray) ++ ((rd_T26 l1_5 x8_1).f1)).size + 1) = False := eq_false (Nat.not_lt.2 c14)
                  try have c14b3 := c14b2
                  try simp only [ByteArray.size_append, q1size] at c14b3
                  have H' := Aside0.mk H
                  clear H
                  have hnb15 := NB298_296.out
                  have hnc15 := NB296_298.out
                  obtain ⟨hcz16_0, hcz16_1, hcz16_2, hcz16_3, hcz16_4, hcz16_5, hfz16_0, hfz16_1, hfz16_2, hfz16_3, hfz16_4, hfz16_5⟩ := cl6 BK298.out
                  go_wp2
                  go_meet
                  case rel => exact ⟨_, (((⟨#[34]⟩ : ByteArray) ++ ((rd_T26 l1_5 x8_1).f1)) ++ (⟨#[34]⟩ : ByteArray)), (by first|rfl|(simp;done)|(simp [*];done)), H', ⟨by have := HK1.out; first | omega | exact Nat.le_refl _⟩, ⟨by (with_reducible repeat first|refine kN ?_ _|refine kd ?_|refine ka ?_ _); refine blk_far ?_ NB296_298.out _; (with_reducible repeat first|refine kN ?_ _|refine kd ?_|refine ka ?_ _); refine blk_far ?_ NB296_298.out _; (with_reducible repeat first|refine kN ?_ _|refine kd ?_|refine ka ?_ _); refine blk_far ?_ NB296_298.out _; (with_reducible repeat first|refine kN ?_ _|refine kd ?_|refine ka ?_ _); refine blk_far ?_ NB296_298.out _; (with_reducible repeat first|refine kN ?_ _|refine kd ?_|refine ka ?_ _); refine blk_far ?_ NB296_298.out _; (with_reducible repeat first|refine kN ?_ _|refine kd ?_|refine ka ?_ _); refine blk_far ?_ NB296_298.out _; (with_reducible repeat first|refine kN ?_ _|refine kd ?_|refine ka ?_ _); exact BK296.out⟩, ⟨by (with_reducible repeat first|refine kN ?_ _|refine kd ?_|refine ka ?_ _); refine blk_put (cs := #[.int .i64 ((rd_T26 l1_5 x8_1).f0), .string ((rd_T26 l1_5 x8_1).f1), .int .i64 ((rd_T26 l1_5 x8_1).f2.f0), .int .i64 ((rd_T26 l1_5 x8_1).f2.f1), .int .i64 ((rd_T26 l1_5 x8_1).f3), .slice none 0 0]) ?_ 5 _ rfl; (with_reducible repeat first|refine kN ?_ _|refine kd ?_|refine ka ?_ _); refine blk_put (cs := #[.int .i64 ((rd_T26 l1_5 x8_1).f0), .string ((rd_T26 l1_5 x8_1).f1), .int .i64 ((rd_T26 l1_5 x8_1).f2.f0), .int .i64 ((rd_T26 l1_5 x8_1).f2.f1), .int .i64 0, .slice none 0 0]) ?_ 4 _ rfl; (with_reducible repeat first|refine kN ?_ _|refine kd ?_|refine ka ?_ _); refine blk_put (cs := #[.int .i64 ((rd_T26 l1_5 x8_1).f0), .string ((rd_T26 l1_5 x8_1).f1), .int .i64 ((rd_T26 l1_5 x8_1).f2.f0), .int .i64 0, .int .i64 0, .slice none 0 0]) ?_ 3 _ rfl; (with_reducible repeat first|refine kN ?_ _|refine kd ?_|refine ka ?_ _); refine blk_put (cs := #[.int .i64 ((rd_T26 l1_5 x8_1).f0), .string ((rd_T26 l1_5 x8_1).f1), .int .i64 0, .int .i64 0, .int .i64 0, .slice none 0 0]) ?_ 2 _ rfl; (with_reducible repeat first|refine kN ?_ _|refine kd ?_|refine ka ?_ _); refine blk_put (cs := #[.int .i64 ((rd_T26 l1_5 x8_1).f0), .string (⟨#[]⟩ : ByteArray), .int .i64 0, .int .i64 0, .int .i64 0, .slice none 0 0]) ?_ 1 _ rfl; (with_reducible repeat first|refine kN ?_ _|refine kd ?_|refine ka ?_ _); refine blk_put (cs := #[.int .i64 0, .string (⟨#[]⟩ : ByteArray), .int .i64 0, .int .i64 0, .int .i64 0, .slice none 0 0]) ?_ 0 _ rfl; (with_reducible repeat first|refine kN ?_ _|refine kd ?_|refine ka ?_ _); exact BK298.out⟩, ⟨by repeat with_reducible first|exact HB.out|apply ba|apply bN|apply bd|refine below_set ?_ GE296.out|refine below_set ?_ GE298.out⟩⟩
                rw [if_neg c14] at H
                exact absurd H (by simp)
              rw [if_neg c13] at H
              exact absurd H (by simp)
            rw [if_neg c12] at H
            have c12b0 : (((rd_T26 l1_5 x8_1).f0) == 4) = false := beq_eq_false_iff_ne.mpr c12
            have c12b1 : (((rd_T26 l1_5 x8_1).f0) != 4) = true := bne_iff_ne.mpr c12
            (first | rw [c12b0] | (simp only [i64_w, i32_w]; rw [c12b0]) | skip)
            have H' := Aside0.mk H
            clear H
            go_wp2
            go_meet
            case rel => exact ⟨_, ((rd_T26 l1_5 x8_1).f1), (by first|rfl|(simp;done)|(simp [*];done)), H', ⟨by have := HK1.out; first | omega | exact Nat.le_refl _⟩, ⟨by (with_reducible repeat first|refine kN ?_ _|refine kd ?_|refine ka ?_ _); refine blk_far ?_ NB296_298.out _; (with_reducible repeat first|refine kN ?_ _|refine kd ?_|refine ka ?_ _); refine blk_far ?_ NB296_298.out _; (with_reducible repeat first|refine kN ?_ _|refine kd ?_|refine ka ?_ _); refine blk_far ?_ NB296_298.out _; (with_reducible repeat first|refine kN ?_ _|refine kd ?_|refine ka ?_ _); refine blk_far ?_ NB296_298.out _; (with_reducible repeat first|refine kN ?_ _|refine kd ?_|refine ka ?_ _); refine blk_far ?_ NB296_298.out _; (with_reducible repeat first|refine kN ?_ _|refine kd ?_|refine ka ?_ _); refine blk_far ?_ NB296_298.out _; (with_reducible repeat first|refine kN ?_ _|refine kd ?_|refine ka ?_ _); exact BK296.out⟩, ⟨by (with_reducible repeat first|refine kN ?_ _|refine kd ?_|refine ka ?_ _); refine blk_put (cs := #[.int .i64 ((rd_T26 l1_5 x8_1).f0), .string ((rd_T26 l1_5 x8_1).f1), .int .i64 ((rd_T26 l1_5 x8_1).f2.f0), .int .i64 ((rd_T26 l1_5 x8_1).f2.f1), .int .i64 ((rd_T26 l1_5 x8_1).f3), .slice none 0 0]) ?_ 5 _ rfl; (with_reducible repeat first|refine kN ?_ _|refine kd ?_|refine ka ?_ _); refine blk_put (cs := #[.int .i64 ((rd_T26 l1_5 x8_1).f0), .string ((rd_T26 l1_5 x8_1).f1), .int .i64 ((rd_T26 l1_5 x8_1).f2.f0), .int .i64 ((rd_T26 l1_5 x8_1).f2.f1), .int .i64 0, .slice none 0 0]) ?_ 4 _ rfl; (with_reducible repeat first|refine kN ?_ _|refine kd ?_|refine ka ?_ _); refine blk_put (cs := #[.int .i64 ((rd_T26 l1_5 x8_1).f0), .string ((rd_T26 l1_5 x8_1).f1), .int .i64 ((rd_T26 l1_5 x8_1).f2.f0), .int .i64 0, .int .i64 0, .slice none 0 0]) ?_ 3 _ rfl; (with_reducible repeat first|refine kN ?_ _|refine kd ?_|refine ka ?_ _); refine blk_put (cs := #[.int .i64 ((rd_T26 l1_5 x8_1).f0), .string ((rd_T26 l1_5 x8_1).f1), .int .i64 0, .int .i64 0, .int .i64 0, .slice none 0 0]) ?_ 2 _ rfl; (with_reducible repeat first|refine kN ?_ _|refine kd ?_|refine ka ?_ _); refine blk_put (cs := #[.int .i64 ((rd_T26 l1_5 x8_1).f0), .string (⟨#[]⟩ : ByteArray), .int .i64 0, .int .i64 0, .int .i64 0, .slice none 0 0]) ?_ 1 _ rfl; (with_reducible repeat first|refine kN ?_ _|refine kd ?_|refine ka ?_ _); refine blk_put (cs := #[.int .i64 0, .string (⟨#[]⟩ : ByteArray), .int .i64 0, .int .i64 0, .int .i64 0, .slice none 0 0]) ?_ 0 _ rfl; (with_reducible repeat first|refine kN ?_ _|refine kd ?_|refine ka ?_ _); exact BK298.out⟩, ⟨by repeat with_reducible first|exact HB.out|apply ba|apply bN|apply bd|refine below_set ?_ GE296.out|refine below_set ?_ GE298.out⟩⟩
          case rest =>
            clear HC7
            try clear c1;try clear c2;try clear p2;try clear q2;try clear hx2;try clear c5;try clear c5b0;try clear c6;try clear c6b0;try clear c10;try clear c12;try clear c12b0;try clear c12b1;try clear c13;try clear c13b0;try clear c13b1;try clear c13b2;try clear c14;try clear c14b0;try clear c14b1;try clear c14b2;try clear c15;try clear hcz11_0;try clear hcz11_1;try clear hcz11_2;try clear hcz11_3;try clear hcz11_4;try clear hcz11_5;try clear hcz16_0;try clear hcz16_1;try clear hcz16_2;try clear hcz16_3;try clear hcz16_4;try clear hcz16_5;try clear hcz8_0;try clear hcz8_1;try clear hcz8_2;try clear hcz8_3;try clear hcz8_4;try clear hcz8_5;try clear hfz11_0;try clear hfz11_1;try clear hfz11_2;try clear hfz11_3;try clear hfz11_4;try clear hfz11_5;try clear hfz16_0;try clear hfz16_1;try clear hfz16_2;try clear hfz16_3;try clear hfz16_4;try clear hfz16_5;try clear hfz8_0;try clear hfz8_1;try clear hfz8_2;try clear hfz8_3;try clear hfz8_4;try clear hfz8_5;try clear hx297_0;try clear hx297_1;try clear hx297_2;try clear hx297_3;try clear hx297_4;try clear hx297_5;try clear p2;try clear p297;try clear q297
            obtain ⟨kq, x10_6, rfl, HA, HJ6, BK296, BK298, HB⟩ := hcut
            cases kq with
            | zero => exact absurd HA.out (by simp [bournelaw15_placed.j1])
            | succ kj6 =>
              have H := HA.out
              clear HA
              simp only [bournelaw15_placed.j1] at H
              have HC17 := Aside0.mk H
              clear H
              have hnb18 := NB298_296.out
              have hnc18 := NB296_298.out
              obtain ⟨hcz19_0, hcz19_1, hcz19_2, hcz19_3, hcz19_4, hcz19_5, hfz19_0, hfz19_1, hfz19_2, hfz19_3, hfz19_4, hfz19_5⟩ := cl6 BK298.out
              go_upto_if 36 with (fail)
              go_cut [10] (fun v10 wc => ∃ (kq : Nat) (x10_16 : ByteArray), v10 = .string x10_16 ∧ Aside0 (bournelaw15_placed.j2 kq a0 x2_1 x8_1 x10_16 a1_0 a1_1 a1_2 a1_3 a1_4 l1_5 ((rd_T26 l1_5 x8_1).f0) ((rd_T26 l1_5 x8_1).f1) ((rd_T26 l1_5 x8_1).f2.f0) ((rd_T26 l1_5 x8_1).f2.f1) ((rd_T26 l1_5 x8_1).f3) ((rd_T26 l1_5 x8_1).f4) = some (r1, r2)) ∧ Aside0 (kq ≤ kj6) ∧ Aside0 (wc.heap[gb296]? = some (.cells #[.int .i64 a1_0, .string a1_1, .int .i64 a1_2, .int .i64 a1_3, .int .i64 a1_4, (.slice (some ad297) l1_5.length c1_5)] 26 (0, 0))) ∧ Aside0 (wc.heap[gb298]? = some (.cells #[.int .i64 ((rd_T26 l1_5 x8_1).f0), .string ((rd_T26 l1_5 x8_1).f1), .int .i64 ((rd_T26 l1_5 x8_1).f2.f0), .int .i64 ((rd_T26 l1_5 x8_1).f2.f1), .int .i64 ((rd_T26 l1_5 x8_1).f3), (.slice A297_5 ((rd_T26 l1_5 x8_1).f4).length c297_5)] 26 (0, 0))) ∧ Aside0 (Below w.heap.size w wc))
              case first =>
                have H := HC17.out
                clear HC17
                by_cases c20 : ((rd_T26 l1_5 x8_1).f0) = 6
                · rw [if_pos c20] at H
                  have c20b0 : (((rd_T26 l1_5 x8_1).f0) == 6) = true := beq_iff_eq.mpr c20
                  have c20b1 : (((rd_T26 l1_5 x8_1).f0) != 6) = false := bne_eq_false_iff_eq.mpr c20
                  clear c20
                  (first | rw [c20b0] | (simp only [i64_w, i32_w]; rw [c20b0]) | skip)
                  have H' := Aside0.mk H
                  clear H
                  go_wp2
                  go_meet
                  case rel => exact ⟨_, ((⟨#[40]⟩ : ByteArray)), (by first|rfl|(simp;done)|(simp [*];done)), H', ⟨by have := HK1.out; have := HJ6.out; first | omega | exact Nat.le_refl _⟩, ⟨by (with_reducible repeat first|refine kN ?_ _|refine kd ?_|refine ka ?_ _); exact BK296.out⟩, ⟨by (with_reducible repeat first|refine kN ?_ _|refine kd ?_|refine ka ?_ _); exact BK298.out⟩, ⟨by repeat with_reducible first|exact HB.out|apply ba|apply bN|apply bd|refine below_set ?_ GE296.out|refine below_set ?_ GE298.out⟩⟩
                rw [if_neg c20] at H
                have c20b0 : (((rd_T26 l1_5 x8_1).f0) == 6) = false := beq_eq_false_iff_ne.mpr c20
                have c20b1 : (((rd_T26 l1_5 x8_1).f0) != 6) = true := bne_iff_ne.mpr c20
                (first | rw [c20b0] | (simp only [i64_w, i32_w]; rw [c20b0]) | skip)
                have H' := Aside0.mk H
                clear H
                go_wp2
                go_meet
                case rel => exact ⟨_, (x10_6), (by first|rfl|(simp;done)|(simp [*];done)), H', ⟨by have := HK1.out; have := HJ6.out; first | omega | exact Nat.le_refl _⟩, ⟨by (with_reducible repeat first|refine kN ?_ _|refine kd ?_|refine ka ?_ _); exact BK296.out⟩, ⟨by (with_reducible repeat first|refine kN ?_ _|refine kd ?_|refine ka ?_ _); exact BK298.out⟩, ⟨by repeat with_reducible first|exact HB.out|apply ba|apply bN|apply bd|refine below_set ?_ GE296.out|refine below_set ?_ GE298.out⟩⟩
              case rest =>
                clear HC17
                try clear c1;try clear c2;try clear p2;try clear q2;try clear hx2;try clear c5;try clear c5b0;try clear c6;try clear c6b0;try clear c10;try clear c12;try clear c12b0;try clear c12b1;try clear c13;try clear c13b0;try clear c13b1;try clear c13b2;try clear c14;try clear c14b0;try clear c14b1;try clear c14b2;try clear c15;try clear c17;try clear c18;try clear c20;try clear c20b0;try clear c20b1;try clear hcz11_0;try clear hcz11_1;try clear hcz11_2;try clear hcz11_3;try clear hcz11_4;try clear hcz11_5;try clear hcz16_0;try clear hcz16_1;try clear hcz16_2;try clear hcz16_3;try clear hcz16_4;try clear hcz16_5;try clear hcz19_0;try clear hcz19_1;try clear hcz19_2;try clear hcz19_3;try clear hcz19_4;try clear hcz19_5;try clear hcz8_0;try clear hcz8_1;try clear hcz8_2;try clear hcz8_3;try clear hcz8_4;try clear hcz8_5;try clear hfz11_0;try clear hfz11_1;try clear hfz11_2;try clear hfz11_3;try clear hfz11_4;try clear hfz11_5;try clear hfz16_0;try clear hfz16_1;try clear hfz16_2;try clear hfz16_3;try clear hfz16_4;try clear hfz16_5;try clear hfz19_0;try clear hfz19_1;try clear hfz19_2;try clear hfz19_3;try clear hfz19_4;try clear hfz19_5;try clear hfz8_0;try clear hfz8_1;try clear hfz8_2;try clear hfz8_3;try clear hfz8_4;try clear hfz8_5;try clear hx297_0;try clear hx297_1;try clear hx297_2;try clear hx297_3;try clear hx297_4;try clear hx297_5;try clear p2;try clear p297;try clear q2;try clear q297
                obtain ⟨kq, x10_16, rfl, HA, HJ16, BK296, BK298, HB⟩ := hcut
                cases kq with
                | zero => exact absurd HA.out (by simp [bournelaw15_placed.j2])
                | succ kj16 =>
                  have H := HA.out
                  clear HA
                  simp only [bournelaw15_placed.j2] at H
                  have HC21 := Aside0.mk H
                  clear H
                  go_upto_region 10 with (fail)
                  go_cut [74] (fun v74 wc => ∃ (kq : Nat) (x74_20 : Bool), v74 = .bool x74_20 ∧ Aside0 (bournelaw15_placed.j3 kq a0 x8_1 x74_20 a1_0 a1_1 a1_2 a1_3 a1_4 l1_5 ((rd_T26 l1_5 x8_1).f0) ((rd_T26 l1_5 x8_1).f1) ((rd_T26 l1_5 x8_1).f2.f0) ((rd_T26 l1_5 x8_1).f2.f1) ((rd_T26 l1_5 x8_1).f3) ((rd_T26 l1_5 x8_1).f4) = some (r1, r2)) ∧ Aside0 (kq ≤ kj16) ∧ Aside0 (wc.heap[gb296]? = some (.cells #[.int .i64 a1_0, .string a1_1, .int .i64 a1_2, .int .i64 a1_3, .int .i64 a1_4, (.slice (some ad297) l1_5.length c1_5)] 26 (0, 0))) ∧ Aside0 (wc.heap[gb298]? = some (.cells #[.int .i64 ((rd_T26 l1_5 x8_1).f0), .string ((rd_T26 l1_5 x8_1).f1), .int .i64 ((rd_T26 l1_5 x8_1).f2.f0), .int .i64 ((rd_T26 l1_5 x8_1).f2.f1), .int .i64 ((rd_T26 l1_5 x8_1).f3), (.slice A297_5 ((rd_T26 l1_5 x8_1).f4).length c297_5)] 26 (0, 0))) ∧ Aside0 (Below w.heap.size w wc))
                  case first =>
                    have H := HC21.out
                    clear HC21
                    by_cases c22 : ((rd_T26 l1_5 x8_1).f3) < x2_1
                    · rw [if_pos c22] at H
                      have c22b0 : decide (((rd_T26 l1_5 x8_1).f3) < x2_1) = true := decide_eq_true c22
                      clear c22
                      (first | rw [c22b0] | (simp only [i64_w, i32_w]; rw [c22b0]) | skip)
                      have H' := Aside0.mk H
                      clear H
                      have hnb23 := NB298_296.out
                      have hnc23 := NB296_298.out
                      obtain ⟨hcz24_0, hcz24_1, hcz24_2, hcz24_3, hcz24_4, hcz24_5, hfz24_0, hfz24_1, hfz24_2, hfz24_3, hfz24_4, hfz24_5⟩ := cl6 BK298.out
                      go_wp2
                      go_meet
                      case rel => exact ⟨_, (true), (by first|rfl|(simp;done)|(simp [*];done)), H', ⟨by have := HK1.out; have := HJ6.out; have := HJ16.out; first | omega | exact Nat.le_refl _⟩, ⟨by (with_reducible repeat first|refine kN ?_ _|refine kd ?_|refine ka ?_ _); exact BK296.out⟩, ⟨by (with_reducible repeat first|refine kN ?_ _|refine kd ?_|refine ka ?_ _); exact BK298.out⟩, ⟨by repeat with_reducible first|exact HB.out|apply ba|apply bN|apply bd|refine below_set ?_ GE296.out|refine below_set ?_ GE298.out⟩⟩
                    rw [if_neg c22] at H
                    have c22b0 : decide (((rd_T26 l1_5 x8_1).f3) < x2_1) = false := decide_eq_false c22
                    clear c22
                    (first | rw [c22b0] | (simp only [i64_w, i32_w]; rw [c22b0]) | skip)
                    replace H := Option.bind_eq_some_iff.mp H
                    obtain ⟨t299, A250, H⟩ := H
                    replace H : (if t299 = true then (if ((rd_T26 l1_5 x8_1).f0) = 5 then (if ((rd_T26 l1_5 x8_1).f3) ≥ (a0.size : Int) then (bournelaw15_placed.j3 kj16 a0 x8_1 true a1_0 a1_1 a1_2 a1_3 a1_4 l1_5 ((rd_T26 l1_5 x8_1).f0) ((rd_T26 l1_5 x8_1).f1) ((rd_T26 l1_5 x8_1).f2.f0) ((rd_T26 l1_5 x8_1).f2.f1) ((rd_T26 l1_5 x8_1).f3) ((rd_T26 l1_5 x8_1).f4)) else (if 0 ≤ ((rd_T26 l1_5 x8_1).f3) then (if ((rd_T26 l1_5 x8_1).f3) < (a0.size : Int) then (if (bt a0 ((rd_T26 l1_5 x8_1).f3)) < 48 then (bournelaw15_placed.j3 kj16 a0 x8_1 true a1_0 a1_1 a1_2 a1_3 a1_4 l1_5 ((rd_T26 l1_5 x8_1).f0) ((rd_T26 l1_5 x8_1).f1) ((rd_T26 l1_5 x8_1).f2.f0) ((rd_T26 l1_5 x8_1).f2.f1) ((rd_T26 l1_5 x8_1).f3) ((rd_T26 l1_5 x8_1).f4)) else (bournelaw15_placed.j3 kj16 a0 x8_1 (decide ((bt a0 ((rd_T26 l1_5 x8_1).f3)) > 57)) a1_0 a1_1 a1_2 a1_3 a1_4 l1_5 ((rd_T26 l1_5 x8_1).f0) ((rd_T26 l1_5 x8_1).f1) ((rd_T26 l1_5 x8_1).f2.f0) ((rd_T26 l1_5 x8_1).f2.f1) ((rd_T26 l1_5 x8_1).f3) ((rd_T26 l1_5 x8_1).f4))) else (none)) else (none))) else (bournelaw15_placed.j3 kj16 a0 x8_1 false a1_0 a1_1 a1_2 a1_3 a1_4 l1_5 ((rd_T26 l1_5 x8_1).f0) ((rd_T26 l1_5 x8_1).f1) ((rd_T26 l1_5 x8_1).f2.f0) ((rd_T26 l1_5 x8_1).f2.f1) ((rd_T26 l1_5 x8_1).f3) ((rd_T26 l1_5 x8_1).f4))) else (bournelaw15_placed.j3 kj16 a0 x8_1 true a1_0 a1_1 a1_2 a1_3 a1_4 l1_5 ((rd_T26 l1_5 x8_1).f0) ((rd_T26 l1_5 x8_1).f1) ((rd_T26 l1_5 x8_1).f2.f0) ((rd_T26 l1_5 x8_1).f2.f1) ((rd_T26 l1_5 x8_1).f3) ((rd_T26 l1_5 x8_1).f4))) = some (r1, r2) := H
                    have A25 := Aside0.mk A250
                    clear A250
                    by_cases c26 : t299 = true
                    · subst c26
                      have H1 : (if ((rd_T26 l1_5 x8_1).f0) = 5 then (if ((rd_T26 l1_5 x8_1).f3) ≥ (a0.size : Int) then (bournelaw15_placed.j3 kj16 a0 x8_1 true a1_0 a1_1 a1_2 a1_3 a1_4 l1_5 ((rd_T26 l1_5 x8_1).f0) ((rd_T26 l1_5 x8_1).f1) ((rd_T26 l1_5 x8_1).f2.f0) ((rd_T26 l1_5 x8_1).f2.f1) ((rd_T26 l1_5 x8_1).f3) ((rd_T26 l1_5 x8_1).f4)) else (if 0 ≤ ((rd_T26 l1_5 x8_1).f3) then (if ((rd_T26 l1_5 x8_1).f3) < (a0.size : Int) then (if (bt a0 ((rd_T26 l1_5 x8_1).f3)) < 48 then (bournelaw15_placed.j3 kj16 a0 x8_1 true a1_0 a1_1 a1_2 a1_3 a1_4 l1_5 ((rd_T26 l1_5 x8_1).f0) ((rd_T26 l1_5 x8_1).f1) ((rd_T26 l1_5 x8_1).f2.f0) ((rd_T26 l1_5 x8_1).f2.f1) ((rd_T26 l1_5 x8_1).f3) ((rd_T26 l1_5 x8_1).f4)) else (bournelaw15_placed.j3 kj16 a0 x8_1 (decide ((bt a0 ((rd_T26 l1_5 x8_1).f3)) > 57)) a1_0 a1_1 a1_2 a1_3 a1_4 l1_5 ((rd_T26 l1_5 x8_1).f0) ((rd_T26 l1_5 x8_1).f1) ((rd_T26 l1_5 x8_1).f2.f0) ((rd_T26 l1_5 x8_1).f2.f1) ((rd_T26 l1_5 x8_1).f3) ((rd_T26 l1_5 x8_1).f4))) else (none)) else (none))) else (bournelaw15_placed.j3 kj16 a0 x8_1 false a1_0 a1_1 a1_2 a1_3 a1_4 l1_5 ((rd_T26 l1_5 x8_1).f0) ((rd_T26 l1_5 x8_1).f1) ((rd_T26 l1_5 x8_1).f2.f0) ((rd_T26 l1_5 x8_1).f2.f1) ((rd_T26 l1_5 x8_1).f3) ((rd_T26 l1_5 x8_1).f4))) = some (r1, r2) := by rw [if_pos rfl] at H; exact H
                      clear H
                      have H := H1
                      clear H1
                      by_cases c27 : ((rd_T26 l1_5 x8_1).f0) = 5
                      · rw [if_pos c27] at H
                        have c27b0 : (((rd_T26 l1_5 x8_1).f0) == 5) = true := beq_iff_eq.mpr c27
                        have c27b1 : (((rd_T26 l1_5 x8_1).f0) != 5) = false := bne_eq_false_iff_eq.mpr c27
                        clear c27
                        by_cases c28 : ((rd_T26 l1_5 x8_1).f3) ≥ (a0.size : Int)
                        · rw [if_pos c28] at H
                          have c28b0 : decide ((a0.size : Int) ≤ ((rd_T26 l1_5 x8_1).f3)) = true := decide_eq_true c28
                          clear c28
                          have H' := Aside0.mk H
                          clear H
                          have hnb29 := NB298_296.out
                          have hnc29 := NB296_298.out
                          obtain ⟨hcz30_0, hcz30_1, hcz30_2, hcz30_3, hcz30_4, hcz30_5, hfz30_0, hfz30_1, hfz30_2, hfz30_3, hfz30_4, hfz30_5⟩ := cl6 BK298.out
                          go_wp2_with (first | (go_at_call 31; (with_reducible refine (bournelaw15_begins.calls a0 ((rd_T26 l1_5 x8_1).f3) x10_16 true _ A25.out).mono ?_); rintro e w' ⟨rfl, ⟨nd, rfl⟩⟩))
                          go_meet
                          case rel => exact ⟨_, (true), (by first|rfl|(simp;done)|(simp [*];done)), H', ⟨by have := HK1.out; have := HJ6.out; have := HJ16.out; first | omega | exact Nat.le_refl _⟩, ⟨by (with_reducible repeat first|refine kN ?_ _|refine kd ?_|refine ka ?_ _); exact BK296.out⟩, ⟨by (with_reducible repeat first|refine kN ?_ _|refine kd ?_|refine ka ?_ _); exact BK298.out⟩, ⟨by repeat with_reducible first|exact HB.out|apply ba|apply bN|apply bd|refine below_set ?_ GE296.out|refine below_set ?_ GE298.out⟩⟩
                        rw [if_neg c28] at H
                        have c28b0 : decide ((a0.size : Int) ≤ ((rd_T26 l1_5 x8_1).f3)) = false := decide_eq_false c28
                        clear c28
                        by_cases c31 : 0 ≤ ((rd_T26 l1_5 x8_1).f3)
                        · rw [if_pos c31] at H
                          have c31b0 : decide (0 ≤ ((rd_T26 l1_5 x8_1).f3)) = true := decide_eq_true c31
                          clear c31
                          by_cases c32 : ((rd_T26 l1_5 x8_1).f3) < (a0.size : Int)
                          · rw [if_pos c32] at H
                            have c32b0 : decide (((rd_T26 l1_5 x8_1).f3) < (a0.size : Int)) = true := decide_eq_true c32
                            clear c32
                            by_cases c34 : (bt a0 ((rd_T26 l1_5 x8_1).f3)) < 48
                            · rw [if_pos c34] at H
                              have c34b0 : decide ((bt a0 ((rd_T26 l1_5 x8_1).f3)) < 48) = true := decide_eq_true c34
                              clear c34
                              have H' := Aside0.mk H
                              clear H
                              have hnb35 := NB298_296.out
                              have hnc35 := NB296_298.out
                              obtain ⟨hcz36_0, hcz36_1, hcz36_2, hcz36_3, hcz36_4, hcz36_5, hfz36_0, hfz36_1, hfz36_2, hfz36_3, hfz36_4, hfz36_5⟩ := cl6 BK298.out
                              go_wp2_with (first | (go_at_call 31; (with_reducible refine (bournelaw15_begins.calls a0 ((rd_T26 l1_5 x8_1).f3) x10_16 true _ A25.out).mono ?_); rintro e w' ⟨rfl, ⟨nd, rfl⟩⟩; have p33 : 0 ≤ (((rd_T26 l1_5 x8_1).f3) : Int) := of_decide_eq_true (by first|with_reducible assumption|assumption); have q33 : ((rd_T26 l1_5 x8_1).f3) < (a0.size : Int) := of_decide_eq_true (by first|with_reducible assumption|assumption); have hx33 := bt_at a0 ((rd_T26 l1_5 x8_1).f3); replace p33 := eq_true p33; replace q33 := eq_true q33))
                              go_meet
                              case rel => exact ⟨_, (true), (by first|rfl|(simp;done)|(simp [*];done)), H', ⟨by have := HK1.out; have := HJ6.out; have := HJ16.out; first | omega | exact Nat.le_refl _⟩, ⟨by (with_reducible repeat first|refine kN ?_ _|refine kd ?_|refine ka ?_ _); exact BK296.out⟩, ⟨by (with_reducible repeat first|refine kN ?_ _|refine kd ?_|refine ka ?_ _); exact BK298.out⟩, ⟨by repeat with_reducible first|exact HB.out|apply ba|apply bN|apply bd|refine below_set ?_ GE296.out|refine below_set ?_ GE298.out⟩⟩
                            rw [if_neg c34] at H
                            have c34b0 : decide ((bt a0 ((rd_T26 l1_5 x8_1).f3)) < 48) = false := decide_eq_false c34
                            clear c34
                            have H' := Aside0.mk H
                            clear H
                            have hnb38 := NB298_296.out
                            have hnc38 := NB296_298.out
                            obtain ⟨hcz39_0, hcz39_1, hcz39_2, hcz39_3, hcz39_4, hcz39_5, hfz39_0, hfz39_1, hfz39_2, hfz39_3, hfz39_4, hfz39_5⟩ := cl6 BK298.out
                            go_wp2_with (first | (go_at_call 31; (with_reducible refine (bournelaw15_begins.calls a0 ((rd_T26 l1_5 x8_1).f3) x10_16 true _ A25.out).mono ?_); rintro e w' ⟨rfl, ⟨nd, rfl⟩⟩; have p33 : 0 ≤ (((rd_T26 l1_5 x8_1).f3) : Int) := of_decide_eq_true (by first|with_reducible assumption|assumption); have q33 : ((rd_T26 l1_5 x8_1).f3) < (a0.size : Int) := of_decide_eq_true (by first|with_reducible assumption|assumption); have hx33 := bt_at a0 ((rd_T26 l1_5 x8_1).f3); replace p33 := eq_true p33; replace q33 := eq_true q33; have p37 : 0 ≤ (((rd_T26 l1_5 x8_1).f3) : Int) := of_decide_eq_true (by first|with_reducible assumption|assumption); have q37 : ((rd_T26 l1_5 x8_1).f3) < (a0.size : Int) := of_decide_eq_true (by first|with_reducible assumption|assumption); have hx37 := bt_at a0 ((rd_T26 l1_5 x8_1).f3); replace p37 := eq_true p37; replace q37 := eq_true q37))
                            go_meet
                            case rel => exact ⟨_, (decide ((bt a0 ((rd_T26 l1_5 x8_1).f3)) > 57)), (by first|rfl|(simp;done)|(simp [*];done)), H', ⟨by have := HK1.out; have := HJ6.out; have := HJ16.out; first | omega | exact Nat.le_refl _⟩, ⟨by (with_reducible repeat first|refine kN ?_ _|refine kd ?_|refine ka ?_ _); exact BK296.out⟩, ⟨by (with_reducible repeat first|refine kN ?_ _|refine kd ?_|refine ka ?_ _); exact BK298.out⟩, ⟨by repeat with_reducible first|exact HB.out|apply ba|apply bN|apply bd|refine below_set ?_ GE296.out|refine below_set ?_ GE298.out⟩⟩
                          rw [if_neg c32] at H
                          exact absurd H (by simp)
                        rw [if_neg c31] at H
                        exact absurd H (by simp)
                      rw [if_neg c27] at H
                      have c27b0 : (((rd_T26 l1_5 x8_1).f0) == 5) = false := beq_eq_false_iff_ne.mpr c27
                      have c27b1 : (((rd_T26 l1_5 x8_1).f0) != 5) = true := bne_iff_ne.mpr c27
                      have H' := Aside0.mk H
                      clear H
                      have hnb40 := NB298_296.out
                      have hnc40 := NB296_298.out
                      obtain ⟨hcz41_0, hcz41_1, hcz41_2, hcz41_3, hcz41_4, hcz41_5, hfz41_0, hfz41_1, hfz41_2, hfz41_3, hfz41_4, hfz41_5⟩ := cl6 BK298.out
                      go_wp2_with (first | (go_at_call 31; (with_reducible refine (bournelaw15_begins.calls a0 ((rd_T26 l1_5 x8_1).f3) x10_16 true _ A25.out).mono ?_); rintro e w' ⟨rfl, ⟨nd, rfl⟩⟩))
                      go_meet
                      case rel => exact ⟨_, (false), (by first|rfl|(simp;done)|(simp [*];done)), H', ⟨by have := HK1.out; have := HJ6.out; have := HJ16.out; first | omega | exact Nat.le_refl _⟩, ⟨by (with_reducible repeat first|refine kN ?_ _|refine kd ?_|refine ka ?_ _); exact BK296.out⟩, ⟨by (with_reducible repeat first|refine kN ?_ _|refine kd ?_|refine ka ?_ _); exact BK298.out⟩, ⟨by repeat with_reducible first|exact HB.out|apply ba|apply bN|apply bd|refine below_set ?_ GE296.out|refine below_set ?_ GE298.out⟩⟩
                    replace c26 := Bool.eq_false_iff.mpr c26
                    subst c26
                    have H1 : (bournelaw15_placed.j3 kj16 a0 x8_1 true a1_0 a1_1 a1_2 a1_3 a1_4 l1_5 ((rd_T26 l1_5 x8_1).f0) ((rd_T26 l1_5 x8_1).f1) ((rd_T26 l1_5 x8_1).f2.f0) ((rd_T26 l1_5 x8_1).f2.f1) ((rd_T26 l1_5 x8_1).f3) ((rd_T26 l1_5 x8_1).f4)) = some (r1, r2) := by rw [if_neg (show ¬ (false = true) by decide)] at H; exact H
                    clear H
                    have H := H1
                    clear H1
                    have H' := Aside0.mk H
                    clear H
                    have hnb42 := NB298_296.out
                    have hnc42 := NB296_298.out
                    obtain ⟨hcz43_0, hcz43_1, hcz43_2, hcz43_3, hcz43_4, hcz43_5, hfz43_0, hfz43_1, hfz43_2, hfz43_3, hfz43_4, hfz43_5⟩ := cl6 BK298.out
                    go_wp2_with (first | (go_at_call 31; (with_reducible refine (bournelaw15_begins.calls a0 ((rd_T26 l1_5 x8_1).f3) x10_16 false _ A25.out).mono ?_); rintro e w' ⟨rfl, ⟨nd, rfl⟩⟩))
                    go_meet
                    case rel => exact ⟨_, (true), (by first|rfl|(simp;done)|(simp [*];done)), H', ⟨by have := HK1.out; have := HJ6.out; have := HJ16.out; first | omega | exact Nat.le_refl _⟩, ⟨by (with_reducible repeat first|refine kN ?_ _|refine kd ?_|refine ka ?_ _); exact BK296.out⟩, ⟨by (with_reducible repeat first|refine kN ?_ _|refine kd ?_|refine ka ?_ _); exact BK298.out⟩, ⟨by repeat with_reducible first|exact HB.out|apply ba|apply bN|apply bd|refine below_set ?_ GE296.out|refine below_set ?_ GE298.out⟩⟩
                  case rest =>
                    clear HC21
                    try clear c1;try clear c2;try clear p2;try clear q2;try clear hx2;try clear c3;try clear p3;try clear q3;try clear hx3;try clear c4;try clear c5;try clear c5b0;try clear c6;try clear c6b0;try clear c10;try clear c12;try clear c12b0;try clear c12b1;try clear c13;try clear c13b0;try clear c13b1;try clear c13b2;try clear c14;try clear c14b0;try clear c14b1;try clear c14b2;try clear c15;try clear c17;try clear c18;try clear c20;try clear c20b0;try clear c20b1;try clear c22;try clear c22b0;try clear c23;try clear c26;try clear c27;try clear c27b0;try clear c27b1;try clear c28;try clear c28b0;try clear c29;try clear p29;try clear q29;try clear hx29;try clear c31;try clear c31b0;try clear c32;try clear c32b0;try clear p33;try clear q33;try clear hx33;try clear c34;try clear c34b0;try clear c35;try clear p37;try clear q37;try clear hx37;try clear c38;try clear c40;try clear c42;try clear hcz11_0;try clear hcz11_1;try clear hcz11_2;try clear hcz11_3;try clear hcz11_4;try clear hcz11_5;try clear hcz16_0;try clear hcz16_1;try clear hcz16_2;try clear hcz16_3;try clear hcz16_4;try clear hcz16_5;try clear hcz19_0;try clear hcz19_1;try clear hcz19_2;try clear hcz19_3;try clear hcz19_4;try clear hcz19_5;try clear hcz24_0;try clear hcz24_1;try clear hcz24_2;try clear hcz24_3;try clear hcz24_4;try clear hcz24_5;try clear hcz30_0;try clear hcz30_1;try clear hcz30_2;try clear hcz30_3;try clear hcz30_4;try clear hcz30_5;try clear hcz36_0;try clear hcz36_1;try clear hcz36_2;try clear hcz36_3;try clear hcz36_4;try clear hcz36_5;try clear hcz39_0;try clear hcz39_1;try clear hcz39_2;try clear hcz39_3;try clear hcz39_4;try clear hcz39_5;try clear hcz41_0;try clear hcz41_1;try clear hcz41_2;try clear hcz41_3;try clear hcz41_4;try clear hcz41_5;try clear hcz43_0;try clear hcz43_1;try clear hcz43_2;try clear hcz43_3;try clear hcz43_4;try clear hcz43_5;try clear hcz8_0;try clear hcz8_1;try clear hcz8_2;try clear hcz8_3;try clear hcz8_4;try clear hcz8_5;try clear hfz11_0;try clear hfz11_1;try clear hfz11_2;try clear hfz11_3;try clear hfz11_4;try clear hfz11_5;try clear hfz16_0;try clear hfz16_1;try clear hfz16_2;try clear hfz16_3;try clear hfz16_4;try clear hfz16_5;try clear hfz19_0;try clear hfz19_1;try clear hfz19_2;try clear hfz19_3;try clear hfz19_4;try clear hfz19_5;try clear hfz24_0;try clear hfz24_1;try clear hfz24_2;try clear hfz24_3;try clear hfz24_4;try clear hfz24_5;try clear hfz30_0;try clear hfz30_1;try clear hfz30_2;try clear hfz30_3;try clear hfz30_4;try clear hfz30_5;try clear hfz36_0;try clear hfz36_1;try clear hfz36_2;try clear hfz36_3;try clear hfz36_4;try clear hfz36_5;try clear hfz39_0;try clear hfz39_1;try clear hfz39_2;try clear hfz39_3;try clear hfz39_4;try clear hfz39_5;try clear hfz41_0;try clear hfz41_1;try clear hfz41_2;try clear hfz41_3;try clear hfz41_4;try clear hfz41_5;try clear hfz43_0;try clear hfz43_1;try clear hfz43_2;try clear hfz43_3;try clear hfz43_4;try clear hfz43_5;try clear hfz8_0;try clear hfz8_1;try clear hfz8_2;try clear hfz8_3;try clear hfz8_4;try clear hfz8_5;try clear hx297_0;try clear hx297_1;try clear hx297_2;try clear hx297_3;try clear hx297_4;try clear hx297_5;try clear p2;try clear p297;try clear p33;try clear p37;try clear q2;try clear q297;try clear q33;try clear q37
                    obtain ⟨kq, x74_20, rfl, HA, HJ20, BK296, BK298, HB⟩ := hcut
                    cases kq with
                    | zero => exact absurd HA.out (by simp [bournelaw15_placed.j3])
                    | succ kj20 =>
                      have H := HA.out
                      clear HA
                      simp only [bournelaw15_placed.j3] at H
                      by_cases c44 : x74_20 = true
                      · subst c44
                        have H1 : (some (0, false)) = some (r1, r2) := by rw [if_pos rfl] at H; exact H
                        clear H
                        have H := H1
                        clear H1
                        simp only [Option.some.injEq, Prod.mk.injEq] at H
                        obtain ⟨rfl, rfl⟩ := H
                        go_wp2
                        go_ret2
                        exact ⟨by first|rfl|(simp<;>rfl)|(simp [*]<;>rfl), by repeat with_reducible first|exact HB.out|apply ba|apply bN|apply bd|refine below_set ?_ GE296.out|refine below_set ?_ GE298.out⟩
                      replace c44 := Bool.eq_false_iff.mpr c44
                      subst c44
                      have H1 : ((bournelaw15_placed.f kj20 a0 ((rd_T26 l1_5 x8_1).f0) ((rd_T26 l1_5 x8_1).f1) ((rd_T26 l1_5 x8_1).f2.f0) ((rd_T26 l1_5 x8_1).f2.f1) ((rd_T26 l1_5 x8_1).f3) ((rd_T26 l1_5 x8_1).f4) (wrap64 (((rd_T26 l1_5 x8_1).f3) + 1))).bind fun bt300 => (if bt300.2 = true then (bournelaw15_placed.l0 kj20 a0 bt300.1 (wrap64 (x8_1 + 1)) a1_0 a1_1 a1_2 a1_3 a1_4 l1_5) else (some (0, false)))) = some (r1, r2) := by rw [if_neg (show ¬ (false = true) by decide)] at H; exact H
                      clear H
                      have H := H1
                      clear H1
                      replace H := Option.bind_eq_some_iff.mp H
                      obtain ⟨⟨t300, t301⟩, A450, H⟩ := H
                      replace H : (if t301 = true then (bournelaw15_placed.l0 kj20 a0 t300 (wrap64 (x8_1 + 1)) a1_0 a1_1 a1_2 a1_3 a1_4 l1_5) else (some (0, false))) = some (r1, r2) := H
                      have A45 := Aside0.mk A450
                      clear A450
                      by_cases c46 : t301 = true
                      · subst c46
                        have H1 : (bournelaw15_placed.l0 kj20 a0 t300 (wrap64 (x8_1 + 1)) a1_0 a1_1 a1_2 a1_3 a1_4 l1_5) = some (r1, r2) := by rw [if_pos rfl] at H; exact H
                        clear H
                        have H := H1
                        clear H1
                        have H' := Aside0.mk H
                        clear H
                        have hnb47 := NB298_296.out
                        have hnc47 := NB296_298.out
                        obtain ⟨hcz48_0, hcz48_1, hcz48_2, hcz48_3, hcz48_4, hcz48_5, hfz48_0, hfz48_1, hfz48_2, hfz48_3, hfz48_4, hfz48_5⟩ := cl6 BK298.out
                        go_wp2_with (first | ((with_reducible refine gate_callee (f := 17) rfl ?_); refine goesL_ (some 81) rfl rfl Tryz.func17 (by kernel_rfl) rfl #[.string a0, .agg #[.int .i64 ((rd_T26 l1_5 x8_1).f0), .string ((rd_T26 l1_5 x8_1).f1), .int .i64 ((rd_T26 l1_5 x8_1).f2.f0), .int .i64 ((rd_T26 l1_5 x8_1).f2.f1), .int .i64 ((rd_T26 l1_5 x8_1).f3), .slice A297_5 ((rd_T26 l1_5 x8_1).f4).length c297_5], .int .i64 (wrap64 (((rd_T26 l1_5 x8_1).f3) + 1))] rfl (by (try simp only [List.map_toArray, List.map_cons, List.map_nil]); first | done | rfl | (simp only [List.length_drop, List.length_take]; rfl) | (simp only [Int.toNat_natCast, ByteArray.extract_zero_size] <;> rfl) | (rw [Int.toNat_natCast, ByteArray.extract_zero_size] <;> rfl)) ?_; (with_reducible refine (ih kj20 (by have := HK1.out; have := HJ6.out; have := HJ16.out; have := HJ20.out; omega) a0 ((rd_T26 l1_5 x8_1).f0) ((rd_T26 l1_5 x8_1).f1) ((rd_T26 l1_5 x8_1).f2.f0) ((rd_T26 l1_5 x8_1).f2.f1) ((rd_T26 l1_5 x8_1).f3) _ _ ((rd_T26 l1_5 x8_1).f4) (wrap64 (((rd_T26 l1_5 x8_1).f3) + 1)) t300 true _ ?side1 ?side2 A45.out).mono ?_); (case side1 => repeat (first | exact (Kd.C_below HR297_5.out HB.out) | (with_reducible refine Kd.C_alloc ?_ _) | (with_reducible refine Kd.C_drewN ?_ _) | (with_reducible refine Kd.C_drew ?_))); (case side2 => exact HC297_5.out); rintro e w49 ⟨rfl, hb⟩; refine ⟨_, rfl, ?_⟩; have n0_ := Aside0.mk (blk_below (g := gb296) (o := .cells #[.int .i64 a1_0, .string a1_1, .int .i64 a1_2, .int .i64 a1_3, .int .i64 a1_4, .slice (some ad297) l1_5.length c1_5] 26 (0, 0)) (by (with_reducible repeat first|refine kN ?_ _|refine kd ?_|refine ka ?_ _); exact BK296.out) hb); have n1_ := Aside0.mk (blk_below (g := gb298) (o := .cells #[.int .i64 ((rd_T26 l1_5 x8_1).f0), .string ((rd_T26 l1_5 x8_1).f1), .int .i64 ((rd_T26 l1_5 x8_1).f2.f0), .int .i64 ((rd_T26 l1_5 x8_1).f2.f1), .int .i64 ((rd_T26 l1_5 x8_1).f3), .slice A297_5 ((rd_T26 l1_5 x8_1).f4).length c297_5] 26 (0, 0)) (by (with_reducible repeat first|refine kN ?_ _|refine kd ?_|refine ka ?_ _); exact BK298.out) hb); have n2_ := Aside0.mk (below_step (by repeat with_reducible first|exact HB.out|apply ba|apply bN|apply bd|refine below_set ?_ GE296.out|refine below_set ?_ GE298.out) hb); clear BK296; clear BK298; clear HB; have BK296 := n0_; have BK298 := n1_; have HB := n2_; clear n0_ n1_ n2_; (try clear hb); (try clear hb2); (try clear hk); (try clear hi)))
                        go_roundg kj20
                        case measure => have := HK1.out; have := HJ6.out; have := HJ16.out; have := HJ20.out; omega
                        case rel => exact ⟨(t300), (wrap64 (x8_1 + 1)), (by first|rfl|(simp;done)|(simp [*];done)), (by first|rfl|(simp;done)|(simp [*];done)), H', ⟨by have := HK1.out; have := HJ6.out; have := HJ16.out; have := HJ20.out; omega⟩, ⟨by (with_reducible repeat first|refine kN ?_ _|refine kd ?_|refine ka ?_ _); exact BK296.out⟩, ⟨by repeat with_reducible first|exact HB.out|apply ba|apply bN|apply bd|refine below_set ?_ GE296.out|refine below_set ?_ GE298.out⟩⟩
                      replace c46 := Bool.eq_false_iff.mpr c46
                      subst c46
                      have H1 : (some (0, false)) = some (r1, r2) := by rw [if_neg (show ¬ (false = true) by decide)] at H; exact H
                      clear H
                      have H := H1
                      clear H1
                      simp only [Option.some.injEq, Prod.mk.injEq] at H
                      obtain ⟨rfl, rfl⟩ := H
                      have hnb50 := NB298_296.out
                      have hnc50 := NB296_298.out
                      obtain ⟨hcz51_0, hcz51_1, hcz51_2, hcz51_3, hcz51_4, hcz51_5, hfz51_0, hfz51_1, hfz51_2, hfz51_3, hfz51_4, hfz51_5⟩ := cl6 BK298.out
                      go_wp2_with (first | ((with_reducible refine gate_callee (f := 17) rfl ?_); refine goesL_ (some 81) rfl rfl Tryz.func17 (by kernel_rfl) rfl #[.string a0, .agg #[.int .i64 ((rd_T26 l1_5 x8_1).f0), .string ((rd_T26 l1_5 x8_1).f1), .int .i64 ((rd_T26 l1_5 x8_1).f2.f0), .int .i64 ((rd_T26 l1_5 x8_1).f2.f1), .int .i64 ((rd_T26 l1_5 x8_1).f3), .slice A297_5 ((rd_T26 l1_5 x8_1).f4).length c297_5], .int .i64 (wrap64 (((rd_T26 l1_5 x8_1).f3) + 1))] rfl (by (try simp only [List.map_toArray, List.map_cons, List.map_nil]); first | done | rfl | (simp only [List.length_drop, List.length_take]; rfl) | (simp only [Int.toNat_natCast, ByteArray.extract_zero_size] <;> rfl) | (rw [Int.toNat_natCast, ByteArray.extract_zero_size] <;> rfl)) ?_; (with_reducible refine (ih kj20 (by have := HK1.out; have := HJ6.out; have := HJ16.out; have := HJ20.out; omega) a0 ((rd_T26 l1_5 x8_1).f0) ((rd_T26 l1_5 x8_1).f1) ((rd_T26 l1_5 x8_1).f2.f0) ((rd_T26 l1_5 x8_1).f2.f1) ((rd_T26 l1_5 x8_1).f3) _ _ ((rd_T26 l1_5 x8_1).f4) (wrap64 (((rd_T26 l1_5 x8_1).f3) + 1)) t300 false _ ?side1 ?side2 A45.out).mono ?_); (case side1 => repeat (first | exact (Kd.C_below HR297_5.out HB.out) | (with_reducible refine Kd.C_alloc ?_ _) | (with_reducible refine Kd.C_drewN ?_ _) | (with_reducible refine Kd.C_drew ?_))); (case side2 => exact HC297_5.out); rintro e w52 ⟨rfl, hb⟩; refine ⟨_, rfl, ?_⟩; have n0_ := Aside0.mk (blk_below (g := gb296) (o := .cells #[.int .i64 a1_0, .string a1_1, .int .i64 a1_2, .int .i64 a1_3, .int .i64 a1_4, .slice (some ad297) l1_5.length c1_5] 26 (0, 0)) (by (with_reducible repeat first|refine kN ?_ _|refine kd ?_|refine ka ?_ _); exact BK296.out) hb); have n1_ := Aside0.mk (blk_below (g := gb298) (o := .cells #[.int .i64 ((rd_T26 l1_5 x8_1).f0), .string ((rd_T26 l1_5 x8_1).f1), .int .i64 ((rd_T26 l1_5 x8_1).f2.f0), .int .i64 ((rd_T26 l1_5 x8_1).f2.f1), .int .i64 ((rd_T26 l1_5 x8_1).f3), .slice A297_5 ((rd_T26 l1_5 x8_1).f4).length c297_5] 26 (0, 0)) (by (with_reducible repeat first|refine kN ?_ _|refine kd ?_|refine ka ?_ _); exact BK298.out) hb); have n2_ := Aside0.mk (below_step (by repeat with_reducible first|exact HB.out|apply ba|apply bN|apply bd|refine below_set ?_ GE296.out|refine below_set ?_ GE298.out) hb); clear BK296; clear BK298; clear HB; have BK296 := n0_; have BK298 := n1_; have HB := n2_; clear n0_ n1_ n2_; (try clear hb); (try clear hb2); (try clear hk); (try clear hi)))
                      go_ret2
                      exact ⟨by first|rfl|(simp<;>rfl)|(simp [*]<;>rfl), by repeat with_reducible first|exact HB.out|apply ba|apply bN|apply bd|refine below_set ?_ GE296.out|refine below_set ?_ GE298.out⟩
        rw [if_neg c6] at H
        exact absurd H (by simp)
      rw [if_neg c5] at H
      have c5b0 : decide (x8_1 < (l1_5.length : Int)) = false := decide_eq_false c5
      clear c5
      simp only [Option.some.injEq, Prod.mk.injEq] at H
      obtain ⟨rfl, rfl⟩ := H
      obtain ⟨hcz53_0, hcz53_1, hcz53_2, hcz53_3, hcz53_4, hcz53_5, hfz53_0, hfz53_1, hfz53_2, hfz53_3, hfz53_4, hfz53_5⟩ := cl6 BK296.out
      go_wp2
      go_ret2
      exact ⟨by first|rfl|(simp<;>rfl)|(simp [*]<;>rfl), by repeat with_reducible first|exact HB.out|apply ba|apply bN|apply bd|refine below_set ?_ GE296.out⟩
end Go.Proofs.YtahjkibjcibpgaaGreatDoor.PTr
end
section
namespace Go.Proofs.YtahjkibjcibpgaaGreatDoor.L
open Go.Proofs.YtahjkibjcibpgaaGreatDoor.U
abbrev nd (k : Int) (t : List UInt8) (a : Int) (l : List PTr.S26) : PTr.S26 := ⟨k, ⟨t.toArray⟩, ⟨0, 0⟩, a, l⟩
abbrev am (n d a : Int) : PTr.S26 := ⟨5, ⟨#[]⟩, ⟨n, d⟩, a, []⟩
def sm1 : ByteArray := ⟨#[108, 97, 107, 101, 32, 116, 111, 112, 32, 34, 85, 112, 112, 101, 114, 34, 32, 123, 32, 99, 97, 112, 32, 52, 32, 77, 76, 59, 32, 108, 101, 118, 101, 108, 32, 40, 48, 32, 108, 44, 32, 48, 32, 109, 109, 41, 32, 40, 52, 32, 77, 76, 44, 32, 51, 32, 109, 41, 59, 32, 125]⟩
def sm2 : ByteArray := ⟨#[120, 32, 123, 32, 121, 32, 53, 32, 109, 32, 122, 59, 32, 125]⟩
def sm3 : ByteArray := ⟨#[120, 32, 123, 32, 121, 32, 53, 32, 125]⟩
def sm4 : ByteArray := ⟨#[120, 32, 121]⟩
def sm5 : ByteArray := ⟨#[120, 32, 123, 32, 121, 32, 40, 41, 59, 32, 125]⟩
def sm6 : ByteArray := ⟨#[120, 32, 123, 32, 121, 32, 49, 46, 53, 32, 108, 59, 32, 125]⟩
def tr1k : List PTr.S26 := [nd 3 [116, 111, 112] 5 [], nd 4 [85, 112, 112, 101, 114] 9 [], nd 2 [99, 97, 112] 19 [am 4000000 1 23], nd 2 [108, 101, 118, 101, 108] 29 [nd 6 [] 35 [am 0 1 36, am 0 3 41], nd 6 [] 47 [am 4000000 1 48, am 3000 3 54]]]
def tr1 : List PTr.S26 := [nd 1 [108, 97, 107, 101] 0 tr1k]
def tr2p : List PTr.S26 := [am 5000 3 6, nd 3 [122] 10 []]
def tr2k : List PTr.S26 := [nd 2 [121] 4 tr2p]
def tr2 : List PTr.S26 := [nd 1 [120] 0 tr2k]
theorem sm1_ok : Ex.tree_Parse.f sm1 = some (0, ⟨#[]⟩, 0, 0, 0, tr1, 0, 0) := Ex.tree_Parse.f_ok (by kernel_rfl) (RL_of 40 0 [] (.ok (tr1, 25)) (by kernel_rfl))
theorem sm2_ok : Ex.tree_Parse.f sm2 = some (0, ⟨#[]⟩, 0, 0, 0, tr2, 0, 0) := Ex.tree_Parse.f_ok (by kernel_rfl) (RL_of 40 0 [] (.ok (tr2, 8)) (by kernel_rfl))
theorem sm3_no : Ex.tree_Parse.f sm3 = some (0, ⟨#[]⟩, 0, 0, 0, [], 2, 8) := Ex.tree_Parse.f_fault (e := (2, 8)) (by kernel_rfl) (RL_of 40 0 [] _ (by kernel_rfl))
theorem sm4_no : Ex.tree_Parse.f sm4 = some (0, ⟨#[]⟩, 0, 0, 0, [], 2, 3) := Ex.tree_Parse.f_fault (e := (2, 3)) (by kernel_rfl) (RL_of 40 0 [] _ (by kernel_rfl))
theorem sm5_no : Ex.tree_Parse.f sm5 = some (0, ⟨#[]⟩, 0, 0, 0, [], 2, 7) := Ex.tree_Parse.f_fault (e := (2, 7)) (by kernel_rfl) (RL_of 40 0 [] _ (by kernel_rfl))
theorem sm6_no : Ex.tree_Parse.f sm6 = some (0, ⟨#[]⟩, 0, 0, 0, [], 7, 6) := Ex.tree_Parse.f_fault (e := (7, 6)) (by kernel_rfl) (RL_of 40 0 [] _ (by kernel_rfl))
end Go.Proofs.YtahjkibjcibpgaaGreatDoor.L
end
section
namespace Go.Proofs.YtahjkibjcibpgaaGreatDoor.L
open Go.RowKit Go.Shelf Go.Lib Go.Proofs.YtahjkibjcibpgaaGreatDoor.U
open Go.Proofs.YtahjkibjcibpgaaGreatDoorW Go.Proofs.YtahjkibjcibpgaaGreatDoorW.PrintWords
attribute [local go_sem] Oper.semAt_some
set_option maxRecDepth 100000 in
theorem bld_used (b : Nat) (w : World) (h0 : w.cell? ⟨b, 0, none⟩ = some (.pointer (some ⟨b, 0, none⟩))) :
    Calls Tryz.prog 32 #[.pointer (some ⟨b, 0, none⟩)] w fun e w' => e = .returned (.tuple #[]) ∧ w' = w := by
  obtain ⟨j, hj, _⟩ := Option.map_eq_some_iff.1 Tryz.Builder_Extra_169.sizeBuilder
  go_enter Tryz.func32, Tryz.ntmps32
  go_wp2
  rw [Lib.run_neq_ptr_same w _ Tryz.underlying47 hj]
  go_wp2
  go_end0
  exact ⟨rfl, rfl⟩
set_option maxRecDepth 100000 in
theorem bld_fresh (b : Nat) (w : World) (h0 : w.cell? ⟨b, 0, none⟩ = some (.pointer none)) (hsh : w.shape? b = some (50, 2)) (hfz : w.frozen? ⟨b, 0, none⟩ = false) :
    Calls Tryz.prog 32 #[.pointer (some ⟨b, 0, none⟩)] w fun e w' => e = .returned (.tuple #[]) ∧ w' = w.setCell ⟨b, 0, none⟩ (.pointer (some ⟨b, 0, none⟩)) := by
  obtain ⟨j, hj, hjs⟩ := Option.map_eq_some_iff.1 Tryz.Builder_Extra_169.sizeBuilder
  go_enter Tryz.func32, Tryz.ntmps32
  go_wp2
  rw [Lib.run_to_unsafe w ⟨b, 0, none⟩ Tryz.underlying47 Tryz.underlying98 hj (by rw [hjs]; decide) hsh (Nat.zero_lt_succ 1)]
  simp only [Result.andThen]
  rw [Oper.upon_value]
  go_wp2
  rw [run_callFunc_extern Tryz.func53 (by kernel_rfl) (by kernel_rfl) (by kernel_rfl) (e := Extern.AbiNoEscape.same) (by kernel_rfl)]
  rw [Lib.run_noEscape]
  simp only [Result.andThen]
  rw [Oper.upon_value]
  go_wp2
  rw [Lib.run_from_unsafe w ⟨b, 0, none⟩ Tryz.underlying98 Tryz.underlying47 hj hsh Tryz.Builder_Extra_169.liesBuilder]
  simp only [Result.andThen]
  rw [Oper.upon_value]
  go_wp2
  go_end0
  exact ⟨rfl, rfl⟩
theorem bld_check (B b : Nat) (bs : List Value) (w : World) (h : Lib.IsBuilderF 50 5 B b bs w) :
    Calls Tryz.prog 32 #[.pointer (some ⟨b, 0, none⟩)] w fun e w' => e = .returned (.tuple #[]) ∧ (Lib.BuilderAtF 50 5 B b (.pointer (some ⟨b, 0, none⟩)) bs w' ∧ Below B w w' ∧ Lib.OthersKept 5 (some b) w w') := by
  rcases h with h | h
  · refine (bld_fresh b w h.cell0 h.shape h.frozen0).mono ?_
    rintro e w' ⟨rfl, rfl⟩
    exact ⟨rfl, h.used _, (Below.refl B w).setCell (p := ⟨b, 0, none⟩) h.1 _, (Lib.OthersKept.refl _ _ w).setCell ⟨b, 0, none⟩ rfl _⟩
  · refine (bld_used b w h.cell0).mono ?_
    rintro e w' ⟨rfl, rfl⟩
    exact ⟨rfl, h, Below.refl B _, Lib.OthersKept.refl _ _ _⟩
set_option maxRecDepth 100000 in
theorem bld_write (B b : Nat) (bs : List Value) (s : ByteArray) (w : World) (h : Lib.IsBuilderF 50 5 B b bs w) (hlen : bs.length + s.size ≤ 140737488355328) (hBw : B ≤ w.heap.size) :
    Calls Tryz.prog 18 #[.pointer (some ⟨b, 0, none⟩), .string s] w fun e w' => e = .returned (.tuple #[.int .i64 s.size, .nilIface]) ∧ (Lib.BuilderAtF 50 5 B b (.pointer (some ⟨b, 0, none⟩)) (bs ++ Lib.strCells s) w' ∧ Below B w w' ∧ Lib.OthersKept 5 (some b) w w') := by
  obtain ⟨i0, hi, hz0, hz1, hz2⟩ := info_parts Tryz.Builder_Extra_169.infoByte
  go_enter Tryz.func18, Tryz.ntmps18
  go_wp2_with (go_at_call 32; go_loud (refine (bld_check B b bs _ h).mono ?_))
  rintro e w1 ⟨rfl, h1, hb1, hk1⟩
  obtain ⟨hB, v, hbk, hown, hne⟩ := h1
  have c0 : w1.cell? ⟨b, 0, none⟩ = some (.pointer (some ⟨b, 0, none⟩)) := by rw [Lib.cell_of_heap hbk]; rfl
  have c1 : w1.cell? ⟨b, 1, none⟩ = some v := by rw [Lib.cell_of_heap hbk]; rfl
  go_wp2_with (at_builtin; refine Lib.wpList_append_own_stringF _ rfl _ _ 48 9 rfl B 5 i0 Tryz.underlying48 Tryz.underlying9 hi hz0 hz1 hz2 _ _ _ rfl hown s rfl ?c3 ?c4 ?c5 ?_)
  case c3 => unfold maxLen; omega
  case c4 => omega
  case c5 => have := hb1.size; omega
  intro v' w2 hown' hgrow _
  have hlt : b < w1.heap.size := blk_lt hbk
  have hb2 : w2.heap[b]? = some (.cells #[.pointer (some ⟨b, 0, none⟩), v] 50 (0, 0)) := by
    rw [hgrow.block b hlt (fun e => hne e.symm)]
    exact hbk
  have d0 : w2.cell? ⟨b, 0, none⟩ = some (.pointer (some ⟨b, 0, none⟩)) := by rw [Lib.cell_of_heap hb2]; rfl
  have d1 : w2.cell? ⟨b, 1, none⟩ = some v := by rw [Lib.cell_of_heap hb2]; rfl
  have f1 : w2.frozen? ⟨b, 1, none⟩ = false := Lib.frozen_of_heap hb2 1
  obtain ⟨ao, n', cap, rfl⟩ : ∃ ao n' cap, v' = .slice ao n' cap := by
    rcases hown'.2 with ⟨hv, _⟩ | ⟨g, cap, cur, fz, hv, _⟩
    · exact ⟨_, _, _, hv⟩
    · exact ⟨_, _, _, hv⟩
  go_wp2
  go_ret2
  refine ⟨rfl, ?_, ?_, (hk1.grown hgrow (Lib.ownsRowF_kind hown)).setCell ⟨b, 1, none⟩ rfl _⟩
  · exact Lib.BuilderAtF.put (T := 50) (e := 5) hB hb2 (bs' := bs ++ Lib.strCells s) (by simpa [Lib.strCells_length] using hown') Tryz.Builder_Extra_169.neB5
  · exact (hb1.grown hgrow (by have := hb1.size; omega) (fun k hk => (hown.lt k hk).1)).setCell (p := ⟨b, 1, none⟩) hB _
end Go.Proofs.YtahjkibjcibpgaaGreatDoor.L
end
section
namespace Go.Proofs.YtahjkibjcibpgaaGreatDoor.PTr
theorem q1sizeW : (⟨#[34]⟩ : ByteArray).size = 1 := rfl
theorem q1sizeP : (⟨#[40]⟩ : ByteArray).size = 1 := rfl
open Go.RowKit Go.Proofs.YtahjkibjcibpgaaGreatDoorW.Sq Go.Proofs.YtahjkibjcibpgaaGreatDoorW.PrintWords Go.Proofs.YtahjkibjcibpgaaGreatDoorW.PrintLast Go.Proofs.YtahjkibjcibpgaaGreatDoorW.PrintMore
attribute [local go_sem] max2_int min2_int max_two min_two max_three min_three max_four min_four   -- for this text's walks alone
set_option linter.unusedVariables false
set_option linter.unusedSimpArgs false
mutual
def tree_write.l0 : Nat → List ByteArray → List (S26) → Int → Int → Option (ByteArray)
  | 0, _, _, _, _ => none
  | k + 1, x3, x22, x23, x24 => if x24 < x23 then (if 0 ≤ x24 then (if x24 < (x22.length : Int) then ((tree_write.f k ((rd_T26 x22 x24).f0) ((rd_T26 x22 x24).f1) ((rd_T26 x22 x24).f2.f0) ((rd_T26 x22 x24).f2.f1) ((rd_T26 x22 x24).f3) ((rd_T26 x22 x24).f4)).bind fun t105 => (if x3.length < 8796093022208 then (tree_write.l0 k (x3 ++ [t105]) x22 x23 (wrap64 (x24 + 1))) else (none))) else (none)) else (none)) else ((Ex.strings_Join.f x3 (⟨#[44, 32]⟩ : ByteArray)).bind fun t109 => (if 1 + t109.size ≤ 9223372036854775807 then (if ((⟨#[40]⟩ : ByteArray) ++ t109).size + 1 ≤ 9223372036854775807 then (some (((⟨#[40]⟩ : ByteArray) ++ t109) ++ (⟨#[41]⟩ : ByteArray))) else (none)) else (none)))
def tree_write.f : Nat → Int → ByteArray → Int → Int → Int → List (S26) → Option (ByteArray)
  | 0, _, _, _, _, _, _ => none
  | k + 1, a0_0, a0_1, a0_2, a0_3, a0_4, l0_5 => if a0_0 = 4 then (if 1 + a0_1.size ≤ 9223372036854775807 then (if ((⟨#[34]⟩ : ByteArray) ++ a0_1).size + 1 ≤ 9223372036854775807 then (some (((⟨#[34]⟩ : ByteArray) ++ a0_1) ++ (⟨#[34]⟩ : ByteArray))) else (none)) else (none)) else (if a0_0 = 5 then ((Ex.unit_Write.f a0_2 a0_3).bind fun t102 => (some t102)) else (if a0_0 = 6 then (tree_write.l0 k ([] : List ByteArray) l0_5 (l0_5.length : Int) 0) else (some a0_1)))
end
theorem tree_write.mono_l : ∀ k, (∀ y0 y1 y2 y3 y4 y5, LeO (tree_write.f k y0 y1 y2 y3 y4 y5) (tree_write.f (k + 1) y0 y1 y2 y3 y4 y5)) ∧ (∀ y0 y1 y2 y3, LeO (tree_write.l0 k y0 y1 y2 y3) (tree_write.l0 (k + 1) y0 y1 y2 y3))
  | 0 => ⟨fun _ _ _ _ _ _ r h => by simp [tree_write.f] at h, fun _ _ _ _ r h => by simp [tree_write.l0] at h⟩
  | k + 1 => by
    obtain ⟨ih0, ih1⟩ := tree_write.mono_l k
    refine ⟨?_, ?_⟩
    · intro y0 y1 y2 y3 y4 y5
      unfold tree_write.f
      repeat' first
      | (with_reducible exact ih0 _ _ _ _ _ _)
      | (with_reducible exact ih1 _ _ _ _)
      | (with_reducible exact LeO.refl _)
      | (with_reducible exact LeO.none _)
      | (with_reducible refine LeO.ite ?_ ?_)
      | (with_reducible refine LeO.bind ?_ (fun _ => ?_))
      | exact ih0 _ _ _ _ _ _
      | exact ih1 _ _ _ _
      | exact LeO.none _
      | refine LeO.ite ?_ ?_
      | refine LeO.bind ?_ (fun _ => ?_)
    intro y0 y1 y2 y3
    unfold tree_write.l0
    repeat' first
    | (with_reducible exact ih0 _ _ _ _ _ _)
    | (with_reducible exact ih1 _ _ _ _)
    | (with_reducible exact LeO.refl _)
    | (with_reducible exact LeO.none _)
    | (with_reducible refine LeO.ite ?_ ?_)
    | (with_reducible refine LeO.bind ?_ (fun _ => ?_))
    | exact ih0 _ _ _ _ _ _
    | exact ih1 _ _ _ _
    | exact LeO.none _
    | refine LeO.ite ?_ ?_
    | refine LeO.bind ?_ (fun _ => ?_)
theorem tree_write.mono : ∀ a0 a1 a2 a3 a4 a5 k, LeO (tree_write.f k a0 a1 a2 a3 a4 a5) (tree_write.f (k + 1) a0 a1 a2 a3 a4 a5) := by
  intro a0 a1 a2 a3 a4 a5 k
  obtain ⟨ih0, ih1⟩ := tree_write.mono_l k
  exact ih0 a0 a1 a2 a3 a4 a5
set_option maxHeartbeats 8000000 in
set_option maxRecDepth 100000 in
theorem tree_write.calls (k : Nat) : ∀ (a0_0 : Int) (a0_1 : ByteArray) (a0_2 : Int) (a0_3 : Int) (a0_4 : Int) (A0_5 : Option Addr) (c0_5 : Nat) (l0_5 : List (S26)) (r : ByteArray) (w : World) (hg : Go.Proofs.YtahjkibjcibpgaaGreatDoor.U.UW w) (hr0_5 : Kd.C k26 w A0_5 l0_5.length l0_5) (hc0_5 : l0_5.length ≤ c0_5) (h : tree_write.f k a0_0 a0_1 a0_2 a0_3 a0_4 l0_5 = some r),
    Calls Tryz.prog 19 #[.agg #[.int .i64 a0_0, .string a0_1, .int .i64 a0_2, .int .i64 a0_3, .int .i64 a0_4, .slice A0_5 l0_5.length c0_5]] w fun e w' => e = .returned (.string r) ∧ Below w.heap.size w w' := by
  induction k using Nat.strongRecOn with
  | _ k ih =>
  intro a0_0 a0_1 a0_2 a0_3 a0_4 A0_5 c0_5 l0_5 r w hg hr0_5 hc0_5 h
  cases k with
  | zero => exact absurd h (by simp [tree_write.f])
  | succ k =>
  simp only [tree_write.f] at h
  have hu26 := Tryz.underlying26
  have hu23 := Tryz.underlying23
  have HR0_5 := Aside0.mk hr0_5
  have HC0_5 := Aside0.mk hc0_5
  clear hr0_5 hc0_5
  have HB := Aside0.mk (Below.refl w.heap.size w)
  have HGW := Aside0.mk hg
  clear hg
  have H : (if a0_0 = 4 then (if 1 + a0_1.size ≤ 9223372036854775807 then (if ((⟨#[34]⟩ : ByteArray) ++ a0_1).size + 1 ≤ 9223372036854775807 then (some (((⟨#[34]⟩ : ByteArray) ++ a0_1) ++ (⟨#[34]⟩ : ByteArray))) else (none)) else (none)) else (if a0_0 = 5 then ((Ex.unit_Write.f a0_2 a0_3).bind fun t102 => (some t102)) else (if a0_0 = 6 then (tree_write.l0 k ([] : List ByteArray) l0_5 (l0_5.length : Int) 0) else (some a0_1)))) = some r := h
  clear h
  by_cases c2 : a0_0 = 4
  · rw [if_pos c2] at H
    have c2b0 : (a0_0 == 4) = true := beq_iff_eq.mpr c2
    have c2b1 : (a0_0 != 4) = false := bne_eq_false_iff_eq.mpr c2
    clear c2
    by_cases c3 : 1 + a0_1.size ≤ 9223372036854775807
    · rw [if_pos c3] at H
      have c3b0 := eq_true c3
      have c3b1 : decide (1 + a0_1.size ≤ 9223372036854775807) = true := decide_eq_true c3
      try have c3b2 : (9223372036854775807 < 1 + a0_1.size) = False := eq_false (Nat.not_lt.2 c3)
      by_cases c4 : ((⟨#[34]⟩ : ByteArray) ++ a0_1).size + 1 ≤ 9223372036854775807
      · rw [if_pos c4] at H
        have c4b0 := eq_true c4
        have c4b1 : decide (((⟨#[34]⟩ : ByteArray) ++ a0_1).size + 1 ≤ 9223372036854775807) = true := decide_eq_true c4
        try have c4b2 : (9223372036854775807 < ((⟨#[34]⟩ : ByteArray) ++ a0_1).size + 1) = False := eq_false (Nat.not_lt.2 c4)
        try have c4b3 := c4b2
        try simp only [ByteArray.size_append, q1sizeW, q1sizeP] at c4b3
        obtain rfl := Option.some.inj H
        go_enter Tryz.func19, Tryz.ntmps19
        go_wp2_with (first | ((with_reducible refine gate_dst (N := 1) rfl ?_); refine box_event ?hg (N := 1) ?hd (cs := #[.int .i64 a0_0, .string a0_1, .int .i64 a0_2, .int .i64 a0_3, .int .i64 a0_4, .slice A0_5 l0_5.length c0_5]) (t := 26) ?hr ?_; (case hd => rfl); (case hg => rfl); (case hr => first | (go_simp; done) | (go_simp; rfl)); intro gb101 hg w5 hbox hb; have n0_ := Aside0.mk (below_step (by repeat with_reducible first|exact HB.out|apply ba|apply bN|apply bd) hb); have n1_ := Aside0.mk (hbox); have n2_ := Aside0.mk ((by rw [hg]; exact (below_size (by repeat with_reducible first|exact HB.out|apply ba|apply bN|apply bd)) : w.heap.size ≤ gb101)); have n3_ := Aside0.mk ((by rw [hg]; exact (below_size (by repeat with_reducible first|exact HB.out|apply ba|apply bN|apply bd)) : w.heap.size ≤ gb101)); clear HB; have HB := n0_; have BK101 := n1_; have GW101 := n2_; have GE101 := n3_; clear n0_ n1_ n2_ n3_; clear hb hbox hg; obtain ⟨hcz6_0, hcz6_1, hcz6_2, hcz6_3, hcz6_4, hcz6_5, hfz6_0, hfz6_1, hfz6_2, hfz6_3, hfz6_4, hfz6_5⟩ := cl6 BK101.out))
        go_ret
        exact ⟨by first|rfl|(simp<;>rfl)|(simp [*]<;>rfl), by repeat with_reducible first|exact HB.out|apply ba|apply bN|apply bd|refine below_set ?_ GE101.out⟩
      rw [if_neg c4] at H
      exact absurd H (by simp)
    rw [if_neg c3] at H
    exact absurd H (by simp)
  rw [if_neg c2] at H
  have c2b0 : (a0_0 == 4) = false := beq_eq_false_iff_ne.mpr c2
  have c2b1 : (a0_0 != 4) = true := bne_iff_ne.mpr c2
  by_cases c7 : a0_0 = 5
  · rw [if_pos c7] at H
    have c7b0 : (a0_0 == 5) = true := beq_iff_eq.mpr c7
    have c7b1 : (a0_0 != 5) = false := bne_eq_false_iff_eq.mpr c7
    clear c7
    replace H := Option.bind_eq_some_iff.mp H
    obtain ⟨t102, A80, H⟩ := H
    replace H : (some t102) = some r := H
    have A8 := Aside0.mk A80
    clear A80
    obtain rfl := Option.some.inj H
    go_enter Tryz.func19, Tryz.ntmps19
    go_wp2_with (first | ((with_reducible refine gate_dst (N := 1) rfl ?_); refine box_event ?hg (N := 1) ?hd (cs := #[.int .i64 a0_0, .string a0_1, .int .i64 a0_2, .int .i64 a0_3, .int .i64 a0_4, .slice A0_5 l0_5.length c0_5]) (t := 26) ?hr ?_; (case hd => rfl); (case hg => rfl); (case hr => first | (go_simp; done) | (go_simp; rfl)); intro gb101 hg w9 hbox hb; have n0_ := Aside0.mk (below_step (by repeat with_reducible first|exact HB.out|apply ba|apply bN|apply bd) hb); have n1_ := Aside0.mk (hbox); have n2_ := Aside0.mk ((by rw [hg]; exact (below_size (by repeat with_reducible first|exact HB.out|apply ba|apply bN|apply bd)) : w.heap.size ≤ gb101)); have n3_ := Aside0.mk ((by rw [hg]; exact (below_size (by repeat with_reducible first|exact HB.out|apply ba|apply bN|apply bd)) : w.heap.size ≤ gb101)); clear HB; have HB := n0_; have BK101 := n1_; have GW101 := n2_; have GE101 := n3_; clear n0_ n1_ n2_ n3_; clear hb hbox hg; obtain ⟨hcz10_0, hcz10_1, hcz10_2, hcz10_3, hcz10_4, hcz10_5, hfz10_0, hfz10_1, hfz10_2, hfz10_3, hfz10_4, hfz10_5⟩ := cl6 BK101.out) | ((with_reducible refine gate_callee (f := 33) rfl ?_); refine goesL_ (some 18) rfl rfl Tryz.func33 (by kernel_rfl) rfl #[.agg #[.int .i64 a0_2, .int .i64 a0_3]] rfl (by (try simp only [List.map_toArray, List.map_cons, List.map_nil]); first | done | rfl | (simp only [List.length_drop, List.length_take]; rfl) | (simp only [Int.toNat_natCast, ByteArray.extract_zero_size] <;> rfl) | (rw [Int.toNat_natCast, ByteArray.extract_zero_size] <;> rfl)) ?_; (with_reducible refine (Ex.unit_Write.calls a0_2 a0_3 t102 _ ?side1 A8.out).mono ?_); (case side1 => exact Go.Proofs.YtahjkibjcibpgaaGreatDoor.U.UW.step HGW.out (by repeat with_reducible first|exact HB.out|apply ba|apply bN|apply bd|refine below_set ?_ GE101.out)); rintro e w11 ⟨rfl, hb⟩; refine ⟨_, rfl, ?_⟩; have n0_ := Aside0.mk (blk_below (g := gb101) (o := .cells #[.int .i64 a0_0, .string a0_1, .int .i64 a0_2, .int .i64 a0_3, .int .i64 a0_4, .slice A0_5 l0_5.length c0_5] 26 (0, 0)) (by (with_reducible repeat first|refine kN ?_ _|refine kd ?_|refine ka ?_ _); exact BK101.out) hb); have n1_ := Aside0.mk (below_step (by repeat with_reducible first|exact HB.out|apply ba|apply bN|apply bd|refine below_set ?_ GE101.out) hb); clear BK101; clear HB; have BK101 := n0_; have HB := n1_; clear n0_ n1_; (try clear hb); (try clear hb2); (try clear hk); (try clear hi)))
    go_ret
    exact ⟨by first|rfl|(simp<;>rfl)|(simp [*]<;>rfl), by repeat with_reducible first|exact HB.out|apply ba|apply bN|apply bd|refine below_set ?_ GE101.out⟩
  rw [if_neg c7] at H
  have c7b0 : (a0_0 == 5) = false := beq_eq_false_iff_ne.mpr c7
  have c7b1 : (a0_0 != 5) = true := bne_iff_ne.mpr c7
  by_cases c12 : a0_0 = 6
  · rw [if_pos c12] at H
    have c12b0 : (a0_0 == 6) = true := beq_iff_eq.mpr c12
    have c12b1 : (a0_0 != 6) = false := bne_eq_false_iff_eq.mpr c12
    clear c12
    have H' := Aside0.mk H
    clear H
    go_enter Tryz.func19, Tryz.ntmps19
    go_wp2_with (first | ((with_reducible refine gate_dst (N := 1) rfl ?_); refine box_event ?hg (N := 1) ?hd (cs := #[.int .i64 a0_0, .string a0_1, .int .i64 a0_2, .int .i64 a0_3, .int .i64 a0_4, .slice A0_5 l0_5.length c0_5]) (t := 26) ?hr ?_; (case hd => rfl); (case hg => rfl); (case hr => first | (go_simp; done) | (go_simp; rfl)); intro gb101 hg w13 hbox hb; have n0_ := Aside0.mk (below_step (by repeat with_reducible first|exact HB.out|apply ba|apply bN|apply bd) hb); have n1_ := Aside0.mk (hbox); have n2_ := Aside0.mk ((by rw [hg]; exact (below_size (by repeat with_reducible first|exact HB.out|apply ba|apply bN|apply bd)) : w.heap.size ≤ gb101)); have n3_ := Aside0.mk ((by rw [hg]; exact (below_size (by repeat with_reducible first|exact HB.out|apply ba|apply bN|apply bd)) : w.heap.size ≤ gb101)); clear HB; have HB := n0_; have BK101 := n1_; have GW101 := n2_; have GE101 := n3_; clear n0_ n1_ n2_ n3_; clear hb hbox hg; obtain ⟨hcz14_0, hcz14_1, hcz14_2, hcz14_3, hcz14_4, hcz14_5, hfz14_0, hfz14_1, hfz14_2, hfz14_3, hfz14_4, hfz14_5⟩ := cl6 BK101.out))
    go_loopg [3, 24] k (fun kq v3 v24 w' => ∃ (x3_1 : List ByteArray) (x24_1 : Int), v24 = .int .i64 x24_1 ∧ Aside0 (tree_write.l0 kq x3_1 l0_5 (l0_5.length : Int) x24_1 = some r) ∧ Aside0 (kq ≤ k) ∧ Aside0 (Kd.R Kd.string 9 w' w.heap.size (fun _ => True) v3 x3_1) ∧ Aside0 (w'.heap[gb101]? = some (.cells #[.int .i64 a0_0, .string a0_1, .int .i64 a0_2, .int .i64 a0_3, .int .i64 a0_4, (.slice A0_5 l0_5.length c0_5)] 26 (0, 0))) ∧ Aside0 (Below w.heap.size w w'))
    case atStart => exact ⟨(([] : List ByteArray)), (0), (by first|rfl|(simp;done)|(simp [*];done)), H', ⟨Nat.le_refl _⟩, ⟨by first | exact Kd.R_nil _ _ _ _ _ | exact Kd.N_nil _ _ _ _ _ | exact Kd.V_nil _ _ _ _ _ | exact Kd.Q_nil _ _ _ _ _ | exact Kd.S_nil _ _ _ _ _⟩, ⟨by (with_reducible repeat first|refine kN ?_ _|refine kd ?_|refine ka ?_ _); exact BK101.out⟩, ⟨by repeat with_reducible first|exact HB.out|apply ba|apply bN|apply bd|refine below_set ?_ GE101.out⟩⟩
    case round =>
      clear H'
      try clear c1;try clear c2;try clear c2b0;try clear c2b1;try clear p2;try clear c3;try clear c3b0;try clear c3b1;try clear c3b2;try clear c4;try clear c4b0;try clear c4b1;try clear c4b2;try clear c7;try clear c7b0;try clear c7b1;try clear c12;try clear c12b0;try clear c12b1;try clear hcz10_0;try clear hcz10_1;try clear hcz10_2;try clear hcz10_3;try clear hcz10_4;try clear hcz10_5;try clear hcz14_0;try clear hcz14_1;try clear hcz14_2;try clear hcz14_3;try clear hcz14_4;try clear hcz14_5;try clear hcz6_0;try clear hcz6_1;try clear hcz6_2;try clear hcz6_3;try clear hcz6_4;try clear hcz6_5;try clear hfz10_0;try clear hfz10_1;try clear hfz10_2;try clear hfz10_3;try clear hfz10_4;try clear hfz10_5;try clear hfz14_0;try clear hfz14_1;try clear hfz14_2;try clear hfz14_3;try clear hfz14_4;try clear hfz14_5;try clear hfz6_0;try clear hfz6_1;try clear hfz6_2;try clear hfz6_3;try clear hfz6_4;try clear hfz6_5
      obtain ⟨x3_1, x24_1, rfl, HA, HK1, HO_3, BK101, HB⟩ := hrel
      cases gk with
      | zero => exact absurd HA.out (by simp [tree_write.l0])
      | succ k1 =>
        have H := HA.out
        clear HA
        simp only [tree_write.l0] at H
        by_cases c15 : x24_1 < (l0_5.length : Int)
        · rw [if_pos c15] at H
          have c15b0 : decide (x24_1 < (l0_5.length : Int)) = true := decide_eq_true c15
          clear c15
          by_cases c16 : 0 ≤ x24_1
          · rw [if_pos c16] at H
            have c16b0 : decide (0 ≤ x24_1) = true := decide_eq_true c16
            clear c16
            by_cases c17 : x24_1 < (l0_5.length : Int)
            · rw [if_pos c17] at H
              have c17b0 : decide (x24_1 < (l0_5.length : Int)) = true := decide_eq_true c17
              clear c17
              replace H := Option.bind_eq_some_iff.mp H
              obtain ⟨t105, A180, H⟩ := H
              replace H : (if x3_1.length < 8796093022208 then (tree_write.l0 k1 (x3_1 ++ [t105]) l0_5 (l0_5.length : Int) (wrap64 (x24_1 + 1))) else (none)) = some r := H
              have A18 := Aside0.mk A180
              clear A180
              by_cases c19 : x3_1.length < 8796093022208
              · rw [if_pos c19] at H
                have LMc19 := Aside0.mk c19
                clear c19
                obtain ⟨y106, hy106⟩ : ∃ y_ : List ByteArray, y_ = (x3_1 ++ [t105]) := ⟨_, rfl⟩
                replace H : (tree_write.l0 k1 y106 l0_5 (l0_5.length : Int) (wrap64 (x24_1 + 1))) = some r := by first | (rw [hy106]; with_reducible exact H) | (have H2_ := (Option.bind_some _ _).symm.trans H; rw [hy106]; with_reducible exact H2_) | (have H2_ := (Option.bind_some _ _).symm.trans H; with_reducible exact H2_) | with_reducible exact H | (rw [hy106]; exact H) | exact H
                have Ny106 := Aside0.mk hy106
                clear hy106
                have H' := Aside0.mk H
                clear H
                have p103 : 0 ≤ (x24_1 : Int) := of_decide_eq_true (by first|with_reducible assumption|assumption)
                have q103 : x24_1 < (l0_5.length : Int) := of_decide_eq_true (by first|with_reducible assumption|assumption)
                obtain ⟨ad103, A103_5, c103_5, e103, hx103_0, hx103_1, hx103_2, hx103_3, hx103_4, hx103_5, hl103_5, hi103_5⟩ := at_T26 HR0_5.out x24_1 p103 q103
                cases e103
                replace hx103_0 := cb HB.out hx103_0
                replace hx103_1 := cb HB.out hx103_1
                replace hx103_2 := cb HB.out hx103_2
                replace hx103_3 := cb HB.out hx103_3
                replace hx103_4 := cb HB.out hx103_4
                replace hx103_5 := cb HB.out hx103_5
                have HR103_5 := Aside0.mk hi103_5
                have HC103_5 := Aside0.mk hl103_5
                clear hi103_5 hl103_5
                replace p103 := eq_true p103
                replace q103 := eq_true q103
                go_wp2_with (first | ((with_reducible refine gate_dst (N := 5) rfl ?_); refine box_event ?hg (N := 5) ?hd (cs := #[.int .i64 0, .string (⟨#[]⟩ : ByteArray), .int .i64 0, .int .i64 0, .int .i64 0, .slice none 0 0]) (t := 26) ?hr ?_; (case hd => rfl); (case hg => rfl); (case hr => first | (go_simp; done) | (go_simp; rfl)); intro gb104 hg w20 hbox hb; have n0_ := Aside0.mk (Kd.R_below (by (with_reducible repeat (first | apply Kd.R_alloc | apply Kd.R_drewN | apply Kd.R_drew)); exact HO_3.out) hb); have n1_ := Aside0.mk (blk_below (g := gb101) (o := .cells #[.int .i64 a0_0, .string a0_1, .int .i64 a0_2, .int .i64 a0_3, .int .i64 a0_4, .slice (some ad103) l0_5.length c0_5] 26 (0, 0)) (by (with_reducible repeat first|refine kN ?_ _|refine kd ?_|refine ka ?_ _); exact BK101.out) hb); have n2_ := Aside0.mk (below_step (by repeat with_reducible first|exact HB.out|apply ba|apply bN|apply bd|refine below_set ?_ GE101.out) hb); have n3_ := Aside0.mk (hbox); have n4_ := Aside0.mk ((by rw [hg]; exact (below_size (by repeat with_reducible first|exact HB.out|apply ba|apply bN|apply bd|refine below_set ?_ GE101.out)) : w.heap.size ≤ gb104)); have n5_ := Aside0.mk ((by rw [hg]; exact (below_size (by repeat with_reducible first|exact HB.out|apply ba|apply bN|apply bd|refine below_set ?_ GE101.out)) : w.heap.size ≤ gb104)); have n6_ := Aside0.mk ((by rw [hg]; exact Nat.ne_of_lt (blk_lt (g := gb101) (o := .cells #[.int .i64 a0_0, .string a0_1, .int .i64 a0_2, .int .i64 a0_3, .int .i64 a0_4, .slice (some ad103) l0_5.length c0_5] 26 (0, 0)) (by (with_reducible repeat first|refine kN ?_ _|refine kd ?_|refine ka ?_ _); exact BK101.out)) : gb101 ≠ gb104)); have n7_ := Aside0.mk ((by rw [hg]; exact Nat.ne_of_gt (blk_lt (g := gb101) (o := .cells #[.int .i64 a0_0, .string a0_1, .int .i64 a0_2, .int .i64 a0_3, .int .i64 a0_4, .slice (some ad103) l0_5.length c0_5] 26 (0, 0)) (by (with_reducible repeat first|refine kN ?_ _|refine kd ?_|refine ka ?_ _); exact BK101.out)) : gb104 ≠ gb101)); clear HO_3; clear BK101; clear HB; have HO_3 := n0_; have BK101 := n1_; have HB := n2_; have BK104 := n3_; have GW104 := n4_; have GE104 := n5_; have NB101_104 := n6_; have NB104_101 := n7_; clear n0_ n1_ n2_ n3_ n4_ n5_ n6_ n7_; clear hb hbox hg; have hnb21 := NB104_101.out; have hnc21 := NB101_104.out; obtain ⟨hcz22_0, hcz22_1, hcz22_2, hcz22_3, hcz22_4, hcz22_5, hfz22_0, hfz22_1, hfz22_2, hfz22_3, hfz22_4, hfz22_5⟩ := cl6 BK104.out) | ((with_reducible refine gate_callee (f := 19) rfl ?_); refine goesL_ (some 30) rfl rfl Tryz.func19 (by kernel_rfl) rfl #[.agg #[.int .i64 ((rd_T26 l0_5 x24_1).f0), .string ((rd_T26 l0_5 x24_1).f1), .int .i64 ((rd_T26 l0_5 x24_1).f2.f0), .int .i64 ((rd_T26 l0_5 x24_1).f2.f1), .int .i64 ((rd_T26 l0_5 x24_1).f3), .slice A103_5 ((rd_T26 l0_5 x24_1).f4).length c103_5]] rfl (by (try simp only [List.map_toArray, List.map_cons, List.map_nil]); first | done | rfl | (simp only [List.length_drop, List.length_take]; rfl) | (simp only [Int.toNat_natCast, ByteArray.extract_zero_size] <;> rfl) | (rw [Int.toNat_natCast, ByteArray.extract_zero_size] <;> rfl)) ?_; (with_reducible refine (ih k1 (by have := HK1.out; omega) ((rd_T26 l0_5 x24_1).f0) ((rd_T26 l0_5 x24_1).f1) ((rd_T26 l0_5 x24_1).f2.f0) ((rd_T26 l0_5 x24_1).f2.f1) ((rd_T26 l0_5 x24_1).f3) _ _ ((rd_T26 l0_5 x24_1).f4) t105 _ ?side1 ?side2 ?side3 A18.out).mono ?_); (case side1 => exact Go.Proofs.YtahjkibjcibpgaaGreatDoor.U.UW.step HGW.out (by repeat with_reducible first|exact HB.out|apply ba|apply bN|apply bd|refine below_set ?_ GE101.out|refine below_set ?_ GE104.out)); (case side2 => exact Kd.C_below HR103_5.out (by repeat with_reducible first|exact HB.out|apply ba|apply bN|apply bd|refine below_set ?_ GE101.out|refine below_set ?_ GE104.out)); (case side3 => exact HC103_5.out); rintro e w23 ⟨rfl, hb⟩; refine ⟨_, rfl, ?_⟩; have n0_ := Aside0.mk (Kd.R_below (by (with_reducible repeat (first | apply Kd.R_alloc | apply Kd.R_drewN | apply Kd.R_drew)); exact (Kd.R_mono (Kd.R_far (p := ⟨gb104, 5, none⟩) (Kd.R_far (p := ⟨gb104, 4, none⟩) (Kd.R_far (p := ⟨gb104, 3, none⟩) (Kd.R_far (p := ⟨gb104, 2, none⟩) (Kd.R_far (p := ⟨gb104, 1, none⟩) (Kd.R_far (p := ⟨gb104, 0, none⟩) (Kd.R_types HO_3.out BK104.out (by decide)) (fun _ hk => hk.2) (.int .i64 ((rd_T26 l0_5 x24_1).f0))) (fun _ hk => hk.2) (.string ((rd_T26 l0_5 x24_1).f1))) (fun _ hk => hk.2) (.int .i64 ((rd_T26 l0_5 x24_1).f2.f0))) (fun _ hk => hk.2) (.int .i64 ((rd_T26 l0_5 x24_1).f2.f1))) (fun _ hk => hk.2) (.int .i64 ((rd_T26 l0_5 x24_1).f3))) (fun _ hk => hk.2) (.slice A103_5 ((rd_T26 l0_5 x24_1).f4).length c103_5)) (fun _ h_ => h_.1))) hb); have n1_ := Aside0.mk (blk_below (g := gb101) (o := .cells #[.int .i64 a0_0, .string a0_1, .int .i64 a0_2, .int .i64 a0_3, .int .i64 a0_4, .slice (some ad103) l0_5.length c0_5] 26 (0, 0)) (by (with_reducible repeat first|refine kN ?_ _|refine kd ?_|refine ka ?_ _); refine blk_far ?_ NB101_104.out _; (with_reducible repeat first|refine kN ?_ _|refine kd ?_|refine ka ?_ _); refine blk_far ?_ NB101_104.out _; (with_reducible repeat first|refine kN ?_ _|refine kd ?_|refine ka ?_ _); refine blk_far ?_ NB101_104.out _; (with_reducible repeat first|refine kN ?_ _|refine kd ?_|refine ka ?_ _); refine blk_far ?_ NB101_104.out _; (with_reducible repeat first|refine kN ?_ _|refine kd ?_|refine ka ?_ _); refine blk_far ?_ NB101_104.out _; (with_reducible repeat first|refine kN ?_ _|refine kd ?_|refine ka ?_ _); refine blk_far ?_ NB101_104.out _; (with_reducible repeat first|refine kN ?_ _|refine kd ?_|refine ka ?_ _); exact BK101.out) hb); have n2_ := Aside0.mk (blk_below (g := gb104) (o := .cells #[.int .i64 ((rd_T26 l0_5 x24_1).f0), .string ((rd_T26 l0_5 x24_1).f1), .int .i64 ((rd_T26 l0_5 x24_1).f2.f0), .int .i64 ((rd_T26 l0_5 x24_1).f2.f1), .int .i64 ((rd_T26 l0_5 x24_1).f3), .slice A103_5 ((rd_T26 l0_5 x24_1).f4).length c103_5] 26 (0, 0)) (by (with_reducible repeat first|refine kN ?_ _|refine kd ?_|refine ka ?_ _); refine blk_put (cs := #[.int .i64 ((rd_T26 l0_5 x24_1).f0), .string ((rd_T26 l0_5 x24_1).f1), .int .i64 ((rd_T26 l0_5 x24_1).f2.f0), .int .i64 ((rd_T26 l0_5 x24_1).f2.f1), .int .i64 ((rd_T26 l0_5 x24_1).f3), .slice none 0 0]) ?_ 5 _ rfl; (with_reducible repeat first|refine kN ?_ _|refine kd ?_|refine ka ?_ _); refine blk_put (cs := #[.int .i64 ((rd_T26 l0_5 x24_1).f0), .string ((rd_T26 l0_5 x24_1).f1), .int .i64 ((rd_T26 l0_5 x24_1).f2.f0), .int .i64 ((rd_T26 l0_5 x24_1).f2.f1), .int .i64 0, .slice none 0 0]) ?_ 4 _ rfl; (with_reducible repeat first|refine kN ?_ _|refine kd ?_|refine ka ?_ _); refine blk_put (cs := #[.int .i64 ((rd_T26 l0_5 x24_1).f0), .string ((rd_T26 l0_5 x24_1).f1), .int .i64 ((rd_T26 l0_5 x24_1).f2.f0), .int .i64 0, .int .i64 0, .slice none 0 0]) ?_ 3 _ rfl; (with_reducible repeat first|refine kN ?_ _|refine kd ?_|refine ka ?_ _); refine blk_put (cs := #[.int .i64 ((rd_T26 l0_5 x24_1).f0), .string ((rd_T26 l0_5 x24_1).f1), .int .i64 0, .int .i64 0, .int .i64 0, .slice none 0 0]) ?_ 2 _ rfl; (with_reducible repeat first|refine kN ?_ _|refine kd ?_|refine ka ?_ _); refine blk_put (cs := #[.int .i64 ((rd_T26 l0_5 x24_1).f0), .string (⟨#[]⟩ : ByteArray), .int .i64 0, .int .i64 0, .int .i64 0, .slice none 0 0]) ?_ 1 _ rfl; (with_reducible repeat first|refine kN ?_ _|refine kd ?_|refine ka ?_ _); refine blk_put (cs := #[.int .i64 0, .string (⟨#[]⟩ : ByteArray), .int .i64 0, .int .i64 0, .int .i64 0, .slice none 0 0]) ?_ 0 _ rfl; (with_reducible repeat first|refine kN ?_ _|refine kd ?_|refine ka ?_ _); exact BK104.out) hb); have n3_ := Aside0.mk (below_step (by repeat with_reducible first|exact HB.out|apply ba|apply bN|apply bd|refine below_set ?_ GE101.out|refine below_set ?_ GE104.out) hb); clear HO_3; clear BK101; clear BK104; clear HB; have HO_3 := n0_; have BK101 := n1_; have BK104 := n2_; have HB := n3_; clear n0_ n1_ n2_ n3_; (try clear hb); (try clear hb2); (try clear hk); (try clear hi)) | ((with_reducible refine gate_builtin (b := .append) (xs := #[.tmp 28, .tmp 31]) rfl ?_); at_builtin; refine Kd.R_append Kd.string (w0 := w) w.heap.size rfl (.tmp 28) (.tmp 31) 66 9 (.string ⟨#[]⟩) 16 rfl Tryz.underlying66 info9 rfl (by decide) (by omega) u3 x3_1 t105 [.string t105] (fun _ => True) (fun _ => False) rfl rfl ?aP (fun _ hk => hk.elim) ?aF ?aO ?aB ?aS ?aL ?_; (case aP => exact rfl); (case aB => exact (by repeat with_reducible first|exact HB.out|apply ba|apply bN|apply bd|refine below_set ?_ GE101.out|refine below_set ?_ GE104.out)); (case aF => exact (fun _ _ => trivial)); (case aO => exact (by (with_reducible repeat (first | apply Kd.R_alloc | apply Kd.R_drewN | apply Kd.R_drew)); exact HO_3.out)); (case aS => exact (below_size (by repeat with_reducible first|exact HB.out|apply ba|apply bN|apply bd|refine below_set ?_ GE101.out|refine below_set ?_ GE104.out))); (case aL => have := LMc19.out; omega); intro v107 w24 ho hb hg hat; rw [← Ny106.out] at ho; have n0_ := Aside0.mk (blk_grown (g := gb101) (o := .cells #[.int .i64 a0_0, .string a0_1, .int .i64 a0_2, .int .i64 a0_3, .int .i64 a0_4, .slice (some ad103) l0_5.length c0_5] 26 (0, 0)) (by (with_reducible repeat first|refine kN ?_ _|refine kd ?_|refine ka ?_ _); exact BK101.out) hg (Kd.R_ne HO_3.out BK101.out (by decide))); have n1_ := Aside0.mk (blk_grown (g := gb104) (o := .cells #[.int .i64 ((rd_T26 l0_5 x24_1).f0), .string ((rd_T26 l0_5 x24_1).f1), .int .i64 ((rd_T26 l0_5 x24_1).f2.f0), .int .i64 ((rd_T26 l0_5 x24_1).f2.f1), .int .i64 ((rd_T26 l0_5 x24_1).f3), .slice A103_5 ((rd_T26 l0_5 x24_1).f4).length c103_5] 26 (0, 0)) (by (with_reducible repeat first|refine kN ?_ _|refine kd ?_|refine ka ?_ _); exact BK104.out) hg (Kd.R_ne HO_3.out BK104.out (by decide))); have n2_ := Aside0.mk (hb); have n3_ := Aside0.mk (ho); clear BK101; clear BK104; clear HB; clear HO_3; have BK101 := n0_; have BK104 := n1_; have HB := n2_; have HO108 := n3_; clear n0_ n1_ n2_ n3_; clear ho hb hg hat))
                go_roundg k1
                case measure => have := HK1.out; omega
                case rel => exact ⟨(y106), (wrap64 (x24_1 + 1)), (by first|rfl|(simp;done)|(simp [*];done)), H', ⟨by have := HK1.out; omega⟩, ⟨by (with_reducible repeat (first | apply Kd.R_alloc | apply Kd.R_drewN | apply Kd.R_drew)); exact HO108.out⟩, ⟨by (with_reducible repeat first|refine kN ?_ _|refine kd ?_|refine ka ?_ _); exact BK101.out⟩, ⟨by repeat with_reducible first|exact HB.out|apply ba|apply bN|apply bd|refine below_set ?_ GE101.out|refine below_set ?_ GE104.out⟩⟩
              rw [if_neg c19] at H
              exact absurd H (by simp)
            rw [if_neg c17] at H
            exact absurd H (by simp)
          rw [if_neg c16] at H
          exact absurd H (by simp)
        rw [if_neg c15] at H
        have c15b0 : decide (x24_1 < (l0_5.length : Int)) = false := decide_eq_false c15
        clear c15
        replace H := Option.bind_eq_some_iff.mp H
        obtain ⟨t109, A250, H⟩ := H
        replace H : (if 1 + t109.size ≤ 9223372036854775807 then (if ((⟨#[40]⟩ : ByteArray) ++ t109).size + 1 ≤ 9223372036854775807 then (some (((⟨#[40]⟩ : ByteArray) ++ t109) ++ (⟨#[41]⟩ : ByteArray))) else (none)) else (none)) = some r := H
        have A25 := Aside0.mk A250
        clear A250
        by_cases c26 : 1 + t109.size ≤ 9223372036854775807
        · rw [if_pos c26] at H
          have c26b0 := eq_true c26
          have c26b1 : decide (1 + t109.size ≤ 9223372036854775807) = true := decide_eq_true c26
          try have c26b2 : (9223372036854775807 < 1 + t109.size) = False := eq_false (Nat.not_lt.2 c26)
          by_cases c27 : ((⟨#[40]⟩ : ByteArray) ++ t109).size + 1 ≤ 9223372036854775807
          · rw [if_pos c27] at H
            have c27b0 := eq_true c27
            have c27b1 : decide (((⟨#[40]⟩ : ByteArray) ++ t109).size + 1 ≤ 9223372036854775807) = true := decide_eq_true c27
            try have c27b2 : (9223372036854775807 < ((⟨#[40]⟩ : ByteArray) ++ t109).size + 1) = False := eq_false (Nat.not_lt.2 c27)
            try have c27b3 := c27b2
            try simp only [ByteArray.size_append, q1sizeW, q1sizeP] at c27b3
            obtain rfl := Option.some.inj H
            obtain ⟨Ao28, co28, eo28⟩ := Kd.R_slice HO_3.out
            subst eo28
            go_wp2_with (first | ((with_reducible refine gate_callee (f := 27) rfl ?_); refine goesL_ (some 35) rfl rfl Tryz.func27 (by kernel_rfl) rfl #[.slice Ao28 x3_1.length co28, .string (⟨#[44, 32]⟩ : ByteArray)] rfl (by (try simp only [List.map_toArray, List.map_cons, List.map_nil]); first | done | rfl | (simp only [List.length_drop, List.length_take]; rfl) | (simp only [Int.toNat_natCast, ByteArray.extract_zero_size] <;> rfl) | (rw [Int.toNat_natCast, ByteArray.extract_zero_size] <;> rfl)) ?_; (with_reducible refine (Ex.strings_Join.calls _ _ x3_1 (⟨#[44, 32]⟩ : ByteArray) t109 _ ?side1 ?side2 ?side3 A25.out).mono ?_); (case side1 => exact Go.Proofs.YtahjkibjcibpgaaGreatDoor.U.UW.step HGW.out (by repeat with_reducible first|exact HB.out|apply ba|apply bN|apply bd|refine below_set ?_ GE101.out)); (case side2 => repeat (first | exact (Kd.R_reads' HO_3.out).2.2 | (with_reducible refine Kd.C_alloc ?_ _) | (with_reducible refine Kd.C_drewN ?_ _) | (with_reducible refine Kd.C_drew ?_))); (case side3 => exact (Kd.R_reads' HO_3.out).2.1); rintro e w29 ⟨rfl, hb⟩; refine ⟨_, rfl, ?_⟩; have n0_ := Aside0.mk (Kd.R_below (by (with_reducible repeat (first | apply Kd.R_alloc | apply Kd.R_drewN | apply Kd.R_drew)); exact HO_3.out) hb); have n1_ := Aside0.mk (blk_below (g := gb101) (o := .cells #[.int .i64 a0_0, .string a0_1, .int .i64 a0_2, .int .i64 a0_3, .int .i64 a0_4, .slice A0_5 l0_5.length c0_5] 26 (0, 0)) (by (with_reducible repeat first|refine kN ?_ _|refine kd ?_|refine ka ?_ _); exact BK101.out) hb); have n2_ := Aside0.mk (below_step (by repeat with_reducible first|exact HB.out|apply ba|apply bN|apply bd|refine below_set ?_ GE101.out) hb); clear HO_3; clear BK101; clear HB; have HO_3 := n0_; have BK101 := n1_; have HB := n2_; clear n0_ n1_ n2_; (try clear hb); (try clear hb2); (try clear hk); (try clear hi)))
            go_ret
            exact ⟨by first|rfl|(simp<;>rfl)|(simp [*]<;>rfl), by repeat with_reducible first|exact HB.out|apply ba|apply bN|apply bd|refine below_set ?_ GE101.out⟩
          rw [if_neg c27] at H
          exact absurd H (by simp)
        rw [if_neg c26] at H
        exact absurd H (by simp)
  rw [if_neg c12] at H
  have c12b0 : (a0_0 == 6) = false := beq_eq_false_iff_ne.mpr c12
  have c12b1 : (a0_0 != 6) = true := bne_iff_ne.mpr c12
  obtain rfl := Option.some.inj H
  go_enter Tryz.func19, Tryz.ntmps19
  go_wp2_with (first | ((with_reducible refine gate_dst (N := 1) rfl ?_); refine box_event ?hg (N := 1) ?hd (cs := #[.int .i64 a0_0, .string a0_1, .int .i64 a0_2, .int .i64 a0_3, .int .i64 a0_4, .slice A0_5 l0_5.length c0_5]) (t := 26) ?hr ?_; (case hd => rfl); (case hg => rfl); (case hr => first | (go_simp; done) | (go_simp; rfl)); intro gb101 hg w30 hbox hb; have n0_ := Aside0.mk (below_step (by repeat with_reducible first|exact HB.out|apply ba|apply bN|apply bd) hb); have n1_ := Aside0.mk (hbox); have n2_ := Aside0.mk ((by rw [hg]; exact (below_size (by repeat with_reducible first|exact HB.out|apply ba|apply bN|apply bd)) : w.heap.size ≤ gb101)); have n3_ := Aside0.mk ((by rw [hg]; exact (below_size (by repeat with_reducible first|exact HB.out|apply ba|apply bN|apply bd)) : w.heap.size ≤ gb101)); clear HB; have HB := n0_; have BK101 := n1_; have GW101 := n2_; have GE101 := n3_; clear n0_ n1_ n2_ n3_; clear hb hbox hg; obtain ⟨hcz31_0, hcz31_1, hcz31_2, hcz31_3, hcz31_4, hcz31_5, hfz31_0, hfz31_1, hfz31_2, hfz31_3, hfz31_4, hfz31_5⟩ := cl6 BK101.out))
  go_ret
  exact ⟨by first|rfl|(simp<;>rfl)|(simp [*]<;>rfl), by repeat with_reducible first|exact HB.out|apply ba|apply bN|apply bd|refine below_set ?_ GE101.out⟩
end Go.Proofs.YtahjkibjcibpgaaGreatDoor.PTr
end
section
namespace Go.Proofs.YtahjkibjcibpgaaGreatDoor.L
open Go.RowKit Go.Shelf Go.Lib Go.Proofs.YtahjkibjcibpgaaGreatDoor.U
open Go.Proofs.YtahjkibjcibpgaaGreatDoorW Go.Proofs.YtahjkibjcibpgaaGreatDoorW.PrintWords
section
variable (k : Nat)
def wv (v : PTr.S26) : Option ByteArray := PTr.tree_write.f k v.f0 v.f1 v.f2.f0 v.f2.f1 v.f3 v.f4
def strsW : List PTr.S26 → Option (List UInt8)
  | [] => some []
  | v :: r => (wv k v).bind fun t => (strsW r).bind fun u => some ((32 :: t.data.toList) ++ u)
def propW (p : PTr.S26) : Option (List UInt8) := (strsW k p.f4).bind fun u => some ((32 :: 32 :: p.f1.data.toList) ++ (u ++ [59, 10]))
def propsW : List PTr.S26 → Option (List UInt8)
  | [] => some []
  | p :: r => (propW k p).bind fun t => (propsW r).bind fun u => some (t ++ u)
def wordsW : List PTr.S26 → Option (List UInt8 × List PTr.S26)
  | [] => some ([], [])
  | v :: r => if v.f0 = 2 then some ([], v :: r) else (wv k v).bind fun t => (wordsW r).bind fun x => some ((32 :: t.data.toList) ++ x.1, x.2)
def declW (d : PTr.S26) : Option (List UInt8) := (wordsW k d.f4).bind fun x => (propsW k x.2).bind fun u => some (d.f1.data.toList ++ (x.1 ++ ([32, 123, 10] ++ (u ++ [125, 10]))))
def declsW : List PTr.S26 → Option (List UInt8)
  | [] => some []
  | d :: r => (declW k d).bind fun t => (declsW r).bind fun u => some (t ++ u)
def rootW (n : PTr.S26) : Option (List UInt8) := (PTr.tree_Right.f k n.f0 n.f1 n.f2.f0 n.f2.f1 n.f3 n.f4).bind fun ok => if ok = true then declsW k n.f4 else some []
end
theorem drop_cons {l : List PTr.S26} {i : Nat} (h : i < l.length) : l.drop i = PTr.rd_T26 l (i : Int) :: l.drop (i + 1) := by
  rw [List.drop_eq_getElem_cons h]
  unfold PTr.rd_T26
  rw [Int.toNat_natCast, List.getD_eq_getElem?_getD, List.getElem?_eq_getElem h]
  rfl
theorem bld_below {T e : TypeId} {B b : Nat} {bs : List Value} {W W' : World} (h : Lib.IsBuilderF T e B b bs W) (hb : Below W.heap.size W W') : Lib.IsBuilderF T e B b bs W' := by
  have key : ∀ p, Lib.BuilderAtF T e B b p bs W → Lib.BuilderAtF T e B b p bs W' := by
    intro p hp
    obtain ⟨q1, u, q2, q3, q4⟩ := hp
    refine ⟨q1, u, blk_below q2 hb, ⟨q3.1, ?_⟩, q4⟩
    rcases q3.2 with hv | ⟨gg, cap, cur, fz, e1, e2, e3, e4⟩
    · exact .inl hv
    · exact .inr ⟨gg, cap, cur, fz, e1, e2, (hb.block gg (blk_lt e3)).trans e3, e4⟩
  exact h.elim (fun x => .inl (key _ x)) (fun x => .inr (key _ x))
structure BW (w : World) (b : Nat) (txt : List UInt8) (bl : List (Nat × Array Value)) (W : World) : Prop where
  bw : Below w.heap.size w W
  hb : w.heap.size ≤ b
  bld : Lib.IsBuilderF 50 5 w.heap.size b (Lib.byteCells txt) W
  blk : ∀ x ∈ bl, W.heap[x.1]? = some (.cells x.2 26 (0, 0)) ∧ x.1 ≠ b ∧ w.heap.size ≤ x.1
section
variable {w : World} {b : Nat} {txt : List UInt8} {bl : List (Nat × Array Value)} {W W' : World}
theorem BW.below (h : BW w b txt bl W) (hb : Below W.heap.size W W') : BW w b txt bl W' :=
  ⟨below_step h.bw hb, h.hb, bld_below h.bld hb, fun x hx => ⟨blk_below (h.blk x hx).1 hb, (h.blk x hx).2⟩⟩
theorem BW.alloc (h : BW w b txt bl W) (cs : Array Value) : BW w b txt ((W.heap.size, cs) :: bl) (W.alloc (.cells cs 26)) := by
  have h2 := h.below ((Below.refl W.heap.size W).alloc (Nat.le_refl _) (.cells cs 26))
  refine ⟨h2.bw, h2.hb, h2.bld, fun x hx => ?_⟩
  rcases List.mem_cons.1 hx with rfl | hx
  · refine ⟨World.alloc_heap_new W _, fun e => ?_, h.bw.size⟩
    have e : W.heap.size = b := e
    rcases h.bld with ⟨_, v, hb, _⟩ | ⟨_, v, hb, _⟩ <;> exact absurd (blk_lt hb) (by omega)
  · exact h2.blk x hx
theorem BW.allocAt (h : BW w b txt bl W) {g : Nat} (hg : W.heap.size = g) (cs : Array Value) : BW w b txt ((g, cs) :: bl) (W.alloc (.cells cs 26)) := by subst hg; exact h.alloc cs
theorem BW.set {g : Nat} {cs : Array Value} (h : BW w b txt ((g, cs) :: bl) W) (hn : ∀ x ∈ bl, x.1 ≠ g) (j : Nat) (v : Value) : BW w b txt ((g, cs.setIfInBounds j v) :: bl) (W.setCell ⟨g, j, none⟩ v) := by
  obtain ⟨h1, h2, h3⟩ := h.blk _ List.mem_cons_self
  refine ⟨h.bw.setCell (p := ⟨g, j, none⟩) h3 _, h.hb, ?_, fun x hx => ?_⟩
  · have hset : ∀ p, Lib.BuilderAtF 50 5 w.heap.size b p (Lib.byteCells txt) W → Lib.BuilderAtF 50 5 w.heap.size b p (Lib.byteCells txt) (W.setCell ⟨g, j, none⟩ v) := by
      intro p hp
      obtain ⟨q1, u, q2, q3, q4⟩ := hp
      refine ⟨q1, u, blk_far q2 (p := ⟨g, j, none⟩) (Ne.symm h2) v, ?_, q4⟩
      refine ⟨q3.1, ?_⟩
      rcases q3.2 with hv | ⟨gg, cap, cur, fz, e1, e2, e3, e4⟩
      · exact .inl hv
      · refine .inr ⟨gg, cap, cur, fz, e1, e2, ?_, e4⟩
        rw [Below.heap_setCell W ⟨g, j, none⟩ v gg (fun e => ?_)]
        · exact e3
        · subst e
          have h1 : W.heap[gg]? = some (.cells cs 26 (0, 0)) := h1
          rw [h1] at e3
          injection e3 with e3
          injection e3 with _ e3
          cases e3
    exact h.bld.elim (fun x => .inl (hset _ x)) (fun x => .inr (hset _ x))
  · rcases List.mem_cons.1 hx with rfl | hx
    · exact ⟨blk_set h1 j v, h2, h3⟩
    · exact ⟨blk_far (h.blk x (List.mem_cons_of_mem _ hx)).1 (p := ⟨g, j, none⟩) (hn x hx) v, (h.blk x (List.mem_cons_of_mem _ hx)).2⟩
theorem BW.forget (h : BW w b txt bl W) : BW w b txt [] W := ⟨h.bw, h.hb, h.bld, fun x hx => by simp at hx⟩
theorem BW.write (h : BW w b txt bl W) {s : ByteArray} (h1 : Lib.BuilderAtF 50 5 w.heap.size b (.pointer (some ⟨b, 0, none⟩)) (Lib.byteCells txt ++ Lib.strCells s) W') (h2 : Below w.heap.size W W') (h3 : Lib.OthersKept 5 (some b) W W') : BW w b (txt ++ s.data.toList) bl W' := by
  refine ⟨h.bw.trans h2, h.hb, .inr ?_, fun x hx => ⟨?_, (h.blk x hx).2⟩⟩
  · rw [Lib.byteCells_append]; exact h1
  · obtain ⟨q1, q2, q3⟩ := h.blk x hx
    exact h3 x.1 _ q1 (fun e => q2 (by injection e)) (fun c fz e => by injection e with _ e; cases e)
end
end Go.Proofs.YtahjkibjcibpgaaGreatDoor.L
end
section
namespace Go.Proofs.YtahjkibjcibpgaaGreatDoor.L
open Go.RowKit Go.Shelf Go.Lib Go.Proofs.YtahjkibjcibpgaaGreatDoor.U
open Go.Proofs.YtahjkibjcibpgaaGreatDoorW Go.Proofs.YtahjkibjcibpgaaGreatDoorW.PrintWords Go.Proofs.YtahjkibjcibpgaaGreatDoorW.PrintLast
attribute [local go_sem] Oper.semAt_some
set_option maxRecDepth 100000 in
set_option maxHeartbeats 1000000 in
theorem write_no (k : Nat) (a0 : Int) (a1 : ByteArray) (a2 a3 a4 : Int) (l : List PTr.S26) (A : Option Addr) (c : Nat) (w : World) (hg : UW w) (hr : Kd.C PTr.k26 w A l.length l) (hc : l.length ≤ c)
    (hT : PTr.tree_Right.f k a0 a1 a2 a3 a4 l = some false) :
    Calls Tryz.prog 10 #[.agg #[.int .i64 a0, .string a1, .int .i64 a2, .int .i64 a3, .int .i64 a4, .slice A l.length c]] w fun e w' => e = .returned (.string ⟨#[]⟩) ∧ Below w.heap.size w w' := by
  have HG := Lib.hid hg
  have HR := Lib.hid hr
  have HC := Lib.hid hc
  have HT := Lib.hid hT
  clear hg hr hc hT
  go_enter Tryz.func10, Tryz.ntmps10
  go_wp2_with (first
    | (go_at_call 11; go_loud (refine (PTr.tree_Right.calls k a0 a1 a2 a3 a4 A c l false _ (HG.out.step (below_alloc (Below.refl _ _) _)) (Kd.C_alloc HR.out _) HC.out HT.out).mono ?_; rintro e w1 ⟨rfl, hb⟩; have HB := Lib.hid (below_step (below_alloc (Below.refl _ _) _) hb); clear hb)))
  go_ret
  exact ⟨rfl, HB.out⟩
def L1 (k : Nat) (l : List PTr.S26) (T : List UInt8) (w : World) (b i kq : Nat) (W : World) : Prop :=
  ∃ txt u, declsW k (l.drop i) = some u ∧ txt ++ u = T ∧ i ≤ l.length ∧ l.length ≤ i + kq ∧ BW w b txt [] W
def L2 (k : Nat) (ws y : List PTr.S26) (R T : List UInt8) (w : World) (b g : Nat) (cs : Array Value) (j kq : Nat) (W : World) : Prop :=
  ∃ txt x1, wordsW k (ws.drop j) = some (x1, y) ∧ txt ++ (x1 ++ R) = T ∧ j ≤ ws.length ∧ ws.length ≤ j + kq ∧ BW w b txt [(g, cs)] W
def L3 (k : Nat) (ps : List PTr.S26) (R T : List UInt8) (w : World) (b m kq : Nat) (W : World) : Prop :=
  ∃ txt u, propsW k (ps.drop m) = some u ∧ txt ++ (u ++ R) = T ∧ m ≤ ps.length ∧ ps.length ≤ m + kq ∧ BW w b txt [] W
def L4 (k : Nat) (vs : List PTr.S26) (R T : List UInt8) (w : World) (b m kq : Nat) (W : World) : Prop :=
  ∃ txt u, strsW k (vs.drop m) = some u ∧ txt ++ (u ++ R) = T ∧ m ≤ vs.length ∧ vs.length ≤ m + kq ∧ BW w b txt [] W
theorem fits {a : List UInt8} {s : ByteArray} {c T : List UInt8} (h : a ++ (s.data.toList ++ c) = T) (hl : T.length ≤ 140737488355328) : a.length + s.size ≤ 140737488355328 := by
  have := congrArg List.length h
  simp only [List.length_append] at this
  have h2 : s.data.toList.length = s.size := Array.length_toList
  omega
abbrev nodeC (d : PTr.S26) (A : Option Addr) (c : Nat) : Array Value := #[.int .i64 d.f0, .string d.f1, .int .i64 d.f2.f0, .int .i64 d.f2.f1, .int .i64 d.f3, .slice A d.f4.length c]
theorem at_node {w W : World} {A : Option Addr} {xs : List PTr.S26} (h : Kd.C PTr.k26 w A xs.length xs) (hb : Below w.heap.size w W) (i : Nat) (h1 : i < xs.length) : ∃ ad A5 c5, A = some ad ∧ W.cell? (ad.add (i * 6)) = some (.int .i64 (PTr.rd_T26 xs i).f0) ∧ W.cell? ⟨(ad.add (i * 6)).block, (ad.add (i * 6)).off + 1, none⟩ = some (.string (PTr.rd_T26 xs i).f1) ∧
    W.cell? ⟨(ad.add (i * 6)).block, (ad.add (i * 6)).off + 2, none⟩ = some (.int .i64 (PTr.rd_T26 xs i).f2.f0) ∧ W.cell? ⟨(ad.add (i * 6)).block, (ad.add (i * 6)).off + 3, none⟩ = some (.int .i64 (PTr.rd_T26 xs i).f2.f1) ∧ W.cell? ⟨(ad.add (i * 6)).block, (ad.add (i * 6)).off + 4, none⟩ = some (.int .i64 (PTr.rd_T26 xs i).f3) ∧
    W.cell? ⟨(ad.add (i * 6)).block, (ad.add (i * 6)).off + 5, none⟩ = some (.slice A5 (PTr.rd_T26 xs i).f4.length c5) ∧ (PTr.rd_T26 xs i).f4.length ≤ c5 ∧ PTr.k26.C w A5 (PTr.rd_T26 xs i).f4.length (PTr.rd_T26 xs i).f4 := by
  have := PTr.at_T26 h (i : Int) (by omega) (by omega)
  rw [Int.toNat_natCast] at this
  obtain ⟨ad, A5, c5, e, p0, p1, p2, p3, p4, p5, q⟩ := this
  exact ⟨ad, A5, c5, e, (hb.cell (World.block_lt_of_cell? w _ p0)).trans p0, (hb.cell (World.block_lt_of_cell? w _ p1)).trans p1, (hb.cell (World.block_lt_of_cell? w _ p2)).trans p2, (hb.cell (World.block_lt_of_cell? w _ p3)).trans p3, (hb.cell (World.block_lt_of_cell? w _ p4)).trans p4, (hb.cell (World.block_lt_of_cell? w _ p5)).trans p5, q⟩
theorem blank_cat (t : ByteArray) : ((⟨#[32]⟩ : ByteArray) ++ t).data.toList = 32 :: t.data.toList := by simp [ByteArray.data_append]
theorem blanks_cat (t : ByteArray) : ((⟨#[32, 32]⟩ : ByteArray) ++ t).data.toList = 32 :: 32 :: t.data.toList := by simp [ByteArray.data_append]
set_option maxRecDepth 100000 in
set_option maxHeartbeats 4000000 in
theorem write_yes (k : Nat) (a0 : Int) (a1 : ByteArray) (a2 a3 a4 : Int) (l : List PTr.S26) (A : Option Addr) (c : Nat) (w : World) (hg : UW w) (hr : Kd.C PTr.k26 w A l.length l) (hc : l.length ≤ c)
    (hT : PTr.tree_Right.f k a0 a1 a2 a3 a4 l = some true) (T : List UInt8) (hD : declsW k l = some T) (hl : T.length ≤ 140737488355328) :
    Calls Tryz.prog 10 #[.agg #[.int .i64 a0, .string a1, .int .i64 a2, .int .i64 a3, .int .i64 a4, .slice A l.length c]] w fun e w' => e = .returned (.string ⟨T.toArray⟩) ∧ Below w.heap.size w w' := by
  have HG := Lib.hid hg
  have HR := Lib.hid hr
  have HC := Lib.hid hc
  have HT := Lib.hid hT
  have HD := Lib.hid hD
  have HL := Lib.hid hl
  have hcap := hr.2.1
  have HM := Lib.hid hcap
  clear hg hr hc hT hD hl hcap
  go_enter Tryz.func10, Tryz.ntmps10
  go_wp2_with (first
    | (go_at_call 11; go_loud (refine (PTr.tree_Right.calls k a0 a1 a2 a3 a4 A c l true _ (HG.out.step (below_alloc (Below.refl _ _) _)) (Kd.C_alloc HR.out _) HC.out HT.out).mono ?_; rintro e w1 ⟨rfl, hb⟩; have hn := blk_alloc (blk_below (blk_new w (.cells #[.int .i64 a0, .string a1, .int .i64 a2, .int .i64 a3, .int .i64 a4, .slice A l.length c] 26)) hb) (.cells #[.pointer none, .slice none 0 0] 50); have hB := below_step (below_alloc (Below.refl _ _) _) hb; have HBW := Lib.hid (BW.mk (txt := []) (bl := []) (below_alloc hB (.cells #[.pointer none, .slice none 0 0] 50)) hB.size (.inl ⟨hB.size, .slice none 0 0, blk_new w1 _, World.ownsRowF_nil _ _ _ _, fun e => by simp [Value.ownBlock] at e⟩) (fun x hx => by simp at hx)); have n5 := blk_cell hn 5; simp at n5; clear hb hB hn)))
  generalize w1.heap.size = b at *
  go_loopg [17] l.length (fun kq s17 W => ∃ i : Nat, s17 = .int .i64 (i : Int) ∧ Hid (L1 k l T w b i kq W))
  case atStart => exact ⟨0, rfl, Lib.hid ⟨[], T, HD.out, rfl, Nat.zero_le _, by omega, HBW.out⟩⟩
  case round =>
    clear HBW n5
    obtain ⟨i, rfl, HW⟩ := hrel
    obtain ⟨txt, u, hu, htx, hil, hms, hS⟩ := HW.out
    clear HW
    have SS := Lib.hid hS
    clear hS
    rcases Nat.lt_or_ge i l.length with hlt | hge
    · rw [drop_cons hlt] at hu
      generalize hd : PTr.rd_T26 l (i : Int) = d at hu
      obtain ⟨t1, ht1, hv⟩ := Option.bind_eq_some_iff.1 hu
      obtain ⟨u1, hu1, hw⟩ := Option.bind_eq_some_iff.1 hv
      have he1 := Option.some.inj hw
      obtain ⟨⟨x1, y⟩, hx2, hv2⟩ := Option.bind_eq_some_iff.1 ht1
      obtain ⟨u2, hu2, hw2⟩ := Option.bind_eq_some_iff.1 hv2
      have he2 := Option.some.inj hw2
      have c1 : (i : Int) < (l.length : Int) := by omega
      have c0 : (0 : Int) ≤ (i : Int) := by omega
      obtain ⟨ad, A5, c5, e1, p0, p1, p2, p3, p4, p5, hl5, hi5⟩ := at_node HR.out SS.out.bw i hlt
      subst e1
      rw [hd] at p0 p1 p2 p3 p4 p5 hl5 hi5
      have CD := Lib.hid hi5
      have LD := Lib.hid hl5
      have HU1 := Lib.hid hu1
      have HU2 := Lib.hid hu2
      have HX2 := Lib.hid hx2
      have SB := Lib.hid (SS.out.alloc (nodeC d A5 c5))
      obtain ⟨R2, hR2⟩ : ∃ R2, R2 = [32, 123, 10] ++ (u2 ++ ([125, 10] ++ u1)) := ⟨_, rfl⟩
      have HR2 := Lib.hid hR2
      have HTL : Hid (txt ++ (d.f1.data.toList ++ (x1 ++ R2)) = T) := Lib.hid (by rw [hR2, ← htx, ← he1, ← he2]; simp)
      clear hi5 hl5 hu1 hu2 hx2 hu ht1 htx hv hw hv2 hw2 he1 he2 hR2 hd
      have hib : wrap64 ((i : Int) + 1) = (i : Int) + 1 := by have := HM.out; unfold wrap64; omega
      obtain ⟨q1, hq1⟩ : ∃ q1, gk = q1 + 1 := ⟨gk - 1, by omega⟩
      subst hq1
      go_wp2_with (first
        | (go_at_call 18; go_loud (refine (bld_write w.heap.size b _ d.f1 _ SB.out.bld (by rw [Lib.byteCells_length]; exact fits HTL.out HL.out) SB.out.bw.size).mono ?_; rintro e w2 ⟨rfl, h1, h2, h3⟩; have SC := Lib.hid (SB.out.write h1 h2 h3); clear h1 h2 h3)))
      have hgs := SS.out.bw.size
      generalize hge : wr.heap.size = g at *
      clear p0 p1 p2 p3 p4 p5
      go_loopg [6] d.f4.length (fun kq s6 W => ∃ j : Nat, s6 = .int .i64 (j : Int) ∧ Hid (L2 k d.f4 y R2 T w b g (nodeC d A5 c5) j kq W))
      case atStart => exact ⟨0, rfl, Lib.hid ⟨_, x1, HX2.out, (by rw [List.append_assoc]; exact HTL.out), Nat.zero_le _, by omega, SC.out⟩⟩
      case round =>
        clear SB SC SS HTL HX2 hgs
        obtain ⟨j, rfl, HW2⟩ := hrel
        obtain ⟨tx2, z1, hz, htx2, hjl, hms2, hS2⟩ := HW2.out
        clear HW2
        have S2 := Lib.hid hS2
        have HTX := Lib.hid htx2
        obtain ⟨hgb, _, _⟩ := hS2.blk _ List.mem_cons_self
        have n5 : wr.cell? ⟨g, 5, none⟩ = some (.slice A5 d.f4.length c5) := blk_cell hgb 5
        have n1 : wr.cell? ⟨g, 1, none⟩ = some (.string d.f1) := blk_cell hgb 1
        have j0 : (0 : Int) ≤ (j : Int) := by omega
        have hw2 : j < 9223372036854775807 → wrap64 ((j : Int) + 1) = (j : Int) + 1 := fun h => by unfold wrap64; omega
        clear hS2 htx2 hgb
        rcases Nat.lt_or_ge j d.f4.length with jlt | jge
        · have hgk : 0 < gk := Nat.lt_of_add_lt_add_left (Nat.lt_of_lt_of_le jlt hms2)
          obtain ⟨q, hq⟩ : ∃ q, gk = q + 1 := ⟨gk - 1, (Nat.sub_add_cancel hgk).symm⟩
          clear hgk
          subst hq
          rw [drop_cons jlt] at hz
          have j1 : (j : Int) < (d.f4.length : Int) := by omega
          obtain ⟨ad2, A6, c6, e2, qq0, qq1, qq2, qq3, qq4, qq5, hl6, hi6⟩ := at_node CD.out S2.out.bw j jlt
          generalize hd2 : PTr.rd_T26 d.f4 (j : Int) = v at hz qq0 qq1 qq2 qq3 qq4 qq5 hl6 hi6
          subst e2
          unfold wordsW at hz
          by_cases hk : v.f0 = 2
          · rw [if_pos hk] at hz
            have hz4 := Option.some.inj hz
            injection hz4 with hz5 hz6
            have hyd : y = d.f4.drop j := by rw [drop_cons jlt, hd2]; exact hz6.symm
            have HTX2 : Hid (tx2 ++ ((⟨#[32, 123, 10]⟩ : ByteArray).data.toList ++ (u2 ++ ([125, 10] ++ u1))) = T) := Lib.hid (by rw [← HTX.out, ← hz5, HR2.out]; rfl)
            have k0 : (v.f0 != 2) = false := by simpa using hk
            clear hz hz5 hz6 hw2 hd2 hk
            obtain ⟨v0, v1, ⟨v2, v3⟩, v4, v5⟩ := v
            have jle : (j : Int) ≤ (d.f4.length : Int) := by omega
            have jlc : (d.f4.length : Int) ≤ (c5 : Int) := by have := LD.out; omega
            have hcj : ¬ c5 = j := by have := LD.out; omega
            have hCY := Kd.C_drop CD.out (Nat.le_of_lt jlt) LD.out
            rw [if_neg hcj] at hCY
            have CY := Lib.hid hCY
            clear hCY
            go_wp2_with (first
              | (go_at_call 18; go_loud (refine (bld_write w.heap.size b _ ⟨#[32, 123, 10]⟩ _ S2.out.bld (by rw [Lib.byteCells_length]; exact fits HTX2.out HL.out) S2.out.bw.size).mono ?_; rintro e w2 ⟨rfl, h1, h2, h3⟩; have S5 := Lib.hid (S2.out.write h1 h2 h3); clear h1 h2 h3; obtain ⟨hgb, _, _⟩ := S5.out.blk _ List.mem_cons_self; have n5 : w2.cell? ⟨g, 5, none⟩ = some (.slice (some ad2) d.f4.length c5) := blk_cell hgb 5; clear hgb)))
            have hyl : y.length = d.f4.length - j := by rw [hyd]; simp
            have CY2 : Hid (Kd.C PTr.k26 w (some (ad2.add (j * 6))) y.length y) := Lib.hid (by rw [hyd]; exact CY.out)
            rw [← hyl]
            generalize ad2.add (j * 6) = ad3 at *
            generalize c5 - j = c3 at *
            obtain ⟨R3, hR3⟩ : ∃ R3, R3 = [125, 10] ++ u1 := ⟨_, rfl⟩
            have HR3 := Lib.hid hR3
            have HS3 := Lib.hid (And.intro (show (tx2 ++ [32, 123, 10]) ++ (u2 ++ R3) = T by rw [hR3, List.append_assoc]; exact HTX2.out) S5.out.forget)
            clear S2 S5 HTX HTX2 n5 n1 CY hyl hyd hR3 k0
            go_loopg [54] y.length (fun kq s54 W => ∃ m : Nat, s54 = .int .i64 (m : Int) ∧ Hid (L3 k y R3 T w b m kq W))
            case atStart => exact ⟨0, rfl, Lib.hid ⟨_, u2, HU2.out, HS3.out.1, Nat.zero_le _, by omega, HS3.out.2⟩⟩
            case round =>
              clear HS3
              obtain ⟨m, rfl, HW3⟩ := hrel
              obtain ⟨tx3, u3, hu3, htx3, hml, hms3, hS3⟩ := HW3.out
              clear HW3
              have S7 := Lib.hid hS3
              have HTX3 := Lib.hid htx3
              clear hS3 htx3
              have m0 : (0 : Int) ≤ (m : Int) := by omega
              rcases Nat.lt_or_ge m y.length with mlt | mge
              · have hgk : 0 < gk := Nat.lt_of_add_lt_add_left (Nat.lt_of_lt_of_le mlt hms3)
                obtain ⟨r1, hr1⟩ : ∃ r1, gk = r1 + 1 := ⟨gk - 1, (Nat.sub_add_cancel hgk).symm⟩
                clear hgk
                subst hr1
                have hmb : wrap64 ((m : Int) + 1) = (m : Int) + 1 := by have := (CY2.out).2.1; unfold wrap64; omega
                have m1 : (m : Int) < (y.length : Int) := Int.ofNat_lt.2 mlt
                rw [drop_cons mlt] at hu3
                obtain ⟨ad4, A7, c7, e4, p0, p1, p2, p3, p4, p5, hl7, hi7⟩ := at_node CY2.out S7.out.bw m mlt
                generalize hp : PTr.rd_T26 y (m : Int) = p at hu3 p0 p1 p2 p3 p4 p5 hl7 hi7
                injection e4 with e4
                subst e4
                obtain ⟨t3, ht3, hu3b⟩ := Option.bind_eq_some_iff.1 hu3
                obtain ⟨u3', hu3', hu3c⟩ := Option.bind_eq_some_iff.1 hu3b
                have hu3d := Option.some.inj hu3c
                obtain ⟨u4, hu4, ht3b⟩ := Option.bind_eq_some_iff.1 ht3
                have ht3c := Option.some.inj ht3b
                obtain ⟨R4, hR4⟩ : ∃ R4, R4 = [59, 10] ++ (u3' ++ R3) := ⟨_, rfl⟩
                have HR4 := Lib.hid hR4
                have HTX4 : Hid (tx3 ++ (((⟨#[32, 32]⟩ : ByteArray) ++ p.f1).data.toList ++ (u4 ++ R4)) = T) := Lib.hid (by rw [blanks_cat, hR4, ← HTX3.out, ← hu3d, ← ht3c]; simp)
                have hsz := fits HTX4.out HL.out
                have hsz2 : ((⟨#[32, 32]⟩ : ByteArray) ++ p.f1).size = 2 + p.f1.size := by rw [ByteArray.size_append]; rfl
                have z2s : (9223372036854775807 < 2 + p.f1.size) = False := eq_false (by omega)
                have HU4 := Lib.hid hu4
                have HU3 := Lib.hid hu3'
                have C7 := Lib.hid hi7
                have L7 := Lib.hid hl7
                have SB7 := Lib.hid (S7.out.alloc (nodeC p A7 c7))
                clear hu3 ht3 hu3b hu3' hu3c hu3d hu4 ht3b ht3c hR4 hsz hsz2 hi7 hl7 hp
                go_wp2_with (first
                  | (go_at_call 18; go_loud (refine (bld_write w.heap.size b _ ((⟨#[32, 32]⟩ : ByteArray) ++ p.f1) _ SB7.out.bld (by rw [Lib.byteCells_length]; exact fits HTX4.out HL.out) SB7.out.bw.size).mono ?_; rintro e w2 ⟨rfl, h1, h2, h3⟩; have S8 := Lib.hid (SB7.out.write h1 h2 h3); clear h1 h2 h3; obtain ⟨hgb, _, _⟩ := S8.out.blk _ List.mem_cons_self; have b5 : w2.cell? ⟨wr.heap.size, 5, none⟩ = some (.slice A7 p.f4.length c7) := blk_cell hgb 5; clear hgb)))
                have HS4 := Lib.hid (And.intro (show (tx3 ++ ((⟨#[32, 32]⟩ : ByteArray) ++ p.f1).data.toList) ++ (u4 ++ R4) = T by rw [List.append_assoc]; exact HTX4.out) S8.out.forget)
                clear S7 SB7 S8 HTX3 HTX4 p0 p1 p2 p3 p4 p5 z2s b5
                go_loopg [65] p.f4.length (fun kq s65 W => ∃ n : Nat, s65 = .int .i64 (n : Int) ∧ Hid (L4 k p.f4 R4 T w b n kq W))
                case atStart => exact ⟨0, rfl, Lib.hid ⟨_, u4, HU4.out, HS4.out.1, Nat.zero_le _, by omega, HS4.out.2⟩⟩
                case round =>
                  clear HS4
                  obtain ⟨n, rfl, HW4⟩ := hrel
                  obtain ⟨tx4, u5, hu5, htx4, hnl, hms4, hS4⟩ := HW4.out
                  clear HW4
                  have S9 := Lib.hid hS4
                  have HTX5 := Lib.hid htx4
                  clear hS4 htx4
                  have n0 : (0 : Int) ≤ (n : Int) := by omega
                  rcases Nat.lt_or_ge n p.f4.length with nlt | nge
                  · have hgk : 0 < gk := Nat.lt_of_add_lt_add_left (Nat.lt_of_lt_of_le nlt hms4)
                    obtain ⟨r2, hr2⟩ : ∃ r2, gk = r2 + 1 := ⟨gk - 1, (Nat.sub_add_cancel hgk).symm⟩
                    clear hgk
                    subst hr2
                    have hnb : wrap64 ((n : Int) + 1) = (n : Int) + 1 := by have := (C7.out).2.1; unfold wrap64; omega
                    have n1 : (n : Int) < (p.f4.length : Int) := Int.ofNat_lt.2 nlt
                    rw [drop_cons nlt] at hu5
                    obtain ⟨ad5, A8, c8, e5, p0, p1, p2, p3, p4, p5, hl8, hi8⟩ := at_node C7.out S9.out.bw n nlt
                    generalize hx : PTr.rd_T26 p.f4 (n : Int) = x at hu5 p0 p1 p2 p3 p4 p5 hl8 hi8
                    subst e5
                    obtain ⟨t, ht, hu5b⟩ := Option.bind_eq_some_iff.1 hu5
                    obtain ⟨u5', hu5', hu5c⟩ := Option.bind_eq_some_iff.1 hu5b
                    have hu5d := Option.some.inj hu5c
                    have HTX6 : Hid (tx4 ++ (((⟨#[32]⟩ : ByteArray) ++ t).data.toList ++ (u5' ++ R4)) = T) := Lib.hid (by rw [blank_cat, ← HTX5.out, ← hu5d]; simp)
                    have hsz := fits HTX6.out HL.out
                    have hsz2 : ((⟨#[32]⟩ : ByteArray) ++ t).size = 1 + t.size := by rw [ByteArray.size_append]; rfl
                    have z1s : (9223372036854775807 < 1 + t.size) = False := eq_false (by omega)
                    have HV := Lib.hid ht
                    have HX5 := Lib.hid hu5'
                    have C8 := Lib.hid hi8
                    have L8 := Lib.hid hl8
                    have SB9 := Lib.hid (S9.out.alloc (nodeC x A8 c8))
                    clear hu5 ht hu5b hu5' hu5c hu5d hsz hsz2 hi8 hl8 hx
                    obtain ⟨x0, x1', ⟨x2, x3⟩, x4, x5⟩ := x
                    go_wp2_with (first
                      | (go_at_call 18; go_loud (refine (bld_write w.heap.size b _ ((⟨#[32]⟩ : ByteArray) ++ t) _ SC9.out.bld (by rw [Lib.byteCells_length]; exact fits HTX6.out HL.out) SC9.out.bw.size).mono ?_; rintro e w2 ⟨rfl, h1, h2, h3⟩; have SD9 := Lib.hid (SC9.out.write h1 h2 h3); clear h1 h2 h3))
                      | (go_at_call 19; go_loud (refine (PTr.tree_write.calls k x0 x1' x2 x3 x4 A8 c8 x5 t _ (HG.out.step SB9.out.bw) (Kd.C_below C8.out SB9.out.bw) L8.out HV.out).mono ?_; rintro e w3 ⟨rfl, hb⟩; have SC9 := Lib.hid (SB9.out.below hb); clear hb)))
                    go_roundg r2
                    case rel => exact ⟨n + 1, by simp [hnb], Lib.hid ⟨_, u5', HX5.out, (by rw [List.append_assoc]; exact HTX6.out), nlt, (by rw [Nat.add_assoc, Nat.add_comm 1 r2]; exact hms4), SD9.out.forget⟩⟩
                    case measure => exact Nat.lt_succ_self _
                  · rw [List.drop_eq_nil_of_le nge] at hu5
                    have hu50 := (Option.some.inj hu5).symm
                    have nn : ¬ (n : Int) < (p.f4.length : Int) := by omega
                    have HTX6 : Hid (tx4 ++ ((⟨#[59, 10]⟩ : ByteArray).data.toList ++ (u3' ++ R3)) = T) := Lib.hid (by rw [← HTX5.out, hu50, HR4.out]; rfl)
                    clear hu5 hu50
                    go_wp2_with (first
                      | (go_at_call 18; go_loud (refine (bld_write w.heap.size b _ ⟨#[59, 10]⟩ _ S9.out.bld (by rw [Lib.byteCells_length]; exact fits HTX6.out HL.out) S9.out.bw.size).mono ?_; rintro e w2 ⟨rfl, h1, h2, h3⟩; have SE9 := Lib.hid (S9.out.write h1 h2 h3); clear h1 h2 h3)))
                    go_roundg r1
                    case rel => exact ⟨m + 1, by simp [hmb], Lib.hid ⟨_, u3', HU3.out, (by rw [List.append_assoc]; exact HTX6.out), mlt, (by rw [Nat.add_assoc, Nat.add_comm 1 r1]; exact hms3), SE9.out⟩⟩
                    case measure => exact Nat.lt_succ_self _
              · rw [List.drop_eq_nil_of_le mge] at hu3
                have hu30 := (Option.some.inj hu3).symm
                have mn : ¬ (m : Int) < (y.length : Int) := by omega
                have HTX6 : Hid (tx3 ++ ((⟨#[125, 10]⟩ : ByteArray).data.toList ++ u1) = T) := Lib.hid (by rw [← HTX3.out, hu30, HR3.out]; rfl)
                clear hu3 hu30
                go_wp2_with (first
                  | (go_at_call 18; go_loud (refine (bld_write w.heap.size b _ ⟨#[125, 10]⟩ _ S7.out.bld (by rw [Lib.byteCells_length]; exact fits HTX6.out HL.out) S7.out.bw.size).mono ?_; rintro e w2 ⟨rfl, h1, h2, h3⟩; have SF9 := Lib.hid (S7.out.write h1 h2 h3); clear h1 h2 h3)))
                go_roundg q1
                case rel => exact ⟨i + 1, by simp [hib], Lib.hid ⟨_, u1, HU1.out, (by rw [List.append_assoc]; exact HTX6.out), hlt, by omega, SF9.out⟩⟩
                case measure => exact Nat.lt_succ_self _
          · rw [if_neg hk] at hz
            have k0 : (v.f0 != 2) = true := by simpa using hk
            obtain ⟨t, ht, hz2⟩ := Option.bind_eq_some_iff.1 hz
            obtain ⟨⟨x1', y'⟩, hx', hz3⟩ := Option.bind_eq_some_iff.1 hz2
            have hz4 := Option.some.inj hz3
            injection hz4 with hz5 hz6
            subst hz6
            have HTX2 : Hid (tx2 ++ (((⟨#[32]⟩ : ByteArray) ++ t).data.toList ++ (x1' ++ R2)) = T) := Lib.hid (by rw [blank_cat, ← HTX.out, ← hz5]; simp)
            have hsz := fits HTX2.out HL.out
            have hsz2 : ((⟨#[32]⟩ : ByteArray) ++ t).size = 1 + t.size := by rw [ByteArray.size_append]; rfl
            have z1s : (9223372036854775807 < 1 + t.size) = False := eq_false (by omega)
            have HV := Lib.hid ht
            have HX3 := Lib.hid hx'
            have C6 := Lib.hid hi6
            have L6 := Lib.hid hl6
            have hjb := hw2 (by have := (CD.out).2.1; omega)
            clear hz hz2 hz3 hz5 ht hx' hi6 hl6 hsz hsz2 hw2 hd2
            obtain ⟨v0, v1, ⟨v2, v3⟩, v4, v5⟩ := v
            go_wp2_with (first
              | (go_at_call 18; go_loud (refine (bld_write w.heap.size b _ ((⟨#[32]⟩ : ByteArray) ++ t) _ S3.out.bld (by rw [Lib.byteCells_length]; exact fits HTX2.out HL.out) S3.out.bw.size).mono ?_; rintro e w2 ⟨rfl, h1, h2, h3⟩; have S4 := Lib.hid (S3.out.write h1 h2 h3); clear h1 h2 h3))
              | (go_at_call 19; go_loud (refine (PTr.tree_write.calls k v0 v1 v2 v3 v4 A6 c6 v5 t _ (HG.out.step S2.out.bw) (Kd.C_below C6.out S2.out.bw) L6.out HV.out).mono ?_; rintro e w3 ⟨rfl, hb⟩; have S3 := Lib.hid (S2.out.below hb); clear hb)))
            go_roundg q
            case rel => exact ⟨j + 1, by simp [hjb], Lib.hid ⟨_, x1', HX3.out, by rw [List.append_assoc]; exact HTX2.out, jlt, (by rw [Nat.add_assoc, Nat.add_comm 1 q]; exact hms2), S4.out⟩⟩
            case measure => omega
        · rw [List.drop_eq_nil_of_le jge] at hz
          have hz4 := Option.some.inj hz
          injection hz4 with hz5 hz6
          have hj : j = d.f4.length := by omega
          have hyd : y = d.f4.drop j := by rw [← hz6, List.drop_eq_nil_of_le jge]
          have HTX2 : Hid (tx2 ++ ((⟨#[32, 123, 10]⟩ : ByteArray).data.toList ++ (u2 ++ ([125, 10] ++ u1))) = T) := Lib.hid (by rw [← HTX.out, ← hz5, HR2.out]; rfl)
          have jn : ¬ (j : Int) < (d.f4.length : Int) := by omega
          clear hz hz5 hz6 hw2
          have jle : (j : Int) ≤ (d.f4.length : Int) := by omega
          have jlc : (d.f4.length : Int) ≤ (c5 : Int) := by have := LD.out; omega
          have hy0 : y = [] := by rw [hyd, List.drop_eq_nil_of_le jge]
          have hu0 : u2 = [] := by have := HU2.out; rw [hy0] at this; exact (Option.some.inj this).symm
          have HTE : Hid ((tx2 ++ [32, 123, 10]) ++ ((⟨#[125, 10]⟩ : ByteArray).data.toList ++ u1) = T) := Lib.hid (by rw [← HTX2.out, hu0, List.append_assoc]; rfl)
          by_cases hcc : c5 = d.f4.length
          all_goals
            go_wp2_with (first
              | (go_at_call 18; go_loud (refine (bld_write w.heap.size b _ ⟨#[32, 123, 10]⟩ _ S2.out.bld (by rw [Lib.byteCells_length]; exact fits HTX2.out HL.out) S2.out.bw.size).mono ?_; rintro e w2 ⟨rfl, h1, h2, h3⟩; have S5 := Lib.hid (S2.out.write h1 h2 h3); clear h1 h2 h3; obtain ⟨hgb, _, _⟩ := S5.out.blk _ List.mem_cons_self; have n5 : w2.cell? ⟨g, 5, none⟩ = some (.slice A5 d.f4.length c5) := blk_cell hgb 5; clear hgb)))
            go_loopg [54] 0 (fun kq s54 W => s54 = .int .i64 0 ∧ Hid (BW w b (tx2 ++ [32, 123, 10]) [] W))
            case atStart => exact ⟨rfl, Lib.hid S5.out.forget⟩
            case round =>
              clear S2 S5 HTX HTX2 n5 n1
              obtain ⟨rfl, HB5⟩ := hrel
              go_wp2_with (first
                | (go_at_call 18; go_loud (refine (bld_write w.heap.size b _ ⟨#[125, 10]⟩ _ HB5.out.bld (by rw [Lib.byteCells_length]; exact fits HTE.out HL.out) HB5.out.bw.size).mono ?_; rintro e w2 ⟨rfl, h1, h2, h3⟩; have S6 := Lib.hid (HB5.out.write h1 h2 h3); clear h1 h2 h3)))
              go_roundg q1
              case rel => exact ⟨i + 1, by simp [hib], Lib.hid ⟨_, u1, HU1.out, (by rw [List.append_assoc]; exact HTE.out), hlt, by omega, S6.out⟩⟩
              case measure => omega
    · have hi : i = l.length := by omega
      have hu0 : u = [] := by rw [hi, List.drop_length] at hu; exact (Option.some.inj hu).symm
      rw [hu0, List.append_nil] at htx
      have cn : ¬ (i : Int) < (l.length : Int) := by omega
      have HTX := Lib.hid htx
      clear htx hu hu0 hi
      go_wp2_with (first
        | (go_at_call 20; go_loud (refine (Any.Builder_String_any_k Tryz.lays169 Tryz.Builder_Extra_169 w.heap.size b txt _ SS.out.bld SS.out.bw.size).mono ?_; rintro e w2 ⟨rfl, h1, h2, h3⟩; rw [HTX.out]; have HB2 := Lib.hid (SS.out.bw.trans h2); clear h1 h2 h3)))
      go_ret
      exact ⟨rfl, HB2.out⟩
end Go.Proofs.YtahjkibjcibpgaaGreatDoor.L
end
section
namespace Go.Proofs.YtahjkibjcibpgaaGreatDoor.L
open Go.RowKit Go.Shelf Go.Lib Go.Proofs.YtahjkibjcibpgaaGreatDoor.U
open Go.Proofs.YtahjkibjcibpgaaGreatDoorW Go.Proofs.YtahjkibjcibpgaaGreatDoorW.PrintWords
theorem wv_mono (k : Nat) (v : PTr.S26) {t : ByteArray} (h : wv k v = some t) : wv (k + 1) v = some t := PTr.tree_write.mono _ _ _ _ _ _ k _ h
theorem strsW_mono (k : Nat) : ∀ (l : List PTr.S26) {t : List UInt8}, strsW k l = some t → strsW (k + 1) l = some t
  | [], _, h => h
  | v :: r, t, h => by
    obtain ⟨a, ha, h⟩ := Option.bind_eq_some_iff.1 h
    obtain ⟨b, hb, h⟩ := Option.bind_eq_some_iff.1 h
    show (wv (k + 1) v).bind _ = _
    rw [wv_mono k v ha]
    show (strsW (k + 1) r).bind _ = _
    rw [strsW_mono k r hb]
    exact h
theorem propW_mono (k : Nat) (p : PTr.S26) {t : List UInt8} (h : propW k p = some t) : propW (k + 1) p = some t := by
  obtain ⟨a, ha, h⟩ := Option.bind_eq_some_iff.1 h
  unfold propW
  rw [strsW_mono k _ ha]
  exact h
theorem propsW_mono (k : Nat) : ∀ (l : List PTr.S26) {t : List UInt8}, propsW k l = some t → propsW (k + 1) l = some t
  | [], _, h => h
  | v :: r, t, h => by
    obtain ⟨a, ha, h⟩ := Option.bind_eq_some_iff.1 h
    obtain ⟨b, hb, h⟩ := Option.bind_eq_some_iff.1 h
    show (propW (k + 1) v).bind _ = _
    rw [propW_mono k v ha]
    show (propsW (k + 1) r).bind _ = _
    rw [propsW_mono k r hb]
    exact h
theorem wordsW_mono (k : Nat) : ∀ (l : List PTr.S26) {t : List UInt8 × List PTr.S26}, wordsW k l = some t → wordsW (k + 1) l = some t
  | [], _, h => h
  | v :: r, t, h => by
    unfold wordsW at h ⊢
    by_cases c : v.f0 = 2
    · rw [if_pos c] at h ⊢; exact h
    · rw [if_neg c] at h ⊢
      obtain ⟨a, ha, h⟩ := Option.bind_eq_some_iff.1 h
      obtain ⟨b, hb, h⟩ := Option.bind_eq_some_iff.1 h
      rw [wv_mono k v ha]
      show (wordsW (k + 1) r).bind _ = _
      rw [wordsW_mono k r hb]
      exact h
theorem declW_mono (k : Nat) (p : PTr.S26) {t : List UInt8} (h : declW k p = some t) : declW (k + 1) p = some t := by
  obtain ⟨a, ha, h⟩ := Option.bind_eq_some_iff.1 h
  obtain ⟨b, hb, h⟩ := Option.bind_eq_some_iff.1 h
  unfold declW
  rw [wordsW_mono k _ ha]
  show (propsW (k + 1) a.2).bind _ = _
  rw [propsW_mono k _ hb]
  exact h
theorem declsW_mono (k : Nat) : ∀ (l : List PTr.S26) {t : List UInt8}, declsW k l = some t → declsW (k + 1) l = some t
  | [], _, h => h
  | v :: r, t, h => by
    obtain ⟨a, ha, h⟩ := Option.bind_eq_some_iff.1 h
    obtain ⟨b, hb, h⟩ := Option.bind_eq_some_iff.1 h
    show (declW (k + 1) v).bind _ = _
    rw [declW_mono k v ha]
    show (declsW (k + 1) r).bind _ = _
    rw [declsW_mono k r hb]
    exact h
theorem rootW_mono (k : Nat) (n : PTr.S26) {t : List UInt8} (h : rootW k n = some t) : rootW (k + 1) n = some t := by
  obtain ⟨ok, ha, h⟩ := Option.bind_eq_some_iff.1 h
  unfold rootW
  rw [PTr.tree_Right.mono _ _ _ _ _ _ k _ ha]
  show (if ok = true then _ else _) = _
  cases ok with
  | true => exact declsW_mono k _ h
  | false => exact h
theorem rootW_up (k : Nat) (n : PTr.S26) {t : List UInt8} (h : rootW k n = some t) : ∀ d, rootW (k + d) n = some t
  | 0 => h
  | d + 1 => rootW_mono _ n (rootW_up k n h d)
theorem rootW_det {k k' : Nat} {n : PTr.S26} {t t' : List UInt8} (h : rootW k n = some t) (h' : rootW k' n = some t') : t = t' := by
  have a := rootW_up k n h k'
  have b := rootW_up k' n h' k
  rw [Nat.add_comm] at b
  exact Option.some.inj (a.symm.trans b)
theorem write_any (k : Nat) (n : PTr.S26) (A : Option Addr) (c : Nat) (w : World) (hg : UW w) (hr : Kd.C PTr.k26 w A n.f4.length n.f4) (hc : n.f4.length ≤ c) (T : List UInt8) (h : rootW k n = some T) (hl : T.length ≤ 140737488355328) :
    Calls Tryz.prog 10 #[.agg #[.int .i64 n.f0, .string n.f1, .int .i64 n.f2.f0, .int .i64 n.f2.f1, .int .i64 n.f3, .slice A n.f4.length c]] w fun e w' => e = .returned (.string ⟨T.toArray⟩) ∧ Below w.heap.size w w' := by
  obtain ⟨ok, ha, h⟩ := Option.bind_eq_some_iff.1 h
  cases ok with
  | true => exact write_yes k _ _ _ _ _ _ A c w hg hr hc ha T h hl
  | false =>
    have e := Option.some.inj (show some ([] : List UInt8) = some T from h)
    subst e
    exact write_no k _ _ _ _ _ _ A c w hg hr hc ha
end Go.Proofs.YtahjkibjcibpgaaGreatDoor.L
namespace Go.Proofs.YtahjkibjcibpgaaGreatDoor.Ex
open Go.RowKit Go.Proofs.YtahjkibjcibpgaaGreatDoor.U Go.Proofs.YtahjkibjcibpgaaGreatDoorW.PrintWords
open Classical in
noncomputable def tree_Write.f (a0 : Int) (a1 : ByteArray) (a2 a3 a4 : Int) (l : List PTr.S26) : Option ByteArray :=
  if h : ∃ T : List UInt8, (∃ k, L.rootW k ⟨a0, a1, ⟨a2, a3⟩, a4, l⟩ = some T) ∧ T.length ≤ 140737488355328 then some ⟨h.choose.toArray⟩ else none
theorem tree_Write.f_of {n : PTr.S26} {k : Nat} {T : List UInt8} (h : L.rootW k n = some T) (hl : T.length ≤ 140737488355328) : tree_Write.f n.f0 n.f1 n.f2.f0 n.f2.f1 n.f3 n.f4 = some ⟨T.toArray⟩ := by
  unfold tree_Write.f
  have hx : ∃ T : List UInt8, (∃ k, L.rootW k ⟨n.f0, n.f1, ⟨n.f2.f0, n.f2.f1⟩, n.f3, n.f4⟩ = some T) ∧ T.length ≤ 140737488355328 := ⟨T, ⟨k, h⟩, hl⟩
  rw [dif_pos hx]
  obtain ⟨⟨k', h'⟩, _⟩ := hx.choose_spec
  rw [L.rootW_det h' h]
theorem tree_Write.calls (a0 : Int) (a1 : ByteArray) (a2 a3 a4 : Int) (A : Option Addr) (c : Nat) (l : List PTr.S26) (r : ByteArray) (w : World) (hg : UW w) (hr : Kd.C PTr.k26 w A l.length l) (hc : l.length ≤ c) (h : tree_Write.f a0 a1 a2 a3 a4 l = some r) :
    Calls Tryz.prog 10 #[.agg #[.int .i64 a0, .string a1, .int .i64 a2, .int .i64 a3, .int .i64 a4, .slice A l.length c]] w fun e w' => e = .returned (.string r) ∧ Below w.heap.size w w' := by
  unfold tree_Write.f at h
  by_cases hx : ∃ T : List UInt8, (∃ k, L.rootW k ⟨a0, a1, ⟨a2, a3⟩, a4, l⟩ = some T) ∧ T.length ≤ 140737488355328
  · rw [dif_pos hx] at h
    have e := Option.some.inj h
    subst e
    obtain ⟨⟨k, h'⟩, hl⟩ := hx.choose_spec
    exact L.write_any k (⟨a0, a1, ⟨a2, a3⟩, a4, l⟩ : PTr.S26) A c w hg hr hc _ h' hl
  · rw [dif_neg hx] at h
    cases h
end Go.Proofs.YtahjkibjcibpgaaGreatDoor.Ex
end
section
namespace Go.Proofs.YtahjkibjcibpgaaGreatDoor.L
open Go.Proofs.YtahjkibjcibpgaaGreatDoor.U
def sm2w : ByteArray := ⟨#[120, 32, 123, 10, 32, 32, 121, 32, 53, 48, 48, 48, 32, 109, 109, 32, 122, 59, 10, 125, 10]⟩
theorem sm1_right : PTr.tree_Right.f 60 0 ⟨#[]⟩ 0 0 0 tr1 = some true := by kernel_rfl
theorem sm2_root : rootW 60 ⟨0, ⟨#[]⟩, ⟨0, 0⟩, 0, tr2⟩ = some sm2w.data.toList := by kernel_rfl
theorem sm2_write : Ex.tree_Write.f 0 ⟨#[]⟩ 0 0 0 tr2 = some sm2w := Ex.tree_Write.f_of (n := ⟨0, ⟨#[]⟩, ⟨0, 0⟩, 0, tr2⟩) sm2_root (by decide)
end Go.Proofs.YtahjkibjcibpgaaGreatDoor.L
end
section
namespace Go.Proofs.YtahjkibjcibpgaaGreatDoor.L
open Go.RowKit Go.Shelf Go.Lib Go.Proofs.YtahjkibjcibpgaaGreatDoor.U
open Go.Proofs.YtahjkibjcibpgaaGreatDoorW Go.Proofs.YtahjkibjcibpgaaGreatDoorW.PrintWords Go.Proofs.YtahjkibjcibpgaaGreatDoorW.PrintLast
attribute [local go_sem] Oper.semAt_some
theorem node_at {W : World} {base n cap g : Nat} {ok : Nat → Prop} {xs : List PTr.S26} (h : PTr.k26.R 26 W base ok (.slice (some ⟨g, 0, none⟩) n cap) xs) (i : Nat) (hi : i < n) :
    ∃ v5, (∀ j u, [.int .i64 (xs.getD i PTr.z26).f0, .string (xs.getD i PTr.z26).f1, .int .i64 (xs.getD i PTr.z26).f2.f0, .int .i64 (xs.getD i PTr.z26).f2.f1, .int .i64 (xs.getD i PTr.z26).f3, v5][j]? = some u → W.cell? ⟨g, i * 6 + j, none⟩ = some u) ∧
      PTr.k26.R 26 W base (fun _ => True) v5 (xs.getD i PTr.z26).f4 := by
  obtain ⟨c, _, hM, hc, _⟩ := Kd.R_elem h PTr.z26 (i : Int) (by omega) (by omega)
  obtain ⟨v5, rfl, hr⟩ := PTr.k26_openM hM
  exact ⟨v5, hc, Kd.R_mono hr (fun _ _ => trivial)⟩
set_option maxRecDepth 100000 in
set_option maxHeartbeats 4000000 in
theorem small_any (w : World) (hg : UW w) : Calls Tryz.prog 8 #[] w fun e w' => e = .returned (.bool true) ∧ Below w.heap.size w w' := by
  have HG := Lib.hid hg
  clear hg
  go_enter Tryz.func8, Tryz.ntmps8
  go_upto_region 2 with (first | (go_at_call 12; go_loud (refine (Ex.tree_Parse.calls sm1 0 ⟨#[]⟩ 0 0 0 tr1 0 0 _ (HG.out.step (Below.refl _ _)) sm1_ok).mono ?_; rintro e w1 ⟨v1, rfl, hR, hb⟩; have B0_1 := Lib.hid (below_step (Below.refl _ _) hb); have R1 := Lib.hid hR; obtain ⟨A1, c1, ev⟩ := Kd.R_slice hR; have ev2 : v1 = .slice A1 1 c1 := ev; clear ev; subst ev2; have BK1 := Lib.hid (blk_new w1 (.cells #[.int .i64 0, .string (⟨#[]⟩ : ByteArray), .int .i64 0, .int .i64 0, .int .i64 0, .slice A1 1 c1] 26)); clear hR hb)))
  go_upto_region 3 with (first | (go_at_call 12; go_loud (refine (Ex.tree_Parse.calls sm2 0 ⟨#[]⟩ 0 0 0 tr2 0 0 _ (HG.out.step (below_alloc B0_1.out _)) sm2_ok).mono ?_; rintro e w2 ⟨v2, rfl, hR, hb⟩; have B0_2 := Lib.hid (below_step (below_alloc B0_1.out _) hb); have B1_2 := Lib.hid (below_step (Below.refl _ _) hb); have R2 := Lib.hid hR; obtain ⟨A2, c2, ev⟩ := Kd.R_slice hR; have ev2 : v2 = .slice A2 1 c2 := ev; clear ev; subst ev2; have BK2 := Lib.hid (blk_new w2 (.cells #[.int .i64 0, .string (⟨#[]⟩ : ByteArray), .int .i64 0, .int .i64 0, .int .i64 0, .slice A2 1 c2] 26)); clear hR hb)))
  go_upto_region 4 with (first | (go_at_call 12; go_loud (refine (Ex.tree_Parse.calls sm3 0 ⟨#[]⟩ 0 0 0 [] 2 8 _ (HG.out.step (below_alloc B0_2.out _)) sm3_no).mono ?_; rintro e w3 ⟨v3, rfl, hR, hb⟩; have B0_3 := Lib.hid (below_step (below_alloc B0_2.out _) hb); have B1_3 := Lib.hid (below_step (below_alloc B1_2.out _) hb); have B2_3 := Lib.hid (below_step (Below.refl _ _) hb); have R3 := Lib.hid hR; obtain ⟨A3, c3, ev⟩ := Kd.R_slice hR; have ev2 : v3 = .slice A3 0 c3 := ev; clear ev; subst ev2; have BK3 := Lib.hid (blk_new w3 (.cells #[.int .i64 0, .string (⟨#[]⟩ : ByteArray), .int .i64 0, .int .i64 0, .int .i64 0, .slice A3 0 c3] 26)); clear hR hb)))
  go_upto_region 5 with (first | (go_at_call 12; go_loud (refine (Ex.tree_Parse.calls sm4 0 ⟨#[]⟩ 0 0 0 [] 2 3 _ (HG.out.step (below_alloc B0_3.out _)) sm4_no).mono ?_; rintro e w4 ⟨v4, rfl, hR, hb⟩; have B0_4 := Lib.hid (below_step (below_alloc B0_3.out _) hb); have B1_4 := Lib.hid (below_step (below_alloc B1_3.out _) hb); have B2_4 := Lib.hid (below_step (below_alloc B2_3.out _) hb); have R4 := Lib.hid hR; obtain ⟨A4, c4, ev⟩ := Kd.R_slice hR; have ev2 : v4 = .slice A4 0 c4 := ev; clear ev; subst ev2; have BK4 := Lib.hid (blk_new w4 (.cells #[.int .i64 0, .string (⟨#[]⟩ : ByteArray), .int .i64 0, .int .i64 0, .int .i64 0, .slice A4 0 c4] 26)); clear hR hb)))
  go_upto_region 6 with (first | (go_at_call 12; go_loud (refine (Ex.tree_Parse.calls sm5 0 ⟨#[]⟩ 0 0 0 [] 2 7 _ (HG.out.step (below_alloc B0_4.out _)) sm5_no).mono ?_; rintro e w5 ⟨v5, rfl, hR, hb⟩; have B0_5 := Lib.hid (below_step (below_alloc B0_4.out _) hb); have B1_5 := Lib.hid (below_step (below_alloc B1_4.out _) hb); have B2_5 := Lib.hid (below_step (below_alloc B2_4.out _) hb); have R5 := Lib.hid hR; obtain ⟨A5, c5, ev⟩ := Kd.R_slice hR; have ev2 : v5 = .slice A5 0 c5 := ev; clear ev; subst ev2; have BK5 := Lib.hid (blk_new w5 (.cells #[.int .i64 0, .string (⟨#[]⟩ : ByteArray), .int .i64 0, .int .i64 0, .int .i64 0, .slice A5 0 c5] 26)); clear hR hb)))
  go_upto_region 7 with (first | (go_at_call 12; go_loud (refine (Ex.tree_Parse.calls sm6 0 ⟨#[]⟩ 0 0 0 [] 7 6 _ (HG.out.step (below_alloc B0_5.out _)) sm6_no).mono ?_; rintro e w6 ⟨v6, rfl, hR, hb⟩; have B0_6 := Lib.hid (below_step (below_alloc B0_5.out _) hb); have B1_6 := Lib.hid (below_step (below_alloc B1_5.out _) hb); have B2_6 := Lib.hid (below_step (below_alloc B2_5.out _) hb); have R6 := Lib.hid hR; obtain ⟨A6, c6, ev⟩ := Kd.R_slice hR; have ev2 : v6 = .slice A6 0 c6 := ev; clear ev; subst ev2; have BK6 := Lib.hid (blk_new w6 (.cells #[.int .i64 0, .string (⟨#[]⟩ : ByteArray), .int .i64 0, .int .i64 0, .int .i64 0, .slice A6 0 c6] 26)); clear hR hb)))
  have D1 := below_alloc B1_6.out (.cells #[.int .i64 0, .string (⟨#[]⟩ : ByteArray), .int .i64 0, .int .i64 0, .int .i64 0, .slice A6 0 c6] 26)
  have D2 := below_alloc B2_6.out (.cells #[.int .i64 0, .string (⟨#[]⟩ : ByteArray), .int .i64 0, .int .i64 0, .int .i64 0, .slice A6 0 c6] 26)
  have k1 := blk_alloc (blk_below BK1.out B1_6.out) (.cells #[.int .i64 0, .string (⟨#[]⟩ : ByteArray), .int .i64 0, .int .i64 0, .int .i64 0, .slice A6 0 c6] 26)
  have k2 := blk_alloc (blk_below BK2.out B2_6.out) (.cells #[.int .i64 0, .string (⟨#[]⟩ : ByteArray), .int .i64 0, .int .i64 0, .int .i64 0, .slice A6 0 c6] 26)
  have R1' := Kd.R_below (Kd.R_alloc R1.out (.cells #[.int .i64 0, .string (⟨#[]⟩ : ByteArray), .int .i64 0, .int .i64 0, .int .i64 0, .slice A1 1 c1] 26)) D1
  have R2' := Kd.R_below (Kd.R_alloc R2.out (.cells #[.int .i64 0, .string (⟨#[]⟩ : ByteArray), .int .i64 0, .int .i64 0, .int .i64 0, .slice A2 1 c2] 26)) D2
  have D0 := below_alloc B0_6.out (.cells #[.int .i64 0, .string (⟨#[]⟩ : ByteArray), .int .i64 0, .int .i64 0, .int .i64 0, .slice A6 0 c6] 26)
  clear BK1 BK2 BK3 BK4 BK5 BK6 R1 R2 R3 R4 R5 R6 B0_1 B0_2 B0_3 B0_4 B0_5 B0_6 B1_2 B1_3 B1_4 B1_5 B1_6 B2_3 B2_4 B2_5 B2_6 D1 D2
  generalize w6.alloc (.cells #[.int .i64 0, .string (⟨#[]⟩ : ByteArray), .int .i64 0, .int .i64 0, .int .i64 0, .slice A6 0 c6] 26) = W at *
  obtain ⟨G1, s1, e1, -⟩ := Kd.R_form R1' (by decide)
  obtain ⟨G2, s2, e2, -⟩ := Kd.R_form R2' (by decide)
  have e1' : Value.slice A1 1 c1 = .slice (some ⟨G1, 0, none⟩) 1 s1 := e1
  have e2' : Value.slice A2 1 c2 = .slice (some ⟨G2, 0, none⟩) 1 s2 := e2
  injection e1' with x1 x2 x3
  clear x2
  injection e2' with y1 y2 y3
  clear y2
  subst x1 x3 y1 y3
  clear e1 e2
  -- the first tree: the declaration, its kids, the third one's kid, the fourth one's kids
  obtain ⟨va, ha, ra⟩ := node_at R1' 0 (by decide)
  obtain ⟨Ga, qa, ea, -⟩ := Kd.R_form ra (by decide)
  have ea' : va = .slice (some ⟨Ga, 0, none⟩) 4 qa := ea
  subst ea'
  obtain ⟨vb, hb, rb⟩ := node_at ra 1 (by decide)
  obtain ⟨vc, hc, rc⟩ := node_at ra 2 (by decide)
  obtain ⟨Gc, qc, ec, -⟩ := Kd.R_form rc (by decide)
  have ec' : vc = .slice (some ⟨Gc, 0, none⟩) 1 qc := ec
  subst ec'
  obtain ⟨vd, hd, rd⟩ := node_at ra 3 (by decide)
  obtain ⟨Gd, qd, ed, -⟩ := Kd.R_form rd (by decide)
  have ed' : vd = .slice (some ⟨Gd, 0, none⟩) 2 qd := ed
  subst ed'
  obtain ⟨vm, hm, rm⟩ := node_at rc 0 (by decide)
  obtain ⟨Am, qm, em⟩ := Kd.R_slice rm
  have em' : vm = .slice Am 0 qm := em
  subst em'
  -- the second tree
  obtain ⟨ve, he, re⟩ := node_at R2' 0 (by decide)
  obtain ⟨Ge, qe, ee, -⟩ := Kd.R_form re (by decide)
  have ee' : ve = .slice (some ⟨Ge, 0, none⟩) 1 qe := ee
  subst ee'
  obtain ⟨vf, hf, rf⟩ := node_at re 0 (by decide)
  obtain ⟨Gf, qf, ef, -⟩ := Kd.R_form rf (by decide)
  have ef' : vf = .slice (some ⟨Gf, 0, none⟩) 2 qf := ef
  subst ef'
  obtain ⟨vl, hl, rl⟩ := node_at rf 0 (by decide)
  obtain ⟨Al, ql, el⟩ := Kd.R_slice rl
  have el' : vl = .slice Al 0 ql := el
  subst el'
  obtain ⟨vz, hz, rz⟩ := node_at rf 1 (by decide)
  have p1 : W.cell? ⟨G1, 1, none⟩ = some (.string ⟨#[108, 97, 107, 101]⟩) := ha 1 _ rfl
  have p2 : W.cell? ⟨G1, 5, none⟩ = some (.slice (some ⟨Ga, 0, none⟩) 4 qa) := ha 5 _ rfl
  have p3 : W.cell? ⟨Ga, 7, none⟩ = some (.string ⟨#[85, 112, 112, 101, 114]⟩) := hb 1 _ rfl
  have p4 : W.cell? ⟨Ga, 17, none⟩ = some (.slice (some ⟨Gc, 0, none⟩) 1 qc) := hc 5 _ rfl
  have p5 : W.cell? ⟨Ga, 23, none⟩ = some (.slice (some ⟨Gd, 0, none⟩) 2 qd) := hd 5 _ rfl
  have p6 : W.cell? ⟨Gc, 0, none⟩ = some (.int .i64 5) := hm 0 _ rfl
  have p7 : W.cell? ⟨Gc, 1, none⟩ = some (.string ⟨#[]⟩) := hm 1 _ rfl
  have p8 : W.cell? ⟨Gc, 2, none⟩ = some (.int .i64 4000000) := hm 2 _ rfl
  have p9 : W.cell? ⟨Gc, 3, none⟩ = some (.int .i64 1) := hm 3 _ rfl
  have p10 : W.cell? ⟨Gc, 4, none⟩ = some (.int .i64 23) := hm 4 _ rfl
  have p11 : W.cell? ⟨Gc, 5, none⟩ = some (.slice Am 0 qm) := hm 5 _ rfl
  have q1 : W.cell? ⟨G2, 5, none⟩ = some (.slice (some ⟨Ge, 0, none⟩) 1 qe) := he 5 _ rfl
  have q2 : W.cell? ⟨Ge, 5, none⟩ = some (.slice (some ⟨Gf, 0, none⟩) 2 qf) := hf 5 _ rfl
  have q3 : W.cell? ⟨Gf, 0, none⟩ = some (.int .i64 5) := hl 0 _ rfl
  have q4 : W.cell? ⟨Gf, 1, none⟩ = some (.string ⟨#[]⟩) := hl 1 _ rfl
  have q5 : W.cell? ⟨Gf, 2, none⟩ = some (.int .i64 5000) := hl 2 _ rfl
  have q6 : W.cell? ⟨Gf, 3, none⟩ = some (.int .i64 3) := hl 3 _ rfl
  have q7 : W.cell? ⟨Gf, 4, none⟩ = some (.int .i64 6) := hl 4 _ rfl
  have q8 : W.cell? ⟨Gf, 5, none⟩ = some (.slice Al 0 ql) := hl 5 _ rfl
  have q9 : W.cell? ⟨Gf, 7, none⟩ = some (.string ⟨#[122]⟩) := hz 1 _ rfl
  have b10 : W.cell? ⟨w1.heap.size, 0, none⟩ = some (.int .i64 0) := blk_cell k1 0
  have b11 : W.cell? ⟨w1.heap.size, 1, none⟩ = some (.string ⟨#[]⟩) := blk_cell k1 1
  have b12 : W.cell? ⟨w1.heap.size, 2, none⟩ = some (.int .i64 0) := blk_cell k1 2
  have b13 : W.cell? ⟨w1.heap.size, 3, none⟩ = some (.int .i64 0) := blk_cell k1 3
  have b14 : W.cell? ⟨w1.heap.size, 4, none⟩ = some (.int .i64 0) := blk_cell k1 4
  have b15 : W.cell? ⟨w1.heap.size, 5, none⟩ = some (.slice (some ⟨G1, 0, none⟩) 1 c1) := blk_cell k1 5
  have b20 : W.cell? ⟨w2.heap.size, 0, none⟩ = some (.int .i64 0) := blk_cell k2 0
  have b21 : W.cell? ⟨w2.heap.size, 1, none⟩ = some (.string ⟨#[]⟩) := blk_cell k2 1
  have b22 : W.cell? ⟨w2.heap.size, 2, none⟩ = some (.int .i64 0) := blk_cell k2 2
  have b23 : W.cell? ⟨w2.heap.size, 3, none⟩ = some (.int .i64 0) := blk_cell k2 3
  have b24 : W.cell? ⟨w2.heap.size, 4, none⟩ = some (.int .i64 0) := blk_cell k2 4
  have b25 : W.cell? ⟨w2.heap.size, 5, none⟩ = some (.slice (some ⟨G2, 0, none⟩) 1 c2) := blk_cell k2 5
  clear ha hb hc hd hm he hf hl hz ra rb rc rd rm re rf rl rz
  have K1 := Lib.hid k1
  have K2 := Lib.hid k2
  have RR1 := Lib.hid R1'
  have RR2 := Lib.hid R2'
  have DD := Lib.hid D0
  clear k1 k2 R1' R2' D0
  go_upto_region 9 with (fail)
  go_upto_region 11 with (fail)
  go_upto_region 12 with (fail)
  have DA := below_alloc (Below.refl W.heap.size W) (.cells #[.int .i64 5, .string ⟨#[]⟩, .int .i64 4000000, .int .i64 1, .int .i64 23, .slice Am 0 qm] 26)
  have kA := blk_new W (.cells #[.int .i64 5, .string ⟨#[]⟩, .int .i64 4000000, .int .i64 1, .int .i64 23, .slice Am 0 qm] 26)
  replace p1 := pw_cell_below DA p1
  replace p2 := pw_cell_below DA p2
  replace p3 := pw_cell_below DA p3
  replace q1 := pw_cell_below DA q1
  replace q2 := pw_cell_below DA q2
  replace q9 := pw_cell_below DA q9
  replace q3 := pw_cell_below DA q3
  replace q4 := pw_cell_below DA q4
  replace q5 := pw_cell_below DA q5
  replace q6 := pw_cell_below DA q6
  replace q7 := pw_cell_below DA q7
  replace q8 := pw_cell_below DA q8
  replace b10 := pw_cell_below DA b10
  replace b11 := pw_cell_below DA b11
  replace b12 := pw_cell_below DA b12
  replace b13 := pw_cell_below DA b13
  replace b14 := pw_cell_below DA b14
  replace b15 := pw_cell_below DA b15
  replace b20 := pw_cell_below DA b20
  replace b21 := pw_cell_below DA b21
  replace b22 := pw_cell_below DA b22
  replace b23 := pw_cell_below DA b23
  replace b24 := pw_cell_below DA b24
  replace b25 := pw_cell_below DA b25
  have RR3 := Lib.hid (Kd.R_below RR1.out DA)
  have RR4 := Lib.hid (Kd.R_below RR2.out DA)
  have DD2 := Lib.hid (below_step DD.out DA)
  clear RR1 RR2 DD K1 K2 p4 p5 p6 p7 p8 p9 p10 p11
  have DA2 := Lib.hid DA
  clear DA
  generalize W.alloc (.cells #[.int .i64 5, .string ⟨#[]⟩, .int .i64 4000000, .int .i64 1, .int .i64 23, .slice Am 0 qm] 26) = X at *
  have m2 : X.cell? ⟨W.heap.size, 2, none⟩ = some (.int .i64 4000000) := blk_cell kA 2
  have m3 : X.cell? ⟨W.heap.size, 3, none⟩ = some (.int .i64 1) := blk_cell kA 3
  clear kA
  go_upto_region 13 with (fail)
  have DB := below_alloc (Below.refl X.heap.size X) (.cells #[.int .i64 5, .string ⟨#[]⟩, .int .i64 5000, .int .i64 3, .int .i64 6, .slice Al 0 ql] 26)
  have kB := blk_new X (.cells #[.int .i64 5, .string ⟨#[]⟩, .int .i64 5000, .int .i64 3, .int .i64 6, .slice Al 0 ql] 26)
  replace p1 := pw_cell_below DB p1
  replace p2 := pw_cell_below DB p2
  replace p3 := pw_cell_below DB p3
  replace q1 := pw_cell_below DB q1
  replace q2 := pw_cell_below DB q2
  replace q9 := pw_cell_below DB q9
  replace b10 := pw_cell_below DB b10
  replace b11 := pw_cell_below DB b11
  replace b12 := pw_cell_below DB b12
  replace b13 := pw_cell_below DB b13
  replace b14 := pw_cell_below DB b14
  replace b15 := pw_cell_below DB b15
  replace b20 := pw_cell_below DB b20
  replace b21 := pw_cell_below DB b21
  replace b22 := pw_cell_below DB b22
  replace b23 := pw_cell_below DB b23
  replace b24 := pw_cell_below DB b24
  replace b25 := pw_cell_below DB b25
  replace m2 := pw_cell_below DB m2
  replace m3 := pw_cell_below DB m3
  have RR5 := Lib.hid (Kd.R_below RR3.out DB)
  have RR6 := Lib.hid (Kd.R_below RR4.out DB)
  have DD3 := Lib.hid (below_step DD2.out DB)
  clear RR3 RR4 DD2 DA2 q3 q4 q5 q6 q7 q8 DB
  generalize X.alloc (.cells #[.int .i64 5, .string ⟨#[]⟩, .int .i64 5000, .int .i64 3, .int .i64 6, .slice Al 0 ql] 26) = Y at *
  have l2 : Y.cell? ⟨X.heap.size, 2, none⟩ = some (.int .i64 5000) := blk_cell kB 2
  have l3 : Y.cell? ⟨X.heap.size, 3, none⟩ = some (.int .i64 3) := blk_cell kB 3
  clear kB
  go_wp2_with (first | (go_at_call 11; go_loud (refine (PTr.tree_Right.calls 60 0 ⟨#[]⟩ 0 0 0 (some ⟨G1, 0, none⟩) c1 tr1 true _ (HG.out.step DD3.out) (Kd.R_reads' RR5.out).2.2 (Kd.R_reads' RR5.out).2.1 sm1_right).mono ?_; rintro e w7 ⟨rfl, hb⟩; have HB := Lib.hid (below_step DD3.out hb); have RR7 := Lib.hid (Kd.R_below RR6.out hb); replace b20 := pw_cell_below hb b20; replace b21 := pw_cell_below hb b21; replace b22 := pw_cell_below hb b22; replace b23 := pw_cell_below hb b23; replace b24 := pw_cell_below hb b24; replace b25 := pw_cell_below hb b25; clear hb)) | (go_at_call 10; go_loud (refine (Ex.tree_Write.calls 0 ⟨#[]⟩ 0 0 0 (some ⟨G2, 0, none⟩) c2 tr2 sm2w _ (HG.out.step HB.out) (Kd.R_reads' RR7.out).2.2 (Kd.R_reads' RR7.out).2.1 sm2_write).mono ?_; rintro e w8 ⟨rfl, hb⟩; have HC := Lib.hid (below_step HB.out hb); clear hb)))
  go_ret
  exact ⟨by kernel_rfl, HC.out⟩
end Go.Proofs.YtahjkibjcibpgaaGreatDoor.L
namespace Go.Proofs.YtahjkibjcibpgaaGreatDoor.Ex
open Go.RowKit Go.Proofs.YtahjkibjcibpgaaGreatDoor.U Go.Proofs.YtahjkibjcibpgaaGreatDoorW.PrintWords
def small15.f : Option Bool := some true
theorem small15.calls (r : Bool) (w : World) (hg : UW w) (h : small15.f = some r) : Calls Tryz.prog 8 #[] w fun e w' => e = .returned (.bool r) ∧ Below w.heap.size w w' := by
  obtain rfl : true = r := Option.some.inj h
  exact L.small_any w hg
end Go.Proofs.YtahjkibjcibpgaaGreatDoor.Ex
end
section
namespace Go.Proofs.YtahjkibjcibpgaaGreatDoor.PTr
open Go.RowKit Go.Proofs.YtahjkibjcibpgaaGreatDoorW.Sq Go.Proofs.YtahjkibjcibpgaaGreatDoorW.PrintWords Go.Proofs.YtahjkibjcibpgaaGreatDoorW.PrintLast Go.Proofs.YtahjkibjcibpgaaGreatDoorW.PrintMore
attribute [local go_sem] max2_int min2_int max_two min_two max_three min_three max_four min_four   -- for this text's walks alone
set_option linter.unusedVariables false
set_option linter.unusedSimpArgs false
noncomputable section
def bournelaw15_TreeAts.f (k : Nat) (a0 : ByteArray) : Option (Bool) := (Ex.small15.f).bind fun t302 => ((Ex.tree_Parse.f a0).bind fun bt303 => (if (a0.size : Int) > 2000 then (some t302) else (if bt303.2.2.2.2.2.2.1 = 0 then ((bournelaw15_placed.f k a0 bt303.1 bt303.2.1 bt303.2.2.1 bt303.2.2.2.1 bt303.2.2.2.2.1 bt303.2.2.2.2.2.1 0).bind fun bt314 => (if t302 = true then (if bt303.2.2.2.2.1 = 0 then (some bt314.2) else (some false)) else (some false))) else (some t302))))
theorem bournelaw15_TreeAts.mono : ∀ a0 k, LeO (bournelaw15_TreeAts.f k a0) (bournelaw15_TreeAts.f (k + 1) a0) := by
  intro a0 k
  unfold bournelaw15_TreeAts.f
  repeat' first
      | (with_reducible exact bournelaw15_placed.mono _ _ _ _ _ _ _ _ _)
      | (with_reducible exact LeO.refl _)
      | (with_reducible exact LeO.none _)
      | (with_reducible refine LeO.ite ?_ ?_)
      | (with_reducible refine LeO.bind ?_ (fun _ => ?_))
      | exact bournelaw15_placed.mono _ _ _ _ _ _ _ _ _
      | exact LeO.none _
      | refine LeO.ite ?_ ?_
      | refine LeO.bind ?_ (fun _ => ?_)
set_option maxHeartbeats 8000000 in
set_option maxRecDepth 100000 in
theorem bournelaw15_TreeAts.calls (k : Nat) (a0 : ByteArray) (r : Bool) (w : World) (hg : Go.Proofs.YtahjkibjcibpgaaGreatDoor.U.UW w) (h : bournelaw15_TreeAts.f k a0 = some r) :
    Calls Tryz.prog 7 #[.string a0] w fun e w' => e = .returned (.bool r) ∧ Below w.heap.size w w' := by
  have hu26 := Tryz.underlying26
  have HB := Aside0.mk (Below.refl w.heap.size w)
  have HGW := Aside0.mk hg
  clear hg
  have H : ((Ex.small15.f).bind fun t302 => ((Ex.tree_Parse.f a0).bind fun bt303 => (if (a0.size : Int) > 2000 then (some t302) else (if bt303.2.2.2.2.2.2.1 = 0 then ((bournelaw15_placed.f k a0 bt303.1 bt303.2.1 bt303.2.2.1 bt303.2.2.2.1 bt303.2.2.2.2.1 bt303.2.2.2.2.2.1 0).bind fun bt314 => (if t302 = true then (if bt303.2.2.2.2.1 = 0 then (some bt314.2) else (some false)) else (some false))) else (some t302))))) = some r := h
  clear h
  replace H := Option.bind_eq_some_iff.mp H
  obtain ⟨t302, A20, H⟩ := H
  replace H : ((Ex.tree_Parse.f a0).bind fun bt303 => (if (a0.size : Int) > 2000 then (some t302) else (if bt303.2.2.2.2.2.2.1 = 0 then ((bournelaw15_placed.f k a0 bt303.1 bt303.2.1 bt303.2.2.1 bt303.2.2.2.1 bt303.2.2.2.2.1 bt303.2.2.2.2.2.1 0).bind fun bt314 => (if t302 = true then (if bt303.2.2.2.2.1 = 0 then (some bt314.2) else (some false)) else (some false))) else (some t302)))) = some r := H
  have A2 := Aside0.mk A20
  clear A20
  replace H := Option.bind_eq_some_iff.mp H
  obtain ⟨⟨t303, t304, t305, t306, t307, t308, t311, t312⟩, A30, H⟩ := H
  replace H : (if (a0.size : Int) > 2000 then (some t302) else (if t311 = 0 then ((bournelaw15_placed.f k a0 t303 t304 t305 t306 t307 t308 0).bind fun bt314 => (if t302 = true then (if t307 = 0 then (some bt314.2) else (some false)) else (some false))) else (some t302))) = some r := H
  have A3 := Aside0.mk A30
  clear A30
  by_cases c4 : (a0.size : Int) > 2000
  · rw [if_pos c4] at H
    have c4b0 : decide (2000 < (a0.size : Int)) = true := decide_eq_true c4
    have c4b1 : decide (2000 < a0.size) = true := decide_eq_true (by omega)
    clear c4
    obtain rfl := Option.some.inj H
    go_enter Tryz.func7, Tryz.ntmps7
    go_wp2_with (first | ((with_reducible refine gate_callee (f := 8) rfl ?_); refine goesL_ (some 9) rfl rfl Tryz.func8 (by kernel_rfl) rfl #[] rfl (by (try simp only [List.map_toArray, List.map_cons, List.map_nil]); first | done | rfl | (simp only [List.length_drop, List.length_take]; rfl) | (simp only [Int.toNat_natCast, ByteArray.extract_zero_size] <;> rfl) | (rw [Int.toNat_natCast, ByteArray.extract_zero_size] <;> rfl)) ?_; (with_reducible refine (Ex.small15.calls  t302 _ ?side1 A2.out).mono ?_); (case side1 => exact Go.Proofs.YtahjkibjcibpgaaGreatDoor.U.UW.step HGW.out (by repeat with_reducible first|exact HB.out|apply ba|apply bN|apply bd)); rintro e w5 ⟨rfl, hb⟩; refine ⟨_, rfl, ?_⟩; have n0_ := Aside0.mk (below_step (by repeat with_reducible first|exact HB.out|apply ba|apply bN|apply bd) hb); clear HB; have HB := n0_; clear n0_; (try clear hb); (try clear hb2); (try clear hk); (try clear hi)) | ((with_reducible refine gate_callee (f := 12) rfl ?_); refine goesL_ (some 12) rfl rfl Tryz.func12 (by kernel_rfl) rfl #[.string a0] rfl (by (try simp only [List.map_toArray, List.map_cons, List.map_nil]); first | done | rfl | (simp only [List.length_drop, List.length_take]; rfl) | (simp only [Int.toNat_natCast, ByteArray.extract_zero_size] <;> rfl) | (rw [Int.toNat_natCast, ByteArray.extract_zero_size] <;> rfl)) ?_; (with_reducible refine (Ex.tree_Parse.calls a0 t303 t304 t305 t306 t307 t308 t311 t312 _ ?side1 A3.out).mono ?_); (case side1 => exact Go.Proofs.YtahjkibjcibpgaaGreatDoor.U.UW.step HGW.out (by repeat with_reducible first|exact HB.out|apply ba|apply bN|apply bd)); rintro e w6 ⟨v309, rfl, ho0, hb⟩; refine ⟨_, rfl, ?_⟩; have n0_ := Aside0.mk (Kd.R_lower ho0 (below_size (by repeat with_reducible first|exact HB.out|apply ba|apply bN|apply bd))); have n1_ := Aside0.mk (below_step (by repeat with_reducible first|exact HB.out|apply ba|apply bN|apply bd) hb); clear HB; have HO310 := n0_; have HB := n1_; clear n0_ n1_; (try clear hb); (try clear hb2); (try clear hk); (try clear hi); (try clear ho0)) | ((with_reducible refine gate_dst (N := 4) rfl ?_); refine box_event ?hg (N := 4) ?hd (cs := #[.int .i64 0, .string (⟨#[]⟩ : ByteArray), .int .i64 0, .int .i64 0, .int .i64 0, .slice none 0 0]) (t := 26) ?hr ?_; (case hd => rfl); (case hg => rfl); (case hr => first | (go_simp; done) | (go_simp; rfl)); intro gb313 hg w7 hbox hb; have n0_ := Aside0.mk (Kd.R_below (Kd.R_elderB (by (with_reducible repeat (first | apply Kd.R_alloc | apply Kd.R_drewN | apply Kd.R_drew)); exact HO310.out) gb313 (Nat.le_of_eq hg.symm)) hb); have n1_ := Aside0.mk (below_step (by repeat with_reducible first|exact HB.out|apply ba|apply bN|apply bd) hb); have n2_ := Aside0.mk (hbox); have n3_ := Aside0.mk ((by rw [hg]; exact (below_size (by repeat with_reducible first|exact HB.out|apply ba|apply bN|apply bd)) : w.heap.size ≤ gb313)); have n4_ := Aside0.mk ((by rw [hg]; exact (below_size (by repeat with_reducible first|exact HB.out|apply ba|apply bN|apply bd)) : w.heap.size ≤ gb313)); clear HO310; clear HB; have HO310 := n0_; have HB := n1_; have BK313 := n2_; have GW313 := n3_; have GE313 := n4_; clear n0_ n1_ n2_ n3_ n4_; clear hb hbox hg; obtain ⟨hcz8_0, hcz8_1, hcz8_2, hcz8_3, hcz8_4, hcz8_5, hfz8_0, hfz8_1, hfz8_2, hfz8_3, hfz8_4, hfz8_5⟩ := cl6 BK313.out; obtain ⟨Ao9, co9, eo9⟩ := Kd.R_slice HO310.out; subst eo9))
    go_ret
    exact ⟨by first|rfl|(simp<;>rfl)|(simp [*]<;>rfl), by repeat with_reducible first|exact HB.out|apply ba|apply bN|apply bd|refine below_set ?_ GE313.out⟩
  rw [if_neg c4] at H
  have c4b0 : decide (2000 < (a0.size : Int)) = false := decide_eq_false c4
  have c4b1 : decide (2000 < a0.size) = false := decide_eq_false (by omega)
  clear c4
  by_cases c10 : t311 = 0
  · rw [if_pos c10] at H
    have c10b0 : (t311 == 0) = true := beq_iff_eq.mpr c10
    have c10b1 : (t311 != 0) = false := bne_eq_false_iff_eq.mpr c10
    clear c10
    replace H := Option.bind_eq_some_iff.mp H
    obtain ⟨⟨t314, t315⟩, A110, H⟩ := H
    replace H : (if t302 = true then (if t307 = 0 then (some t315) else (some false)) else (some false)) = some r := H
    have A11 := Aside0.mk A110
    clear A110
    by_cases c12 : t302 = true
    · subst c12
      have H1 : (if t307 = 0 then (some t315) else (some false)) = some r := by rw [if_pos rfl] at H; exact H
      clear H
      have H := H1
      clear H1
      by_cases c13 : t307 = 0
      · rw [if_pos c13] at H
        have c13b0 : (t307 == 0) = true := beq_iff_eq.mpr c13
        have c13b1 : (t307 != 0) = false := bne_eq_false_iff_eq.mpr c13
        clear c13
        obtain rfl := Option.some.inj H
        go_enter Tryz.func7, Tryz.ntmps7
        go_wp2_with (first | ((with_reducible refine gate_callee (f := 8) rfl ?_); refine goesL_ (some 9) rfl rfl Tryz.func8 (by kernel_rfl) rfl #[] rfl (by (try simp only [List.map_toArray, List.map_cons, List.map_nil]); first | done | rfl | (simp only [List.length_drop, List.length_take]; rfl) | (simp only [Int.toNat_natCast, ByteArray.extract_zero_size] <;> rfl) | (rw [Int.toNat_natCast, ByteArray.extract_zero_size] <;> rfl)) ?_; (with_reducible refine (Ex.small15.calls  true _ ?side1 A2.out).mono ?_); (case side1 => exact Go.Proofs.YtahjkibjcibpgaaGreatDoor.U.UW.step HGW.out (by repeat with_reducible first|exact HB.out|apply ba|apply bN|apply bd)); rintro e w14 ⟨rfl, hb⟩; refine ⟨_, rfl, ?_⟩; have n0_ := Aside0.mk (below_step (by repeat with_reducible first|exact HB.out|apply ba|apply bN|apply bd) hb); clear HB; have HB := n0_; clear n0_; (try clear hb); (try clear hb2); (try clear hk); (try clear hi)) | ((with_reducible refine gate_callee (f := 12) rfl ?_); refine goesL_ (some 12) rfl rfl Tryz.func12 (by kernel_rfl) rfl #[.string a0] rfl (by (try simp only [List.map_toArray, List.map_cons, List.map_nil]); first | done | rfl | (simp only [List.length_drop, List.length_take]; rfl) | (simp only [Int.toNat_natCast, ByteArray.extract_zero_size] <;> rfl) | (rw [Int.toNat_natCast, ByteArray.extract_zero_size] <;> rfl)) ?_; (with_reducible refine (Ex.tree_Parse.calls a0 t303 t304 t305 t306 t307 t308 t311 t312 _ ?side1 A3.out).mono ?_); (case side1 => exact Go.Proofs.YtahjkibjcibpgaaGreatDoor.U.UW.step HGW.out (by repeat with_reducible first|exact HB.out|apply ba|apply bN|apply bd)); rintro e w15 ⟨v309, rfl, ho0, hb⟩; refine ⟨_, rfl, ?_⟩; have n0_ := Aside0.mk (Kd.R_lower ho0 (below_size (by repeat with_reducible first|exact HB.out|apply ba|apply bN|apply bd))); have n1_ := Aside0.mk (below_step (by repeat with_reducible first|exact HB.out|apply ba|apply bN|apply bd) hb); clear HB; have HO310 := n0_; have HB := n1_; clear n0_ n1_; (try clear hb); (try clear hb2); (try clear hk); (try clear hi); (try clear ho0)) | ((with_reducible refine gate_dst (N := 4) rfl ?_); refine box_event ?hg (N := 4) ?hd (cs := #[.int .i64 0, .string (⟨#[]⟩ : ByteArray), .int .i64 0, .int .i64 0, .int .i64 0, .slice none 0 0]) (t := 26) ?hr ?_; (case hd => rfl); (case hg => rfl); (case hr => first | (go_simp; done) | (go_simp; rfl)); intro gb313 hg w16 hbox hb; have n0_ := Aside0.mk (Kd.R_below (Kd.R_elderB (by (with_reducible repeat (first | apply Kd.R_alloc | apply Kd.R_drewN | apply Kd.R_drew)); exact HO310.out) gb313 (Nat.le_of_eq hg.symm)) hb); have n1_ := Aside0.mk (below_step (by repeat with_reducible first|exact HB.out|apply ba|apply bN|apply bd) hb); have n2_ := Aside0.mk (hbox); have n3_ := Aside0.mk ((by rw [hg]; exact (below_size (by repeat with_reducible first|exact HB.out|apply ba|apply bN|apply bd)) : w.heap.size ≤ gb313)); have n4_ := Aside0.mk ((by rw [hg]; exact (below_size (by repeat with_reducible first|exact HB.out|apply ba|apply bN|apply bd)) : w.heap.size ≤ gb313)); clear HO310; clear HB; have HO310 := n0_; have HB := n1_; have BK313 := n2_; have GW313 := n3_; have GE313 := n4_; clear n0_ n1_ n2_ n3_ n4_; clear hb hbox hg; obtain ⟨hcz17_0, hcz17_1, hcz17_2, hcz17_3, hcz17_4, hcz17_5, hfz17_0, hfz17_1, hfz17_2, hfz17_3, hfz17_4, hfz17_5⟩ := cl6 BK313.out; obtain ⟨Ao18, co18, eo18⟩ := Kd.R_slice HO310.out; subst eo18) | ((with_reducible refine gate_callee (f := 17) rfl ?_); refine goesL_ (some 27) rfl rfl Tryz.func17 (by kernel_rfl) rfl #[.string a0, .agg #[.int .i64 t303, .string t304, .int .i64 t305, .int .i64 t306, .int .i64 t307, .slice Ao18 t308.length co18], .int .i64 0] rfl (by (try simp only [List.map_toArray, List.map_cons, List.map_nil]); first | done | rfl | (simp only [List.length_drop, List.length_take]; rfl) | (simp only [Int.toNat_natCast, ByteArray.extract_zero_size] <;> rfl) | (rw [Int.toNat_natCast, ByteArray.extract_zero_size] <;> rfl)) ?_; (with_reducible refine (bournelaw15_placed.calls k a0 t303 t304 t305 t306 t307 _ _ t308 0 t314 t315 _ ?side1 ?side2 A11.out).mono ?_); (case side1 => refine (Kd.R_reads' (e := 26) (base := w.heap.size) (ok := fun k_ => (True ∧ k_ ≠ gb313)) (n := t308.length) (c := co18) ?_).2.2; exact (by (with_reducible repeat (first | apply Kd.R_alloc | apply Kd.R_drewN | apply Kd.R_drew)); exact (Kd.R_mono (Kd.R_far (p := ⟨gb313, 5, none⟩) (Kd.R_far (p := ⟨gb313, 4, none⟩) (Kd.R_far (p := ⟨gb313, 3, none⟩) (Kd.R_far (p := ⟨gb313, 2, none⟩) (Kd.R_far (p := ⟨gb313, 1, none⟩) (Kd.R_far (p := ⟨gb313, 0, none⟩) (Kd.R_mono HO310.out (fun k_ hk => (⟨hk, hk.2⟩ : _ ∧ k_ ≠ gb313))) (fun _ hk => hk.2) (.int .i64 t303)) (fun _ hk => hk.2) (.string t304)) (fun _ hk => hk.2) (.int .i64 t305)) (fun _ hk => hk.2) (.int .i64 t306)) (fun _ hk => hk.2) (.int .i64 t307)) (fun _ hk => hk.2) (.slice Ao18 t308.length co18)) (fun _ h_ => h_.1)))); (case side2 => exact (Kd.R_reads' HO310.out).2.1); rintro e w19 ⟨rfl, hb⟩; refine ⟨_, rfl, ?_⟩; have n0_ := Aside0.mk (Kd.R_below (by (with_reducible repeat (first | apply Kd.R_alloc | apply Kd.R_drewN | apply Kd.R_drew)); exact (Kd.R_mono (Kd.R_far (p := ⟨gb313, 5, none⟩) (Kd.R_far (p := ⟨gb313, 4, none⟩) (Kd.R_far (p := ⟨gb313, 3, none⟩) (Kd.R_far (p := ⟨gb313, 2, none⟩) (Kd.R_far (p := ⟨gb313, 1, none⟩) (Kd.R_far (p := ⟨gb313, 0, none⟩) (Kd.R_mono HO310.out (fun k_ hk => (⟨hk, hk.2⟩ : _ ∧ k_ ≠ gb313))) (fun _ hk => hk.2) (.int .i64 t303)) (fun _ hk => hk.2) (.string t304)) (fun _ hk => hk.2) (.int .i64 t305)) (fun _ hk => hk.2) (.int .i64 t306)) (fun _ hk => hk.2) (.int .i64 t307)) (fun _ hk => hk.2) (.slice Ao18 t308.length co18)) (fun _ h_ => h_.1))) hb); have n1_ := Aside0.mk (blk_below (g := gb313) (o := .cells #[.int .i64 t303, .string t304, .int .i64 t305, .int .i64 t306, .int .i64 t307, .slice Ao18 t308.length co18] 26 (0, 0)) (by (with_reducible repeat first|refine kN ?_ _|refine kd ?_|refine ka ?_ _); refine blk_put (cs := #[.int .i64 t303, .string t304, .int .i64 t305, .int .i64 t306, .int .i64 t307, .slice none 0 0]) ?_ 5 _ rfl; (with_reducible repeat first|refine kN ?_ _|refine kd ?_|refine ka ?_ _); refine blk_put (cs := #[.int .i64 t303, .string t304, .int .i64 t305, .int .i64 t306, .int .i64 0, .slice none 0 0]) ?_ 4 _ rfl; (with_reducible repeat first|refine kN ?_ _|refine kd ?_|refine ka ?_ _); refine blk_put (cs := #[.int .i64 t303, .string t304, .int .i64 t305, .int .i64 0, .int .i64 0, .slice none 0 0]) ?_ 3 _ rfl; (with_reducible repeat first|refine kN ?_ _|refine kd ?_|refine ka ?_ _); refine blk_put (cs := #[.int .i64 t303, .string t304, .int .i64 0, .int .i64 0, .int .i64 0, .slice none 0 0]) ?_ 2 _ rfl; (with_reducible repeat first|refine kN ?_ _|refine kd ?_|refine ka ?_ _); refine blk_put (cs := #[.int .i64 t303, .string (⟨#[]⟩ : ByteArray), .int .i64 0, .int .i64 0, .int .i64 0, .slice none 0 0]) ?_ 1 _ rfl; (with_reducible repeat first|refine kN ?_ _|refine kd ?_|refine ka ?_ _); refine blk_put (cs := #[.int .i64 0, .string (⟨#[]⟩ : ByteArray), .int .i64 0, .int .i64 0, .int .i64 0, .slice none 0 0]) ?_ 0 _ rfl; (with_reducible repeat first|refine kN ?_ _|refine kd ?_|refine ka ?_ _); exact BK313.out) hb); have n2_ := Aside0.mk (below_step (by repeat with_reducible first|exact HB.out|apply ba|apply bN|apply bd|refine below_set ?_ GE313.out) hb); clear HO310; clear BK313; clear HB; have HO310 := n0_; have BK313 := n1_; have HB := n2_; clear n0_ n1_ n2_; (try clear hb); (try clear hb2); (try clear hk); (try clear hi); obtain ⟨hcz20_0, hcz20_1, hcz20_2, hcz20_3, hcz20_4, hcz20_5, hfz20_0, hfz20_1, hfz20_2, hfz20_3, hfz20_4, hfz20_5⟩ := cl6 BK313.out))
        go_ret
        exact ⟨by first|rfl|(simp<;>rfl)|(simp [*]<;>rfl), by repeat with_reducible first|exact HB.out|apply ba|apply bN|apply bd|refine below_set ?_ GE313.out⟩
      rw [if_neg c13] at H
      have c13b0 : (t307 == 0) = false := beq_eq_false_iff_ne.mpr c13
      have c13b1 : (t307 != 0) = true := bne_iff_ne.mpr c13
      obtain rfl := Option.some.inj H
      go_enter Tryz.func7, Tryz.ntmps7
      go_wp2_with (first | ((with_reducible refine gate_callee (f := 8) rfl ?_); refine goesL_ (some 9) rfl rfl Tryz.func8 (by kernel_rfl) rfl #[] rfl (by (try simp only [List.map_toArray, List.map_cons, List.map_nil]); first | done | rfl | (simp only [List.length_drop, List.length_take]; rfl) | (simp only [Int.toNat_natCast, ByteArray.extract_zero_size] <;> rfl) | (rw [Int.toNat_natCast, ByteArray.extract_zero_size] <;> rfl)) ?_; (with_reducible refine (Ex.small15.calls  true _ ?side1 A2.out).mono ?_); (case side1 => exact Go.Proofs.YtahjkibjcibpgaaGreatDoor.U.UW.step HGW.out (by repeat with_reducible first|exact HB.out|apply ba|apply bN|apply bd)); rintro e w21 ⟨rfl, hb⟩; refine ⟨_, rfl, ?_⟩; have n0_ := Aside0.mk (below_step (by repeat with_reducible first|exact HB.out|apply ba|apply bN|apply bd) hb); clear HB; have HB := n0_; clear n0_; (try clear hb); (try clear hb2); (try clear hk); (try clear hi)) | ((with_reducible refine gate_callee (f := 12) rfl ?_); refine goesL_ (some 12) rfl rfl Tryz.func12 (by kernel_rfl) rfl #[.string a0] rfl (by (try simp only [List.map_toArray, List.map_cons, List.map_nil]); first | done | rfl | (simp only [List.length_drop, List.length_take]; rfl) | (simp only [Int.toNat_natCast, ByteArray.extract_zero_size] <;> rfl) | (rw [Int.toNat_natCast, ByteArray.extract_zero_size] <;> rfl)) ?_; (with_reducible refine (Ex.tree_Parse.calls a0 t303 t304 t305 t306 t307 t308 t311 t312 _ ?side1 A3.out).mono ?_); (case side1 => exact Go.Proofs.YtahjkibjcibpgaaGreatDoor.U.UW.step HGW.out (by repeat with_reducible first|exact HB.out|apply ba|apply bN|apply bd)); rintro e w22 ⟨v309, rfl, ho0, hb⟩; refine ⟨_, rfl, ?_⟩; have n0_ := Aside0.mk (Kd.R_lower ho0 (below_size (by repeat with_reducible first|exact HB.out|apply ba|apply bN|apply bd))); have n1_ := Aside0.mk (below_step (by repeat with_reducible first|exact HB.out|apply ba|apply bN|apply bd) hb); clear HB; have HO310 := n0_; have HB := n1_; clear n0_ n1_; (try clear hb); (try clear hb2); (try clear hk); (try clear hi); (try clear ho0)) | ((with_reducible refine gate_dst (N := 4) rfl ?_); refine box_event ?hg (N := 4) ?hd (cs := #[.int .i64 0, .string (⟨#[]⟩ : ByteArray), .int .i64 0, .int .i64 0, .int .i64 0, .slice none 0 0]) (t := 26) ?hr ?_; (case hd => rfl); (case hg => rfl); (case hr => first | (go_simp; done) | (go_simp; rfl)); intro gb313 hg w23 hbox hb; have n0_ := Aside0.mk (Kd.R_below (Kd.R_elderB (by (with_reducible repeat (first | apply Kd.R_alloc | apply Kd.R_drewN | apply Kd.R_drew)); exact HO310.out) gb313 (Nat.le_of_eq hg.symm)) hb); have n1_ := Aside0.mk (below_step (by repeat with_reducible first|exact HB.out|apply ba|apply bN|apply bd) hb); have n2_ := Aside0.mk (hbox); have n3_ := Aside0.mk ((by rw [hg]; exact (below_size (by repeat with_reducible first|exact HB.out|apply ba|apply bN|apply bd)) : w.heap.size ≤ gb313)); have n4_ := Aside0.mk ((by rw [hg]; exact (below_size (by repeat with_reducible first|exact HB.out|apply ba|apply bN|apply bd)) : w.heap.size ≤ gb313)); clear HO310; clear HB; have HO310 := n0_; have HB := n1_; have BK313 := n2_; have GW313 := n3_; have GE313 := n4_; clear n0_ n1_ n2_ n3_ n4_; clear hb hbox hg; obtain ⟨hcz24_0, hcz24_1, hcz24_2, hcz24_3, hcz24_4, hcz24_5, hfz24_0, hfz24_1, hfz24_2, hfz24_3, hfz24_4, hfz24_5⟩ := cl6 BK313.out; obtain ⟨Ao25, co25, eo25⟩ := Kd.R_slice HO310.out; subst eo25) | ((with_reducible refine gate_callee (f := 17) rfl ?_); refine goesL_ (some 27) rfl rfl Tryz.func17 (by kernel_rfl) rfl #[.string a0, .agg #[.int .i64 t303, .string t304, .int .i64 t305, .int .i64 t306, .int .i64 t307, .slice Ao25 t308.length co25], .int .i64 0] rfl (by (try simp only [List.map_toArray, List.map_cons, List.map_nil]); first | done | rfl | (simp only [List.length_drop, List.length_take]; rfl) | (simp only [Int.toNat_natCast, ByteArray.extract_zero_size] <;> rfl) | (rw [Int.toNat_natCast, ByteArray.extract_zero_size] <;> rfl)) ?_; (with_reducible refine (bournelaw15_placed.calls k a0 t303 t304 t305 t306 t307 _ _ t308 0 t314 t315 _ ?side1 ?side2 A11.out).mono ?_); (case side1 => refine (Kd.R_reads' (e := 26) (base := w.heap.size) (ok := fun k_ => (True ∧ k_ ≠ gb313)) (n := t308.length) (c := co25) ?_).2.2; exact (by (with_reducible repeat (first | apply Kd.R_alloc | apply Kd.R_drewN | apply Kd.R_drew)); exact (Kd.R_mono (Kd.R_far (p := ⟨gb313, 5, none⟩) (Kd.R_far (p := ⟨gb313, 4, none⟩) (Kd.R_far (p := ⟨gb313, 3, none⟩) (Kd.R_far (p := ⟨gb313, 2, none⟩) (Kd.R_far (p := ⟨gb313, 1, none⟩) (Kd.R_far (p := ⟨gb313, 0, none⟩) (Kd.R_mono HO310.out (fun k_ hk => (⟨hk, hk.2⟩ : _ ∧ k_ ≠ gb313))) (fun _ hk => hk.2) (.int .i64 t303)) (fun _ hk => hk.2) (.string t304)) (fun _ hk => hk.2) (.int .i64 t305)) (fun _ hk => hk.2) (.int .i64 t306)) (fun _ hk => hk.2) (.int .i64 t307)) (fun _ hk => hk.2) (.slice Ao25 t308.length co25)) (fun _ h_ => h_.1)))); (case side2 => exact (Kd.R_reads' HO310.out).2.1); rintro e w26 ⟨rfl, hb⟩; refine ⟨_, rfl, ?_⟩; have n0_ := Aside0.mk (Kd.R_below (by (with_reducible repeat (first | apply Kd.R_alloc | apply Kd.R_drewN | apply Kd.R_drew)); exact (Kd.R_mono (Kd.R_far (p := ⟨gb313, 5, none⟩) (Kd.R_far (p := ⟨gb313, 4, none⟩) (Kd.R_far (p := ⟨gb313, 3, none⟩) (Kd.R_far (p := ⟨gb313, 2, none⟩) (Kd.R_far (p := ⟨gb313, 1, none⟩) (Kd.R_far (p := ⟨gb313, 0, none⟩) (Kd.R_mono HO310.out (fun k_ hk => (⟨hk, hk.2⟩ : _ ∧ k_ ≠ gb313))) (fun _ hk => hk.2) (.int .i64 t303)) (fun _ hk => hk.2) (.string t304)) (fun _ hk => hk.2) (.int .i64 t305)) (fun _ hk => hk.2) (.int .i64 t306)) (fun _ hk => hk.2) (.int .i64 t307)) (fun _ hk => hk.2) (.slice Ao25 t308.length co25)) (fun _ h_ => h_.1))) hb); have n1_ := Aside0.mk (blk_below (g := gb313) (o := .cells #[.int .i64 t303, .string t304, .int .i64 t305, .int .i64 t306, .int .i64 t307, .slice Ao25 t308.length co25] 26 (0, 0)) (by (with_reducible repeat first|refine kN ?_ _|refine kd ?_|refine ka ?_ _); refine blk_put (cs := #[.int .i64 t303, .string t304, .int .i64 t305, .int .i64 t306, .int .i64 t307, .slice none 0 0]) ?_ 5 _ rfl; (with_reducible repeat first|refine kN ?_ _|refine kd ?_|refine ka ?_ _); refine blk_put (cs := #[.int .i64 t303, .string t304, .int .i64 t305, .int .i64 t306, .int .i64 0, .slice none 0 0]) ?_ 4 _ rfl; (with_reducible repeat first|refine kN ?_ _|refine kd ?_|refine ka ?_ _); refine blk_put (cs := #[.int .i64 t303, .string t304, .int .i64 t305, .int .i64 0, .int .i64 0, .slice none 0 0]) ?_ 3 _ rfl; (with_reducible repeat first|refine kN ?_ _|refine kd ?_|refine ka ?_ _); refine blk_put (cs := #[.int .i64 t303, .string t304, .int .i64 0, .int .i64 0, .int .i64 0, .slice none 0 0]) ?_ 2 _ rfl; (with_reducible repeat first|refine kN ?_ _|refine kd ?_|refine ka ?_ _); refine blk_put (cs := #[.int .i64 t303, .string (⟨#[]⟩ : ByteArray), .int .i64 0, .int .i64 0, .int .i64 0, .slice none 0 0]) ?_ 1 _ rfl; (with_reducible repeat first|refine kN ?_ _|refine kd ?_|refine ka ?_ _); refine blk_put (cs := #[.int .i64 0, .string (⟨#[]⟩ : ByteArray), .int .i64 0, .int .i64 0, .int .i64 0, .slice none 0 0]) ?_ 0 _ rfl; (with_reducible repeat first|refine kN ?_ _|refine kd ?_|refine ka ?_ _); exact BK313.out) hb); have n2_ := Aside0.mk (below_step (by repeat with_reducible first|exact HB.out|apply ba|apply bN|apply bd|refine below_set ?_ GE313.out) hb); clear HO310; clear BK313; clear HB; have HO310 := n0_; have BK313 := n1_; have HB := n2_; clear n0_ n1_ n2_; (try clear hb); (try clear hb2); (try clear hk); (try clear hi); obtain ⟨hcz27_0, hcz27_1, hcz27_2, hcz27_3, hcz27_4, hcz27_5, hfz27_0, hfz27_1, hfz27_2, hfz27_3, hfz27_4, hfz27_5⟩ := cl6 BK313.out))
      go_ret
      exact ⟨by first|rfl|(simp<;>rfl)|(simp [*]<;>rfl), by repeat with_reducible first|exact HB.out|apply ba|apply bN|apply bd|refine below_set ?_ GE313.out⟩
    replace c12 := Bool.eq_false_iff.mpr c12
    subst c12
    have H1 : (some false) = some r := by rw [if_neg (show ¬ (false = true) by decide)] at H; exact H
    clear H
    have H := H1
    clear H1
    obtain rfl := Option.some.inj H
    go_enter Tryz.func7, Tryz.ntmps7
    go_wp2_with (first | ((with_reducible refine gate_callee (f := 8) rfl ?_); refine goesL_ (some 9) rfl rfl Tryz.func8 (by kernel_rfl) rfl #[] rfl (by (try simp only [List.map_toArray, List.map_cons, List.map_nil]); first | done | rfl | (simp only [List.length_drop, List.length_take]; rfl) | (simp only [Int.toNat_natCast, ByteArray.extract_zero_size] <;> rfl) | (rw [Int.toNat_natCast, ByteArray.extract_zero_size] <;> rfl)) ?_; (with_reducible refine (Ex.small15.calls  false _ ?side1 A2.out).mono ?_); (case side1 => exact Go.Proofs.YtahjkibjcibpgaaGreatDoor.U.UW.step HGW.out (by repeat with_reducible first|exact HB.out|apply ba|apply bN|apply bd)); rintro e w28 ⟨rfl, hb⟩; refine ⟨_, rfl, ?_⟩; have n0_ := Aside0.mk (below_step (by repeat with_reducible first|exact HB.out|apply ba|apply bN|apply bd) hb); clear HB; have HB := n0_; clear n0_; (try clear hb); (try clear hb2); (try clear hk); (try clear hi)) | ((with_reducible refine gate_callee (f := 12) rfl ?_); refine goesL_ (some 12) rfl rfl Tryz.func12 (by kernel_rfl) rfl #[.string a0] rfl (by (try simp only [List.map_toArray, List.map_cons, List.map_nil]); first | done | rfl | (simp only [List.length_drop, List.length_take]; rfl) | (simp only [Int.toNat_natCast, ByteArray.extract_zero_size] <;> rfl) | (rw [Int.toNat_natCast, ByteArray.extract_zero_size] <;> rfl)) ?_; (with_reducible refine (Ex.tree_Parse.calls a0 t303 t304 t305 t306 t307 t308 t311 t312 _ ?side1 A3.out).mono ?_); (case side1 => exact Go.Proofs.YtahjkibjcibpgaaGreatDoor.U.UW.step HGW.out (by repeat with_reducible first|exact HB.out|apply ba|apply bN|apply bd)); rintro e w29 ⟨v309, rfl, ho0, hb⟩; refine ⟨_, rfl, ?_⟩; have n0_ := Aside0.mk (Kd.R_lower ho0 (below_size (by repeat with_reducible first|exact HB.out|apply ba|apply bN|apply bd))); have n1_ := Aside0.mk (below_step (by repeat with_reducible first|exact HB.out|apply ba|apply bN|apply bd) hb); clear HB; have HO310 := n0_; have HB := n1_; clear n0_ n1_; (try clear hb); (try clear hb2); (try clear hk); (try clear hi); (try clear ho0)) | ((with_reducible refine gate_dst (N := 4) rfl ?_); refine box_event ?hg (N := 4) ?hd (cs := #[.int .i64 0, .string (⟨#[]⟩ : ByteArray), .int .i64 0, .int .i64 0, .int .i64 0, .slice none 0 0]) (t := 26) ?hr ?_; (case hd => rfl); (case hg => rfl); (case hr => first | (go_simp; done) | (go_simp; rfl)); intro gb313 hg w30 hbox hb; have n0_ := Aside0.mk (Kd.R_below (Kd.R_elderB (by (with_reducible repeat (first | apply Kd.R_alloc | apply Kd.R_drewN | apply Kd.R_drew)); exact HO310.out) gb313 (Nat.le_of_eq hg.symm)) hb); have n1_ := Aside0.mk (below_step (by repeat with_reducible first|exact HB.out|apply ba|apply bN|apply bd) hb); have n2_ := Aside0.mk (hbox); have n3_ := Aside0.mk ((by rw [hg]; exact (below_size (by repeat with_reducible first|exact HB.out|apply ba|apply bN|apply bd)) : w.heap.size ≤ gb313)); have n4_ := Aside0.mk ((by rw [hg]; exact (below_size (by repeat with_reducible first|exact HB.out|apply ba|apply bN|apply bd)) : w.heap.size ≤ gb313)); clear HO310; clear HB; have HO310 := n0_; have HB := n1_; have BK313 := n2_; have GW313 := n3_; have GE313 := n4_; clear n0_ n1_ n2_ n3_ n4_; clear hb hbox hg; obtain ⟨hcz31_0, hcz31_1, hcz31_2, hcz31_3, hcz31_4, hcz31_5, hfz31_0, hfz31_1, hfz31_2, hfz31_3, hfz31_4, hfz31_5⟩ := cl6 BK313.out; obtain ⟨Ao32, co32, eo32⟩ := Kd.R_slice HO310.out; subst eo32) | ((with_reducible refine gate_callee (f := 17) rfl ?_); refine goesL_ (some 27) rfl rfl Tryz.func17 (by kernel_rfl) rfl #[.string a0, .agg #[.int .i64 t303, .string t304, .int .i64 t305, .int .i64 t306, .int .i64 t307, .slice Ao32 t308.length co32], .int .i64 0] rfl (by (try simp only [List.map_toArray, List.map_cons, List.map_nil]); first | done | rfl | (simp only [List.length_drop, List.length_take]; rfl) | (simp only [Int.toNat_natCast, ByteArray.extract_zero_size] <;> rfl) | (rw [Int.toNat_natCast, ByteArray.extract_zero_size] <;> rfl)) ?_; (with_reducible refine (bournelaw15_placed.calls k a0 t303 t304 t305 t306 t307 _ _ t308 0 t314 t315 _ ?side1 ?side2 A11.out).mono ?_); (case side1 => refine (Kd.R_reads' (e := 26) (base := w.heap.size) (ok := fun k_ => (True ∧ k_ ≠ gb313)) (n := t308.length) (c := co32) ?_).2.2; exact (by (with_reducible repeat (first | apply Kd.R_alloc | apply Kd.R_drewN | apply Kd.R_drew)); exact (Kd.R_mono (Kd.R_far (p := ⟨gb313, 5, none⟩) (Kd.R_far (p := ⟨gb313, 4, none⟩) (Kd.R_far (p := ⟨gb313, 3, none⟩) (Kd.R_far (p := ⟨gb313, 2, none⟩) (Kd.R_far (p := ⟨gb313, 1, none⟩) (Kd.R_far (p := ⟨gb313, 0, none⟩) (Kd.R_mono HO310.out (fun k_ hk => (⟨hk, hk.2⟩ : _ ∧ k_ ≠ gb313))) (fun _ hk => hk.2) (.int .i64 t303)) (fun _ hk => hk.2) (.string t304)) (fun _ hk => hk.2) (.int .i64 t305)) (fun _ hk => hk.2) (.int .i64 t306)) (fun _ hk => hk.2) (.int .i64 t307)) (fun _ hk => hk.2) (.slice Ao32 t308.length co32)) (fun _ h_ => h_.1)))); (case side2 => exact (Kd.R_reads' HO310.out).2.1); rintro e w33 ⟨rfl, hb⟩; refine ⟨_, rfl, ?_⟩; have n0_ := Aside0.mk (Kd.R_below (by (with_reducible repeat (first | apply Kd.R_alloc | apply Kd.R_drewN | apply Kd.R_drew)); exact (Kd.R_mono (Kd.R_far (p := ⟨gb313, 5, none⟩) (Kd.R_far (p := ⟨gb313, 4, none⟩) (Kd.R_far (p := ⟨gb313, 3, none⟩) (Kd.R_far (p := ⟨gb313, 2, none⟩) (Kd.R_far (p := ⟨gb313, 1, none⟩) (Kd.R_far (p := ⟨gb313, 0, none⟩) (Kd.R_mono HO310.out (fun k_ hk => (⟨hk, hk.2⟩ : _ ∧ k_ ≠ gb313))) (fun _ hk => hk.2) (.int .i64 t303)) (fun _ hk => hk.2) (.string t304)) (fun _ hk => hk.2) (.int .i64 t305)) (fun _ hk => hk.2) (.int .i64 t306)) (fun _ hk => hk.2) (.int .i64 t307)) (fun _ hk => hk.2) (.slice Ao32 t308.length co32)) (fun _ h_ => h_.1))) hb); have n1_ := Aside0.mk (blk_below (g := gb313) (o := .cells #[.int .i64 t303, .string t304, .int .i64 t305, .int .i64 t306, .int .i64 t307, .slice Ao32 t308.length co32] 26 (0, 0)) (by (with_reducible repeat first|refine kN ?_ _|refine kd ?_|refine ka ?_ _); refine blk_put (cs := #[.int .i64 t303, .string t304, .int .i64 t305, .int .i64 t306, .int .i64 t307, .slice none 0 0]) ?_ 5 _ rfl; (with_reducible repeat first|refine kN ?_ _|refine kd ?_|refine ka ?_ _); refine blk_put (cs := #[.int .i64 t303, .string t304, .int .i64 t305, .int .i64 t306, .int .i64 0, .slice none 0 0]) ?_ 4 _ rfl; (with_reducible repeat first|refine kN ?_ _|refine kd ?_|refine ka ?_ _); refine blk_put (cs := #[.int .i64 t303, .string t304, .int .i64 t305, .int .i64 0, .int .i64 0, .slice none 0 0]) ?_ 3 _ rfl; (with_reducible repeat first|refine kN ?_ _|refine kd ?_|refine ka ?_ _); refine blk_put (cs := #[.int .i64 t303, .string t304, .int .i64 0, .int .i64 0, .int .i64 0, .slice none 0 0]) ?_ 2 _ rfl; (with_reducible repeat first|refine kN ?_ _|refine kd ?_|refine ka ?_ _); refine blk_put (cs := #[.int .i64 t303, .string (⟨#[]⟩ : ByteArray), .int .i64 0, .int .i64 0, .int .i64 0, .slice none 0 0]) ?_ 1 _ rfl; (with_reducible repeat first|refine kN ?_ _|refine kd ?_|refine ka ?_ _); refine blk_put (cs := #[.int .i64 0, .string (⟨#[]⟩ : ByteArray), .int .i64 0, .int .i64 0, .int .i64 0, .slice none 0 0]) ?_ 0 _ rfl; (with_reducible repeat first|refine kN ?_ _|refine kd ?_|refine ka ?_ _); exact BK313.out) hb); have n2_ := Aside0.mk (below_step (by repeat with_reducible first|exact HB.out|apply ba|apply bN|apply bd|refine below_set ?_ GE313.out) hb); clear HO310; clear BK313; clear HB; have HO310 := n0_; have BK313 := n1_; have HB := n2_; clear n0_ n1_ n2_; (try clear hb); (try clear hb2); (try clear hk); (try clear hi)))
    go_ret
    exact ⟨by first|rfl|(simp<;>rfl)|(simp [*]<;>rfl), by repeat with_reducible first|exact HB.out|apply ba|apply bN|apply bd|refine below_set ?_ GE313.out⟩
  rw [if_neg c10] at H
  have c10b0 : (t311 == 0) = false := beq_eq_false_iff_ne.mpr c10
  have c10b1 : (t311 != 0) = true := bne_iff_ne.mpr c10
  obtain rfl := Option.some.inj H
  go_enter Tryz.func7, Tryz.ntmps7
  go_wp2_with (first | ((with_reducible refine gate_callee (f := 8) rfl ?_); refine goesL_ (some 9) rfl rfl Tryz.func8 (by kernel_rfl) rfl #[] rfl (by (try simp only [List.map_toArray, List.map_cons, List.map_nil]); first | done | rfl | (simp only [List.length_drop, List.length_take]; rfl) | (simp only [Int.toNat_natCast, ByteArray.extract_zero_size] <;> rfl) | (rw [Int.toNat_natCast, ByteArray.extract_zero_size] <;> rfl)) ?_; (with_reducible refine (Ex.small15.calls  t302 _ ?side1 A2.out).mono ?_); (case side1 => exact Go.Proofs.YtahjkibjcibpgaaGreatDoor.U.UW.step HGW.out (by repeat with_reducible first|exact HB.out|apply ba|apply bN|apply bd)); rintro e w34 ⟨rfl, hb⟩; refine ⟨_, rfl, ?_⟩; have n0_ := Aside0.mk (below_step (by repeat with_reducible first|exact HB.out|apply ba|apply bN|apply bd) hb); clear HB; have HB := n0_; clear n0_; (try clear hb); (try clear hb2); (try clear hk); (try clear hi)) | ((with_reducible refine gate_callee (f := 12) rfl ?_); refine goesL_ (some 12) rfl rfl Tryz.func12 (by kernel_rfl) rfl #[.string a0] rfl (by (try simp only [List.map_toArray, List.map_cons, List.map_nil]); first | done | rfl | (simp only [List.length_drop, List.length_take]; rfl) | (simp only [Int.toNat_natCast, ByteArray.extract_zero_size] <;> rfl) | (rw [Int.toNat_natCast, ByteArray.extract_zero_size] <;> rfl)) ?_; (with_reducible refine (Ex.tree_Parse.calls a0 t303 t304 t305 t306 t307 t308 t311 t312 _ ?side1 A3.out).mono ?_); (case side1 => exact Go.Proofs.YtahjkibjcibpgaaGreatDoor.U.UW.step HGW.out (by repeat with_reducible first|exact HB.out|apply ba|apply bN|apply bd)); rintro e w35 ⟨v309, rfl, ho0, hb⟩; refine ⟨_, rfl, ?_⟩; have n0_ := Aside0.mk (Kd.R_lower ho0 (below_size (by repeat with_reducible first|exact HB.out|apply ba|apply bN|apply bd))); have n1_ := Aside0.mk (below_step (by repeat with_reducible first|exact HB.out|apply ba|apply bN|apply bd) hb); clear HB; have HO310 := n0_; have HB := n1_; clear n0_ n1_; (try clear hb); (try clear hb2); (try clear hk); (try clear hi); (try clear ho0)) | ((with_reducible refine gate_dst (N := 4) rfl ?_); refine box_event ?hg (N := 4) ?hd (cs := #[.int .i64 0, .string (⟨#[]⟩ : ByteArray), .int .i64 0, .int .i64 0, .int .i64 0, .slice none 0 0]) (t := 26) ?hr ?_; (case hd => rfl); (case hg => rfl); (case hr => first | (go_simp; done) | (go_simp; rfl)); intro gb313 hg w36 hbox hb; have n0_ := Aside0.mk (Kd.R_below (Kd.R_elderB (by (with_reducible repeat (first | apply Kd.R_alloc | apply Kd.R_drewN | apply Kd.R_drew)); exact HO310.out) gb313 (Nat.le_of_eq hg.symm)) hb); have n1_ := Aside0.mk (below_step (by repeat with_reducible first|exact HB.out|apply ba|apply bN|apply bd) hb); have n2_ := Aside0.mk (hbox); have n3_ := Aside0.mk ((by rw [hg]; exact (below_size (by repeat with_reducible first|exact HB.out|apply ba|apply bN|apply bd)) : w.heap.size ≤ gb313)); have n4_ := Aside0.mk ((by rw [hg]; exact (below_size (by repeat with_reducible first|exact HB.out|apply ba|apply bN|apply bd)) : w.heap.size ≤ gb313)); clear HO310; clear HB; have HO310 := n0_; have HB := n1_; have BK313 := n2_; have GW313 := n3_; have GE313 := n4_; clear n0_ n1_ n2_ n3_ n4_; clear hb hbox hg; obtain ⟨hcz37_0, hcz37_1, hcz37_2, hcz37_3, hcz37_4, hcz37_5, hfz37_0, hfz37_1, hfz37_2, hfz37_3, hfz37_4, hfz37_5⟩ := cl6 BK313.out; obtain ⟨Ao38, co38, eo38⟩ := Kd.R_slice HO310.out; subst eo38))
  go_ret
  exact ⟨by first|rfl|(simp<;>rfl)|(simp [*]<;>rfl), by repeat with_reducible first|exact HB.out|apply ba|apply bN|apply bd|refine below_set ?_ GE313.out⟩
def bournelaw15_TreeAts.Pure : Prop := ∀ (a0 : ByteArray), a0.size ≤ 140737488351232 → ∃ k, bournelaw15_TreeAts.f k a0 = some true
theorem bournelaw15_TreeAts.walk (P : bournelaw15_TreeAts.Pure) (a0 : ByteArray) (w : World) (hg : Go.Proofs.YtahjkibjcibpgaaGreatDoor.U.UW w) (w0 : a0.size ≤ 140737488351232) :
    Calls Tryz.prog 7 #[.string a0] w fun e w' => e = .returned (.bool true) ∧ Below w.heap.size w w' := by
  obtain ⟨k, h⟩ := P a0 w0
  refine (bournelaw15_TreeAts.calls k a0 true w hg h).mono ?_
  rintro e w' ⟨rfl, hd⟩
  exact ⟨rfl, hd⟩
end
end Go.Proofs.YtahjkibjcibpgaaGreatDoor.PTr
end
section
namespace Go.Proofs.YtahjkibjcibpgaaGreatDoor.L
open Go.RowKit Go.Proofs.YtahjkibjcibpgaaGreatDoor.U Go.Proofs.YtahjkibjcibpgaaGreatDoorW.PrintWords Go.Proofs.YtahjkibjcibpgaaGreatDoor.PTr
theorem PlL.fit {s : List UInt8} {l : List PTr.S26} {a b : Int} (h : PlL s l a b) : a ≤ s.length → a + l.length ≤ b ∧ b ≤ s.length := by
  induction h with
  | nil a => intro h; exact ⟨by simp, h⟩
  | cons k q a m b h1 h0 h2 h2' h3 hk hr ih1 ih2 =>
    intro h
    obtain ⟨e1, e2⟩ := ih1 (by omega)
    obtain ⟨e3, e4⟩ := ih2 e2
    rw [List.length_cons]
    omega
theorem extract_list (s : ByteArray) (i j : Nat) : (s.extract i j).data.toList = (s.data.toList.drop i).take (j - i) := by
  rw [ByteArray.data_extract, Array.toList_extract]
theorem begins_f (s t : ByteArray) (i : Nat) (hs : s.size ≤ 1000000) (hi : i < s.size) (h : t.data.toList <+: s.data.toList.drop i) : bournelaw15_begins.f s (i : Int) t = some true := by
  have hl := h.length_le
  rw [List.length_drop, ← Lib.size_eq, ← Lib.size_eq] at hl
  have hw : wrap64 ((i : Int) + (t.size : Int)) = ((i + t.size : Nat) : Int) := by unfold wrap64; omega
  unfold bournelaw15_begins.f
  rw [hw, if_pos (by omega), if_pos (by omega), if_pos (by omega), if_pos (by omega), Int.toNat_natCast, Int.toNat_natCast]
  congr 1
  rw [Lib.toList_data, Lib.toList_data, extract_list, show i + t.size - i = t.data.toList.length by rw [Lib.size_eq]; omega]
  obtain ⟨q, hq⟩ := h
  rw [← hq]
  simp
def firstA (k : PTr.S26) : ByteArray := if k.f0 = 6 then ⟨#[40]⟩ else if k.f0 = 4 then ((⟨#[34]⟩ : ByteArray) ++ k.f1) ++ (⟨#[34]⟩ : ByteArray) else k.f1
theorem firstA_eq (k : PTr.S26) : (firstA k).data.toList = firstB k := by
  unfold firstA firstB
  split
  · rfl
  · split
    · simp
    · rfl
theorem placed_l0 (s : ByteArray) (hs : s.size ≤ 1000000) {l : List PTr.S26} {a b : Int} (h : PlL s.data.toList l a b) : 0 ≤ a → a ≤ (s.size : Int) → ∀ (pre : List PTr.S26) (x0 : Int) (x1 : ByteArray) (x2 x3 x4 : Int), (pre ++ l).length ≤ 1000000 →
    Ev (fun k => bournelaw15_placed.l0 k s a (pre.length : Int) x0 x1 x2 x3 x4 (pre ++ l)) (b, true) := by
  have hss : (s.data.toList.length : Int) = (s.size : Int) := by rw [Lib.size_eq]
  induction h with
  | nil a =>
    intro _ _ pre x0 x1 x2 x3 x4 _
    refine Ev.step (f := fun _ => some (a, true)) (fun k => ?_) (Ev.now _)
    simp only [bournelaw15_placed.l0]
    rw [if_neg (by simp)]
  | cons k q a m b h1 h0 h2 h2' h3 hk hr ih1 ih2 =>
    intro ha0 ha pre x0 x1 x2 x3 x4 hlen
    have hl2 : (pre ++ k :: q).length = pre.length + 1 + q.length := by simp; omega
    have hrd := rd_at pre k q
    obtain ⟨e1, e2⟩ := PlL.fit hk (by omega)
    obtain ⟨i, hi⟩ : ∃ i : Nat, k.f3 = (i : Int) := ⟨k.f3.toNat, by omega⟩
    have hb : bournelaw15_begins.f s k.f3 (firstA k) = some true := by
      rw [hi]
      refine begins_f s _ i hs (by omega) ?_
      rw [firstA_eq]
      rw [hi, Int.toNat_natCast] at h2
      exact h2
    have hfl : (firstA k).size ≤ s.size := by
      rw [Lib.size_eq, firstA_eq]
      have := h2.length_le
      rw [List.length_drop] at this
      rw [Lib.size_eq]; omega
    have hkl : ([] ++ k.f4 : List PTr.S26).length ≤ 1000000 := by rw [List.nil_append]; omega
    have h5 := ih1 (by omega) (by omega) [] k.f0 k.f1 k.f2.f0 k.f2.f1 k.f3 hkl
    rw [List.nil_append] at h5
    have h6 := ih2 (by omega) (by omega) (pre ++ [k]) x0 x1 x2 x3 x4 (by rw [List.append_assoc]; exact hlen)
    rw [List.append_assoc, List.singleton_append, show (pre ++ [k]).length = pre.length + 1 by simp] at h6
    have hj3 : Ev (fun n => bournelaw15_placed.j3 n s (pre.length : Int) false x0 x1 x2 x3 x4 (pre ++ k :: q) k.f0 k.f1 k.f2.f0 k.f2.f1 k.f3 k.f4) (b, true) := by
      refine Ev.step (f := fun n => (bournelaw15_placed.f n s k.f0 k.f1 k.f2.f0 k.f2.f1 k.f3 k.f4 (k.f3 + 1)).bind fun bt300 => if bt300.2 = true then bournelaw15_placed.l0 n s bt300.1 ((pre.length + 1 : Nat) : Int) x0 x1 x2 x3 x4 (pre ++ k :: q) else some (0, false)) (fun n => ?_) (Ev.bind (a := (m, true)) (Ev.step (fun n => ?_) h5) ?_)
      · simp only [bournelaw15_placed.j3, Bool.false_eq_true, if_false]
        rw [wrap_nat _ (by omega), show wrap64 (k.f3 + 1) = k.f3 + 1 by unfold wrap64; omega]
      · simp only [bournelaw15_placed.f]
        rfl
      · simp only [if_true]
        exact h6
    have hj2 : Ev (fun n => bournelaw15_placed.j2 n s a (pre.length : Int) (firstA k) x0 x1 x2 x3 x4 (pre ++ k :: q) k.f0 k.f1 k.f2.f0 k.f2.f1 k.f3 k.f4) (b, true) := by
      refine Ev.step (fun n => ?_) hj3
      simp only [bournelaw15_placed.j2]
      rw [if_neg (by omega), hb]
      simp only [Option.bind_some, if_true]
      by_cases c : k.f0 = 5
      · obtain ⟨d, hd, hdig⟩ := h3 c
        have hbt : bt s k.f3 = (d.toNat : Int) := by
          rw [hi, Int.toNat_natCast] at hd
          have : s[i]'(by omega) = d := by
            rw [List.getElem?_eq_some_iff] at hd
            obtain ⟨_, hd⟩ := hd
            rw [← hd]
            rfl
          rw [hi, ← bt_at s i (by omega)]
          simp only [Int.toNat_natCast]
          rw [this]
        have hdr : 48 ≤ d.toNat ∧ d.toNat ≤ 57 := by
          unfold isDig at hdig
          simp only [Bool.and_eq_true, decide_eq_true_eq] at hdig
          first | exact hdig | (simp [UInt8.le_iff_toNat_le] at hdig; exact hdig)
        rw [if_pos c, if_neg (by omega), if_pos (by omega), if_pos (by omega), hbt, if_neg (by omega), decide_eq_false (by omega)]
      · rw [if_neg c]
    refine Ev.step (f := fun n => bournelaw15_placed.j1 n s a (pre.length : Int) (if k.f0 = 4 then ((⟨#[34]⟩ : ByteArray) ++ k.f1) ++ (⟨#[34]⟩ : ByteArray) else k.f1) x0 x1 x2 x3 x4 (pre ++ k :: q) k.f0 k.f1 k.f2.f0 k.f2.f1 k.f3 k.f4) (fun n => ?_) ?_
    · simp only [bournelaw15_placed.l0, hrd]
      rw [if_pos (by omega), if_pos (by omega)]
      by_cases c : k.f0 = 4
      · have hs1 : (⟨#[34]⟩ : ByteArray).size = 1 := rfl
        have hfs : (firstA k).size = 1 + k.f1.size + 1 := by
          unfold firstA
          rw [if_neg (by omega), if_pos c, ByteArray.size_append, ByteArray.size_append, hs1]
        rw [if_pos c, if_pos c, if_pos (by omega), if_pos (by rw [ByteArray.size_append, hs1]; omega)]
      · rw [if_neg c, if_neg c]
    · refine Ev.step (fun n => ?_) hj2
      simp only [bournelaw15_placed.j1]
      unfold firstA
      by_cases c : k.f0 = 6
      · rw [if_pos c, if_pos c]
      · rw [if_neg c, if_neg c]
theorem ats_true (s : ByteArray) : ∃ k, bournelaw15_TreeAts.f k s = some true := by
  apply Ev.rounds
  have hsz : s.size = s.data.toList.length := Lib.size_eq s
  unfold bournelaw15_TreeAts.f Ex.small15.f
  rcases parse_cases s with ⟨hs, h28, hp⟩ | ⟨ts, hc, hl, hsc, ⟨l, j, hr, hp⟩ | ⟨e, a, hr, hp⟩⟩
  · rw [hp]
    simp only [Option.bind_some]
    refine Ev.congr (f := fun _ => some true) (fun k => ?_) (Ev.now _)
    rw [if_neg (show ¬ (((scanL s.data.toList).2.1 : Nat) : Int) = 0 by omega)]
    simp
  · rw [hp]
    simp only [Option.bind_some]
    by_cases hbig : (s.size : Int) > 2000
    · exact Ev.congr (fun k => by rw [if_pos hbig]) (Ev.now _)
    · obtain ⟨b, hP⟩ := Src.rl (src_of hc hl) hr
      have hf := PlL.fit hP (by omega)
      have h := placed_l0 s (by omega) hP (by omega) (by omega) [] 0 ⟨#[]⟩ 0 0 0 (by rw [List.nil_append]; omega)
      rw [List.nil_append] at h
      refine Ev.congr (f := fun k => (bournelaw15_placed.f k s 0 ⟨#[]⟩ 0 0 0 l 0).bind fun bt314 => some bt314.2) (fun k => ?_) (Ev.bind (a := (b, true)) (Ev.step (fun n => ?_) h) (Ev.now _))
      · rw [if_neg hbig, if_pos trivial]
        rfl
      · simp only [bournelaw15_placed.f]
        rfl
  · rw [hp]
    simp only [Option.bind_some]
    have he : e = 2 ∨ e = 7 ∨ e = 8 := by
      obtain ⟨m, _, hm, ham0, h⟩ := (RL.goes (tk_of hc hl).hE hr (Nat.zero_le _)).2 _ rfl
      rcases h with h | h | h
      · exact .inl h.1
      · exact .inr (.inl h)
      · exact .inr (.inr h)
    refine Ev.congr (f := fun _ => some true) (fun k => ?_) (Ev.now _)
    rw [if_neg (show ¬ e = 0 by omega)]
    simp
end Go.Proofs.YtahjkibjcibpgaaGreatDoor.L
end
