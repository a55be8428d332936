/- What this claim's texts prove on the way, joined by program (wip/tools/merge.py), without what no text of the claim names. -/
import Derived.Test.YtahjkibjcibpgaaGreatDoorMR1
section
namespace Go.Proofs.YtahjkibjcibpgaaGreatDoor.PTr
theorem q1size : (⟨#[34]⟩ : ByteArray).size = 1 := rfl
open Go.RowKit Go.Proofs.YtahjkibjcibpgaaGreatDoorW.Sq Go.Proofs.YtahjkibjcibpgaaGreatDoorW.PrintWords Go.Proofs.YtahjkibjcibpgaaGreatDoorW.PrintLast Go.Proofs.YtahjkibjcibpgaaGreatDoorW.PrintMore
attribute [local go_sem] max2_int min2_int max_two min_two max_three min_three max_four min_four   -- for this text's walks alone
set_option linter.unusedVariables false
set_option linter.unusedSimpArgs false
mutual
def lex_Write.l0 : Nat → List ByteArray → List (S41) → Int → Int → Option (ByteArray)
  | 0, _, _, _, _ => none
  | k + 1, x3, x6, x7, x8 => if x8 < x7 then (if 0 ≤ x8 then (if x8 < (x6.length : Int) then (if ((rd_T41 x6 x8).f0) = 0 then (lex_Write.j1 k x3 x6 x7 x8 ((rd_T41 x6 x8).f0) (((rd_T41 x6 x8).f0) == 0) ((rd_T41 x6 x8).f0) ((rd_T41 x6 x8).f1) ((rd_T41 x6 x8).f2)) else (if ((rd_T41 x6 x8).f0) = 1 then (lex_Write.j1 k x3 x6 x7 x8 ((rd_T41 x6 x8).f0) (((rd_T41 x6 x8).f0) == 1) ((rd_T41 x6 x8).f0) ((rd_T41 x6 x8).f1) ((rd_T41 x6 x8).f2)) else (lex_Write.j1 k x3 x6 x7 x8 ((rd_T41 x6 x8).f0) (((rd_T41 x6 x8).f0) == 3) ((rd_T41 x6 x8).f0) ((rd_T41 x6 x8).f1) ((rd_T41 x6 x8).f2)))) else (none)) else (none)) else ((Ex.strings_Join.f x3 (⟨#[32]⟩ : ByteArray)).bind fun t105 => (some t105))
def lex_Write.j1 : Nat → List ByteArray → List (S41) → Int → Int → Int → Bool → Int → ByteArray → Int → Option (ByteArray)
  | 0, _, _, _, _, _, _, _, _, _ => none
  | k + 1, x3, x6, x7, x8, x13, x14, x108000, x108001, x108002 => if x14 = true then (if x3.length < 8796093022208 then (lex_Write.l0 k (x3 ++ [x108001]) x6 x7 (wrap64 (x8 + 1))) else (none)) else (if x13 = 2 then (if 1 + x108001.size ≤ 9223372036854775807 then (if ((⟨#[34]⟩ : ByteArray) ++ x108001).size + 1 ≤ 9223372036854775807 then (if x3.length < 8796093022208 then (lex_Write.l0 k (x3 ++ [((⟨#[34]⟩ : ByteArray) ++ x108001) ++ (⟨#[34]⟩ : ByteArray)]) x6 x7 (wrap64 (x8 + 1))) else (none)) else (none)) else (none)) else (lex_Write.l0 k x3 x6 x7 (wrap64 (x8 + 1))))
end
def lex_Write.f (k : Nat) (l0 : List (S41)) : Option (ByteArray) := lex_Write.l0 k ([] : List ByteArray) l0 (l0.length : Int) 0
theorem lex_Write.mono_l : ∀ k, (∀ y0 y1 y2 y3, LeO (lex_Write.l0 k y0 y1 y2 y3) (lex_Write.l0 (k + 1) y0 y1 y2 y3)) ∧ (∀ y0 y1 y2 y3 y4 y5 y6 y7 y8, LeO (lex_Write.j1 k y0 y1 y2 y3 y4 y5 y6 y7 y8) (lex_Write.j1 (k + 1) y0 y1 y2 y3 y4 y5 y6 y7 y8))
  | 0 => ⟨fun _ _ _ _ r h => by simp [lex_Write.l0] at h, fun _ _ _ _ _ _ _ _ _ r h => by simp [lex_Write.j1] at h⟩
  | k + 1 => by
    obtain ⟨ih0, ih1⟩ := lex_Write.mono_l k
    refine ⟨?_, ?_⟩
    · intro y0 y1 y2 y3
      unfold lex_Write.l0
      repeat' first
      | (with_reducible exact ih0 _ _ _ _)
      | (with_reducible exact ih1 _ _ _ _ _ _ _ _ _)
      | (with_reducible exact LeO.refl _)
      | (with_reducible exact LeO.none _)
      | (with_reducible refine LeO.ite ?_ ?_)
      | (with_reducible refine LeO.bind ?_ (fun _ => ?_))
      | exact ih0 _ _ _ _
      | exact ih1 _ _ _ _ _ _ _ _ _
      | exact LeO.none _
      | refine LeO.ite ?_ ?_
      | refine LeO.bind ?_ (fun _ => ?_)
    intro y0 y1 y2 y3 y4 y5 y6 y7 y8
    unfold lex_Write.j1
    repeat' first
    | (with_reducible exact ih0 _ _ _ _)
    | (with_reducible exact ih1 _ _ _ _ _ _ _ _ _)
    | (with_reducible exact LeO.refl _)
    | (with_reducible exact LeO.none _)
    | (with_reducible refine LeO.ite ?_ ?_)
    | (with_reducible refine LeO.bind ?_ (fun _ => ?_))
    | exact ih0 _ _ _ _
    | exact ih1 _ _ _ _ _ _ _ _ _
    | exact LeO.none _
    | refine LeO.ite ?_ ?_
    | refine LeO.bind ?_ (fun _ => ?_)
theorem lex_Write.mono : ∀ a0 k, LeO (lex_Write.f k a0) (lex_Write.f (k + 1) a0) := by
  intro a0 k
  obtain ⟨ih0, ih1⟩ := lex_Write.mono_l k
  unfold lex_Write.f
  repeat' first
      | (with_reducible exact ih0 _ _ _ _)
      | (with_reducible exact ih1 _ _ _ _ _ _ _ _ _)
      | (with_reducible exact LeO.refl _)
      | (with_reducible exact LeO.none _)
      | (with_reducible refine LeO.ite ?_ ?_)
      | (with_reducible refine LeO.bind ?_ (fun _ => ?_))
      | exact ih0 _ _ _ _
      | exact ih1 _ _ _ _ _ _ _ _ _
      | exact LeO.none _
      | refine LeO.ite ?_ ?_
      | refine LeO.bind ?_ (fun _ => ?_)
set_option maxHeartbeats 8000000 in
set_option maxRecDepth 100000 in
theorem lex_Write.calls (k : Nat) (A0 : Option Addr) (c0 : Nat) (l0 : List (S41)) (r : ByteArray) (w : World) (hg : Go.Proofs.YtahjkibjcibpgaaGreatDoor.U.UW w) (hr0 : Kd.C k41 w A0 l0.length l0) (hc0 : l0.length ≤ c0) (h : lex_Write.f k l0 = some r) :
    Calls Tryz.prog 15 #[.slice A0 l0.length c0] w fun e w' => e = .returned (.string r) ∧ Below w.heap.size w w' := by
  have hu41 := Tryz.underlying41
  have HR0 := Aside0.mk hr0
  have HC0 := Aside0.mk hc0
  clear hr0 hc0
  have HB := Aside0.mk (Below.refl w.heap.size w)
  have HGW := Aside0.mk hg
  clear hg
  have H : (lex_Write.l0 k ([] : List ByteArray) l0 (l0.length : Int) 0) = some r := h
  clear h
  have H' := Aside0.mk H
  clear H
  go_enter Tryz.func15, Tryz.ntmps15
  go_wp2
  go_loopg [3, 8] k (fun kq v3 v8 w' => ∃ (x3_1 : List ByteArray) (x8_1 : Int), v8 = .int .i64 x8_1 ∧ Aside0 (lex_Write.l0 kq x3_1 l0 (l0.length : Int) x8_1 = some r) ∧ Aside0 (kq ≤ k) ∧ Aside0 (Kd.R Kd.string 9 w' w.heap.size (fun _ => True) v3 x3_1) ∧ Aside0 (Below w.heap.size w w'))
  case atStart => exact ⟨(([] : List ByteArray)), (0), (by first|rfl|(simp;done)|(simp [*];done)), H', ⟨Nat.le_refl _⟩, ⟨by first | exact Kd.R_nil _ _ _ _ _ | exact Kd.N_nil _ _ _ _ _ | exact Kd.V_nil _ _ _ _ _ | exact Kd.Q_nil _ _ _ _ _ | exact Kd.S_nil _ _ _ _ _⟩, ⟨by repeat with_reducible first|exact HB.out|apply ba|apply bN|apply bd⟩⟩
  case round =>
    clear H'
    try clear c1
    obtain ⟨x3_1, x8_1, rfl, HA, HK1, HO_3, HB⟩ := hrel
    cases gk with
    | zero => exact absurd HA.out (by simp [lex_Write.l0])
    | succ k1 =>
      have H := HA.out
      clear HA
      simp only [lex_Write.l0] at H
      by_cases c2 : x8_1 < (l0.length : Int)
      · rw [if_pos c2] at H
        have c2b0 : decide (x8_1 < (l0.length : Int)) = true := decide_eq_true c2
        clear c2
        by_cases c3 : 0 ≤ x8_1
        · rw [if_pos c3] at H
          have c3b0 : decide (0 ≤ x8_1) = true := decide_eq_true c3
          clear c3
          by_cases c4 : x8_1 < (l0.length : Int)
          · rw [if_pos c4] at H
            have c4b0 : decide (x8_1 < (l0.length : Int)) = true := decide_eq_true c4
            clear c4
            have HC5 := Aside0.mk H
            clear H
            have p106 : 0 ≤ (x8_1 : Int) := of_decide_eq_true (by first|with_reducible assumption|assumption)
            have q106 : x8_1 < (l0.length : Int) := of_decide_eq_true (by first|with_reducible assumption|assumption)
            obtain ⟨ad106, e106, hx106_0, hx106_1, hx106_2⟩ := at_T41 HR0.out x8_1 p106 q106
            cases e106
            replace hx106_0 := cb HB.out hx106_0
            replace hx106_1 := cb HB.out hx106_1
            replace hx106_2 := cb HB.out hx106_2
            replace p106 := eq_true p106
            replace q106 := eq_true q106
            go_upto_if 14 with (first | ((with_reducible refine gate_dst (N := 5) rfl ?_); refine box_event ?hg (N := 5) ?hd (cs := #[.int .i64 0, .string (⟨#[]⟩ : ByteArray), .int .i64 0]) (t := 41) ?hr ?_; (case hd => rfl); (case hg => rfl); (case hr => first | (go_simp; done) | (go_simp; rfl)); intro gb107 hg w6 hbox hb; have n0_ := Aside0.mk (Kd.R_below (by (with_reducible repeat (first | apply Kd.R_alloc | apply Kd.R_drewN | apply Kd.R_drew)); exact HO_3.out) hb); have n1_ := Aside0.mk (below_step (by repeat with_reducible first|exact HB.out|apply ba|apply bN|apply bd) hb); have n2_ := Aside0.mk (hbox); have n3_ := Aside0.mk ((by rw [hg]; exact (below_size (by repeat with_reducible first|exact HB.out|apply ba|apply bN|apply bd)) : w.heap.size ≤ gb107)); have n4_ := Aside0.mk ((by rw [hg]; exact (below_size (by repeat with_reducible first|exact HB.out|apply ba|apply bN|apply bd)) : w.heap.size ≤ gb107)); clear HO_3; clear HB; have HO_3 := n0_; have HB := n1_; have BK107 := n2_; have GW107 := n3_; have GE107 := n4_; clear n0_ n1_ n2_ n3_ n4_; clear hb hbox hg; obtain ⟨hcz7_0, hcz7_1, hcz7_2, hfz7_0, hfz7_1, hfz7_2⟩ := cl3 BK107.out))
            (try simp only [Act.put, List.setIfInBounds_toArray, List.set_cons_zero, List.set_cons_succ])
            go_cut [14] (fun v14 wc => ∃ (kq : Nat) (x14_4 : Bool), v14 = .bool x14_4 ∧ Aside0 (lex_Write.j1 kq x3_1 l0 (l0.length : Int) x8_1 ((rd_T41 l0 x8_1).f0) x14_4 ((rd_T41 l0 x8_1).f0) ((rd_T41 l0 x8_1).f1) ((rd_T41 l0 x8_1).f2) = some r) ∧ Aside0 (kq ≤ k1) ∧ Aside0 (Kd.R Kd.string 9 wc w.heap.size (fun _ => True) u3 x3_1) ∧ Aside0 (wc.heap[gb107]? = some (.cells #[.int .i64 ((rd_T41 l0 x8_1).f0), .string ((rd_T41 l0 x8_1).f1), .int .i64 ((rd_T41 l0 x8_1).f2)] 41 (0, 0))) ∧ Aside0 (Below w.heap.size w wc))
            case first =>
              have H := HC5.out
              clear HC5
              by_cases c8 : ((rd_T41 l0 x8_1).f0) = 0
              · rw [if_pos c8] at H
                have c8b0 : (((rd_T41 l0 x8_1).f0) == 0) = true := beq_iff_eq.mpr c8
                have c8b1 : (((rd_T41 l0 x8_1).f0) != 0) = false := bne_eq_false_iff_eq.mpr c8
                clear c8
                (first | rw [c8b0] | (simp only [i64_w, i32_w]; rw [c8b0]) | skip)
                have H' := Aside0.mk H
                clear H
                go_wp2
                go_meet
                case rel => exact ⟨_, ((((rd_T41 l0 x8_1).f0) == 0)), (by first|rfl|(simp;done)|(simp [*];done)), H', ⟨by have := HK1.out; first | omega | exact Nat.le_refl _⟩, ⟨by (with_reducible repeat (first | apply Kd.R_alloc | apply Kd.R_drewN | apply Kd.R_drew)); exact Kd.R_mono (Kd.R_far (p := ⟨gb107, 2, none⟩) (Kd.R_far (p := ⟨gb107, 1, none⟩) (Kd.R_far (p := ⟨gb107, 0, none⟩) (Kd.R_types HO_3.out BK107.out (by decide)) (fun _ hk => hk.2) (.int .i64 ((rd_T41 l0 x8_1).f0))) (fun _ hk => hk.2) (.string ((rd_T41 l0 x8_1).f1))) (fun _ hk => hk.2) (.int .i64 ((rd_T41 l0 x8_1).f2))) (fun _ hk => trivial)⟩, ⟨by (with_reducible repeat first|refine kN ?_ _|refine kd ?_|refine ka ?_ _); refine blk_put (cs := #[.int .i64 ((rd_T41 l0 x8_1).f0), .string ((rd_T41 l0 x8_1).f1), .int .i64 0]) ?_ 2 _ rfl; (with_reducible repeat first|refine kN ?_ _|refine kd ?_|refine ka ?_ _); refine blk_put (cs := #[.int .i64 ((rd_T41 l0 x8_1).f0), .string (⟨#[]⟩ : ByteArray), .int .i64 0]) ?_ 1 _ rfl; (with_reducible repeat first|refine kN ?_ _|refine kd ?_|refine ka ?_ _); refine blk_put (cs := #[.int .i64 0, .string (⟨#[]⟩ : ByteArray), .int .i64 0]) ?_ 0 _ rfl; (with_reducible repeat first|refine kN ?_ _|refine kd ?_|refine ka ?_ _); exact BK107.out⟩, ⟨by repeat with_reducible first|exact HB.out|apply ba|apply bN|apply bd|refine below_set ?_ GE107.out⟩⟩
              rw [if_neg c8] at H
              have c8b0 : (((rd_T41 l0 x8_1).f0) == 0) = false := beq_eq_false_iff_ne.mpr c8
              have c8b1 : (((rd_T41 l0 x8_1).f0) != 0) = true := bne_iff_ne.mpr c8
              (first | rw [c8b0] | (simp only [i64_w, i32_w]; rw [c8b0]) | skip)
              by_cases c9 : ((rd_T41 l0 x8_1).f0) = 1
              · rw [if_pos c9] at H
                have c9b0 : (((rd_T41 l0 x8_1).f0) == 1) = true := beq_iff_eq.mpr c9
                have c9b1 : (((rd_T41 l0 x8_1).f0) != 1) = false := bne_eq_false_iff_eq.mpr c9
                clear c9
                have H' := Aside0.mk H
                clear H
                go_wp2
                go_meet
                case rel => exact ⟨_, ((((rd_T41 l0 x8_1).f0) == 1)), (by first|rfl|(simp;done)|(simp [*];done)), H', ⟨by have := HK1.out; first | omega | exact Nat.le_refl _⟩, ⟨by (with_reducible repeat (first | apply Kd.R_alloc | apply Kd.R_drewN | apply Kd.R_drew)); exact Kd.R_mono (Kd.R_far (p := ⟨gb107, 2, none⟩) (Kd.R_far (p := ⟨gb107, 1, none⟩) (Kd.R_far (p := ⟨gb107, 0, none⟩) (Kd.R_types HO_3.out BK107.out (by decide)) (fun _ hk => hk.2) (.int .i64 ((rd_T41 l0 x8_1).f0))) (fun _ hk => hk.2) (.string ((rd_T41 l0 x8_1).f1))) (fun _ hk => hk.2) (.int .i64 ((rd_T41 l0 x8_1).f2))) (fun _ hk => trivial)⟩, ⟨by (with_reducible repeat first|refine kN ?_ _|refine kd ?_|refine ka ?_ _); refine blk_put (cs := #[.int .i64 ((rd_T41 l0 x8_1).f0), .string ((rd_T41 l0 x8_1).f1), .int .i64 0]) ?_ 2 _ rfl; (with_reducible repeat first|refine kN ?_ _|refine kd ?_|refine ka ?_ _); refine blk_put (cs := #[.int .i64 ((rd_T41 l0 x8_1).f0), .string (⟨#[]⟩ : ByteArray), .int .i64 0]) ?_ 1 _ rfl; (with_reducible repeat first|refine kN ?_ _|refine kd ?_|refine ka ?_ _); refine blk_put (cs := #[.int .i64 0, .string (⟨#[]⟩ : ByteArray), .int .i64 0]) ?_ 0 _ rfl; (with_reducible repeat first|refine kN ?_ _|refine kd ?_|refine ka ?_ _); exact BK107.out⟩, ⟨by repeat with_reducible first|exact HB.out|apply ba|apply bN|apply bd|refine below_set ?_ GE107.out⟩⟩
              rw [if_neg c9] at H
              have c9b0 : (((rd_T41 l0 x8_1).f0) == 1) = false := beq_eq_false_iff_ne.mpr c9
              have c9b1 : (((rd_T41 l0 x8_1).f0) != 1) = true := bne_iff_ne.mpr c9
              have H' := Aside0.mk H
              clear H
              go_wp2
              go_meet
              case rel => exact ⟨_, ((((rd_T41 l0 x8_1).f0) == 3)), (by first|rfl|(simp;done)|(simp [*];done)), H', ⟨by have := HK1.out; first | omega | exact Nat.le_refl _⟩, ⟨by (with_reducible repeat (first | apply Kd.R_alloc | apply Kd.R_drewN | apply Kd.R_drew)); exact Kd.R_mono (Kd.R_far (p := ⟨gb107, 2, none⟩) (Kd.R_far (p := ⟨gb107, 1, none⟩) (Kd.R_far (p := ⟨gb107, 0, none⟩) (Kd.R_types HO_3.out BK107.out (by decide)) (fun _ hk => hk.2) (.int .i64 ((rd_T41 l0 x8_1).f0))) (fun _ hk => hk.2) (.string ((rd_T41 l0 x8_1).f1))) (fun _ hk => hk.2) (.int .i64 ((rd_T41 l0 x8_1).f2))) (fun _ hk => trivial)⟩, ⟨by (with_reducible repeat first|refine kN ?_ _|refine kd ?_|refine ka ?_ _); refine blk_put (cs := #[.int .i64 ((rd_T41 l0 x8_1).f0), .string ((rd_T41 l0 x8_1).f1), .int .i64 0]) ?_ 2 _ rfl; (with_reducible repeat first|refine kN ?_ _|refine kd ?_|refine ka ?_ _); refine blk_put (cs := #[.int .i64 ((rd_T41 l0 x8_1).f0), .string (⟨#[]⟩ : ByteArray), .int .i64 0]) ?_ 1 _ rfl; (with_reducible repeat first|refine kN ?_ _|refine kd ?_|refine ka ?_ _); refine blk_put (cs := #[.int .i64 0, .string (⟨#[]⟩ : ByteArray), .int .i64 0]) ?_ 0 _ rfl; (with_reducible repeat first|refine kN ?_ _|refine kd ?_|refine ka ?_ _); exact BK107.out⟩, ⟨by repeat with_reducible first|exact HB.out|apply ba|apply bN|apply bd|refine below_set ?_ GE107.out⟩⟩
            case rest =>
              clear HC5
              try clear c1;try clear p1;try clear q1;try clear hx1;try clear c2;try clear c2b0;try clear p2;try clear c3;try clear c3b0;try clear c4;try clear c4b0;try clear c8;try clear c8b0;try clear c8b1;try clear c9;try clear c9b0;try clear c9b1;try clear hcz7_0;try clear hcz7_1;try clear hcz7_2;try clear hfz7_0;try clear hfz7_1;try clear hfz7_2;try clear hx106_0;try clear hx106_1;try clear hx106_2;try clear p106;try clear q106
              obtain ⟨kq, x14_4, rfl, HA, HJ4, HO_3, BK107, HB⟩ := hcut
              cases kq with
              | zero => exact absurd HA.out (by simp [lex_Write.j1])
              | succ kj4 =>
                have H := HA.out
                clear HA
                simp only [lex_Write.j1] at H
                by_cases c10 : x14_4 = true
                · subst c10
                  have H1 : (if x3_1.length < 8796093022208 then (lex_Write.l0 kj4 (x3_1 ++ [((rd_T41 l0 x8_1).f1)]) l0 (l0.length : Int) (wrap64 (x8_1 + 1))) else (none)) = some r := by rw [if_pos rfl] at H; exact H
                  clear H
                  have H := H1
                  clear H1
                  by_cases c11 : x3_1.length < 8796093022208
                  · rw [if_pos c11] at H
                    have LMc11 := Aside0.mk c11
                    clear c11
                    obtain ⟨y108, hy108⟩ : ∃ y_ : List ByteArray, y_ = (x3_1 ++ [((rd_T41 l0 x8_1).f1)]) := ⟨_, rfl⟩
                    replace H : (lex_Write.l0 kj4 y108 l0 (l0.length : Int) (wrap64 (x8_1 + 1))) = some r := by first | (rw [hy108]; with_reducible exact H) | (have H2_ := (Option.bind_some _ _).symm.trans H; rw [hy108]; with_reducible exact H2_) | (have H2_ := (Option.bind_some _ _).symm.trans H; with_reducible exact H2_) | with_reducible exact H | (rw [hy108]; exact H) | exact H
                    have Ny108 := Aside0.mk hy108
                    clear hy108
                    have H' := Aside0.mk H
                    clear H
                    obtain ⟨hcz12_0, hcz12_1, hcz12_2, hfz12_0, hfz12_1, hfz12_2⟩ := cl3 BK107.out
                    go_wp2_with (first | ((with_reducible refine gate_builtin (b := .append) (xs := #[.tmp 18, .tmp 21]) rfl ?_); at_builtin; refine Kd.R_append Kd.string (w0 := w) w.heap.size rfl (.tmp 18) (.tmp 21) 66 9 (.string ⟨#[]⟩) 16 rfl Tryz.underlying66 info9 rfl (by decide) (by omega) u3 x3_1 ((rd_T41 l0 x8_1).f1) [.string ((rd_T41 l0 x8_1).f1)] (fun _ => True) (fun _ => False) rfl rfl ?aP (fun _ hk => hk.elim) ?aF ?aO ?aB ?aS ?aL ?_; (case aP => exact rfl); (case aB => exact (by repeat with_reducible first|exact HB.out|apply ba|apply bN|apply bd|refine below_set ?_ GE107.out)); (case aF => exact (fun _ _ => trivial)); (case aO => exact (by (with_reducible repeat (first | apply Kd.R_alloc | apply Kd.R_drewN | apply Kd.R_drew)); exact HO_3.out)); (case aS => exact (below_size (by repeat with_reducible first|exact HB.out|apply ba|apply bN|apply bd|refine below_set ?_ GE107.out))); (case aL => have := LMc11.out; omega); intro v109 w13 ho hb hg hat; rw [← Ny108.out] at ho; have n0_ := Aside0.mk (blk_grown (g := gb107) (o := .cells #[.int .i64 ((rd_T41 l0 x8_1).f0), .string ((rd_T41 l0 x8_1).f1), .int .i64 ((rd_T41 l0 x8_1).f2)] 41 (0, 0)) (by (with_reducible repeat first|refine kN ?_ _|refine kd ?_|refine ka ?_ _); exact BK107.out) hg (Kd.R_ne HO_3.out BK107.out (by decide))); have n1_ := Aside0.mk (hb); have n2_ := Aside0.mk (ho); clear BK107; clear HB; clear HO_3; have BK107 := n0_; have HB := n1_; have HO110 := n2_; clear n0_ n1_ n2_; clear ho hb hg hat))
                    go_roundg kj4
                    case measure => have := HK1.out; have := HJ4.out; omega
                    case rel => exact ⟨(y108), (wrap64 (x8_1 + 1)), (by first|rfl|(simp;done)|(simp [*];done)), H', ⟨by have := HK1.out; have := HJ4.out; omega⟩, ⟨by (with_reducible repeat (first | apply Kd.R_alloc | apply Kd.R_drewN | apply Kd.R_drew)); exact HO110.out⟩, ⟨by repeat with_reducible first|exact HB.out|apply ba|apply bN|apply bd|refine below_set ?_ GE107.out⟩⟩
                  rw [if_neg c11] at H
                  exact absurd H (by simp)
                replace c10 := Bool.eq_false_iff.mpr c10
                subst c10
                have H1 : (if ((rd_T41 l0 x8_1).f0) = 2 then (if 1 + ((rd_T41 l0 x8_1).f1).size ≤ 9223372036854775807 then (if ((⟨#[34]⟩ : ByteArray) ++ ((rd_T41 l0 x8_1).f1)).size + 1 ≤ 9223372036854775807 then (if x3_1.length < 8796093022208 then (lex_Write.l0 kj4 (x3_1 ++ [((⟨#[34]⟩ : ByteArray) ++ ((rd_T41 l0 x8_1).f1)) ++ (⟨#[34]⟩ : ByteArray)]) l0 (l0.length : Int) (wrap64 (x8_1 + 1))) else (none)) else (none)) else (none)) else (lex_Write.l0 kj4 x3_1 l0 (l0.length : Int) (wrap64 (x8_1 + 1)))) = some r := by rw [if_neg (show ¬ (false = true) by decide)] at H; exact H
                clear H
                have H := H1
                clear H1
                by_cases c14 : ((rd_T41 l0 x8_1).f0) = 2
                · rw [if_pos c14] at H
                  have c14b0 : (((rd_T41 l0 x8_1).f0) == 2) = true := beq_iff_eq.mpr c14
                  have c14b1 : (((rd_T41 l0 x8_1).f0) != 2) = false := bne_eq_false_iff_eq.mpr c14
                  clear c14
                  by_cases c15 : 1 + ((rd_T41 l0 x8_1).f1).size ≤ 9223372036854775807
                  · rw [if_pos c15] at H
                    have c15b0 := eq_true c15
                    have c15b1 : decide (1 + ((rd_T41 l0 x8_1).f1).size ≤ 9223372036854775807) = true := decide_eq_true c15
                    try have c15b2 : (9223372036854775807 < 1 + ((rd_T41 l0 x8_1).f1).size) = False := eq_false (Nat.not_lt.2 c15)
                    by_cases c16 : ((⟨#[34]⟩ : ByteArray) ++ ((rd_T41 l0 x8_1).f1)).size + 1 ≤ 9223372036854775807
                    · rw [if_pos c16] at H
                      have c16b0 := eq_true c16
                      have c16b1 : decide (((⟨#[34]⟩ : ByteArray) ++ ((rd_T41 l0 x8_1).f1)).size + 1 ≤ 9223372036854775807) = true := decide_eq_true c16
                      try have c16b2 : (9223372036854775807 < ((⟨#[34]⟩ : ByteArray) ++ ((rd_T41 l0 x8_1).f1)).size + 1) = False := eq_false (Nat.not_lt.2 c16)
                      try have c16b3 := c16b2
                      try simp only [ByteArray.size_append, q1size] at c16b3
                      by_cases c17 : x3_1.length < 8796093022208
                      · rw [if_pos c17] at H
                        have LMc17 := Aside0.mk c17
                        clear c17
                        obtain ⟨y111, hy111⟩ : ∃ y_ : List ByteArray, y_ = (x3_1 ++ [((⟨#[34]⟩ : ByteArray) ++ ((rd_T41 l0 x8_1).f1)) ++ (⟨#[34]⟩ : ByteArray)]) := ⟨_, rfl⟩
                        replace H : (lex_Write.l0 kj4 y111 l0 (l0.length : Int) (wrap64 (x8_1 + 1))) = some r := by first | (rw [hy111]; with_reducible exact H) | (have H2_ := (Option.bind_some _ _).symm.trans H; rw [hy111]; with_reducible exact H2_) | (have H2_ := (Option.bind_some _ _).symm.trans H; with_reducible exact H2_) | with_reducible exact H | (rw [hy111]; exact H) | exact H
                        have Ny111 := Aside0.mk hy111
                        clear hy111
                        have H' := Aside0.mk H
                        clear H
                        obtain ⟨hcz18_0, hcz18_1, hcz18_2, hfz18_0, hfz18_1, hfz18_2⟩ := cl3 BK107.out
                        go_wp2_with (first | ((with_reducible refine gate_builtin (b := .append) (xs := #[.tmp 25, .tmp 30]) rfl ?_); at_builtin; refine Kd.R_append Kd.string (w0 := w) w.heap.size rfl (.tmp 25) (.tmp 30) 66 9 (.string ⟨#[]⟩) 16 rfl Tryz.underlying66 info9 rfl (by decide) (by omega) u3 x3_1 (((⟨#[34]⟩ : ByteArray) ++ ((rd_T41 l0 x8_1).f1)) ++ (⟨#[34]⟩ : ByteArray)) [.string (((⟨#[34]⟩ : ByteArray) ++ ((rd_T41 l0 x8_1).f1)) ++ (⟨#[34]⟩ : ByteArray))] (fun _ => True) (fun _ => False) rfl rfl ?aP (fun _ hk => hk.elim) ?aF ?aO ?aB ?aS ?aL ?_; (case aP => exact rfl); (case aB => exact (by repeat with_reducible first|exact HB.out|apply ba|apply bN|apply bd|refine below_set ?_ GE107.out)); (case aF => exact (fun _ _ => trivial)); (case aO => exact (by (with_reducible repeat (first | apply Kd.R_alloc | apply Kd.R_drewN | apply Kd.R_drew)); exact HO_3.out)); (case aS => exact (below_size (by repeat with_reducible first|exact HB.out|apply ba|apply bN|apply bd|refine below_set ?_ GE107.out))); (case aL => have := LMc17.out; omega); intro v112 w19 ho hb hg hat; rw [← Ny111.out] at ho; have n0_ := Aside0.mk (blk_grown (g := gb107) (o := .cells #[.int .i64 ((rd_T41 l0 x8_1).f0), .string ((rd_T41 l0 x8_1).f1), .int .i64 ((rd_T41 l0 x8_1).f2)] 41 (0, 0)) (by (with_reducible repeat first|refine kN ?_ _|refine kd ?_|refine ka ?_ _); exact BK107.out) hg (Kd.R_ne HO_3.out BK107.out (by decide))); have n1_ := Aside0.mk (hb); have n2_ := Aside0.mk (ho); clear BK107; clear HB; clear HO_3; have BK107 := n0_; have HB := n1_; have HO113 := n2_; clear n0_ n1_ n2_; clear ho hb hg hat))
                        go_roundg kj4
                        case measure => have := HK1.out; have := HJ4.out; omega
                        case rel => exact ⟨(y111), (wrap64 (x8_1 + 1)), (by first|rfl|(simp;done)|(simp [*];done)), H', ⟨by have := HK1.out; have := HJ4.out; omega⟩, ⟨by (with_reducible repeat (first | apply Kd.R_alloc | apply Kd.R_drewN | apply Kd.R_drew)); exact HO113.out⟩, ⟨by repeat with_reducible first|exact HB.out|apply ba|apply bN|apply bd|refine below_set ?_ GE107.out⟩⟩
                      rw [if_neg c17] at H
                      exact absurd H (by simp)
                    rw [if_neg c16] at H
                    exact absurd H (by simp)
                  rw [if_neg c15] at H
                  exact absurd H (by simp)
                rw [if_neg c14] at H
                have c14b0 : (((rd_T41 l0 x8_1).f0) == 2) = false := beq_eq_false_iff_ne.mpr c14
                have c14b1 : (((rd_T41 l0 x8_1).f0) != 2) = true := bne_iff_ne.mpr c14
                have H' := Aside0.mk H
                clear H
                go_wp2
                go_roundg kj4
                case measure => have := HK1.out; have := HJ4.out; omega
                case rel => exact ⟨(x3_1), (wrap64 (x8_1 + 1)), (by first|rfl|(simp;done)|(simp [*];done)), H', ⟨by have := HK1.out; have := HJ4.out; omega⟩, ⟨by (with_reducible repeat (first | apply Kd.R_alloc | apply Kd.R_drewN | apply Kd.R_drew)); exact HO_3.out⟩, ⟨by repeat with_reducible first|exact HB.out|apply ba|apply bN|apply bd|refine below_set ?_ GE107.out⟩⟩
          rw [if_neg c4] at H
          exact absurd H (by simp)
        rw [if_neg c3] at H
        exact absurd H (by simp)
      rw [if_neg c2] at H
      have c2b0 : decide (x8_1 < (l0.length : Int)) = false := decide_eq_false c2
      clear c2
      replace H := Option.bind_eq_some_iff.mp H
      obtain ⟨t105, A200, H⟩ := H
      replace H : (some t105) = some r := H
      have A20 := Aside0.mk A200
      clear A200
      obtain rfl := Option.some.inj H
      obtain ⟨Ao21, co21, eo21⟩ := Kd.R_slice HO_3.out
      subst eo21
      go_wp2_with (first | ((with_reducible refine gate_callee (f := 27) rfl ?_); refine goesL_ (some 34) rfl rfl Tryz.func27 (by kernel_rfl) rfl #[.slice Ao21 x3_1.length co21, .string (⟨#[32]⟩ : ByteArray)] rfl (by (try simp only [List.map_toArray, List.map_cons, List.map_nil]); first | done | rfl | (simp only [List.length_drop, List.length_take]; rfl) | (simp only [Int.toNat_natCast, ByteArray.extract_zero_size] <;> rfl) | (rw [Int.toNat_natCast, ByteArray.extract_zero_size] <;> rfl)) ?_; (with_reducible refine (Ex.strings_Join.calls _ _ x3_1 (⟨#[32]⟩ : ByteArray) t105 _ ?side1 ?side2 ?side3 A20.out).mono ?_); (case side1 => exact Go.Proofs.YtahjkibjcibpgaaGreatDoor.U.UW.step HGW.out (by repeat with_reducible first|exact HB.out|apply ba|apply bN|apply bd)); (case side2 => repeat (first | exact (Kd.R_reads' HO_3.out).2.2 | (with_reducible refine Kd.C_alloc ?_ _) | (with_reducible refine Kd.C_drewN ?_ _) | (with_reducible refine Kd.C_drew ?_))); (case side3 => exact (Kd.R_reads' HO_3.out).2.1); rintro e w22 ⟨rfl, hb⟩; refine ⟨_, rfl, ?_⟩; have n0_ := Aside0.mk (Kd.R_below (by (with_reducible repeat (first | apply Kd.R_alloc | apply Kd.R_drewN | apply Kd.R_drew)); exact HO_3.out) hb); have n1_ := Aside0.mk (below_step (by repeat with_reducible first|exact HB.out|apply ba|apply bN|apply bd) hb); clear HO_3; clear HB; have HO_3 := n0_; have HB := n1_; clear n0_ n1_; (try clear hb); (try clear hb2); (try clear hk); (try clear hi)))
      go_ret
      exact ⟨by first|rfl|(simp<;>rfl)|(simp [*]<;>rfl), by repeat with_reducible first|exact HB.out|apply ba|apply bN|apply bd⟩
def tree_one.f (k : Nat) (a0 : ByteArray) (a1 : Int) : Option (Bool) := if a1 = 2 then (if 1 + a0.size ≤ 9223372036854775807 then (if ((⟨#[34]⟩ : ByteArray) ++ a0).size + 1 ≤ 9223372036854775807 then ((Ex.lex_Scan.f (((⟨#[34]⟩ : ByteArray) ++ a0) ++ (⟨#[34]⟩ : ByteArray))).bind fun bt114 => (if bt114.2.1 = 0 then (if (bt114.1.length : Int) = 2 then (if 0 < (bt114.1.length : Int) then (if ((rd_T41 bt114.1 0).f0) = a1 then (if ((rd_T41 bt114.1 0).f2) = 0 then ((lex_Write.f k bt114.1).bind fun t121 => (some (t121.toList == (((⟨#[34]⟩ : ByteArray) ++ a0) ++ (⟨#[34]⟩ : ByteArray)).toList))) else (some false)) else (some false)) else (none)) else (some false)) else (some false))) else (none)) else (none)) else ((Ex.lex_Scan.f a0).bind fun bt122 => (if bt122.2.1 = 0 then (if (bt122.1.length : Int) = 2 then (if 0 < (bt122.1.length : Int) then (if ((rd_T41 bt122.1 0).f0) = a1 then (if ((rd_T41 bt122.1 0).f2) = 0 then ((lex_Write.f k bt122.1).bind fun t129 => (some (t129.toList == a0.toList))) else (some false)) else (some false)) else (none)) else (some false)) else (some false)))
theorem tree_one.mono : ∀ a0 a1 k, LeO (tree_one.f k a0 a1) (tree_one.f (k + 1) a0 a1) := by
  intro a0 a1 k
  unfold tree_one.f
  repeat' first
      | (with_reducible exact lex_Write.mono _ _)
      | (with_reducible exact LeO.refl _)
      | (with_reducible exact LeO.none _)
      | (with_reducible refine LeO.ite ?_ ?_)
      | (with_reducible refine LeO.bind ?_ (fun _ => ?_))
      | exact lex_Write.mono _ _
      | exact LeO.none _
      | refine LeO.ite ?_ ?_
      | refine LeO.bind ?_ (fun _ => ?_)
set_option maxHeartbeats 8000000 in
set_option maxRecDepth 100000 in
theorem tree_one.calls (k : Nat) (a0 : ByteArray) (a1 : Int) (r : Bool) (w : World) (hg : Go.Proofs.YtahjkibjcibpgaaGreatDoor.U.UW w) (h : tree_one.f k a0 a1 = some r) :
    Calls Tryz.prog 34 #[.string a0, .int .i64 a1] w fun e w' => e = .returned (.bool r) ∧ Below w.heap.size w w' := by
  have HB := Aside0.mk (Below.refl w.heap.size w)
  have HGW := Aside0.mk hg
  clear hg
  have H : (if a1 = 2 then (if 1 + a0.size ≤ 9223372036854775807 then (if ((⟨#[34]⟩ : ByteArray) ++ a0).size + 1 ≤ 9223372036854775807 then ((Ex.lex_Scan.f (((⟨#[34]⟩ : ByteArray) ++ a0) ++ (⟨#[34]⟩ : ByteArray))).bind fun bt114 => (if bt114.2.1 = 0 then (if (bt114.1.length : Int) = 2 then (if 0 < (bt114.1.length : Int) then (if ((rd_T41 bt114.1 0).f0) = a1 then (if ((rd_T41 bt114.1 0).f2) = 0 then ((lex_Write.f k bt114.1).bind fun t121 => (some (t121.toList == (((⟨#[34]⟩ : ByteArray) ++ a0) ++ (⟨#[34]⟩ : ByteArray)).toList))) else (some false)) else (some false)) else (none)) else (some false)) else (some false))) else (none)) else (none)) else ((Ex.lex_Scan.f a0).bind fun bt122 => (if bt122.2.1 = 0 then (if (bt122.1.length : Int) = 2 then (if 0 < (bt122.1.length : Int) then (if ((rd_T41 bt122.1 0).f0) = a1 then (if ((rd_T41 bt122.1 0).f2) = 0 then ((lex_Write.f k bt122.1).bind fun t129 => (some (t129.toList == a0.toList))) else (some false)) else (some false)) else (none)) else (some false)) else (some false)))) = some r := h
  clear h
  by_cases c3 : a1 = 2
  · rw [if_pos c3] at H
    have c3b0 : (a1 == 2) = true := beq_iff_eq.mpr c3
    have c3b1 : (a1 != 2) = false := bne_eq_false_iff_eq.mpr c3
    clear c3
    by_cases c4 : 1 + a0.size ≤ 9223372036854775807
    · rw [if_pos c4] at H
      have c4b0 := eq_true c4
      have c4b1 : decide (1 + a0.size ≤ 9223372036854775807) = true := decide_eq_true c4
      try have c4b2 : (9223372036854775807 < 1 + a0.size) = False := eq_false (Nat.not_lt.2 c4)
      by_cases c5 : ((⟨#[34]⟩ : ByteArray) ++ a0).size + 1 ≤ 9223372036854775807
      · rw [if_pos c5] at H
        have c5b0 := eq_true c5
        have c5b1 : decide (((⟨#[34]⟩ : ByteArray) ++ a0).size + 1 ≤ 9223372036854775807) = true := decide_eq_true c5
        try have c5b2 : (9223372036854775807 < ((⟨#[34]⟩ : ByteArray) ++ a0).size + 1) = False := eq_false (Nat.not_lt.2 c5)
        try have c5b3 := c5b2
        try simp only [ByteArray.size_append, q1size] at c5b3
        replace H := Option.bind_eq_some_iff.mp H
        obtain ⟨⟨t114, t115, t116⟩, A60, H⟩ := H
        replace H : (if t115 = 0 then (if (t114.length : Int) = 2 then (if 0 < (t114.length : Int) then (if ((rd_T41 t114 0).f0) = a1 then (if ((rd_T41 t114 0).f2) = 0 then ((lex_Write.f k t114).bind fun t121 => (some (t121.toList == (((⟨#[34]⟩ : ByteArray) ++ a0) ++ (⟨#[34]⟩ : ByteArray)).toList))) else (some false)) else (some false)) else (none)) else (some false)) else (some false)) = some r := H
        have A6 := Aside0.mk A60
        clear A60
        by_cases c7 : t115 = 0
        · rw [if_pos c7] at H
          have c7b0 : (t115 == 0) = true := beq_iff_eq.mpr c7
          have c7b1 : (t115 != 0) = false := bne_eq_false_iff_eq.mpr c7
          clear c7
          by_cases c8 : (t114.length : Int) = 2
          · rw [if_pos c8] at H
            have c8b0 : ((t114.length : Int) == 2) = true := beq_iff_eq.mpr c8
            have c8b1 : ((t114.length : Int) != 2) = false := bne_eq_false_iff_eq.mpr c8
            clear c8
            by_cases c9 : 0 < (t114.length : Int)
            · rw [if_pos c9] at H
              have c9b0 : decide (0 < (t114.length : Int)) = true := decide_eq_true c9
              have c9b1 : decide (0 < t114.length) = true := decide_eq_true (by omega)
              clear c9
              by_cases c10 : ((rd_T41 t114 0).f0) = a1
              · rw [if_pos c10] at H
                have c10b0 : (((rd_T41 t114 0).f0) == a1) = true := beq_iff_eq.mpr c10
                have c10b1 : (((rd_T41 t114 0).f0) != a1) = false := bne_eq_false_iff_eq.mpr c10
                clear c10
                by_cases c11 : ((rd_T41 t114 0).f2) = 0
                · rw [if_pos c11] at H
                  have c11b0 : (((rd_T41 t114 0).f2) == 0) = true := beq_iff_eq.mpr c11
                  have c11b1 : (((rd_T41 t114 0).f2) != 0) = false := bne_eq_false_iff_eq.mpr c11
                  clear c11
                  replace H := Option.bind_eq_some_iff.mp H
                  obtain ⟨t121, A120, H⟩ := H
                  replace H : (some (t121.toList == (((⟨#[34]⟩ : ByteArray) ++ a0) ++ (⟨#[34]⟩ : ByteArray)).toList)) = some r := H
                  have A12 := Aside0.mk A120
                  clear A120
                  obtain rfl := Option.some.inj H
                  go_enter Tryz.func34, Tryz.ntmps34
                  go_wp2_with (first | ((with_reducible refine gate_callee (f := 14) rfl ?_); refine goesL_ (some 15) rfl rfl Tryz.func14 (by kernel_rfl) rfl #[.string (((⟨#[34]⟩ : ByteArray) ++ a0) ++ (⟨#[34]⟩ : ByteArray))] rfl (by (try simp only [List.map_toArray, List.map_cons, List.map_nil]); first | done | rfl | (simp only [List.length_drop, List.length_take]; rfl) | (simp only [Int.toNat_natCast, ByteArray.extract_zero_size] <;> rfl) | (rw [Int.toNat_natCast, ByteArray.extract_zero_size] <;> rfl)) ?_; (with_reducible refine (Ex.lex_Scan.calls (((⟨#[34]⟩ : ByteArray) ++ a0) ++ (⟨#[34]⟩ : ByteArray)) t114 t115 t116 _ ?side1 A6.out).mono ?_); (case side1 => exact Go.Proofs.YtahjkibjcibpgaaGreatDoor.U.UW.step HGW.out (by repeat with_reducible first|exact HB.out|apply ba|apply bN|apply bd)); rintro e w13 ⟨v117, rfl, ho0, hb⟩; refine ⟨_, rfl, ?_⟩; have n0_ := Aside0.mk (Kd.R_lower ho0 (below_size (by repeat with_reducible first|exact HB.out|apply ba|apply bN|apply bd))); have n1_ := Aside0.mk (below_step (by repeat with_reducible first|exact HB.out|apply ba|apply bN|apply bd) hb); clear HB; have HO118 := n0_; have HB := n1_; clear n0_ n1_; (try clear hb); (try clear hb2); (try clear hk); (try clear hi); (try clear ho0); obtain ⟨Ao14, co14, eo14⟩ := Kd.R_slice HO118.out; subst eo14; have p119 : 0 ≤ (0 : Int) := (by omega); have q119 : 0 < (t114.length : Int) := of_decide_eq_true (by first|with_reducible assumption|assumption); obtain ⟨ad119, e119, hx119_0, hx119_1, hx119_2⟩ := at_T41 (Kd.R_reads' HO118.out).2.2 0 p119 q119; cases e119; have qi119 : (0 < t114.length) = True := eq_true (by omega); (try rw [show ((0 : Int)).toNat = 0 from rfl] at hx119_0); (try rw [show 0 * 3 = 0 from rfl] at hx119_0); (try rw [Addr.add_zero'] at hx119_0); (try rw [show ((0 : Int)).toNat = 0 from rfl] at hx119_1); (try rw [show 0 * 3 = 0 from rfl] at hx119_1); (try rw [Addr.add_zero'] at hx119_1); (try rw [show ((0 : Int)).toNat = 0 from rfl] at hx119_2); (try rw [show 0 * 3 = 0 from rfl] at hx119_2); (try rw [Addr.add_zero'] at hx119_2); replace p119 := eq_true p119; replace q119 := eq_true q119; have p120 : 0 ≤ (0 : Int) := (by omega); have q120 : 0 < (t114.length : Int) := of_decide_eq_true (by first|with_reducible assumption|assumption); obtain ⟨ad120, e120, hx120_0, hx120_1, hx120_2⟩ := at_T41 (Kd.R_reads' HO118.out).2.2 0 p120 q120; obtain rfl : ad119 = ad120 := (by injection e120); have qi120 : (0 < t114.length) = True := eq_true (by omega); (try rw [show ((0 : Int)).toNat = 0 from rfl] at hx120_0); (try rw [show 0 * 3 = 0 from rfl] at hx120_0); (try rw [Addr.add_zero'] at hx120_0); (try rw [show ((0 : Int)).toNat = 0 from rfl] at hx120_1); (try rw [show 0 * 3 = 0 from rfl] at hx120_1); (try rw [Addr.add_zero'] at hx120_1); (try rw [show ((0 : Int)).toNat = 0 from rfl] at hx120_2); (try rw [show 0 * 3 = 0 from rfl] at hx120_2); (try rw [Addr.add_zero'] at hx120_2); replace p120 := eq_true p120; replace q120 := eq_true q120) | (go_at_call 15; (with_reducible refine (lex_Write.calls k _ _ t114 t121 _ ?side1 ?side2 ?side3 A12.out).mono ?_); (case side1 => exact Go.Proofs.YtahjkibjcibpgaaGreatDoor.U.UW.step HGW.out (by repeat with_reducible first|exact HB.out|apply ba|apply bN|apply bd)); (case side2 => repeat (first | exact (Kd.R_reads' HO118.out).2.2 | (with_reducible refine Kd.C_alloc ?_ _) | (with_reducible refine Kd.C_drewN ?_ _) | (with_reducible refine Kd.C_drew ?_))); (case side3 => exact (Kd.R_reads' HO118.out).2.1); rintro e w15 ⟨rfl, hb⟩; have n0_ := Aside0.mk (Kd.R_below (by (with_reducible repeat (first | apply Kd.R_alloc | apply Kd.R_drewN | apply Kd.R_drew)); exact HO118.out) hb); have n1_ := Aside0.mk (below_step (by repeat with_reducible first|exact HB.out|apply ba|apply bN|apply bd) hb); clear HO118; clear HB; have HO118 := n0_; have HB := n1_; clear n0_ n1_; (try clear hb); (try clear hb2); (try clear hk); (try clear hi)))
                  go_ret
                  exact ⟨by first|rfl|(simp<;>rfl)|(simp [*]<;>rfl), by repeat with_reducible first|exact HB.out|apply ba|apply bN|apply bd⟩
                rw [if_neg c11] at H
                have c11b0 : (((rd_T41 t114 0).f2) == 0) = false := beq_eq_false_iff_ne.mpr c11
                have c11b1 : (((rd_T41 t114 0).f2) != 0) = true := bne_iff_ne.mpr c11
                obtain rfl := Option.some.inj H
                go_enter Tryz.func34, Tryz.ntmps34
                go_wp2_with (first | ((with_reducible refine gate_callee (f := 14) rfl ?_); refine goesL_ (some 15) rfl rfl Tryz.func14 (by kernel_rfl) rfl #[.string (((⟨#[34]⟩ : ByteArray) ++ a0) ++ (⟨#[34]⟩ : ByteArray))] rfl (by (try simp only [List.map_toArray, List.map_cons, List.map_nil]); first | done | rfl | (simp only [List.length_drop, List.length_take]; rfl) | (simp only [Int.toNat_natCast, ByteArray.extract_zero_size] <;> rfl) | (rw [Int.toNat_natCast, ByteArray.extract_zero_size] <;> rfl)) ?_; (with_reducible refine (Ex.lex_Scan.calls (((⟨#[34]⟩ : ByteArray) ++ a0) ++ (⟨#[34]⟩ : ByteArray)) t114 t115 t116 _ ?side1 A6.out).mono ?_); (case side1 => exact Go.Proofs.YtahjkibjcibpgaaGreatDoor.U.UW.step HGW.out (by repeat with_reducible first|exact HB.out|apply ba|apply bN|apply bd)); rintro e w16 ⟨v117, rfl, ho0, hb⟩; refine ⟨_, rfl, ?_⟩; have n0_ := Aside0.mk (Kd.R_lower ho0 (below_size (by repeat with_reducible first|exact HB.out|apply ba|apply bN|apply bd))); have n1_ := Aside0.mk (below_step (by repeat with_reducible first|exact HB.out|apply ba|apply bN|apply bd) hb); clear HB; have HO118 := n0_; have HB := n1_; clear n0_ n1_; (try clear hb); (try clear hb2); (try clear hk); (try clear hi); (try clear ho0); obtain ⟨Ao17, co17, eo17⟩ := Kd.R_slice HO118.out; subst eo17; have p119 : 0 ≤ (0 : Int) := (by omega); have q119 : 0 < (t114.length : Int) := of_decide_eq_true (by first|with_reducible assumption|assumption); obtain ⟨ad119, e119, hx119_0, hx119_1, hx119_2⟩ := at_T41 (Kd.R_reads' HO118.out).2.2 0 p119 q119; cases e119; have qi119 : (0 < t114.length) = True := eq_true (by omega); (try rw [show ((0 : Int)).toNat = 0 from rfl] at hx119_0); (try rw [show 0 * 3 = 0 from rfl] at hx119_0); (try rw [Addr.add_zero'] at hx119_0); (try rw [show ((0 : Int)).toNat = 0 from rfl] at hx119_1); (try rw [show 0 * 3 = 0 from rfl] at hx119_1); (try rw [Addr.add_zero'] at hx119_1); (try rw [show ((0 : Int)).toNat = 0 from rfl] at hx119_2); (try rw [show 0 * 3 = 0 from rfl] at hx119_2); (try rw [Addr.add_zero'] at hx119_2); replace p119 := eq_true p119; replace q119 := eq_true q119; have p120 : 0 ≤ (0 : Int) := (by omega); have q120 : 0 < (t114.length : Int) := of_decide_eq_true (by first|with_reducible assumption|assumption); obtain ⟨ad120, e120, hx120_0, hx120_1, hx120_2⟩ := at_T41 (Kd.R_reads' HO118.out).2.2 0 p120 q120; obtain rfl : ad119 = ad120 := (by injection e120); have qi120 : (0 < t114.length) = True := eq_true (by omega); (try rw [show ((0 : Int)).toNat = 0 from rfl] at hx120_0); (try rw [show 0 * 3 = 0 from rfl] at hx120_0); (try rw [Addr.add_zero'] at hx120_0); (try rw [show ((0 : Int)).toNat = 0 from rfl] at hx120_1); (try rw [show 0 * 3 = 0 from rfl] at hx120_1); (try rw [Addr.add_zero'] at hx120_1); (try rw [show ((0 : Int)).toNat = 0 from rfl] at hx120_2); (try rw [show 0 * 3 = 0 from rfl] at hx120_2); (try rw [Addr.add_zero'] at hx120_2); replace p120 := eq_true p120; replace q120 := eq_true q120))
                go_ret
                exact ⟨by first|rfl|(simp<;>rfl)|(simp [*]<;>rfl), by repeat with_reducible first|exact HB.out|apply ba|apply bN|apply bd⟩
              rw [if_neg c10] at H
              have c10b0 : (((rd_T41 t114 0).f0) == a1) = false := beq_eq_false_iff_ne.mpr c10
              have c10b1 : (((rd_T41 t114 0).f0) != a1) = true := bne_iff_ne.mpr c10
              obtain rfl := Option.some.inj H
              go_enter Tryz.func34, Tryz.ntmps34
              go_wp2_with (first | ((with_reducible refine gate_callee (f := 14) rfl ?_); refine goesL_ (some 15) rfl rfl Tryz.func14 (by kernel_rfl) rfl #[.string (((⟨#[34]⟩ : ByteArray) ++ a0) ++ (⟨#[34]⟩ : ByteArray))] rfl (by (try simp only [List.map_toArray, List.map_cons, List.map_nil]); first | done | rfl | (simp only [List.length_drop, List.length_take]; rfl) | (simp only [Int.toNat_natCast, ByteArray.extract_zero_size] <;> rfl) | (rw [Int.toNat_natCast, ByteArray.extract_zero_size] <;> rfl)) ?_; (with_reducible refine (Ex.lex_Scan.calls (((⟨#[34]⟩ : ByteArray) ++ a0) ++ (⟨#[34]⟩ : ByteArray)) t114 t115 t116 _ ?side1 A6.out).mono ?_); (case side1 => exact Go.Proofs.YtahjkibjcibpgaaGreatDoor.U.UW.step HGW.out (by repeat with_reducible first|exact HB.out|apply ba|apply bN|apply bd)); rintro e w18 ⟨v117, rfl, ho0, hb⟩; refine ⟨_, rfl, ?_⟩; have n0_ := Aside0.mk (Kd.R_lower ho0 (below_size (by repeat with_reducible first|exact HB.out|apply ba|apply bN|apply bd))); have n1_ := Aside0.mk (below_step (by repeat with_reducible first|exact HB.out|apply ba|apply bN|apply bd) hb); clear HB; have HO118 := n0_; have HB := n1_; clear n0_ n1_; (try clear hb); (try clear hb2); (try clear hk); (try clear hi); (try clear ho0); obtain ⟨Ao19, co19, eo19⟩ := Kd.R_slice HO118.out; subst eo19; have p119 : 0 ≤ (0 : Int) := (by omega); have q119 : 0 < (t114.length : Int) := of_decide_eq_true (by first|with_reducible assumption|assumption); obtain ⟨ad119, e119, hx119_0, hx119_1, hx119_2⟩ := at_T41 (Kd.R_reads' HO118.out).2.2 0 p119 q119; cases e119; have qi119 : (0 < t114.length) = True := eq_true (by omega); (try rw [show ((0 : Int)).toNat = 0 from rfl] at hx119_0); (try rw [show 0 * 3 = 0 from rfl] at hx119_0); (try rw [Addr.add_zero'] at hx119_0); (try rw [show ((0 : Int)).toNat = 0 from rfl] at hx119_1); (try rw [show 0 * 3 = 0 from rfl] at hx119_1); (try rw [Addr.add_zero'] at hx119_1); (try rw [show ((0 : Int)).toNat = 0 from rfl] at hx119_2); (try rw [show 0 * 3 = 0 from rfl] at hx119_2); (try rw [Addr.add_zero'] at hx119_2); replace p119 := eq_true p119; replace q119 := eq_true q119))
              go_ret
              exact ⟨by first|rfl|(simp<;>rfl)|(simp [*]<;>rfl), by repeat with_reducible first|exact HB.out|apply ba|apply bN|apply bd⟩
            rw [if_neg c9] at H
            exact absurd H (by simp)
          rw [if_neg c8] at H
          have c8b0 : ((t114.length : Int) == 2) = false := beq_eq_false_iff_ne.mpr c8
          have c8b1 : ((t114.length : Int) != 2) = true := bne_iff_ne.mpr c8
          obtain rfl := Option.some.inj H
          go_enter Tryz.func34, Tryz.ntmps34
          go_wp2_with (first | ((with_reducible refine gate_callee (f := 14) rfl ?_); refine goesL_ (some 15) rfl rfl Tryz.func14 (by kernel_rfl) rfl #[.string (((⟨#[34]⟩ : ByteArray) ++ a0) ++ (⟨#[34]⟩ : ByteArray))] rfl (by (try simp only [List.map_toArray, List.map_cons, List.map_nil]); first | done | rfl | (simp only [List.length_drop, List.length_take]; rfl) | (simp only [Int.toNat_natCast, ByteArray.extract_zero_size] <;> rfl) | (rw [Int.toNat_natCast, ByteArray.extract_zero_size] <;> rfl)) ?_; (with_reducible refine (Ex.lex_Scan.calls (((⟨#[34]⟩ : ByteArray) ++ a0) ++ (⟨#[34]⟩ : ByteArray)) t114 t115 t116 _ ?side1 A6.out).mono ?_); (case side1 => exact Go.Proofs.YtahjkibjcibpgaaGreatDoor.U.UW.step HGW.out (by repeat with_reducible first|exact HB.out|apply ba|apply bN|apply bd)); rintro e w20 ⟨v117, rfl, ho0, hb⟩; refine ⟨_, rfl, ?_⟩; have n0_ := Aside0.mk (Kd.R_lower ho0 (below_size (by repeat with_reducible first|exact HB.out|apply ba|apply bN|apply bd))); have n1_ := Aside0.mk (below_step (by repeat with_reducible first|exact HB.out|apply ba|apply bN|apply bd) hb); clear HB; have HO118 := n0_; have HB := n1_; clear n0_ n1_; (try clear hb); (try clear hb2); (try clear hk); (try clear hi); (try clear ho0); obtain ⟨Ao21, co21, eo21⟩ := Kd.R_slice HO118.out; subst eo21))
          go_ret
          exact ⟨by first|rfl|(simp<;>rfl)|(simp [*]<;>rfl), by repeat with_reducible first|exact HB.out|apply ba|apply bN|apply bd⟩
        rw [if_neg c7] at H
        have c7b0 : (t115 == 0) = false := beq_eq_false_iff_ne.mpr c7
        have c7b1 : (t115 != 0) = true := bne_iff_ne.mpr c7
        obtain rfl := Option.some.inj H
        go_enter Tryz.func34, Tryz.ntmps34
        go_wp2_with (first | ((with_reducible refine gate_callee (f := 14) rfl ?_); refine goesL_ (some 15) rfl rfl Tryz.func14 (by kernel_rfl) rfl #[.string (((⟨#[34]⟩ : ByteArray) ++ a0) ++ (⟨#[34]⟩ : ByteArray))] rfl (by (try simp only [List.map_toArray, List.map_cons, List.map_nil]); first | done | rfl | (simp only [List.length_drop, List.length_take]; rfl) | (simp only [Int.toNat_natCast, ByteArray.extract_zero_size] <;> rfl) | (rw [Int.toNat_natCast, ByteArray.extract_zero_size] <;> rfl)) ?_; (with_reducible refine (Ex.lex_Scan.calls (((⟨#[34]⟩ : ByteArray) ++ a0) ++ (⟨#[34]⟩ : ByteArray)) t114 t115 t116 _ ?side1 A6.out).mono ?_); (case side1 => exact Go.Proofs.YtahjkibjcibpgaaGreatDoor.U.UW.step HGW.out (by repeat with_reducible first|exact HB.out|apply ba|apply bN|apply bd)); rintro e w22 ⟨v117, rfl, ho0, hb⟩; refine ⟨_, rfl, ?_⟩; have n0_ := Aside0.mk (Kd.R_lower ho0 (below_size (by repeat with_reducible first|exact HB.out|apply ba|apply bN|apply bd))); have n1_ := Aside0.mk (below_step (by repeat with_reducible first|exact HB.out|apply ba|apply bN|apply bd) hb); clear HB; have HO118 := n0_; have HB := n1_; clear n0_ n1_; (try clear hb); (try clear hb2); (try clear hk); (try clear hi); (try clear ho0)))
        go_ret
        exact ⟨by first|rfl|(simp<;>rfl)|(simp [*]<;>rfl), by repeat with_reducible first|exact HB.out|apply ba|apply bN|apply bd⟩
      rw [if_neg c5] at H
      exact absurd H (by simp)
    rw [if_neg c4] at H
    exact absurd H (by simp)
  rw [if_neg c3] at H
  have c3b0 : (a1 == 2) = false := beq_eq_false_iff_ne.mpr c3
  have c3b1 : (a1 != 2) = true := bne_iff_ne.mpr c3
  replace H := Option.bind_eq_some_iff.mp H
  obtain ⟨⟨t122, t123, t124⟩, A230, H⟩ := H
  replace H : (if t123 = 0 then (if (t122.length : Int) = 2 then (if 0 < (t122.length : Int) then (if ((rd_T41 t122 0).f0) = a1 then (if ((rd_T41 t122 0).f2) = 0 then ((lex_Write.f k t122).bind fun t129 => (some (t129.toList == a0.toList))) else (some false)) else (some false)) else (none)) else (some false)) else (some false)) = some r := H
  have A23 := Aside0.mk A230
  clear A230
  by_cases c24 : t123 = 0
  · rw [if_pos c24] at H
    have c24b0 : (t123 == 0) = true := beq_iff_eq.mpr c24
    have c24b1 : (t123 != 0) = false := bne_eq_false_iff_eq.mpr c24
    clear c24
    by_cases c25 : (t122.length : Int) = 2
    · rw [if_pos c25] at H
      have c25b0 : ((t122.length : Int) == 2) = true := beq_iff_eq.mpr c25
      have c25b1 : ((t122.length : Int) != 2) = false := bne_eq_false_iff_eq.mpr c25
      clear c25
      by_cases c26 : 0 < (t122.length : Int)
      · rw [if_pos c26] at H
        have c26b0 : decide (0 < (t122.length : Int)) = true := decide_eq_true c26
        have c26b1 : decide (0 < t122.length) = true := decide_eq_true (by omega)
        clear c26
        by_cases c27 : ((rd_T41 t122 0).f0) = a1
        · rw [if_pos c27] at H
          have c27b0 : (((rd_T41 t122 0).f0) == a1) = true := beq_iff_eq.mpr c27
          have c27b1 : (((rd_T41 t122 0).f0) != a1) = false := bne_eq_false_iff_eq.mpr c27
          clear c27
          by_cases c28 : ((rd_T41 t122 0).f2) = 0
          · rw [if_pos c28] at H
            have c28b0 : (((rd_T41 t122 0).f2) == 0) = true := beq_iff_eq.mpr c28
            have c28b1 : (((rd_T41 t122 0).f2) != 0) = false := bne_eq_false_iff_eq.mpr c28
            clear c28
            replace H := Option.bind_eq_some_iff.mp H
            obtain ⟨t129, A290, H⟩ := H
            replace H : (some (t129.toList == a0.toList)) = some r := H
            have A29 := Aside0.mk A290
            clear A290
            obtain rfl := Option.some.inj H
            go_enter Tryz.func34, Tryz.ntmps34
            go_wp2_with (first | ((with_reducible refine gate_callee (f := 14) rfl ?_); refine goesL_ (some 15) rfl rfl Tryz.func14 (by kernel_rfl) rfl #[.string a0] rfl (by (try simp only [List.map_toArray, List.map_cons, List.map_nil]); first | done | rfl | (simp only [List.length_drop, List.length_take]; rfl) | (simp only [Int.toNat_natCast, ByteArray.extract_zero_size] <;> rfl) | (rw [Int.toNat_natCast, ByteArray.extract_zero_size] <;> rfl)) ?_; (with_reducible refine (Ex.lex_Scan.calls a0 t122 t123 t124 _ ?side1 A23.out).mono ?_); (case side1 => exact Go.Proofs.YtahjkibjcibpgaaGreatDoor.U.UW.step HGW.out (by repeat with_reducible first|exact HB.out|apply ba|apply bN|apply bd)); rintro e w30 ⟨v125, rfl, ho0, hb⟩; refine ⟨_, rfl, ?_⟩; have n0_ := Aside0.mk (Kd.R_lower ho0 (below_size (by repeat with_reducible first|exact HB.out|apply ba|apply bN|apply bd))); have n1_ := Aside0.mk (below_step (by repeat with_reducible first|exact HB.out|apply ba|apply bN|apply bd) hb); clear HB; have HO126 := n0_; have HB := n1_; clear n0_ n1_; (try clear hb); (try clear hb2); (try clear hk); (try clear hi); (try clear ho0); obtain ⟨Ao31, co31, eo31⟩ := Kd.R_slice HO126.out; subst eo31; have p127 : 0 ≤ (0 : Int) := (by omega); have q127 : 0 < (t122.length : Int) := of_decide_eq_true (by first|with_reducible assumption|assumption); obtain ⟨ad127, e127, hx127_0, hx127_1, hx127_2⟩ := at_T41 (Kd.R_reads' HO126.out).2.2 0 p127 q127; cases e127; have qi127 : (0 < t122.length) = True := eq_true (by omega); (try rw [show ((0 : Int)).toNat = 0 from rfl] at hx127_0); (try rw [show 0 * 3 = 0 from rfl] at hx127_0); (try rw [Addr.add_zero'] at hx127_0); (try rw [show ((0 : Int)).toNat = 0 from rfl] at hx127_1); (try rw [show 0 * 3 = 0 from rfl] at hx127_1); (try rw [Addr.add_zero'] at hx127_1); (try rw [show ((0 : Int)).toNat = 0 from rfl] at hx127_2); (try rw [show 0 * 3 = 0 from rfl] at hx127_2); (try rw [Addr.add_zero'] at hx127_2); replace p127 := eq_true p127; replace q127 := eq_true q127; have p128 : 0 ≤ (0 : Int) := (by omega); have q128 : 0 < (t122.length : Int) := of_decide_eq_true (by first|with_reducible assumption|assumption); obtain ⟨ad128, e128, hx128_0, hx128_1, hx128_2⟩ := at_T41 (Kd.R_reads' HO126.out).2.2 0 p128 q128; obtain rfl : ad127 = ad128 := (by injection e128); have qi128 : (0 < t122.length) = True := eq_true (by omega); (try rw [show ((0 : Int)).toNat = 0 from rfl] at hx128_0); (try rw [show 0 * 3 = 0 from rfl] at hx128_0); (try rw [Addr.add_zero'] at hx128_0); (try rw [show ((0 : Int)).toNat = 0 from rfl] at hx128_1); (try rw [show 0 * 3 = 0 from rfl] at hx128_1); (try rw [Addr.add_zero'] at hx128_1); (try rw [show ((0 : Int)).toNat = 0 from rfl] at hx128_2); (try rw [show 0 * 3 = 0 from rfl] at hx128_2); (try rw [Addr.add_zero'] at hx128_2); replace p128 := eq_true p128; replace q128 := eq_true q128) | (go_at_call 15; (with_reducible refine (lex_Write.calls k _ _ t122 t129 _ ?side1 ?side2 ?side3 A29.out).mono ?_); (case side1 => exact Go.Proofs.YtahjkibjcibpgaaGreatDoor.U.UW.step HGW.out (by repeat with_reducible first|exact HB.out|apply ba|apply bN|apply bd)); (case side2 => repeat (first | exact (Kd.R_reads' HO126.out).2.2 | (with_reducible refine Kd.C_alloc ?_ _) | (with_reducible refine Kd.C_drewN ?_ _) | (with_reducible refine Kd.C_drew ?_))); (case side3 => exact (Kd.R_reads' HO126.out).2.1); rintro e w32 ⟨rfl, hb⟩; have n0_ := Aside0.mk (Kd.R_below (by (with_reducible repeat (first | apply Kd.R_alloc | apply Kd.R_drewN | apply Kd.R_drew)); exact HO126.out) hb); have n1_ := Aside0.mk (below_step (by repeat with_reducible first|exact HB.out|apply ba|apply bN|apply bd) hb); clear HO126; clear HB; have HO126 := n0_; have HB := n1_; clear n0_ n1_; (try clear hb); (try clear hb2); (try clear hk); (try clear hi)))
            go_ret
            exact ⟨by first|rfl|(simp<;>rfl)|(simp [*]<;>rfl), by repeat with_reducible first|exact HB.out|apply ba|apply bN|apply bd⟩
          rw [if_neg c28] at H
          have c28b0 : (((rd_T41 t122 0).f2) == 0) = false := beq_eq_false_iff_ne.mpr c28
          have c28b1 : (((rd_T41 t122 0).f2) != 0) = true := bne_iff_ne.mpr c28
          obtain rfl := Option.some.inj H
          go_enter Tryz.func34, Tryz.ntmps34
          go_wp2_with (first | ((with_reducible refine gate_callee (f := 14) rfl ?_); refine goesL_ (some 15) rfl rfl Tryz.func14 (by kernel_rfl) rfl #[.string a0] rfl (by (try simp only [List.map_toArray, List.map_cons, List.map_nil]); first | done | rfl | (simp only [List.length_drop, List.length_take]; rfl) | (simp only [Int.toNat_natCast, ByteArray.extract_zero_size] <;> rfl) | (rw [Int.toNat_natCast, ByteArray.extract_zero_size] <;> rfl)) ?_; (with_reducible refine (Ex.lex_Scan.calls a0 t122 t123 t124 _ ?side1 A23.out).mono ?_); (case side1 => exact Go.Proofs.YtahjkibjcibpgaaGreatDoor.U.UW.step HGW.out (by repeat with_reducible first|exact HB.out|apply ba|apply bN|apply bd)); rintro e w33 ⟨v125, rfl, ho0, hb⟩; refine ⟨_, rfl, ?_⟩; have n0_ := Aside0.mk (Kd.R_lower ho0 (below_size (by repeat with_reducible first|exact HB.out|apply ba|apply bN|apply bd))); have n1_ := Aside0.mk (below_step (by repeat with_reducible first|exact HB.out|apply ba|apply bN|apply bd) hb); clear HB; have HO126 := n0_; have HB := n1_; clear n0_ n1_; (try clear hb); (try clear hb2); (try clear hk); (try clear hi); (try clear ho0); obtain ⟨Ao34, co34, eo34⟩ := Kd.R_slice HO126.out; subst eo34; have p127 : 0 ≤ (0 : Int) := (by omega); have q127 : 0 < (t122.length : Int) := of_decide_eq_true (by first|with_reducible assumption|assumption); obtain ⟨ad127, e127, hx127_0, hx127_1, hx127_2⟩ := at_T41 (Kd.R_reads' HO126.out).2.2 0 p127 q127; cases e127; have qi127 : (0 < t122.length) = True := eq_true (by omega); (try rw [show ((0 : Int)).toNat = 0 from rfl] at hx127_0); (try rw [show 0 * 3 = 0 from rfl] at hx127_0); (try rw [Addr.add_zero'] at hx127_0); (try rw [show ((0 : Int)).toNat = 0 from rfl] at hx127_1); (try rw [show 0 * 3 = 0 from rfl] at hx127_1); (try rw [Addr.add_zero'] at hx127_1); (try rw [show ((0 : Int)).toNat = 0 from rfl] at hx127_2); (try rw [show 0 * 3 = 0 from rfl] at hx127_2); (try rw [Addr.add_zero'] at hx127_2); replace p127 := eq_true p127; replace q127 := eq_true q127; have p128 : 0 ≤ (0 : Int) := (by omega); have q128 : 0 < (t122.length : Int) := of_decide_eq_true (by first|with_reducible assumption|assumption); obtain ⟨ad128, e128, hx128_0, hx128_1, hx128_2⟩ := at_T41 (Kd.R_reads' HO126.out).2.2 0 p128 q128; obtain rfl : ad127 = ad128 := (by injection e128); have qi128 : (0 < t122.length) = True := eq_true (by omega); (try rw [show ((0 : Int)).toNat = 0 from rfl] at hx128_0); (try rw [show 0 * 3 = 0 from rfl] at hx128_0); (try rw [Addr.add_zero'] at hx128_0); (try rw [show ((0 : Int)).toNat = 0 from rfl] at hx128_1); (try rw [show 0 * 3 = 0 from rfl] at hx128_1); (try rw [Addr.add_zero'] at hx128_1); (try rw [show ((0 : Int)).toNat = 0 from rfl] at hx128_2); (try rw [show 0 * 3 = 0 from rfl] at hx128_2); (try rw [Addr.add_zero'] at hx128_2); replace p128 := eq_true p128; replace q128 := eq_true q128))
          go_ret
          exact ⟨by first|rfl|(simp<;>rfl)|(simp [*]<;>rfl), by repeat with_reducible first|exact HB.out|apply ba|apply bN|apply bd⟩
        rw [if_neg c27] at H
        have c27b0 : (((rd_T41 t122 0).f0) == a1) = false := beq_eq_false_iff_ne.mpr c27
        have c27b1 : (((rd_T41 t122 0).f0) != a1) = true := bne_iff_ne.mpr c27
        obtain rfl := Option.some.inj H
        go_enter Tryz.func34, Tryz.ntmps34
        go_wp2_with (first | ((with_reducible refine gate_callee (f := 14) rfl ?_); refine goesL_ (some 15) rfl rfl Tryz.func14 (by kernel_rfl) rfl #[.string a0] rfl (by (try simp only [List.map_toArray, List.map_cons, List.map_nil]); first | done | rfl | (simp only [List.length_drop, List.length_take]; rfl) | (simp only [Int.toNat_natCast, ByteArray.extract_zero_size] <;> rfl) | (rw [Int.toNat_natCast, ByteArray.extract_zero_size] <;> rfl)) ?_; (with_reducible refine (Ex.lex_Scan.calls a0 t122 t123 t124 _ ?side1 A23.out).mono ?_); (case side1 => exact Go.Proofs.YtahjkibjcibpgaaGreatDoor.U.UW.step HGW.out (by repeat with_reducible first|exact HB.out|apply ba|apply bN|apply bd)); rintro e w35 ⟨v125, rfl, ho0, hb⟩; refine ⟨_, rfl, ?_⟩; have n0_ := Aside0.mk (Kd.R_lower ho0 (below_size (by repeat with_reducible first|exact HB.out|apply ba|apply bN|apply bd))); have n1_ := Aside0.mk (below_step (by repeat with_reducible first|exact HB.out|apply ba|apply bN|apply bd) hb); clear HB; have HO126 := n0_; have HB := n1_; clear n0_ n1_; (try clear hb); (try clear hb2); (try clear hk); (try clear hi); (try clear ho0); obtain ⟨Ao36, co36, eo36⟩ := Kd.R_slice HO126.out; subst eo36; have p127 : 0 ≤ (0 : Int) := (by omega); have q127 : 0 < (t122.length : Int) := of_decide_eq_true (by first|with_reducible assumption|assumption); obtain ⟨ad127, e127, hx127_0, hx127_1, hx127_2⟩ := at_T41 (Kd.R_reads' HO126.out).2.2 0 p127 q127; cases e127; have qi127 : (0 < t122.length) = True := eq_true (by omega); (try rw [show ((0 : Int)).toNat = 0 from rfl] at hx127_0); (try rw [show 0 * 3 = 0 from rfl] at hx127_0); (try rw [Addr.add_zero'] at hx127_0); (try rw [show ((0 : Int)).toNat = 0 from rfl] at hx127_1); (try rw [show 0 * 3 = 0 from rfl] at hx127_1); (try rw [Addr.add_zero'] at hx127_1); (try rw [show ((0 : Int)).toNat = 0 from rfl] at hx127_2); (try rw [show 0 * 3 = 0 from rfl] at hx127_2); (try rw [Addr.add_zero'] at hx127_2); replace p127 := eq_true p127; replace q127 := eq_true q127))
        go_ret
        exact ⟨by first|rfl|(simp<;>rfl)|(simp [*]<;>rfl), by repeat with_reducible first|exact HB.out|apply ba|apply bN|apply bd⟩
      rw [if_neg c26] at H
      exact absurd H (by simp)
    rw [if_neg c25] at H
    have c25b0 : ((t122.length : Int) == 2) = false := beq_eq_false_iff_ne.mpr c25
    have c25b1 : ((t122.length : Int) != 2) = true := bne_iff_ne.mpr c25
    obtain rfl := Option.some.inj H
    go_enter Tryz.func34, Tryz.ntmps34
    go_wp2_with (first | ((with_reducible refine gate_callee (f := 14) rfl ?_); refine goesL_ (some 15) rfl rfl Tryz.func14 (by kernel_rfl) rfl #[.string a0] rfl (by (try simp only [List.map_toArray, List.map_cons, List.map_nil]); first | done | rfl | (simp only [List.length_drop, List.length_take]; rfl) | (simp only [Int.toNat_natCast, ByteArray.extract_zero_size] <;> rfl) | (rw [Int.toNat_natCast, ByteArray.extract_zero_size] <;> rfl)) ?_; (with_reducible refine (Ex.lex_Scan.calls a0 t122 t123 t124 _ ?side1 A23.out).mono ?_); (case side1 => exact Go.Proofs.YtahjkibjcibpgaaGreatDoor.U.UW.step HGW.out (by repeat with_reducible first|exact HB.out|apply ba|apply bN|apply bd)); rintro e w37 ⟨v125, rfl, ho0, hb⟩; refine ⟨_, rfl, ?_⟩; have n0_ := Aside0.mk (Kd.R_lower ho0 (below_size (by repeat with_reducible first|exact HB.out|apply ba|apply bN|apply bd))); have n1_ := Aside0.mk (below_step (by repeat with_reducible first|exact HB.out|apply ba|apply bN|apply bd) hb); clear HB; have HO126 := n0_; have HB := n1_; clear n0_ n1_; (try clear hb); (try clear hb2); (try clear hk); (try clear hi); (try clear ho0); obtain ⟨Ao38, co38, eo38⟩ := Kd.R_slice HO126.out; subst eo38))
    go_ret
    exact ⟨by first|rfl|(simp<;>rfl)|(simp [*]<;>rfl), by repeat with_reducible first|exact HB.out|apply ba|apply bN|apply bd⟩
  rw [if_neg c24] at H
  have c24b0 : (t123 == 0) = false := beq_eq_false_iff_ne.mpr c24
  have c24b1 : (t123 != 0) = true := bne_iff_ne.mpr c24
  obtain rfl := Option.some.inj H
  go_enter Tryz.func34, Tryz.ntmps34
  go_wp2_with (first | ((with_reducible refine gate_callee (f := 14) rfl ?_); refine goesL_ (some 15) rfl rfl Tryz.func14 (by kernel_rfl) rfl #[.string a0] rfl (by (try simp only [List.map_toArray, List.map_cons, List.map_nil]); first | done | rfl | (simp only [List.length_drop, List.length_take]; rfl) | (simp only [Int.toNat_natCast, ByteArray.extract_zero_size] <;> rfl) | (rw [Int.toNat_natCast, ByteArray.extract_zero_size] <;> rfl)) ?_; (with_reducible refine (Ex.lex_Scan.calls a0 t122 t123 t124 _ ?side1 A23.out).mono ?_); (case side1 => exact Go.Proofs.YtahjkibjcibpgaaGreatDoor.U.UW.step HGW.out (by repeat with_reducible first|exact HB.out|apply ba|apply bN|apply bd)); rintro e w39 ⟨v125, rfl, ho0, hb⟩; refine ⟨_, rfl, ?_⟩; have n0_ := Aside0.mk (Kd.R_lower ho0 (below_size (by repeat with_reducible first|exact HB.out|apply ba|apply bN|apply bd))); have n1_ := Aside0.mk (below_step (by repeat with_reducible first|exact HB.out|apply ba|apply bN|apply bd) hb); clear HB; have HO126 := n0_; have HB := n1_; clear n0_ n1_; (try clear hb); (try clear hb2); (try clear hk); (try clear hi); (try clear ho0)))
  go_ret
  exact ⟨by first|rfl|(simp<;>rfl)|(simp [*]<;>rfl), by repeat with_reducible first|exact HB.out|apply ba|apply bN|apply bd⟩
end Go.Proofs.YtahjkibjcibpgaaGreatDoor.PTr
end
section
namespace Go.Proofs.YtahjkibjcibpgaaGreatDoor.L
open Go.RowKit Go.Proofs.YtahjkibjcibpgaaGreatDoor.U Go.Proofs.YtahjkibjcibpgaaGreatDoorW.PrintWords Go.Proofs.YtahjkibjcibpgaaGreatDoor.PTr
def rawB (t : Tok) : ByteArray := ⟨(rawT t).toArray⟩
def writeL (ts : List Tok) : List UInt8 := Lib.join (ts.map rawT) [32]
def endT (ts : List Tok) (n : Nat) : List PTr.S41 := (ts ++ [(⟨4, [], n⟩ : Tok)]).map toS
theorem endT_len (ts : List Tok) (n : Nat) : (endT ts n).length = ts.length + 1 := by simp [endT]
theorem endT_at (pre : List Tok) (t : Tok) (post : List Tok) (n : Nat) : PTr.rd_T41 (endT (pre ++ t :: post) n) (pre.length : Int) = toS t :=
  tokAt_get (by simp [endT])
theorem endT_end (ts : List Tok) (n : Nat) : PTr.rd_T41 (endT ts n) (ts.length : Int) = toS ⟨4, [], n⟩ :=
  tokAt_get (by simp [endT])
theorem joinL_raw (ts : List Tok) : Ex.joinL (ts.map rawB) (⟨#[32]⟩ : ByteArray) = writeL ts := by
  unfold Ex.joinL writeL
  rw [List.map_map]
  rfl
theorem wrap_nat (i : Nat) (h : i < 1000000000000) : wrap64 ((i : Int) + 1) = ((i + 1 : Nat) : Int) := by unfold wrap64; omega
theorem quoteB (t : Tok) (hk : t.kind = 2) : ((⟨#[34]⟩ : ByteArray) ++ (⟨t.text.toArray⟩ : ByteArray)) ++ (⟨#[34]⟩ : ByteArray) = rawB t := by
  apply bytes_ext
  unfold rawB rawT
  rw [if_pos hk]
  simp
theorem lexW_l0 (ts : List Tok) (n : Nat) (hl : ts.length < 1000000000) (hk : ∀ t ∈ ts, t.kind ≤ 3 ∧ t.text.length < 1000000000) (hw : (writeL ts).length ≤ 140737488355328) :
    ∀ post pre, ts = pre ++ post → Ev (fun k => lex_Write.l0 k (pre.map rawB) (endT ts n) ((endT ts n).length : Int) (pre.length : Int)) ⟨(writeL ts).toArray⟩ := by
  intro post
  induction post with
  | nil =>
    intro pre e
    rw [List.append_nil] at e
    subst e
    have hlen := endT_len ts n
    refine Ev.step (f := fun k => lex_Write.j1 k (ts.map rawB) (endT ts n) ((endT ts n).length : Int) (ts.length : Int) 4 false 4 (⟨#[]⟩ : ByteArray) (n : Int)) (fun k => ?_) ?_
    · simp only [lex_Write.l0, endT_end, toS]
      rw [if_pos (by omega), if_pos (by omega), if_pos (by omega)]
      rfl
    · refine Ev.step (f := fun k => lex_Write.l0 k (ts.map rawB) (endT ts n) ((endT ts n).length : Int) (((ts.length + 1 : Nat)) : Int)) (fun k => ?_) ?_
      · simp only [lex_Write.j1]
        rw [if_neg (by decide), if_neg (by decide), wrap_nat _ (by omega)]
      · refine Ev.step (f := fun _ => some ⟨(writeL ts).toArray⟩) (fun k => ?_) (Ev.now _)
        simp only [lex_Write.l0]
        rw [if_neg (by omega)]
        unfold Ex.strings_Join.f
        rw [if_pos ⟨by rw [List.length_map]; omega, by rw [joinL_raw]; exact hw⟩, joinL_raw]
        rfl
  | cons t post ih =>
    intro pre e
    have hlen := endT_len ts n
    have htl : pre.length + 1 ≤ ts.length := by rw [e]; simp
    have hr := endT_at pre t post n
    rw [← e] at hr
    have ht := hk t (by rw [e]; simp)
    have h2 := ih (pre ++ [t]) (by rw [e]; simp)
    rw [List.map_append, List.length_append] at h2
    refine Ev.step (f := fun k => lex_Write.j1 k (pre.map rawB) (endT ts n) ((endT ts n).length : Int) (pre.length : Int) (t.kind : Nat) (decide (t.kind ≠ 2)) (t.kind : Nat) (⟨t.text.toArray⟩ : ByteArray) (t.at_ : Nat)) (fun k => ?_) ?_
    · simp only [lex_Write.l0, hr, toS]
      rw [if_pos (by omega), if_pos (by omega), if_pos (by omega)]
      have h3 := ht.1
      rcases (show t.kind = 0 ∨ t.kind = 1 ∨ t.kind = 2 ∨ t.kind = 3 by omega) with e | e | e | e <;> rw [e] <;> rfl
    · refine Ev.step (f := fun k => lex_Write.l0 k (pre.map rawB ++ [rawB t]) (endT ts n) ((endT ts n).length : Int) (((pre.length + 1 : Nat)) : Int)) (fun k => ?_) h2
      simp only [lex_Write.j1]
      rw [wrap_nat _ (by omega)]
      by_cases c : t.kind = 2
      · rw [if_neg (by simp [c]), if_pos (by omega)]
        have hs : (⟨t.text.toArray⟩ : ByteArray).size = t.text.length := by rw [Lib.size_eq]
        have hs2 : ((⟨#[34]⟩ : ByteArray) ++ (⟨t.text.toArray⟩ : ByteArray)).size = 1 + t.text.length := by rw [ByteArray.size_append, hs]; rfl
        rw [if_pos (by rw [hs]; have := ht.2; omega), if_pos (by rw [hs2]; have := ht.2; omega), if_pos (by rw [List.length_map]; omega), quoteB t c]
      · rw [if_pos (by simpa using c), if_pos (by rw [List.length_map]; omega)]
        have : rawB t = ⟨t.text.toArray⟩ := by unfold rawB rawT; rw [if_neg c]
        rw [this]
theorem lexW_f (ts : List Tok) (n : Nat) (hl : ts.length < 1000000000) (hk : ∀ t ∈ ts, t.kind ≤ 3 ∧ t.text.length < 1000000000) (hw : (writeL ts).length ≤ 140737488355328) :
    Ev (fun k => lex_Write.f k (endT ts n)) ⟨(writeL ts).toArray⟩ := lexW_l0 ts n hl hk hw ts [] rfl
theorem firstL_k3 (s : List UInt8) : (firstL s).1 ≤ 3 := by
  unfold firstL
  split
  · exact Nat.le_refl 3
  · split
    · exact Nat.zero_le 3
    · split
      · exact Nat.le_add_left 1 2
      · split
        · exact Nat.le_succ 2
        · exact Nat.le_refl 3
theorem good_kind {t : Tok} (h : good t) : t.kind ≤ 3 ∧ t.text.length < 1000000000 := by
  have h1 := firstL_k3 (rawT t)
  rw [h.2] at h1
  refine ⟨h1, ?_⟩
  have h2 := h.1
  unfold okTok at h2
  simp only [Bool.and_eq_true, decide_eq_true_eq] at h2
  have h3 := h2.2
  have h4 : (rawT t).length ≤ 502 := by split at h3 <;> omega
  unfold rawT at h4
  split at h4
  · simp at h4; omega
  · omega
theorem rawT_of (k : Nat) (x : List UInt8) (at_ : Nat) (h : gtok k x) : rawT (tokOf (k, x) at_) = x := by
  have h1 := h.1
  rw [← h.2] at h1
  have := (tok_form h1 at_).2
  rw [h.2] at this
  exact this
theorem bnd_nil (k : Nat) : bnd k [] := ⟨fun _ => by intro c hc; simp at hc, fun _ => ⟨by intro c hc; simp at hc, by simp⟩, fun _ => by simp⟩
theorem scan_one (k : Nat) (x : List UInt8) (h : gtok k x) : scanL x = ([tokOf (k, x) 0, ⟨4, [], x.length⟩], 0, 0) := by
  have h1 : okP [(k, x, [])] := ⟨h.1, h.2, by simp, by simp only [cat, List.nil_append]; exact bnd_nil k, trivial⟩
  have h2 := h.1
  unfold okTok at h2
  simp only [Bool.and_eq_true, decide_eq_true_eq] at h2
  have h3 := h2.2
  have h4 : x.length ≤ 502 := by split at h3 <;> omega
  have h5 : cat [(k, x, [])] = x := by simp [cat]
  have := scanL_cat [(k, x, [])] h1 (by rw [h5]; omega)
  rw [h5] at this
  rw [this]
  rfl
def oneL (x : List UInt8) (kd : Nat) : Prop := ∃ t, scanL x = ([t, ⟨4, [], x.length⟩], 0, 0) ∧ t.kind = kd ∧ t.at_ = 0 ∧ rawT t = x
theorem oneL_iff (x : List UInt8) (kd : Nat) : oneL x kd ↔ gtok kd x := by
  constructor
  · rintro ⟨t, h1, h2, h3, h4⟩
    have h0 : (scanL x).2.1 = 0 := by rw [h1]
    obtain ⟨ts, hc, hl, hs⟩ := ch_of_scanL h0
    rw [h1] at hs
    have hts : ts = [t] := by
      have e := congrArg Prod.fst hs
      simp only at e
      have e2 : [t] ++ [(⟨4, [], x.length⟩ : Tok)] = ts ++ [⟨4, [], x.length⟩] := e
      exact (List.append_cancel_right e2).symm
    subst hts
    have hg := Ch.good hc t (by simp)
    unfold good at hg
    rw [h2, h4] at hg
    exact hg
  · intro h
    exact ⟨_, scan_one kd x h, rfl, rfl, rawT_of kd x 0 h⟩
theorem z0 : ((0 : Nat) : Int) = 0 := rfl
theorem writeL_one (t : Tok) : writeL [t] = rawT t := Lib.join_one _ _
open Classical in
theorem one_core (x : ByteArray) (kd : Nat) :
    Ev (fun k => (Ex.lex_Scan.f x).bind fun bt122 => (if bt122.2.1 = 0 then (if (bt122.1.length : Int) = 2 then (if 0 < (bt122.1.length : Int) then (if ((rd_T41 bt122.1 0).f0) = (kd : Int) then (if ((rd_T41 bt122.1 0).f2) = 0 then ((lex_Write.f k bt122.1).bind fun t129 => (some (t129.toList == x.toList))) else (some false)) else (some false)) else (none)) else (some false)) else (some false)))
      (decide (gtok kd x.data.toList)) := by
  rw [← decide_eq_decide.2 (oneL_iff x.data.toList kd)]
  unfold Ex.lex_Scan.f
  simp only [Option.bind_some]
  by_cases hs : (scanL x.data.toList).2.1 = 0
  · obtain ⟨ts, hc, hl, hsc⟩ := ch_of_scanL hs
    rw [hsc]
    simp only
    have hno : (¬ oneL x.data.toList kd) → decide (oneL x.data.toList kd) = false := fun h => decide_eq_false h
    have hinv : ∀ t, oneL x.data.toList kd → ts = [t] → t.kind = kd ∧ t.at_ = 0 ∧ rawT t = x.data.toList := by
      rintro t ⟨u, h1, h2, h3, h4⟩ rfl
      rw [hsc] at h1
      have e := congrArg Prod.fst h1
      simp only at e
      have e2 : [t] ++ [(⟨4, [], x.data.toList.length⟩ : Tok)] = [u] ++ [⟨4, [], x.data.toList.length⟩] := e
      have e3 := List.append_cancel_right e2
      injection e3 with e3
      subst e3
      exact ⟨h2, h3, h4⟩
    have hlen : ((ts ++ [(⟨4, [], x.data.toList.length⟩ : Tok)]).map toS).length = ts.length + 1 := by simp
    match ts, hc, hsc, hinv, hlen with
    | [], _, hsc, _, _ =>
      refine Ev.congr (f := fun _ => some false) (fun k => ?_) ?_
      · rw [if_pos z0, if_neg (by simp)]
      · rw [hno]
        · exact Ev.now _
        · rintro ⟨t, h1, _⟩
          rw [hsc] at h1
          have := congrArg (fun z => z.1.length) h1
          simp at this
    | a :: b :: r, _, hsc, _, _ =>
      refine Ev.congr (f := fun _ => some false) (fun k => ?_) ?_
      · rw [if_pos z0, if_neg (by simp; omega)]
      · rw [hno]
        · exact Ev.now _
        · rintro ⟨t, h1, _⟩
          rw [hsc] at h1
          have := congrArg (fun z => z.1.length) h1
          simp at this
    | [t], hc, hsc, hinv, _ =>
      have hrd : rd_T41 (([t] ++ [(⟨4, [], x.data.toList.length⟩ : Tok)]).map toS) 0 = toS t := rfl
      simp only [hrd]
      have hgk := good_kind (Ch.good hc t (by simp))
      have hin : oneL x.data.toList kd ↔ (t.kind = kd ∧ t.at_ = 0 ∧ rawT t = x.data.toList) := ⟨fun h => hinv t h rfl, fun h => ⟨t, hsc, h⟩⟩
      by_cases c1 : t.kind = kd
      · by_cases c2 : t.at_ = 0
        · have hw := lexW_f [t] x.data.toList.length (by simp) (by simpa using hgk) (by
            rw [writeL_one]; unfold rawT; have := hgk.2; split <;> simp <;> omega)
          rw [writeL_one] at hw
          refine Ev.congr (f := fun k => (lex_Write.f k (endT [t] x.data.toList.length)).bind fun t129 => (some (t129.toList == x.toList))) (fun k => ?_) (Ev.bind hw ?_)
          · rw [if_pos z0, if_pos (by simp), if_pos (by simp), if_pos (by unfold toS; simp only; omega), if_pos (by unfold toS; simp only; omega)]
            rfl
          · have : ((⟨(rawT t).toArray⟩ : ByteArray).toList == x.toList) = decide (oneL x.data.toList kd) := by
              rw [Lib.toList_data, Lib.toList_data, Bool.eq_iff_iff, decide_eq_true_iff, hin]
              simp [c1, c2]
            rw [this]
            exact Ev.now _
        · refine Ev.congr (f := fun _ => some false) (fun k => ?_) ?_
          · rw [if_pos z0, if_pos (by simp), if_pos (by simp), if_pos (by unfold toS; simp only; omega), if_neg (by unfold toS; simp only; omega)]
          · rw [hno (by rw [hin]; exact fun h => c2 h.2.1)]
            exact Ev.now _
      · refine Ev.congr (f := fun _ => some false) (fun k => ?_) ?_
        · rw [if_pos z0, if_pos (by simp), if_pos (by simp), if_neg (by unfold toS; simp only; omega)]
        · rw [hno (by rw [hin]; exact fun h => c1 h.1)]
          exact Ev.now _
  · refine Ev.congr (f := fun _ => some false) (fun k => ?_) ?_
    · rw [if_neg (by omega)]
    · rw [decide_eq_false]
      · exact Ev.now _
      · rintro ⟨t, h1, _⟩
        rw [h1] at hs
        exact hs rfl
open Classical in
theorem one_name (x : ByteArray) : Ev (fun k => tree_one.f k x 0) (decide (gtok 0 x.data.toList)) := by
  refine Ev.congr (fun k => ?_) (one_core x 0)
  unfold tree_one.f
  rw [if_neg (by decide)]
  rfl
open Classical in
theorem one_text (x : ByteArray) (hx : x.size < 1000000000) : Ev (fun k => tree_one.f k x 2) (decide (gtok 2 (34 :: (x.data.toList ++ [34])))) := by
  have h := one_core (((⟨#[34]⟩ : ByteArray) ++ x) ++ (⟨#[34]⟩ : ByteArray)) 2
  have e : (((⟨#[34]⟩ : ByteArray) ++ x) ++ (⟨#[34]⟩ : ByteArray)).data.toList = 34 :: (x.data.toList ++ [34]) := by simp
  rw [e] at h
  refine Ev.congr (fun k => ?_) h
  unfold tree_one.f
  have h1 : (⟨#[34]⟩ : ByteArray).size = 1 := rfl
  rw [if_pos rfl, if_pos (by omega), if_pos (by rw [ByteArray.size_append, h1]; omega)]
  rfl
end Go.Proofs.YtahjkibjcibpgaaGreatDoor.L
end
section
namespace Go.Proofs.YtahjkibjcibpgaaGreatDoor.PTr
open Go.RowKit Go.Proofs.YtahjkibjcibpgaaGreatDoorW.Sq Go.Proofs.YtahjkibjcibpgaaGreatDoorW.PrintWords Go.Proofs.YtahjkibjcibpgaaGreatDoorW.PrintLast Go.Proofs.YtahjkibjcibpgaaGreatDoorW.PrintMore
attribute [local go_sem] max2_int min2_int max_two min_two max_three min_three max_four min_four   -- for this text's walks alone
set_option linter.unusedVariables false
set_option linter.unusedSimpArgs false
theorem eqA23 (d : Nat) (w : World) (x0 y0 : Int) (x1 y1 : Int) :
    (Op.equalIn (d + 2) 23 (.agg #[.int .i64 x0, .int .i64 x1]) (.agg #[.int .i64 y0, .int .i64 y1])).run Tryz.prog w = .ok (x0 == y0 && (x1 == y1)) w := by
  refine eqA_of Tryz.underlying23 (by kernel_rfl) ?_
  refine eqf_cons (by rfl) (by go_simp; rfl) (by go_simp; rfl) (by go_simp) ?_
  exact eqf_last (by rfl) (by go_simp; rfl) (by go_simp; rfl) (by go_simp)
end Go.Proofs.YtahjkibjcibpgaaGreatDoor.PTr
end
section
namespace Go.Proofs.YtahjkibjcibpgaaGreatDoor.PTr
open Go.RowKit Go.Proofs.YtahjkibjcibpgaaGreatDoorW.Sq Go.Proofs.YtahjkibjcibpgaaGreatDoorW.PrintWords Go.Proofs.YtahjkibjcibpgaaGreatDoorW.PrintLast Go.Proofs.YtahjkibjcibpgaaGreatDoorW.PrintMore
attribute [local go_sem] max2_int min2_int max_two min_two max_three min_three max_four min_four   -- for this text's walks alone
set_option linter.unusedVariables false
set_option linter.unusedSimpArgs false
attribute [local go_sem high] eqA23
def tree_plain.f (a0_0 : Int) (a0_1 : ByteArray) (a0_2 : Int) (a0_3 : Int) (a0_4 : Int) (l0_5 : List (S26)) : Option (Bool) := if a0_0 = 3 then (if a0_0 = 1 then (if (l0_5.length : Int) = 0 then (if a0_0 = 5 then (some true) else (some (a0_2 == 0 && (a0_3 == 0)))) else (some false)) else (if a0_0 = 2 then (if (l0_5.length : Int) = 0 then (if a0_0 = 5 then (some true) else (some (a0_2 == 0 && (a0_3 == 0)))) else (some false)) else (if (l0_5.length : Int) = 0 then (if a0_0 = 5 then (some true) else (some (a0_2 == 0 && (a0_3 == 0)))) else (some false)))) else (if a0_0 = 4 then (if a0_0 = 1 then (if (l0_5.length : Int) = 0 then (if a0_0 = 5 then (some true) else (some (a0_2 == 0 && (a0_3 == 0)))) else (some false)) else (if a0_0 = 2 then (if (l0_5.length : Int) = 0 then (if a0_0 = 5 then (some true) else (some (a0_2 == 0 && (a0_3 == 0)))) else (some false)) else (if (l0_5.length : Int) = 0 then (if a0_0 = 5 then (some true) else (some (a0_2 == 0 && (a0_3 == 0)))) else (some false)))) else (if a0_0 = 5 then (if a0_0 = 1 then (if (l0_5.length : Int) = 0 then (some true) else (some false)) else (if a0_0 = 2 then (if (l0_5.length : Int) = 0 then (some true) else (some false)) else (if (l0_5.length : Int) = 0 then (if a0_1.toList = ([] : List UInt8) then (some true) else (some false)) else (some false)))) else (if a0_0 = 1 then (some (a0_2 == 0 && (a0_3 == 0))) else (if a0_0 = 2 then (some (a0_2 == 0 && (a0_3 == 0))) else (if a0_1.toList = ([] : List UInt8) then (some (a0_2 == 0 && (a0_3 == 0))) else (some false))))))
def tree_plain.g (k : Int) (t : ByteArray) (a b : Int) (m : Nat) : Bool :=
  (if k = 3 ∨ k = 4 ∨ k = 5 then decide (m = 0) else true) && ((if k = 1 ∨ k = 2 ∨ k = 3 ∨ k = 4 then true else decide (t.toList = [])) && (if k = 5 then true else a == 0 && b == 0))
theorem ret_b {a b : Bool} (h : a = b) : Ending.returned (.bool a) = .returned (.bool b) := by rw [h]
set_option maxRecDepth 100000 in
set_option maxHeartbeats 4000000 in
theorem tree_plain.walk (k : Int) (t : ByteArray) (a b c : Int) (A : Option Addr) (cap m : Nat) (w : World) :
    Calls Tryz.prog 21 #[.agg #[.int .i64 k, .string t, .int .i64 a, .int .i64 b, .int .i64 c, .slice A m cap]] w fun e w' => e = .returned (.bool (tree_plain.g k t a b m)) ∧ Below w.heap.size w w' := by
  have hu23 := Tryz.underlying23
  by_cases h3 : k = 3
  · subst h3
    cases m
    all_goals
      go_enter Tryz.func21, Tryz.ntmps21
      go_wp2
      all_goals
        go_ret
        exact ⟨ret_b (by simp [tree_plain.g, *]), (Below.refl w.heap.size w).alloc (Nat.le_refl _) _⟩
  skip
  by_cases h4 : k = 4
  · subst h4
    cases m
    all_goals
      go_enter Tryz.func21, Tryz.ntmps21
      go_wp2
      all_goals
        go_ret
        exact ⟨ret_b (by simp [tree_plain.g, *]), (Below.refl w.heap.size w).alloc (Nat.le_refl _) _⟩
  skip
  by_cases h5 : k = 5
  · subst h5
    cases m <;> by_cases ht : t.toList = []
    all_goals
      go_enter Tryz.func21, Tryz.ntmps21
      go_wp2
      all_goals
        go_ret
        exact ⟨ret_b (by simp [tree_plain.g, *]), (Below.refl w.heap.size w).alloc (Nat.le_refl _) _⟩
  skip
  by_cases h1 : k = 1
  · subst h1
    go_enter Tryz.func21, Tryz.ntmps21
    go_wp2
    all_goals
      go_ret
      exact ⟨ret_b (by simp [tree_plain.g, *]), (Below.refl w.heap.size w).alloc (Nat.le_refl _) _⟩
  skip
  by_cases h2 : k = 2
  · subst h2
    go_enter Tryz.func21, Tryz.ntmps21
    go_wp2
    all_goals
      go_ret
      exact ⟨ret_b (by simp [tree_plain.g, *]), (Below.refl w.heap.size w).alloc (Nat.le_refl _) _⟩
  skip
  have k5 : (k == 5) = false := by simpa using h5
  by_cases ht : t.toList = []
  all_goals
    go_enter Tryz.func21, Tryz.ntmps21
    go_wp2
    all_goals
      go_ret
      exact ⟨ret_b (by simp [tree_plain.g, *]), (Below.refl w.heap.size w).alloc (Nat.le_refl _) _⟩
theorem tree_plain.calls (a0_0 : Int) (a0_1 : ByteArray) (a0_2 : Int) (a0_3 : Int) (a0_4 : Int) (A0_5 : Option Addr) (c0_5 : Nat) (l0_5 : List S26) (r : Bool) (w : World) (_hr0_5 : Kd.C k26 w A0_5 l0_5.length l0_5) (_hc0_5 : l0_5.length ≤ c0_5) (h : tree_plain.f a0_0 a0_1 a0_2 a0_3 a0_4 l0_5 = some r) :
    Calls Tryz.prog 21 #[.agg #[.int .i64 a0_0, .string a0_1, .int .i64 a0_2, .int .i64 a0_3, .int .i64 a0_4, .slice A0_5 l0_5.length c0_5]] w fun e w' => e = .returned (.bool r) ∧ Below w.heap.size w w' := by
  have e : tree_plain.f a0_0 a0_1 a0_2 a0_3 a0_4 l0_5 = some (tree_plain.g a0_0 a0_1 a0_2 a0_3 l0_5.length) := by
    unfold tree_plain.f tree_plain.g
    have hl : ((l0_5.length : Int) = 0) = (l0_5.length = 0) := by simp
    simp only [hl]
    generalize l0_5.length = m
    by_cases h3 : a0_0 = 3
    · subst h3; by_cases hm : m = 0 <;> simp [hm]
    by_cases h4 : a0_0 = 4
    · subst h4; by_cases hm : m = 0 <;> simp [hm]
    by_cases h5 : a0_0 = 5
    · subst h5; by_cases hm : m = 0 <;> by_cases ht : a0_1.toList = [] <;> simp [hm, ht]
    by_cases h1 : a0_0 = 1
    · subst h1; simp
    by_cases h2 : a0_0 = 2
    · subst h2; simp
    by_cases ht : a0_1.toList = [] <;> simp [h1, h2, h3, h4, h5, ht]
  obtain rfl := Option.some.inj (e.symm.trans h)
  exact tree_plain.walk _ _ _ _ _ _ _ _ _
end Go.Proofs.YtahjkibjcibpgaaGreatDoor.PTr
end
section
namespace Go.Proofs.YtahjkibjcibpgaaGreatDoor.PTr
open Go.RowKit Go.Proofs.YtahjkibjcibpgaaGreatDoorW.Sq Go.Proofs.YtahjkibjcibpgaaGreatDoorW.PrintWords Go.Proofs.YtahjkibjcibpgaaGreatDoorW.PrintLast Go.Proofs.YtahjkibjcibpgaaGreatDoorW.PrintMore
attribute [local go_sem] max2_int min2_int max_two min_two max_three min_three max_four min_four   -- for this text's walks alone
set_option linter.unusedVariables false
set_option linter.unusedSimpArgs false
mutual
def tree_value.l0 : Nat → Int → List (S26) → Int → Int → Int → ByteArray → Int → Int → Int → List (S26) → Option (Bool)
  | 0, _, _, _, _, _, _, _, _, _, _ => none
  | k + 1, x1, x49, x50, x51, x131000, x131001, x131002, x131003, x131004, x131005 => if x51 < x50 then (if 0 ≤ x51 then (if x51 < (x49.length : Int) then (if x1 = 40 then (some false) else ((tree_value.f k ((rd_T26 x49 x51).f0) ((rd_T26 x49 x51).f1) ((rd_T26 x49 x51).f2.f0) ((rd_T26 x49 x51).f2.f1) ((rd_T26 x49 x51).f3) ((rd_T26 x49 x51).f4) (wrap64 (x1 + 1))).bind fun t136 => (if t136 = true then (tree_value.l0 k x1 x49 x50 (wrap64 (x51 + 1)) x131000 x131001 x131002 x131003 x131004 x131005) else (some false)))) else (none)) else (none)) else (if x1 < 40 then (some (decide ((x131005.length : Int) > 0))) else (some false))
def tree_value.f : Nat → Int → ByteArray → Int → Int → Int → List (S26) → Int → Option (Bool)
  | 0, _, _, _, _, _, _, _ => none
  | k + 1, a0_0, a0_1, a0_2, a0_3, a0_4, l0_5, a1 => (tree_plain.f a0_0 a0_1 a0_2 a0_3 a0_4 l0_5).bind fun t131 => (if t131 = true then (if a0_0 = 3 then ((tree_one.f k a0_1 0).bind fun t132 => (some t132)) else (if a0_0 = 4 then ((tree_one.f k a0_1 2).bind fun t133 => (some t133)) else (if a0_0 = 5 then (if a0_2 ≥ 0 then (if a0_2 ≤ 1125899906842624 then (if a0_3 ≥ 0 then (some (decide (a0_3 ≤ 6))) else (some false)) else (some false)) else (some false)) else (if a0_0 = 6 then (tree_value.l0 k a1 l0_5 (l0_5.length : Int) 0 a0_0 a0_1 a0_2 a0_3 a0_4 l0_5) else (some false))))) else (some false))
end
theorem tree_value.mono_l : ∀ k, (∀ y0 y1 y2 y3 y4 y5 y6, LeO (tree_value.f k y0 y1 y2 y3 y4 y5 y6) (tree_value.f (k + 1) y0 y1 y2 y3 y4 y5 y6)) ∧ (∀ y0 y1 y2 y3 y4 y5 y6 y7 y8 y9, LeO (tree_value.l0 k y0 y1 y2 y3 y4 y5 y6 y7 y8 y9) (tree_value.l0 (k + 1) y0 y1 y2 y3 y4 y5 y6 y7 y8 y9))
  | 0 => ⟨fun _ _ _ _ _ _ _ r h => by simp [tree_value.f] at h, fun _ _ _ _ _ _ _ _ _ _ r h => by simp [tree_value.l0] at h⟩
  | k + 1 => by
    obtain ⟨ih0, ih1⟩ := tree_value.mono_l k
    refine ⟨?_, ?_⟩
    · intro y0 y1 y2 y3 y4 y5 y6
      unfold tree_value.f
      repeat' first
      | (with_reducible exact ih0 _ _ _ _ _ _ _)
      | (with_reducible exact ih1 _ _ _ _ _ _ _ _ _ _)
      | (with_reducible exact tree_one.mono _ _ _)
      | (with_reducible exact LeO.refl _)
      | (with_reducible exact LeO.none _)
      | (with_reducible refine LeO.ite ?_ ?_)
      | (with_reducible refine LeO.bind ?_ (fun _ => ?_))
      | exact ih0 _ _ _ _ _ _ _
      | exact ih1 _ _ _ _ _ _ _ _ _ _
      | exact tree_one.mono _ _ _
      | exact LeO.none _
      | refine LeO.ite ?_ ?_
      | refine LeO.bind ?_ (fun _ => ?_)
    intro y0 y1 y2 y3 y4 y5 y6 y7 y8 y9
    unfold tree_value.l0
    repeat' first
    | (with_reducible exact ih0 _ _ _ _ _ _ _)
    | (with_reducible exact ih1 _ _ _ _ _ _ _ _ _ _)
    | (with_reducible exact tree_one.mono _ _ _)
    | (with_reducible exact LeO.refl _)
    | (with_reducible exact LeO.none _)
    | (with_reducible refine LeO.ite ?_ ?_)
    | (with_reducible refine LeO.bind ?_ (fun _ => ?_))
    | exact ih0 _ _ _ _ _ _ _
    | exact ih1 _ _ _ _ _ _ _ _ _ _
    | exact tree_one.mono _ _ _
    | exact LeO.none _
    | refine LeO.ite ?_ ?_
    | refine LeO.bind ?_ (fun _ => ?_)
theorem tree_value.mono : ∀ a0 a1 a2 a3 a4 a5 a6 k, LeO (tree_value.f k a0 a1 a2 a3 a4 a5 a6) (tree_value.f (k + 1) a0 a1 a2 a3 a4 a5 a6) := by
  intro a0 a1 a2 a3 a4 a5 a6 k
  obtain ⟨ih0, ih1⟩ := tree_value.mono_l k
  exact ih0 a0 a1 a2 a3 a4 a5 a6
set_option maxHeartbeats 8000000 in
set_option maxRecDepth 100000 in
theorem tree_value.calls (k : Nat) : ∀ (a0_0 : Int) (a0_1 : ByteArray) (a0_2 : Int) (a0_3 : Int) (a0_4 : Int) (A0_5 : Option Addr) (c0_5 : Nat) (l0_5 : List (S26)) (a1 : Int) (r : Bool) (w : World) (hg : Go.Proofs.YtahjkibjcibpgaaGreatDoor.U.UW w) (hr0_5 : Kd.C k26 w A0_5 l0_5.length l0_5) (hc0_5 : l0_5.length ≤ c0_5) (h : tree_value.f k a0_0 a0_1 a0_2 a0_3 a0_4 l0_5 a1 = some r),
    Calls Tryz.prog 35 #[.agg #[.int .i64 a0_0, .string a0_1, .int .i64 a0_2, .int .i64 a0_3, .int .i64 a0_4, .slice A0_5 l0_5.length c0_5], .int .i64 a1] w fun e w' => e = .returned (.bool r) ∧ Below w.heap.size w w' := by
  induction k using Nat.strongRecOn with
  | _ k ih =>
  intro a0_0 a0_1 a0_2 a0_3 a0_4 A0_5 c0_5 l0_5 a1 r w hg hr0_5 hc0_5 h
  cases k with
  | zero => exact absurd h (by simp [tree_value.f])
  | succ k =>
  simp only [tree_value.f] at h
  have hu26 := Tryz.underlying26
  have HR0_5 := Aside0.mk hr0_5
  have HC0_5 := Aside0.mk hc0_5
  clear hr0_5 hc0_5
  have HB := Aside0.mk (Below.refl w.heap.size w)
  have HGW := Aside0.mk hg
  clear hg
  have H : ((tree_plain.f a0_0 a0_1 a0_2 a0_3 a0_4 l0_5).bind fun t131 => (if t131 = true then (if a0_0 = 3 then ((tree_one.f k a0_1 0).bind fun t132 => (some t132)) else (if a0_0 = 4 then ((tree_one.f k a0_1 2).bind fun t133 => (some t133)) else (if a0_0 = 5 then (if a0_2 ≥ 0 then (if a0_2 ≤ 1125899906842624 then (if a0_3 ≥ 0 then (some (decide (a0_3 ≤ 6))) else (some false)) else (some false)) else (some false)) else (if a0_0 = 6 then (tree_value.l0 k a1 l0_5 (l0_5.length : Int) 0 a0_0 a0_1 a0_2 a0_3 a0_4 l0_5) else (some false))))) else (some false))) = some r := h
  clear h
  replace H := Option.bind_eq_some_iff.mp H
  obtain ⟨t131, A30, H⟩ := H
  replace H : (if t131 = true then (if a0_0 = 3 then ((tree_one.f k a0_1 0).bind fun t132 => (some t132)) else (if a0_0 = 4 then ((tree_one.f k a0_1 2).bind fun t133 => (some t133)) else (if a0_0 = 5 then (if a0_2 ≥ 0 then (if a0_2 ≤ 1125899906842624 then (if a0_3 ≥ 0 then (some (decide (a0_3 ≤ 6))) else (some false)) else (some false)) else (some false)) else (if a0_0 = 6 then (tree_value.l0 k a1 l0_5 (l0_5.length : Int) 0 a0_0 a0_1 a0_2 a0_3 a0_4 l0_5) else (some false))))) else (some false)) = some r := H
  have A3 := Aside0.mk A30
  clear A30
  by_cases c4 : t131 = true
  · subst c4
    have H1 : (if a0_0 = 3 then ((tree_one.f k a0_1 0).bind fun t132 => (some t132)) else (if a0_0 = 4 then ((tree_one.f k a0_1 2).bind fun t133 => (some t133)) else (if a0_0 = 5 then (if a0_2 ≥ 0 then (if a0_2 ≤ 1125899906842624 then (if a0_3 ≥ 0 then (some (decide (a0_3 ≤ 6))) else (some false)) else (some false)) else (some false)) else (if a0_0 = 6 then (tree_value.l0 k a1 l0_5 (l0_5.length : Int) 0 a0_0 a0_1 a0_2 a0_3 a0_4 l0_5) else (some false))))) = some r := by rw [if_pos rfl] at H; exact H
    clear H
    have H := H1
    clear H1
    by_cases c5 : a0_0 = 3
    · rw [if_pos c5] at H
      have c5b0 : (a0_0 == 3) = true := beq_iff_eq.mpr c5
      have c5b1 : (a0_0 != 3) = false := bne_eq_false_iff_eq.mpr c5
      clear c5
      replace H := Option.bind_eq_some_iff.mp H
      obtain ⟨t132, A60, H⟩ := H
      replace H : (some t132) = some r := H
      have A6 := Aside0.mk A60
      clear A60
      obtain rfl := Option.some.inj H
      go_enter Tryz.func35, Tryz.ntmps35
      go_wp2_with (first | ((with_reducible refine gate_dst (N := 2) rfl ?_); (try (refine gate_guard (by rfl) ?_; dsimp only)); refine box_event ?hg (N := 2) ?hd (cs := #[.int .i64 a0_0, .string a0_1, .int .i64 a0_2, .int .i64 a0_3, .int .i64 a0_4, .slice A0_5 l0_5.length c0_5]) (t := 26) ?hr ?_; (case hd => rfl); (case hg => rfl); (case hr => first | (go_simp; done) | (go_simp; rfl)); intro gb130 hg w7 hbox hb; have n0_ := Aside0.mk (below_step (by repeat with_reducible first|exact HB.out|apply ba|apply bN|apply bd) hb); have n1_ := Aside0.mk (hbox); have n2_ := Aside0.mk ((by rw [hg]; exact (below_size (by repeat with_reducible first|exact HB.out|apply ba|apply bN|apply bd)) : w.heap.size ≤ gb130)); have n3_ := Aside0.mk ((by rw [hg]; exact (below_size (by repeat with_reducible first|exact HB.out|apply ba|apply bN|apply bd)) : w.heap.size ≤ gb130)); clear HB; have HB := n0_; have BK130 := n1_; have GW130 := n2_; have GE130 := n3_; clear n0_ n1_ n2_ n3_; clear hb hbox hg; obtain ⟨hcz8_0, hcz8_1, hcz8_2, hcz8_3, hcz8_4, hcz8_5, hfz8_0, hfz8_1, hfz8_2, hfz8_3, hfz8_4, hfz8_5⟩ := cl6 BK130.out) | ((with_reducible refine gate_callee (f := 21) rfl ?_); refine goesL_ (some 8) rfl rfl Tryz.func21 (by kernel_rfl) rfl #[.agg #[.int .i64 a0_0, .string a0_1, .int .i64 a0_2, .int .i64 a0_3, .int .i64 a0_4, .slice A0_5 l0_5.length c0_5]] rfl (by (try simp only [List.map_toArray, List.map_cons, List.map_nil]); first | done | rfl | (simp only [List.length_drop, List.length_take]; rfl) | (simp only [Int.toNat_natCast, ByteArray.extract_zero_size] <;> rfl) | (rw [Int.toNat_natCast, ByteArray.extract_zero_size] <;> rfl)) ?_; (with_reducible refine (tree_plain.calls a0_0 a0_1 a0_2 a0_3 a0_4 _ _ l0_5 true _ ?side1 ?side2 A3.out).mono ?_); (case side1 => repeat (first | exact (Kd.C_below HR0_5.out HB.out) | (with_reducible refine Kd.C_alloc ?_ _) | (with_reducible refine Kd.C_drewN ?_ _) | (with_reducible refine Kd.C_drew ?_))); (case side2 => exact HC0_5.out); rintro e w9 ⟨rfl, hb⟩; refine ⟨_, rfl, ?_⟩; have n0_ := Aside0.mk (blk_below (g := gb130) (o := .cells #[.int .i64 a0_0, .string a0_1, .int .i64 a0_2, .int .i64 a0_3, .int .i64 a0_4, .slice A0_5 l0_5.length c0_5] 26 (0, 0)) (by (with_reducible repeat first|refine kN ?_ _|refine kd ?_|refine ka ?_ _); exact BK130.out) hb); have n1_ := Aside0.mk (below_step (by repeat with_reducible first|exact HB.out|apply ba|apply bN|apply bd|refine below_set ?_ GE130.out) hb); clear BK130; clear HB; have BK130 := n0_; have HB := n1_; clear n0_ n1_; (try clear hb); (try clear hb2); (try clear hk); (try clear hi); obtain ⟨hcz10_0, hcz10_1, hcz10_2, hcz10_3, hcz10_4, hcz10_5, hfz10_0, hfz10_1, hfz10_2, hfz10_3, hfz10_4, hfz10_5⟩ := cl6 BK130.out) | ((with_reducible refine gate_callee (f := 34) rfl ?_); refine goesL_ (some 16) rfl rfl Tryz.func34 (by kernel_rfl) rfl #[.string a0_1, .int .i64 0] rfl (by (try simp only [List.map_toArray, List.map_cons, List.map_nil]); first | done | rfl | (simp only [List.length_drop, List.length_take]; rfl) | (simp only [Int.toNat_natCast, ByteArray.extract_zero_size] <;> rfl) | (rw [Int.toNat_natCast, ByteArray.extract_zero_size] <;> rfl)) ?_; (with_reducible refine (tree_one.calls k a0_1 0 t132 _ ?side1 A6.out).mono ?_); (case side1 => exact Go.Proofs.YtahjkibjcibpgaaGreatDoor.U.UW.step HGW.out (by repeat with_reducible first|exact HB.out|apply ba|apply bN|apply bd|refine below_set ?_ GE130.out)); rintro e w11 ⟨rfl, hb⟩; refine ⟨_, rfl, ?_⟩; have n0_ := Aside0.mk (blk_below (g := gb130) (o := .cells #[.int .i64 a0_0, .string a0_1, .int .i64 a0_2, .int .i64 a0_3, .int .i64 a0_4, .slice A0_5 l0_5.length c0_5] 26 (0, 0)) (by (with_reducible repeat first|refine kN ?_ _|refine kd ?_|refine ka ?_ _); exact BK130.out) hb); have n1_ := Aside0.mk (below_step (by repeat with_reducible first|exact HB.out|apply ba|apply bN|apply bd|refine below_set ?_ GE130.out) hb); clear BK130; clear HB; have BK130 := n0_; have HB := n1_; clear n0_ n1_; (try clear hb); (try clear hb2); (try clear hk); (try clear hi)))
      go_ret
      exact ⟨by first|rfl|(simp<;>rfl)|(simp [*]<;>rfl), by repeat with_reducible first|exact HB.out|apply ba|apply bN|apply bd|refine below_set ?_ GE130.out⟩
    rw [if_neg c5] at H
    have c5b0 : (a0_0 == 3) = false := beq_eq_false_iff_ne.mpr c5
    have c5b1 : (a0_0 != 3) = true := bne_iff_ne.mpr c5
    by_cases c12 : a0_0 = 4
    · rw [if_pos c12] at H
      have c12b0 : (a0_0 == 4) = true := beq_iff_eq.mpr c12
      have c12b1 : (a0_0 != 4) = false := bne_eq_false_iff_eq.mpr c12
      clear c12
      replace H := Option.bind_eq_some_iff.mp H
      obtain ⟨t133, A130, H⟩ := H
      replace H : (some t133) = some r := H
      have A13 := Aside0.mk A130
      clear A130
      obtain rfl := Option.some.inj H
      go_enter Tryz.func35, Tryz.ntmps35
      go_wp2_with (first | ((with_reducible refine gate_dst (N := 2) rfl ?_); (try (refine gate_guard (by rfl) ?_; dsimp only)); refine box_event ?hg (N := 2) ?hd (cs := #[.int .i64 a0_0, .string a0_1, .int .i64 a0_2, .int .i64 a0_3, .int .i64 a0_4, .slice A0_5 l0_5.length c0_5]) (t := 26) ?hr ?_; (case hd => rfl); (case hg => rfl); (case hr => first | (go_simp; done) | (go_simp; rfl)); intro gb130 hg w14 hbox hb; have n0_ := Aside0.mk (below_step (by repeat with_reducible first|exact HB.out|apply ba|apply bN|apply bd) hb); have n1_ := Aside0.mk (hbox); have n2_ := Aside0.mk ((by rw [hg]; exact (below_size (by repeat with_reducible first|exact HB.out|apply ba|apply bN|apply bd)) : w.heap.size ≤ gb130)); have n3_ := Aside0.mk ((by rw [hg]; exact (below_size (by repeat with_reducible first|exact HB.out|apply ba|apply bN|apply bd)) : w.heap.size ≤ gb130)); clear HB; have HB := n0_; have BK130 := n1_; have GW130 := n2_; have GE130 := n3_; clear n0_ n1_ n2_ n3_; clear hb hbox hg; obtain ⟨hcz15_0, hcz15_1, hcz15_2, hcz15_3, hcz15_4, hcz15_5, hfz15_0, hfz15_1, hfz15_2, hfz15_3, hfz15_4, hfz15_5⟩ := cl6 BK130.out) | ((with_reducible refine gate_callee (f := 21) rfl ?_); refine goesL_ (some 8) rfl rfl Tryz.func21 (by kernel_rfl) rfl #[.agg #[.int .i64 a0_0, .string a0_1, .int .i64 a0_2, .int .i64 a0_3, .int .i64 a0_4, .slice A0_5 l0_5.length c0_5]] rfl (by (try simp only [List.map_toArray, List.map_cons, List.map_nil]); first | done | rfl | (simp only [List.length_drop, List.length_take]; rfl) | (simp only [Int.toNat_natCast, ByteArray.extract_zero_size] <;> rfl) | (rw [Int.toNat_natCast, ByteArray.extract_zero_size] <;> rfl)) ?_; (with_reducible refine (tree_plain.calls a0_0 a0_1 a0_2 a0_3 a0_4 _ _ l0_5 true _ ?side1 ?side2 A3.out).mono ?_); (case side1 => repeat (first | exact (Kd.C_below HR0_5.out HB.out) | (with_reducible refine Kd.C_alloc ?_ _) | (with_reducible refine Kd.C_drewN ?_ _) | (with_reducible refine Kd.C_drew ?_))); (case side2 => exact HC0_5.out); rintro e w16 ⟨rfl, hb⟩; refine ⟨_, rfl, ?_⟩; have n0_ := Aside0.mk (blk_below (g := gb130) (o := .cells #[.int .i64 a0_0, .string a0_1, .int .i64 a0_2, .int .i64 a0_3, .int .i64 a0_4, .slice A0_5 l0_5.length c0_5] 26 (0, 0)) (by (with_reducible repeat first|refine kN ?_ _|refine kd ?_|refine ka ?_ _); exact BK130.out) hb); have n1_ := Aside0.mk (below_step (by repeat with_reducible first|exact HB.out|apply ba|apply bN|apply bd|refine below_set ?_ GE130.out) hb); clear BK130; clear HB; have BK130 := n0_; have HB := n1_; clear n0_ n1_; (try clear hb); (try clear hb2); (try clear hk); (try clear hi); obtain ⟨hcz17_0, hcz17_1, hcz17_2, hcz17_3, hcz17_4, hcz17_5, hfz17_0, hfz17_1, hfz17_2, hfz17_3, hfz17_4, hfz17_5⟩ := cl6 BK130.out) | ((with_reducible refine gate_callee (f := 34) rfl ?_); refine goesL_ (some 21) rfl rfl Tryz.func34 (by kernel_rfl) rfl #[.string a0_1, .int .i64 2] rfl (by (try simp only [List.map_toArray, List.map_cons, List.map_nil]); first | done | rfl | (simp only [List.length_drop, List.length_take]; rfl) | (simp only [Int.toNat_natCast, ByteArray.extract_zero_size] <;> rfl) | (rw [Int.toNat_natCast, ByteArray.extract_zero_size] <;> rfl)) ?_; (with_reducible refine (tree_one.calls k a0_1 2 t133 _ ?side1 A13.out).mono ?_); (case side1 => exact Go.Proofs.YtahjkibjcibpgaaGreatDoor.U.UW.step HGW.out (by repeat with_reducible first|exact HB.out|apply ba|apply bN|apply bd|refine below_set ?_ GE130.out)); rintro e w18 ⟨rfl, hb⟩; refine ⟨_, rfl, ?_⟩; have n0_ := Aside0.mk (blk_below (g := gb130) (o := .cells #[.int .i64 a0_0, .string a0_1, .int .i64 a0_2, .int .i64 a0_3, .int .i64 a0_4, .slice A0_5 l0_5.length c0_5] 26 (0, 0)) (by (with_reducible repeat first|refine kN ?_ _|refine kd ?_|refine ka ?_ _); exact BK130.out) hb); have n1_ := Aside0.mk (below_step (by repeat with_reducible first|exact HB.out|apply ba|apply bN|apply bd|refine below_set ?_ GE130.out) hb); clear BK130; clear HB; have BK130 := n0_; have HB := n1_; clear n0_ n1_; (try clear hb); (try clear hb2); (try clear hk); (try clear hi)))
      go_ret
      exact ⟨by first|rfl|(simp<;>rfl)|(simp [*]<;>rfl), by repeat with_reducible first|exact HB.out|apply ba|apply bN|apply bd|refine below_set ?_ GE130.out⟩
    rw [if_neg c12] at H
    have c12b0 : (a0_0 == 4) = false := beq_eq_false_iff_ne.mpr c12
    have c12b1 : (a0_0 != 4) = true := bne_iff_ne.mpr c12
    by_cases c19 : a0_0 = 5
    · rw [if_pos c19] at H
      have c19b0 : (a0_0 == 5) = true := beq_iff_eq.mpr c19
      have c19b1 : (a0_0 != 5) = false := bne_eq_false_iff_eq.mpr c19
      clear c19
      by_cases c20 : a0_2 ≥ 0
      · rw [if_pos c20] at H
        have c20b0 : decide (0 ≤ a0_2) = true := decide_eq_true c20
        clear c20
        by_cases c21 : a0_2 ≤ 1125899906842624
        · rw [if_pos c21] at H
          have c21b0 : decide (a0_2 ≤ 1125899906842624) = true := decide_eq_true c21
          clear c21
          by_cases c22 : a0_3 ≥ 0
          · rw [if_pos c22] at H
            have c22b0 : decide (0 ≤ a0_3) = true := decide_eq_true c22
            clear c22
            obtain rfl := Option.some.inj H
            go_enter Tryz.func35, Tryz.ntmps35
            go_wp2_with (first | ((with_reducible refine gate_dst (N := 2) rfl ?_); (try (refine gate_guard (by rfl) ?_; dsimp only)); refine box_event ?hg (N := 2) ?hd (cs := #[.int .i64 a0_0, .string a0_1, .int .i64 a0_2, .int .i64 a0_3, .int .i64 a0_4, .slice A0_5 l0_5.length c0_5]) (t := 26) ?hr ?_; (case hd => rfl); (case hg => rfl); (case hr => first | (go_simp; done) | (go_simp; rfl)); intro gb130 hg w23 hbox hb; have n0_ := Aside0.mk (below_step (by repeat with_reducible first|exact HB.out|apply ba|apply bN|apply bd) hb); have n1_ := Aside0.mk (hbox); have n2_ := Aside0.mk ((by rw [hg]; exact (below_size (by repeat with_reducible first|exact HB.out|apply ba|apply bN|apply bd)) : w.heap.size ≤ gb130)); have n3_ := Aside0.mk ((by rw [hg]; exact (below_size (by repeat with_reducible first|exact HB.out|apply ba|apply bN|apply bd)) : w.heap.size ≤ gb130)); clear HB; have HB := n0_; have BK130 := n1_; have GW130 := n2_; have GE130 := n3_; clear n0_ n1_ n2_ n3_; clear hb hbox hg; obtain ⟨hcz24_0, hcz24_1, hcz24_2, hcz24_3, hcz24_4, hcz24_5, hfz24_0, hfz24_1, hfz24_2, hfz24_3, hfz24_4, hfz24_5⟩ := cl6 BK130.out) | ((with_reducible refine gate_callee (f := 21) rfl ?_); refine goesL_ (some 8) rfl rfl Tryz.func21 (by kernel_rfl) rfl #[.agg #[.int .i64 a0_0, .string a0_1, .int .i64 a0_2, .int .i64 a0_3, .int .i64 a0_4, .slice A0_5 l0_5.length c0_5]] rfl (by (try simp only [List.map_toArray, List.map_cons, List.map_nil]); first | done | rfl | (simp only [List.length_drop, List.length_take]; rfl) | (simp only [Int.toNat_natCast, ByteArray.extract_zero_size] <;> rfl) | (rw [Int.toNat_natCast, ByteArray.extract_zero_size] <;> rfl)) ?_; (with_reducible refine (tree_plain.calls a0_0 a0_1 a0_2 a0_3 a0_4 _ _ l0_5 true _ ?side1 ?side2 A3.out).mono ?_); (case side1 => repeat (first | exact (Kd.C_below HR0_5.out HB.out) | (with_reducible refine Kd.C_alloc ?_ _) | (with_reducible refine Kd.C_drewN ?_ _) | (with_reducible refine Kd.C_drew ?_))); (case side2 => exact HC0_5.out); rintro e w25 ⟨rfl, hb⟩; refine ⟨_, rfl, ?_⟩; have n0_ := Aside0.mk (blk_below (g := gb130) (o := .cells #[.int .i64 a0_0, .string a0_1, .int .i64 a0_2, .int .i64 a0_3, .int .i64 a0_4, .slice A0_5 l0_5.length c0_5] 26 (0, 0)) (by (with_reducible repeat first|refine kN ?_ _|refine kd ?_|refine ka ?_ _); exact BK130.out) hb); have n1_ := Aside0.mk (below_step (by repeat with_reducible first|exact HB.out|apply ba|apply bN|apply bd|refine below_set ?_ GE130.out) hb); clear BK130; clear HB; have BK130 := n0_; have HB := n1_; clear n0_ n1_; (try clear hb); (try clear hb2); (try clear hk); (try clear hi); obtain ⟨hcz26_0, hcz26_1, hcz26_2, hcz26_3, hcz26_4, hcz26_5, hfz26_0, hfz26_1, hfz26_2, hfz26_3, hfz26_4, hfz26_5⟩ := cl6 BK130.out))
            go_ret
            exact ⟨by first|rfl|(simp<;>rfl)|(simp [*]<;>rfl), by repeat with_reducible first|exact HB.out|apply ba|apply bN|apply bd|refine below_set ?_ GE130.out⟩
          rw [if_neg c22] at H
          have c22b0 : decide (0 ≤ a0_3) = false := decide_eq_false c22
          clear c22
          obtain rfl := Option.some.inj H
          go_enter Tryz.func35, Tryz.ntmps35
          go_wp2_with (first | ((with_reducible refine gate_dst (N := 2) rfl ?_); (try (refine gate_guard (by rfl) ?_; dsimp only)); refine box_event ?hg (N := 2) ?hd (cs := #[.int .i64 a0_0, .string a0_1, .int .i64 a0_2, .int .i64 a0_3, .int .i64 a0_4, .slice A0_5 l0_5.length c0_5]) (t := 26) ?hr ?_; (case hd => rfl); (case hg => rfl); (case hr => first | (go_simp; done) | (go_simp; rfl)); intro gb130 hg w27 hbox hb; have n0_ := Aside0.mk (below_step (by repeat with_reducible first|exact HB.out|apply ba|apply bN|apply bd) hb); have n1_ := Aside0.mk (hbox); have n2_ := Aside0.mk ((by rw [hg]; exact (below_size (by repeat with_reducible first|exact HB.out|apply ba|apply bN|apply bd)) : w.heap.size ≤ gb130)); have n3_ := Aside0.mk ((by rw [hg]; exact (below_size (by repeat with_reducible first|exact HB.out|apply ba|apply bN|apply bd)) : w.heap.size ≤ gb130)); clear HB; have HB := n0_; have BK130 := n1_; have GW130 := n2_; have GE130 := n3_; clear n0_ n1_ n2_ n3_; clear hb hbox hg; obtain ⟨hcz28_0, hcz28_1, hcz28_2, hcz28_3, hcz28_4, hcz28_5, hfz28_0, hfz28_1, hfz28_2, hfz28_3, hfz28_4, hfz28_5⟩ := cl6 BK130.out) | ((with_reducible refine gate_callee (f := 21) rfl ?_); refine goesL_ (some 8) rfl rfl Tryz.func21 (by kernel_rfl) rfl #[.agg #[.int .i64 a0_0, .string a0_1, .int .i64 a0_2, .int .i64 a0_3, .int .i64 a0_4, .slice A0_5 l0_5.length c0_5]] rfl (by (try simp only [List.map_toArray, List.map_cons, List.map_nil]); first | done | rfl | (simp only [List.length_drop, List.length_take]; rfl) | (simp only [Int.toNat_natCast, ByteArray.extract_zero_size] <;> rfl) | (rw [Int.toNat_natCast, ByteArray.extract_zero_size] <;> rfl)) ?_; (with_reducible refine (tree_plain.calls a0_0 a0_1 a0_2 a0_3 a0_4 _ _ l0_5 true _ ?side1 ?side2 A3.out).mono ?_); (case side1 => repeat (first | exact (Kd.C_below HR0_5.out HB.out) | (with_reducible refine Kd.C_alloc ?_ _) | (with_reducible refine Kd.C_drewN ?_ _) | (with_reducible refine Kd.C_drew ?_))); (case side2 => exact HC0_5.out); rintro e w29 ⟨rfl, hb⟩; refine ⟨_, rfl, ?_⟩; have n0_ := Aside0.mk (blk_below (g := gb130) (o := .cells #[.int .i64 a0_0, .string a0_1, .int .i64 a0_2, .int .i64 a0_3, .int .i64 a0_4, .slice A0_5 l0_5.length c0_5] 26 (0, 0)) (by (with_reducible repeat first|refine kN ?_ _|refine kd ?_|refine ka ?_ _); exact BK130.out) hb); have n1_ := Aside0.mk (below_step (by repeat with_reducible first|exact HB.out|apply ba|apply bN|apply bd|refine below_set ?_ GE130.out) hb); clear BK130; clear HB; have BK130 := n0_; have HB := n1_; clear n0_ n1_; (try clear hb); (try clear hb2); (try clear hk); (try clear hi); obtain ⟨hcz30_0, hcz30_1, hcz30_2, hcz30_3, hcz30_4, hcz30_5, hfz30_0, hfz30_1, hfz30_2, hfz30_3, hfz30_4, hfz30_5⟩ := cl6 BK130.out))
          go_ret
          exact ⟨by first|rfl|(simp<;>rfl)|(simp [*]<;>rfl), by repeat with_reducible first|exact HB.out|apply ba|apply bN|apply bd|refine below_set ?_ GE130.out⟩
        rw [if_neg c21] at H
        have c21b0 : decide (a0_2 ≤ 1125899906842624) = false := decide_eq_false c21
        clear c21
        obtain rfl := Option.some.inj H
        go_enter Tryz.func35, Tryz.ntmps35
        go_wp2_with (first | ((with_reducible refine gate_dst (N := 2) rfl ?_); (try (refine gate_guard (by rfl) ?_; dsimp only)); refine box_event ?hg (N := 2) ?hd (cs := #[.int .i64 a0_0, .string a0_1, .int .i64 a0_2, .int .i64 a0_3, .int .i64 a0_4, .slice A0_5 l0_5.length c0_5]) (t := 26) ?hr ?_; (case hd => rfl); (case hg => rfl); (case hr => first | (go_simp; done) | (go_simp; rfl)); intro gb130 hg w31 hbox hb; have n0_ := Aside0.mk (below_step (by repeat with_reducible first|exact HB.out|apply ba|apply bN|apply bd) hb); have n1_ := Aside0.mk (hbox); have n2_ := Aside0.mk ((by rw [hg]; exact (below_size (by repeat with_reducible first|exact HB.out|apply ba|apply bN|apply bd)) : w.heap.size ≤ gb130)); have n3_ := Aside0.mk ((by rw [hg]; exact (below_size (by repeat with_reducible first|exact HB.out|apply ba|apply bN|apply bd)) : w.heap.size ≤ gb130)); clear HB; have HB := n0_; have BK130 := n1_; have GW130 := n2_; have GE130 := n3_; clear n0_ n1_ n2_ n3_; clear hb hbox hg; obtain ⟨hcz32_0, hcz32_1, hcz32_2, hcz32_3, hcz32_4, hcz32_5, hfz32_0, hfz32_1, hfz32_2, hfz32_3, hfz32_4, hfz32_5⟩ := cl6 BK130.out) | ((with_reducible refine gate_callee (f := 21) rfl ?_); refine goesL_ (some 8) rfl rfl Tryz.func21 (by kernel_rfl) rfl #[.agg #[.int .i64 a0_0, .string a0_1, .int .i64 a0_2, .int .i64 a0_3, .int .i64 a0_4, .slice A0_5 l0_5.length c0_5]] rfl (by (try simp only [List.map_toArray, List.map_cons, List.map_nil]); first | done | rfl | (simp only [List.length_drop, List.length_take]; rfl) | (simp only [Int.toNat_natCast, ByteArray.extract_zero_size] <;> rfl) | (rw [Int.toNat_natCast, ByteArray.extract_zero_size] <;> rfl)) ?_; (with_reducible refine (tree_plain.calls a0_0 a0_1 a0_2 a0_3 a0_4 _ _ l0_5 true _ ?side1 ?side2 A3.out).mono ?_); (case side1 => repeat (first | exact (Kd.C_below HR0_5.out HB.out) | (with_reducible refine Kd.C_alloc ?_ _) | (with_reducible refine Kd.C_drewN ?_ _) | (with_reducible refine Kd.C_drew ?_))); (case side2 => exact HC0_5.out); rintro e w33 ⟨rfl, hb⟩; refine ⟨_, rfl, ?_⟩; have n0_ := Aside0.mk (blk_below (g := gb130) (o := .cells #[.int .i64 a0_0, .string a0_1, .int .i64 a0_2, .int .i64 a0_3, .int .i64 a0_4, .slice A0_5 l0_5.length c0_5] 26 (0, 0)) (by (with_reducible repeat first|refine kN ?_ _|refine kd ?_|refine ka ?_ _); exact BK130.out) hb); have n1_ := Aside0.mk (below_step (by repeat with_reducible first|exact HB.out|apply ba|apply bN|apply bd|refine below_set ?_ GE130.out) hb); clear BK130; clear HB; have BK130 := n0_; have HB := n1_; clear n0_ n1_; (try clear hb); (try clear hb2); (try clear hk); (try clear hi); obtain ⟨hcz34_0, hcz34_1, hcz34_2, hcz34_3, hcz34_4, hcz34_5, hfz34_0, hfz34_1, hfz34_2, hfz34_3, hfz34_4, hfz34_5⟩ := cl6 BK130.out))
        go_ret
        exact ⟨by first|rfl|(simp<;>rfl)|(simp [*]<;>rfl), by repeat with_reducible first|exact HB.out|apply ba|apply bN|apply bd|refine below_set ?_ GE130.out⟩
      rw [if_neg c20] at H
      have c20b0 : decide (0 ≤ a0_2) = false := decide_eq_false c20
      clear c20
      obtain rfl := Option.some.inj H
      go_enter Tryz.func35, Tryz.ntmps35
      go_wp2_with (first | ((with_reducible refine gate_dst (N := 2) rfl ?_); (try (refine gate_guard (by rfl) ?_; dsimp only)); refine box_event ?hg (N := 2) ?hd (cs := #[.int .i64 a0_0, .string a0_1, .int .i64 a0_2, .int .i64 a0_3, .int .i64 a0_4, .slice A0_5 l0_5.length c0_5]) (t := 26) ?hr ?_; (case hd => rfl); (case hg => rfl); (case hr => first | (go_simp; done) | (go_simp; rfl)); intro gb130 hg w35 hbox hb; have n0_ := Aside0.mk (below_step (by repeat with_reducible first|exact HB.out|apply ba|apply bN|apply bd) hb); have n1_ := Aside0.mk (hbox); have n2_ := Aside0.mk ((by rw [hg]; exact (below_size (by repeat with_reducible first|exact HB.out|apply ba|apply bN|apply bd)) : w.heap.size ≤ gb130)); have n3_ := Aside0.mk ((by rw [hg]; exact (below_size (by repeat with_reducible first|exact HB.out|apply ba|apply bN|apply bd)) : w.heap.size ≤ gb130)); clear HB; have HB := n0_; have BK130 := n1_; have GW130 := n2_; have GE130 := n3_; clear n0_ n1_ n2_ n3_; clear hb hbox hg; obtain ⟨hcz36_0, hcz36_1, hcz36_2, hcz36_3, hcz36_4, hcz36_5, hfz36_0, hfz36_1, hfz36_2, hfz36_3, hfz36_4, hfz36_5⟩ := cl6 BK130.out) | ((with_reducible refine gate_callee (f := 21) rfl ?_); refine goesL_ (some 8) rfl rfl Tryz.func21 (by kernel_rfl) rfl #[.agg #[.int .i64 a0_0, .string a0_1, .int .i64 a0_2, .int .i64 a0_3, .int .i64 a0_4, .slice A0_5 l0_5.length c0_5]] rfl (by (try simp only [List.map_toArray, List.map_cons, List.map_nil]); first | done | rfl | (simp only [List.length_drop, List.length_take]; rfl) | (simp only [Int.toNat_natCast, ByteArray.extract_zero_size] <;> rfl) | (rw [Int.toNat_natCast, ByteArray.extract_zero_size] <;> rfl)) ?_; (with_reducible refine (tree_plain.calls a0_0 a0_1 a0_2 a0_3 a0_4 _ _ l0_5 true _ ?side1 ?side2 A3.out).mono ?_); (case side1 => repeat (first | exact (Kd.C_below HR0_5.out HB.out) | (with_reducible refine Kd.C_alloc ?_ _) | (with_reducible refine Kd.C_drewN ?_ _) | (with_reducible refine Kd.C_drew ?_))); (case side2 => exact HC0_5.out); rintro e w37 ⟨rfl, hb⟩; refine ⟨_, rfl, ?_⟩; have n0_ := Aside0.mk (blk_below (g := gb130) (o := .cells #[.int .i64 a0_0, .string a0_1, .int .i64 a0_2, .int .i64 a0_3, .int .i64 a0_4, .slice A0_5 l0_5.length c0_5] 26 (0, 0)) (by (with_reducible repeat first|refine kN ?_ _|refine kd ?_|refine ka ?_ _); exact BK130.out) hb); have n1_ := Aside0.mk (below_step (by repeat with_reducible first|exact HB.out|apply ba|apply bN|apply bd|refine below_set ?_ GE130.out) hb); clear BK130; clear HB; have BK130 := n0_; have HB := n1_; clear n0_ n1_; (try clear hb); (try clear hb2); (try clear hk); (try clear hi); obtain ⟨hcz38_0, hcz38_1, hcz38_2, hcz38_3, hcz38_4, hcz38_5, hfz38_0, hfz38_1, hfz38_2, hfz38_3, hfz38_4, hfz38_5⟩ := cl6 BK130.out))
      go_ret
      exact ⟨by first|rfl|(simp<;>rfl)|(simp [*]<;>rfl), by repeat with_reducible first|exact HB.out|apply ba|apply bN|apply bd|refine below_set ?_ GE130.out⟩
    rw [if_neg c19] at H
    have c19b0 : (a0_0 == 5) = false := beq_eq_false_iff_ne.mpr c19
    have c19b1 : (a0_0 != 5) = true := bne_iff_ne.mpr c19
    by_cases c39 : a0_0 = 6
    · rw [if_pos c39] at H
      have c39b0 : (a0_0 == 6) = true := beq_iff_eq.mpr c39
      have c39b1 : (a0_0 != 6) = false := bne_eq_false_iff_eq.mpr c39
      clear c39
      have H' := Aside0.mk H
      clear H
      go_enter Tryz.func35, Tryz.ntmps35
      go_wp2_with (first | ((with_reducible refine gate_dst (N := 2) rfl ?_); (try (refine gate_guard (by rfl) ?_; dsimp only)); refine box_event ?hg (N := 2) ?hd (cs := #[.int .i64 a0_0, .string a0_1, .int .i64 a0_2, .int .i64 a0_3, .int .i64 a0_4, .slice A0_5 l0_5.length c0_5]) (t := 26) ?hr ?_; (case hd => rfl); (case hg => rfl); (case hr => first | (go_simp; done) | (go_simp; rfl)); intro gb130 hg w40 hbox hb; have n0_ := Aside0.mk (below_step (by repeat with_reducible first|exact HB.out|apply ba|apply bN|apply bd) hb); have n1_ := Aside0.mk (hbox); have n2_ := Aside0.mk ((by rw [hg]; exact (below_size (by repeat with_reducible first|exact HB.out|apply ba|apply bN|apply bd)) : w.heap.size ≤ gb130)); have n3_ := Aside0.mk ((by rw [hg]; exact (below_size (by repeat with_reducible first|exact HB.out|apply ba|apply bN|apply bd)) : w.heap.size ≤ gb130)); clear HB; have HB := n0_; have BK130 := n1_; have GW130 := n2_; have GE130 := n3_; clear n0_ n1_ n2_ n3_; clear hb hbox hg; obtain ⟨hcz41_0, hcz41_1, hcz41_2, hcz41_3, hcz41_4, hcz41_5, hfz41_0, hfz41_1, hfz41_2, hfz41_3, hfz41_4, hfz41_5⟩ := cl6 BK130.out) | ((with_reducible refine gate_callee (f := 21) rfl ?_); refine goesL_ (some 8) rfl rfl Tryz.func21 (by kernel_rfl) rfl #[.agg #[.int .i64 a0_0, .string a0_1, .int .i64 a0_2, .int .i64 a0_3, .int .i64 a0_4, .slice A0_5 l0_5.length c0_5]] rfl (by (try simp only [List.map_toArray, List.map_cons, List.map_nil]); first | done | rfl | (simp only [List.length_drop, List.length_take]; rfl) | (simp only [Int.toNat_natCast, ByteArray.extract_zero_size] <;> rfl) | (rw [Int.toNat_natCast, ByteArray.extract_zero_size] <;> rfl)) ?_; (with_reducible refine (tree_plain.calls a0_0 a0_1 a0_2 a0_3 a0_4 _ _ l0_5 true _ ?side1 ?side2 A3.out).mono ?_); (case side1 => repeat (first | exact (Kd.C_below HR0_5.out HB.out) | (with_reducible refine Kd.C_alloc ?_ _) | (with_reducible refine Kd.C_drewN ?_ _) | (with_reducible refine Kd.C_drew ?_))); (case side2 => exact HC0_5.out); rintro e w42 ⟨rfl, hb⟩; refine ⟨_, rfl, ?_⟩; have n0_ := Aside0.mk (blk_below (g := gb130) (o := .cells #[.int .i64 a0_0, .string a0_1, .int .i64 a0_2, .int .i64 a0_3, .int .i64 a0_4, .slice A0_5 l0_5.length c0_5] 26 (0, 0)) (by (with_reducible repeat first|refine kN ?_ _|refine kd ?_|refine ka ?_ _); exact BK130.out) hb); have n1_ := Aside0.mk (below_step (by repeat with_reducible first|exact HB.out|apply ba|apply bN|apply bd|refine below_set ?_ GE130.out) hb); clear BK130; clear HB; have BK130 := n0_; have HB := n1_; clear n0_ n1_; (try clear hb); (try clear hb2); (try clear hk); (try clear hi); obtain ⟨hcz43_0, hcz43_1, hcz43_2, hcz43_3, hcz43_4, hcz43_5, hfz43_0, hfz43_1, hfz43_2, hfz43_3, hfz43_4, hfz43_5⟩ := cl6 BK130.out))
      go_loopg [51] k (fun kq v51 w' => ∃ (x51_1 : Int), v51 = .int .i64 x51_1 ∧ Aside0 (tree_value.l0 kq a1 l0_5 (l0_5.length : Int) x51_1 a0_0 a0_1 a0_2 a0_3 a0_4 l0_5 = some r) ∧ Aside0 (kq ≤ k) ∧ Aside0 (w'.heap[gb130]? = some (.cells #[.int .i64 a0_0, .string a0_1, .int .i64 a0_2, .int .i64 a0_3, .int .i64 a0_4, (.slice A0_5 l0_5.length c0_5)] 26 (0, 0))) ∧ Aside0 (Below w.heap.size w w'))
      case atStart => exact ⟨(0), (by first|rfl|(simp;done)|(simp [*];done)), H', ⟨Nat.le_refl _⟩, ⟨by (with_reducible repeat first|refine kN ?_ _|refine kd ?_|refine ka ?_ _); exact BK130.out⟩, ⟨by repeat with_reducible first|exact HB.out|apply ba|apply bN|apply bd|refine below_set ?_ GE130.out⟩⟩
      case round =>
        clear H'
        try clear c1;try clear c2;try clear p2;try clear c3;try clear c4;try clear c5;try clear c5b0;try clear c5b1;try clear c12;try clear c12b0;try clear c12b1;try clear c19;try clear c19b0;try clear c19b1;try clear c20;try clear c20b0;try clear c21;try clear c21b0;try clear c22;try clear c22b0;try clear c34;try clear c35;try clear c39;try clear c39b0;try clear c39b1;try clear hcz10_0;try clear hcz10_1;try clear hcz10_2;try clear hcz10_3;try clear hcz10_4;try clear hcz10_5;try clear hcz15_0;try clear hcz15_1;try clear hcz15_2;try clear hcz15_3;try clear hcz15_4;try clear hcz15_5;try clear hcz17_0;try clear hcz17_1;try clear hcz17_2;try clear hcz17_3;try clear hcz17_4;try clear hcz17_5;try clear hcz24_0;try clear hcz24_1;try clear hcz24_2;try clear hcz24_3;try clear hcz24_4;try clear hcz24_5;try clear hcz26_0;try clear hcz26_1;try clear hcz26_2;try clear hcz26_3;try clear hcz26_4;try clear hcz26_5;try clear hcz28_0;try clear hcz28_1;try clear hcz28_2;try clear hcz28_3;try clear hcz28_4;try clear hcz28_5;try clear hcz30_0;try clear hcz30_1;try clear hcz30_2;try clear hcz30_3;try clear hcz30_4;try clear hcz30_5;try clear hcz32_0;try clear hcz32_1;try clear hcz32_2;try clear hcz32_3;try clear hcz32_4;try clear hcz32_5;try clear hcz34_0;try clear hcz34_1;try clear hcz34_2;try clear hcz34_3;try clear hcz34_4;try clear hcz34_5;try clear hcz36_0;try clear hcz36_1;try clear hcz36_2;try clear hcz36_3;try clear hcz36_4;try clear hcz36_5;try clear hcz38_0;try clear hcz38_1;try clear hcz38_2;try clear hcz38_3;try clear hcz38_4;try clear hcz38_5;try clear hcz41_0;try clear hcz41_1;try clear hcz41_2;try clear hcz41_3;try clear hcz41_4;try clear hcz41_5;try clear hcz43_0;try clear hcz43_1;try clear hcz43_2;try clear hcz43_3;try clear hcz43_4;try clear hcz43_5;try clear hcz8_0;try clear hcz8_1;try clear hcz8_2;try clear hcz8_3;try clear hcz8_4;try clear hcz8_5;try clear hfz10_0;try clear hfz10_1;try clear hfz10_2;try clear hfz10_3;try clear hfz10_4;try clear hfz10_5;try clear hfz15_0;try clear hfz15_1;try clear hfz15_2;try clear hfz15_3;try clear hfz15_4;try clear hfz15_5;try clear hfz17_0;try clear hfz17_1;try clear hfz17_2;try clear hfz17_3;try clear hfz17_4;try clear hfz17_5;try clear hfz24_0;try clear hfz24_1;try clear hfz24_2;try clear hfz24_3;try clear hfz24_4;try clear hfz24_5;try clear hfz26_0;try clear hfz26_1;try clear hfz26_2;try clear hfz26_3;try clear hfz26_4;try clear hfz26_5;try clear hfz28_0;try clear hfz28_1;try clear hfz28_2;try clear hfz28_3;try clear hfz28_4;try clear hfz28_5;try clear hfz30_0;try clear hfz30_1;try clear hfz30_2;try clear hfz30_3;try clear hfz30_4;try clear hfz30_5;try clear hfz32_0;try clear hfz32_1;try clear hfz32_2;try clear hfz32_3;try clear hfz32_4;try clear hfz32_5;try clear hfz34_0;try clear hfz34_1;try clear hfz34_2;try clear hfz34_3;try clear hfz34_4;try clear hfz34_5;try clear hfz36_0;try clear hfz36_1;try clear hfz36_2;try clear hfz36_3;try clear hfz36_4;try clear hfz36_5;try clear hfz38_0;try clear hfz38_1;try clear hfz38_2;try clear hfz38_3;try clear hfz38_4;try clear hfz38_5;try clear hfz41_0;try clear hfz41_1;try clear hfz41_2;try clear hfz41_3;try clear hfz41_4;try clear hfz41_5;try clear hfz43_0;try clear hfz43_1;try clear hfz43_2;try clear hfz43_3;try clear hfz43_4;try clear hfz43_5;try clear hfz8_0;try clear hfz8_1;try clear hfz8_2;try clear hfz8_3;try clear hfz8_4;try clear hfz8_5
        obtain ⟨x51_1, rfl, HA, HK1, BK130, HB⟩ := hrel
        cases gk with
        | zero => exact absurd HA.out (by simp [tree_value.l0])
        | succ k1 =>
          have H := HA.out
          clear HA
          simp only [tree_value.l0] at H
          by_cases c44 : x51_1 < (l0_5.length : Int)
          · rw [if_pos c44] at H
            have c44b0 : decide (x51_1 < (l0_5.length : Int)) = true := decide_eq_true c44
            clear c44
            by_cases c45 : 0 ≤ x51_1
            · rw [if_pos c45] at H
              have c45b0 : decide (0 ≤ x51_1) = true := decide_eq_true c45
              clear c45
              by_cases c46 : x51_1 < (l0_5.length : Int)
              · rw [if_pos c46] at H
                have c46b0 : decide (x51_1 < (l0_5.length : Int)) = true := decide_eq_true c46
                clear c46
                by_cases c47 : a1 = 40
                · rw [if_pos c47] at H
                  have c47b0 : (a1 == 40) = true := beq_iff_eq.mpr c47
                  have c47b1 : (a1 != 40) = false := bne_eq_false_iff_eq.mpr c47
                  clear c47
                  obtain rfl := Option.some.inj H
                  have p134 : 0 ≤ (x51_1 : Int) := of_decide_eq_true (by first|with_reducible assumption|assumption)
                  have q134 : x51_1 < (l0_5.length : Int) := of_decide_eq_true (by first|with_reducible assumption|assumption)
                  obtain ⟨ad134, A134_5, c134_5, e134, hx134_0, hx134_1, hx134_2, hx134_3, hx134_4, hx134_5, hl134_5, hi134_5⟩ := at_T26 HR0_5.out x51_1 p134 q134
                  cases e134
                  replace hx134_0 := cb HB.out hx134_0
                  replace hx134_1 := cb HB.out hx134_1
                  replace hx134_2 := cb HB.out hx134_2
                  replace hx134_3 := cb HB.out hx134_3
                  replace hx134_4 := cb HB.out hx134_4
                  replace hx134_5 := cb HB.out hx134_5
                  have HR134_5 := Aside0.mk hi134_5
                  have HC134_5 := Aside0.mk hl134_5
                  clear hi134_5 hl134_5
                  replace p134 := eq_true p134
                  replace q134 := eq_true q134
                  go_wp2_with (first | ((with_reducible refine gate_dst (N := 6) rfl ?_); (try (refine gate_guard (by rfl) ?_; dsimp only)); refine box_event ?hg (N := 6) ?hd (cs := #[.int .i64 0, .string (⟨#[]⟩ : ByteArray), .int .i64 0, .int .i64 0, .int .i64 0, .slice none 0 0]) (t := 26) ?hr ?_; (case hd => rfl); (case hg => rfl); (case hr => first | (go_simp; done) | (go_simp; rfl)); intro gb135 hg w48 hbox hb; have n0_ := Aside0.mk (blk_below (g := gb130) (o := .cells #[.int .i64 a0_0, .string a0_1, .int .i64 a0_2, .int .i64 a0_3, .int .i64 a0_4, .slice (some ad134) l0_5.length c0_5] 26 (0, 0)) (by (with_reducible repeat first|refine kN ?_ _|refine kd ?_|refine ka ?_ _); exact BK130.out) hb); have n1_ := Aside0.mk (below_step (by repeat with_reducible first|exact HB.out|apply ba|apply bN|apply bd|refine below_set ?_ GE130.out) hb); have n2_ := Aside0.mk (hbox); have n3_ := Aside0.mk ((by rw [hg]; exact (below_size (by repeat with_reducible first|exact HB.out|apply ba|apply bN|apply bd|refine below_set ?_ GE130.out)) : w.heap.size ≤ gb135)); have n4_ := Aside0.mk ((by rw [hg]; exact (below_size (by repeat with_reducible first|exact HB.out|apply ba|apply bN|apply bd|refine below_set ?_ GE130.out)) : w.heap.size ≤ gb135)); have n5_ := Aside0.mk ((by rw [hg]; exact Nat.ne_of_lt (blk_lt (g := gb130) (o := .cells #[.int .i64 a0_0, .string a0_1, .int .i64 a0_2, .int .i64 a0_3, .int .i64 a0_4, .slice (some ad134) l0_5.length c0_5] 26 (0, 0)) (by (with_reducible repeat first|refine kN ?_ _|refine kd ?_|refine ka ?_ _); exact BK130.out)) : gb130 ≠ gb135)); have n6_ := Aside0.mk ((by rw [hg]; exact Nat.ne_of_gt (blk_lt (g := gb130) (o := .cells #[.int .i64 a0_0, .string a0_1, .int .i64 a0_2, .int .i64 a0_3, .int .i64 a0_4, .slice (some ad134) l0_5.length c0_5] 26 (0, 0)) (by (with_reducible repeat first|refine kN ?_ _|refine kd ?_|refine ka ?_ _); exact BK130.out)) : gb135 ≠ gb130)); clear BK130; clear HB; have BK130 := n0_; have HB := n1_; have BK135 := n2_; have GW135 := n3_; have GE135 := n4_; have NB130_135 := n5_; have NB135_130 := n6_; clear n0_ n1_ n2_ n3_ n4_ n5_ n6_; clear hb hbox hg; have hnb49 := NB135_130.out; have hnc49 := NB130_135.out; obtain ⟨hcz50_0, hcz50_1, hcz50_2, hcz50_3, hcz50_4, hcz50_5, hfz50_0, hfz50_1, hfz50_2, hfz50_3, hfz50_4, hfz50_5⟩ := cl6 BK135.out))
                  go_ret
                  exact ⟨by first|rfl|(simp<;>rfl)|(simp [*]<;>rfl), by repeat with_reducible first|exact HB.out|apply ba|apply bN|apply bd|refine below_set ?_ GE130.out|refine below_set ?_ GE135.out⟩
                rw [if_neg c47] at H
                have c47b0 : (a1 == 40) = false := beq_eq_false_iff_ne.mpr c47
                have c47b1 : (a1 != 40) = true := bne_iff_ne.mpr c47
                replace H := Option.bind_eq_some_iff.mp H
                obtain ⟨t136, A510, H⟩ := H
                replace H : (if t136 = true then (tree_value.l0 k1 a1 l0_5 (l0_5.length : Int) (wrap64 (x51_1 + 1)) a0_0 a0_1 a0_2 a0_3 a0_4 l0_5) else (some false)) = some r := H
                have A51 := Aside0.mk A510
                clear A510
                by_cases c52 : t136 = true
                · subst c52
                  have H1 : (tree_value.l0 k1 a1 l0_5 (l0_5.length : Int) (wrap64 (x51_1 + 1)) a0_0 a0_1 a0_2 a0_3 a0_4 l0_5) = some r := by rw [if_pos rfl] at H; exact H
                  clear H
                  have H := H1
                  clear H1
                  have H' := Aside0.mk H
                  clear H
                  have p134 : 0 ≤ (x51_1 : Int) := of_decide_eq_true (by first|with_reducible assumption|assumption)
                  have q134 : x51_1 < (l0_5.length : Int) := of_decide_eq_true (by first|with_reducible assumption|assumption)
                  obtain ⟨ad134, A134_5, c134_5, e134, hx134_0, hx134_1, hx134_2, hx134_3, hx134_4, hx134_5, hl134_5, hi134_5⟩ := at_T26 HR0_5.out x51_1 p134 q134
                  cases e134
                  replace hx134_0 := cb HB.out hx134_0
                  replace hx134_1 := cb HB.out hx134_1
                  replace hx134_2 := cb HB.out hx134_2
                  replace hx134_3 := cb HB.out hx134_3
                  replace hx134_4 := cb HB.out hx134_4
                  replace hx134_5 := cb HB.out hx134_5
                  have HR134_5 := Aside0.mk hi134_5
                  have HC134_5 := Aside0.mk hl134_5
                  clear hi134_5 hl134_5
                  replace p134 := eq_true p134
                  replace q134 := eq_true q134
                  go_wp2_with (first | ((with_reducible refine gate_dst (N := 6) rfl ?_); (try (refine gate_guard (by rfl) ?_; dsimp only)); refine box_event ?hg (N := 6) ?hd (cs := #[.int .i64 0, .string (⟨#[]⟩ : ByteArray), .int .i64 0, .int .i64 0, .int .i64 0, .slice none 0 0]) (t := 26) ?hr ?_; (case hd => rfl); (case hg => rfl); (case hr => first | (go_simp; done) | (go_simp; rfl)); intro gb135 hg w53 hbox hb; have n0_ := Aside0.mk (blk_below (g := gb130) (o := .cells #[.int .i64 a0_0, .string a0_1, .int .i64 a0_2, .int .i64 a0_3, .int .i64 a0_4, .slice (some ad134) l0_5.length c0_5] 26 (0, 0)) (by (with_reducible repeat first|refine kN ?_ _|refine kd ?_|refine ka ?_ _); exact BK130.out) hb); have n1_ := Aside0.mk (below_step (by repeat with_reducible first|exact HB.out|apply ba|apply bN|apply bd|refine below_set ?_ GE130.out) hb); have n2_ := Aside0.mk (hbox); have n3_ := Aside0.mk ((by rw [hg]; exact (below_size (by repeat with_reducible first|exact HB.out|apply ba|apply bN|apply bd|refine below_set ?_ GE130.out)) : w.heap.size ≤ gb135)); have n4_ := Aside0.mk ((by rw [hg]; exact (below_size (by repeat with_reducible first|exact HB.out|apply ba|apply bN|apply bd|refine below_set ?_ GE130.out)) : w.heap.size ≤ gb135)); have n5_ := Aside0.mk ((by rw [hg]; exact Nat.ne_of_lt (blk_lt (g := gb130) (o := .cells #[.int .i64 a0_0, .string a0_1, .int .i64 a0_2, .int .i64 a0_3, .int .i64 a0_4, .slice (some ad134) l0_5.length c0_5] 26 (0, 0)) (by (with_reducible repeat first|refine kN ?_ _|refine kd ?_|refine ka ?_ _); exact BK130.out)) : gb130 ≠ gb135)); have n6_ := Aside0.mk ((by rw [hg]; exact Nat.ne_of_gt (blk_lt (g := gb130) (o := .cells #[.int .i64 a0_0, .string a0_1, .int .i64 a0_2, .int .i64 a0_3, .int .i64 a0_4, .slice (some ad134) l0_5.length c0_5] 26 (0, 0)) (by (with_reducible repeat first|refine kN ?_ _|refine kd ?_|refine ka ?_ _); exact BK130.out)) : gb135 ≠ gb130)); clear BK130; clear HB; have BK130 := n0_; have HB := n1_; have BK135 := n2_; have GW135 := n3_; have GE135 := n4_; have NB130_135 := n5_; have NB135_130 := n6_; clear n0_ n1_ n2_ n3_ n4_ n5_ n6_; clear hb hbox hg; have hnb54 := NB135_130.out; have hnc54 := NB130_135.out; obtain ⟨hcz55_0, hcz55_1, hcz55_2, hcz55_3, hcz55_4, hcz55_5, hfz55_0, hfz55_1, hfz55_2, hfz55_3, hfz55_4, hfz55_5⟩ := cl6 BK135.out) | (go_at_call 35; (with_reducible refine (ih k1 (by have := HK1.out; omega) ((rd_T26 l0_5 x51_1).f0) ((rd_T26 l0_5 x51_1).f1) ((rd_T26 l0_5 x51_1).f2.f0) ((rd_T26 l0_5 x51_1).f2.f1) ((rd_T26 l0_5 x51_1).f3) _ _ ((rd_T26 l0_5 x51_1).f4) (wrap64 (a1 + 1)) true _ ?side1 ?side2 ?side3 A51.out).mono ?_); (case side1 => exact Go.Proofs.YtahjkibjcibpgaaGreatDoor.U.UW.step HGW.out (by repeat with_reducible first|exact HB.out|apply ba|apply bN|apply bd|refine below_set ?_ GE130.out|refine below_set ?_ GE135.out)); (case side2 => exact Kd.C_below HR134_5.out (by repeat with_reducible first|exact HB.out|apply ba|apply bN|apply bd|refine below_set ?_ GE130.out|refine below_set ?_ GE135.out)); (case side3 => exact HC134_5.out); rintro e w56 ⟨rfl, hb⟩; have n0_ := Aside0.mk (blk_below (g := gb130) (o := .cells #[.int .i64 a0_0, .string a0_1, .int .i64 a0_2, .int .i64 a0_3, .int .i64 a0_4, .slice (some ad134) l0_5.length c0_5] 26 (0, 0)) (by (with_reducible repeat first|refine kN ?_ _|refine kd ?_|refine ka ?_ _); refine blk_far ?_ NB130_135.out _; (with_reducible repeat first|refine kN ?_ _|refine kd ?_|refine ka ?_ _); refine blk_far ?_ NB130_135.out _; (with_reducible repeat first|refine kN ?_ _|refine kd ?_|refine ka ?_ _); refine blk_far ?_ NB130_135.out _; (with_reducible repeat first|refine kN ?_ _|refine kd ?_|refine ka ?_ _); refine blk_far ?_ NB130_135.out _; (with_reducible repeat first|refine kN ?_ _|refine kd ?_|refine ka ?_ _); refine blk_far ?_ NB130_135.out _; (with_reducible repeat first|refine kN ?_ _|refine kd ?_|refine ka ?_ _); refine blk_far ?_ NB130_135.out _; (with_reducible repeat first|refine kN ?_ _|refine kd ?_|refine ka ?_ _); exact BK130.out) hb); have n1_ := Aside0.mk (blk_below (g := gb135) (o := .cells #[.int .i64 ((rd_T26 l0_5 x51_1).f0), .string ((rd_T26 l0_5 x51_1).f1), .int .i64 ((rd_T26 l0_5 x51_1).f2.f0), .int .i64 ((rd_T26 l0_5 x51_1).f2.f1), .int .i64 ((rd_T26 l0_5 x51_1).f3), .slice A134_5 ((rd_T26 l0_5 x51_1).f4).length c134_5] 26 (0, 0)) (by (with_reducible repeat first|refine kN ?_ _|refine kd ?_|refine ka ?_ _); refine blk_put (cs := #[.int .i64 ((rd_T26 l0_5 x51_1).f0), .string ((rd_T26 l0_5 x51_1).f1), .int .i64 ((rd_T26 l0_5 x51_1).f2.f0), .int .i64 ((rd_T26 l0_5 x51_1).f2.f1), .int .i64 ((rd_T26 l0_5 x51_1).f3), .slice none 0 0]) ?_ 5 _ rfl; (with_reducible repeat first|refine kN ?_ _|refine kd ?_|refine ka ?_ _); refine blk_put (cs := #[.int .i64 ((rd_T26 l0_5 x51_1).f0), .string ((rd_T26 l0_5 x51_1).f1), .int .i64 ((rd_T26 l0_5 x51_1).f2.f0), .int .i64 ((rd_T26 l0_5 x51_1).f2.f1), .int .i64 0, .slice none 0 0]) ?_ 4 _ rfl; (with_reducible repeat first|refine kN ?_ _|refine kd ?_|refine ka ?_ _); refine blk_put (cs := #[.int .i64 ((rd_T26 l0_5 x51_1).f0), .string ((rd_T26 l0_5 x51_1).f1), .int .i64 ((rd_T26 l0_5 x51_1).f2.f0), .int .i64 0, .int .i64 0, .slice none 0 0]) ?_ 3 _ rfl; (with_reducible repeat first|refine kN ?_ _|refine kd ?_|refine ka ?_ _); refine blk_put (cs := #[.int .i64 ((rd_T26 l0_5 x51_1).f0), .string ((rd_T26 l0_5 x51_1).f1), .int .i64 0, .int .i64 0, .int .i64 0, .slice none 0 0]) ?_ 2 _ rfl; (with_reducible repeat first|refine kN ?_ _|refine kd ?_|refine ka ?_ _); refine blk_put (cs := #[.int .i64 ((rd_T26 l0_5 x51_1).f0), .string (⟨#[]⟩ : ByteArray), .int .i64 0, .int .i64 0, .int .i64 0, .slice none 0 0]) ?_ 1 _ rfl; (with_reducible repeat first|refine kN ?_ _|refine kd ?_|refine ka ?_ _); refine blk_put (cs := #[.int .i64 0, .string (⟨#[]⟩ : ByteArray), .int .i64 0, .int .i64 0, .int .i64 0, .slice none 0 0]) ?_ 0 _ rfl; (with_reducible repeat first|refine kN ?_ _|refine kd ?_|refine ka ?_ _); exact BK135.out) hb); have n2_ := Aside0.mk (below_step (by repeat with_reducible first|exact HB.out|apply ba|apply bN|apply bd|refine below_set ?_ GE130.out|refine below_set ?_ GE135.out) hb); clear BK130; clear BK135; clear HB; have BK130 := n0_; have BK135 := n1_; have HB := n2_; clear n0_ n1_ n2_; (try clear hb); (try clear hb2); (try clear hk); (try clear hi)))
                  go_roundg k1
                  case measure => have := HK1.out; omega
                  case rel => exact ⟨(wrap64 (x51_1 + 1)), (by first|rfl|(simp;done)|(simp [*];done)), H', ⟨by have := HK1.out; omega⟩, ⟨by (with_reducible repeat first|refine kN ?_ _|refine kd ?_|refine ka ?_ _); exact BK130.out⟩, ⟨by repeat with_reducible first|exact HB.out|apply ba|apply bN|apply bd|refine below_set ?_ GE130.out|refine below_set ?_ GE135.out⟩⟩
                replace c52 := Bool.eq_false_iff.mpr c52
                subst c52
                have H1 : (some false) = some r := by rw [if_neg (show ¬ (false = true) by decide)] at H; exact H
                clear H
                have H := H1
                clear H1
                obtain rfl := Option.some.inj H
                have p134 : 0 ≤ (x51_1 : Int) := of_decide_eq_true (by first|with_reducible assumption|assumption)
                have q134 : x51_1 < (l0_5.length : Int) := of_decide_eq_true (by first|with_reducible assumption|assumption)
                obtain ⟨ad134, A134_5, c134_5, e134, hx134_0, hx134_1, hx134_2, hx134_3, hx134_4, hx134_5, hl134_5, hi134_5⟩ := at_T26 HR0_5.out x51_1 p134 q134
                cases e134
                replace hx134_0 := cb HB.out hx134_0
                replace hx134_1 := cb HB.out hx134_1
                replace hx134_2 := cb HB.out hx134_2
                replace hx134_3 := cb HB.out hx134_3
                replace hx134_4 := cb HB.out hx134_4
                replace hx134_5 := cb HB.out hx134_5
                have HR134_5 := Aside0.mk hi134_5
                have HC134_5 := Aside0.mk hl134_5
                clear hi134_5 hl134_5
                replace p134 := eq_true p134
                replace q134 := eq_true q134
                go_wp2_with (first | ((with_reducible refine gate_dst (N := 6) rfl ?_); (try (refine gate_guard (by rfl) ?_; dsimp only)); refine box_event ?hg (N := 6) ?hd (cs := #[.int .i64 0, .string (⟨#[]⟩ : ByteArray), .int .i64 0, .int .i64 0, .int .i64 0, .slice none 0 0]) (t := 26) ?hr ?_; (case hd => rfl); (case hg => rfl); (case hr => first | (go_simp; done) | (go_simp; rfl)); intro gb135 hg w57 hbox hb; have n0_ := Aside0.mk (blk_below (g := gb130) (o := .cells #[.int .i64 a0_0, .string a0_1, .int .i64 a0_2, .int .i64 a0_3, .int .i64 a0_4, .slice (some ad134) l0_5.length c0_5] 26 (0, 0)) (by (with_reducible repeat first|refine kN ?_ _|refine kd ?_|refine ka ?_ _); exact BK130.out) hb); have n1_ := Aside0.mk (below_step (by repeat with_reducible first|exact HB.out|apply ba|apply bN|apply bd|refine below_set ?_ GE130.out) hb); have n2_ := Aside0.mk (hbox); have n3_ := Aside0.mk ((by rw [hg]; exact (below_size (by repeat with_reducible first|exact HB.out|apply ba|apply bN|apply bd|refine below_set ?_ GE130.out)) : w.heap.size ≤ gb135)); have n4_ := Aside0.mk ((by rw [hg]; exact (below_size (by repeat with_reducible first|exact HB.out|apply ba|apply bN|apply bd|refine below_set ?_ GE130.out)) : w.heap.size ≤ gb135)); have n5_ := Aside0.mk ((by rw [hg]; exact Nat.ne_of_lt (blk_lt (g := gb130) (o := .cells #[.int .i64 a0_0, .string a0_1, .int .i64 a0_2, .int .i64 a0_3, .int .i64 a0_4, .slice (some ad134) l0_5.length c0_5] 26 (0, 0)) (by (with_reducible repeat first|refine kN ?_ _|refine kd ?_|refine ka ?_ _); exact BK130.out)) : gb130 ≠ gb135)); have n6_ := Aside0.mk ((by rw [hg]; exact Nat.ne_of_gt (blk_lt (g := gb130) (o := .cells #[.int .i64 a0_0, .string a0_1, .int .i64 a0_2, .int .i64 a0_3, .int .i64 a0_4, .slice (some ad134) l0_5.length c0_5] 26 (0, 0)) (by (with_reducible repeat first|refine kN ?_ _|refine kd ?_|refine ka ?_ _); exact BK130.out)) : gb135 ≠ gb130)); clear BK130; clear HB; have BK130 := n0_; have HB := n1_; have BK135 := n2_; have GW135 := n3_; have GE135 := n4_; have NB130_135 := n5_; have NB135_130 := n6_; clear n0_ n1_ n2_ n3_ n4_ n5_ n6_; clear hb hbox hg; have hnb58 := NB135_130.out; have hnc58 := NB130_135.out; obtain ⟨hcz59_0, hcz59_1, hcz59_2, hcz59_3, hcz59_4, hcz59_5, hfz59_0, hfz59_1, hfz59_2, hfz59_3, hfz59_4, hfz59_5⟩ := cl6 BK135.out) | (go_at_call 35; (with_reducible refine (ih k1 (by have := HK1.out; omega) ((rd_T26 l0_5 x51_1).f0) ((rd_T26 l0_5 x51_1).f1) ((rd_T26 l0_5 x51_1).f2.f0) ((rd_T26 l0_5 x51_1).f2.f1) ((rd_T26 l0_5 x51_1).f3) _ _ ((rd_T26 l0_5 x51_1).f4) (wrap64 (a1 + 1)) false _ ?side1 ?side2 ?side3 A51.out).mono ?_); (case side1 => exact Go.Proofs.YtahjkibjcibpgaaGreatDoor.U.UW.step HGW.out (by repeat with_reducible first|exact HB.out|apply ba|apply bN|apply bd|refine below_set ?_ GE130.out|refine below_set ?_ GE135.out)); (case side2 => exact Kd.C_below HR134_5.out (by repeat with_reducible first|exact HB.out|apply ba|apply bN|apply bd|refine below_set ?_ GE130.out|refine below_set ?_ GE135.out)); (case side3 => exact HC134_5.out); rintro e w60 ⟨rfl, hb⟩; have n0_ := Aside0.mk (blk_below (g := gb130) (o := .cells #[.int .i64 a0_0, .string a0_1, .int .i64 a0_2, .int .i64 a0_3, .int .i64 a0_4, .slice (some ad134) l0_5.length c0_5] 26 (0, 0)) (by (with_reducible repeat first|refine kN ?_ _|refine kd ?_|refine ka ?_ _); refine blk_far ?_ NB130_135.out _; (with_reducible repeat first|refine kN ?_ _|refine kd ?_|refine ka ?_ _); refine blk_far ?_ NB130_135.out _; (with_reducible repeat first|refine kN ?_ _|refine kd ?_|refine ka ?_ _); refine blk_far ?_ NB130_135.out _; (with_reducible repeat first|refine kN ?_ _|refine kd ?_|refine ka ?_ _); refine blk_far ?_ NB130_135.out _; (with_reducible repeat first|refine kN ?_ _|refine kd ?_|refine ka ?_ _); refine blk_far ?_ NB130_135.out _; (with_reducible repeat first|refine kN ?_ _|refine kd ?_|refine ka ?_ _); refine blk_far ?_ NB130_135.out _; (with_reducible repeat first|refine kN ?_ _|refine kd ?_|refine ka ?_ _); exact BK130.out) hb); have n1_ := Aside0.mk (blk_below (g := gb135) (o := .cells #[.int .i64 ((rd_T26 l0_5 x51_1).f0), .string ((rd_T26 l0_5 x51_1).f1), .int .i64 ((rd_T26 l0_5 x51_1).f2.f0), .int .i64 ((rd_T26 l0_5 x51_1).f2.f1), .int .i64 ((rd_T26 l0_5 x51_1).f3), .slice A134_5 ((rd_T26 l0_5 x51_1).f4).length c134_5] 26 (0, 0)) (by (with_reducible repeat first|refine kN ?_ _|refine kd ?_|refine ka ?_ _); refine blk_put (cs := #[.int .i64 ((rd_T26 l0_5 x51_1).f0), .string ((rd_T26 l0_5 x51_1).f1), .int .i64 ((rd_T26 l0_5 x51_1).f2.f0), .int .i64 ((rd_T26 l0_5 x51_1).f2.f1), .int .i64 ((rd_T26 l0_5 x51_1).f3), .slice none 0 0]) ?_ 5 _ rfl; (with_reducible repeat first|refine kN ?_ _|refine kd ?_|refine ka ?_ _); refine blk_put (cs := #[.int .i64 ((rd_T26 l0_5 x51_1).f0), .string ((rd_T26 l0_5 x51_1).f1), .int .i64 ((rd_T26 l0_5 x51_1).f2.f0), .int .i64 ((rd_T26 l0_5 x51_1).f2.f1), .int .i64 0, .slice none 0 0]) ?_ 4 _ rfl; (with_reducible repeat first|refine kN ?_ _|refine kd ?_|refine ka ?_ _); refine blk_put (cs := #[.int .i64 ((rd_T26 l0_5 x51_1).f0), .string ((rd_T26 l0_5 x51_1).f1), .int .i64 ((rd_T26 l0_5 x51_1).f2.f0), .int .i64 0, .int .i64 0, .slice none 0 0]) ?_ 3 _ rfl; (with_reducible repeat first|refine kN ?_ _|refine kd ?_|refine ka ?_ _); refine blk_put (cs := #[.int .i64 ((rd_T26 l0_5 x51_1).f0), .string ((rd_T26 l0_5 x51_1).f1), .int .i64 0, .int .i64 0, .int .i64 0, .slice none 0 0]) ?_ 2 _ rfl; (with_reducible repeat first|refine kN ?_ _|refine kd ?_|refine ka ?_ _); refine blk_put (cs := #[.int .i64 ((rd_T26 l0_5 x51_1).f0), .string (⟨#[]⟩ : ByteArray), .int .i64 0, .int .i64 0, .int .i64 0, .slice none 0 0]) ?_ 1 _ rfl; (with_reducible repeat first|refine kN ?_ _|refine kd ?_|refine ka ?_ _); refine blk_put (cs := #[.int .i64 0, .string (⟨#[]⟩ : ByteArray), .int .i64 0, .int .i64 0, .int .i64 0, .slice none 0 0]) ?_ 0 _ rfl; (with_reducible repeat first|refine kN ?_ _|refine kd ?_|refine ka ?_ _); exact BK135.out) hb); have n2_ := Aside0.mk (below_step (by repeat with_reducible first|exact HB.out|apply ba|apply bN|apply bd|refine below_set ?_ GE130.out|refine below_set ?_ GE135.out) hb); clear BK130; clear BK135; clear HB; have BK130 := n0_; have BK135 := n1_; have HB := n2_; clear n0_ n1_ n2_; (try clear hb); (try clear hb2); (try clear hk); (try clear hi)))
                go_ret
                exact ⟨by first|rfl|(simp<;>rfl)|(simp [*]<;>rfl), by repeat with_reducible first|exact HB.out|apply ba|apply bN|apply bd|refine below_set ?_ GE130.out|refine below_set ?_ GE135.out⟩
              rw [if_neg c46] at H
              exact absurd H (by simp)
            rw [if_neg c45] at H
            exact absurd H (by simp)
          rw [if_neg c44] at H
          have c44b0 : decide (x51_1 < (l0_5.length : Int)) = false := decide_eq_false c44
          clear c44
          by_cases c61 : a1 < 40
          · rw [if_pos c61] at H
            have c61b0 : decide (a1 < 40) = true := decide_eq_true c61
            clear c61
            obtain rfl := Option.some.inj H
            obtain ⟨hcz62_0, hcz62_1, hcz62_2, hcz62_3, hcz62_4, hcz62_5, hfz62_0, hfz62_1, hfz62_2, hfz62_3, hfz62_4, hfz62_5⟩ := cl6 BK130.out
            go_wp2
            go_ret
            exact ⟨by first|rfl|(simp<;>rfl)|(simp [*]<;>rfl), by repeat with_reducible first|exact HB.out|apply ba|apply bN|apply bd|refine below_set ?_ GE130.out⟩
          rw [if_neg c61] at H
          have c61b0 : decide (a1 < 40) = false := decide_eq_false c61
          clear c61
          obtain rfl := Option.some.inj H
          go_wp2
          go_ret
          exact ⟨by first|rfl|(simp<;>rfl)|(simp [*]<;>rfl), by repeat with_reducible first|exact HB.out|apply ba|apply bN|apply bd|refine below_set ?_ GE130.out⟩
    rw [if_neg c39] at H
    have c39b0 : (a0_0 == 6) = false := beq_eq_false_iff_ne.mpr c39
    have c39b1 : (a0_0 != 6) = true := bne_iff_ne.mpr c39
    obtain rfl := Option.some.inj H
    go_enter Tryz.func35, Tryz.ntmps35
    go_wp2_with (first | ((with_reducible refine gate_dst (N := 2) rfl ?_); (try (refine gate_guard (by rfl) ?_; dsimp only)); refine box_event ?hg (N := 2) ?hd (cs := #[.int .i64 a0_0, .string a0_1, .int .i64 a0_2, .int .i64 a0_3, .int .i64 a0_4, .slice A0_5 l0_5.length c0_5]) (t := 26) ?hr ?_; (case hd => rfl); (case hg => rfl); (case hr => first | (go_simp; done) | (go_simp; rfl)); intro gb130 hg w63 hbox hb; have n0_ := Aside0.mk (below_step (by repeat with_reducible first|exact HB.out|apply ba|apply bN|apply bd) hb); have n1_ := Aside0.mk (hbox); have n2_ := Aside0.mk ((by rw [hg]; exact (below_size (by repeat with_reducible first|exact HB.out|apply ba|apply bN|apply bd)) : w.heap.size ≤ gb130)); have n3_ := Aside0.mk ((by rw [hg]; exact (below_size (by repeat with_reducible first|exact HB.out|apply ba|apply bN|apply bd)) : w.heap.size ≤ gb130)); clear HB; have HB := n0_; have BK130 := n1_; have GW130 := n2_; have GE130 := n3_; clear n0_ n1_ n2_ n3_; clear hb hbox hg; obtain ⟨hcz64_0, hcz64_1, hcz64_2, hcz64_3, hcz64_4, hcz64_5, hfz64_0, hfz64_1, hfz64_2, hfz64_3, hfz64_4, hfz64_5⟩ := cl6 BK130.out) | ((with_reducible refine gate_callee (f := 21) rfl ?_); refine goesL_ (some 8) rfl rfl Tryz.func21 (by kernel_rfl) rfl #[.agg #[.int .i64 a0_0, .string a0_1, .int .i64 a0_2, .int .i64 a0_3, .int .i64 a0_4, .slice A0_5 l0_5.length c0_5]] rfl (by (try simp only [List.map_toArray, List.map_cons, List.map_nil]); first | done | rfl | (simp only [List.length_drop, List.length_take]; rfl) | (simp only [Int.toNat_natCast, ByteArray.extract_zero_size] <;> rfl) | (rw [Int.toNat_natCast, ByteArray.extract_zero_size] <;> rfl)) ?_; (with_reducible refine (tree_plain.calls a0_0 a0_1 a0_2 a0_3 a0_4 _ _ l0_5 true _ ?side1 ?side2 A3.out).mono ?_); (case side1 => repeat (first | exact (Kd.C_below HR0_5.out HB.out) | (with_reducible refine Kd.C_alloc ?_ _) | (with_reducible refine Kd.C_drewN ?_ _) | (with_reducible refine Kd.C_drew ?_))); (case side2 => exact HC0_5.out); rintro e w65 ⟨rfl, hb⟩; refine ⟨_, rfl, ?_⟩; have n0_ := Aside0.mk (blk_below (g := gb130) (o := .cells #[.int .i64 a0_0, .string a0_1, .int .i64 a0_2, .int .i64 a0_3, .int .i64 a0_4, .slice A0_5 l0_5.length c0_5] 26 (0, 0)) (by (with_reducible repeat first|refine kN ?_ _|refine kd ?_|refine ka ?_ _); exact BK130.out) hb); have n1_ := Aside0.mk (below_step (by repeat with_reducible first|exact HB.out|apply ba|apply bN|apply bd|refine below_set ?_ GE130.out) hb); clear BK130; clear HB; have BK130 := n0_; have HB := n1_; clear n0_ n1_; (try clear hb); (try clear hb2); (try clear hk); (try clear hi); obtain ⟨hcz66_0, hcz66_1, hcz66_2, hcz66_3, hcz66_4, hcz66_5, hfz66_0, hfz66_1, hfz66_2, hfz66_3, hfz66_4, hfz66_5⟩ := cl6 BK130.out))
    go_ret
    exact ⟨by first|rfl|(simp<;>rfl)|(simp [*]<;>rfl), by repeat with_reducible first|exact HB.out|apply ba|apply bN|apply bd|refine below_set ?_ GE130.out⟩
  replace c4 := Bool.eq_false_iff.mpr c4
  subst c4
  have H1 : (some false) = some r := by rw [if_neg (show ¬ (false = true) by decide)] at H; exact H
  clear H
  have H := H1
  clear H1
  obtain rfl := Option.some.inj H
  go_enter Tryz.func35, Tryz.ntmps35
  go_wp2_with (first | ((with_reducible refine gate_dst (N := 2) rfl ?_); (try (refine gate_guard (by rfl) ?_; dsimp only)); refine box_event ?hg (N := 2) ?hd (cs := #[.int .i64 a0_0, .string a0_1, .int .i64 a0_2, .int .i64 a0_3, .int .i64 a0_4, .slice A0_5 l0_5.length c0_5]) (t := 26) ?hr ?_; (case hd => rfl); (case hg => rfl); (case hr => first | (go_simp; done) | (go_simp; rfl)); intro gb130 hg w67 hbox hb; have n0_ := Aside0.mk (below_step (by repeat with_reducible first|exact HB.out|apply ba|apply bN|apply bd) hb); have n1_ := Aside0.mk (hbox); have n2_ := Aside0.mk ((by rw [hg]; exact (below_size (by repeat with_reducible first|exact HB.out|apply ba|apply bN|apply bd)) : w.heap.size ≤ gb130)); have n3_ := Aside0.mk ((by rw [hg]; exact (below_size (by repeat with_reducible first|exact HB.out|apply ba|apply bN|apply bd)) : w.heap.size ≤ gb130)); clear HB; have HB := n0_; have BK130 := n1_; have GW130 := n2_; have GE130 := n3_; clear n0_ n1_ n2_ n3_; clear hb hbox hg; obtain ⟨hcz68_0, hcz68_1, hcz68_2, hcz68_3, hcz68_4, hcz68_5, hfz68_0, hfz68_1, hfz68_2, hfz68_3, hfz68_4, hfz68_5⟩ := cl6 BK130.out) | ((with_reducible refine gate_callee (f := 21) rfl ?_); refine goesL_ (some 8) rfl rfl Tryz.func21 (by kernel_rfl) rfl #[.agg #[.int .i64 a0_0, .string a0_1, .int .i64 a0_2, .int .i64 a0_3, .int .i64 a0_4, .slice A0_5 l0_5.length c0_5]] rfl (by (try simp only [List.map_toArray, List.map_cons, List.map_nil]); first | done | rfl | (simp only [List.length_drop, List.length_take]; rfl) | (simp only [Int.toNat_natCast, ByteArray.extract_zero_size] <;> rfl) | (rw [Int.toNat_natCast, ByteArray.extract_zero_size] <;> rfl)) ?_; (with_reducible refine (tree_plain.calls a0_0 a0_1 a0_2 a0_3 a0_4 _ _ l0_5 false _ ?side1 ?side2 A3.out).mono ?_); (case side1 => repeat (first | exact (Kd.C_below HR0_5.out HB.out) | (with_reducible refine Kd.C_alloc ?_ _) | (with_reducible refine Kd.C_drewN ?_ _) | (with_reducible refine Kd.C_drew ?_))); (case side2 => exact HC0_5.out); rintro e w69 ⟨rfl, hb⟩; refine ⟨_, rfl, ?_⟩; have n0_ := Aside0.mk (blk_below (g := gb130) (o := .cells #[.int .i64 a0_0, .string a0_1, .int .i64 a0_2, .int .i64 a0_3, .int .i64 a0_4, .slice A0_5 l0_5.length c0_5] 26 (0, 0)) (by (with_reducible repeat first|refine kN ?_ _|refine kd ?_|refine ka ?_ _); exact BK130.out) hb); have n1_ := Aside0.mk (below_step (by repeat with_reducible first|exact HB.out|apply ba|apply bN|apply bd|refine below_set ?_ GE130.out) hb); clear BK130; clear HB; have BK130 := n0_; have HB := n1_; clear n0_ n1_; (try clear hb); (try clear hb2); (try clear hk); (try clear hi)))
  go_ret
  exact ⟨by first|rfl|(simp<;>rfl)|(simp [*]<;>rfl), by repeat with_reducible first|exact HB.out|apply ba|apply bN|apply bd|refine below_set ?_ GE130.out⟩
def tree_known.f (a0 : ByteArray) : Option (Bool) := (Ex.unit_Amount.f (⟨#[48]⟩ : ByteArray) a0).bind fun bt137 => (some (bt137.2.2 != 6))
set_option maxHeartbeats 8000000 in
set_option maxRecDepth 100000 in
theorem tree_known.calls (a0 : ByteArray) (r : Bool) (w : World) (hg : Go.Proofs.YtahjkibjcibpgaaGreatDoor.U.UW w) (h : tree_known.f a0 = some r) :
    Calls Tryz.prog 55 #[.string a0] w fun e w' => e = .returned (.bool r) ∧ Below w.heap.size w w' := by
  have hu23 := Tryz.underlying23
  have HB := Aside0.mk (Below.refl w.heap.size w)
  have HGW := Aside0.mk hg
  clear hg
  have H : ((Ex.unit_Amount.f (⟨#[48]⟩ : ByteArray) a0).bind fun bt137 => (some (bt137.2.2 != 6))) = some r := h
  clear h
  replace H := Option.bind_eq_some_iff.mp H
  obtain ⟨⟨t137, t138, t139⟩, A20, H⟩ := H
  replace H : (some (t139 != 6)) = some r := H
  have A2 := Aside0.mk A20
  clear A20
  obtain rfl := Option.some.inj H
  go_enter Tryz.func55, Tryz.ntmps55
  go_wp2_with (first | ((with_reducible refine gate_callee (f := 16) rfl ?_); refine goesL_ (some 7) rfl rfl Tryz.func16 (by kernel_rfl) rfl #[.string (⟨#[48]⟩ : ByteArray), .string a0] rfl (by (try simp only [List.map_toArray, List.map_cons, List.map_nil]); first | done | rfl | (simp only [List.length_drop, List.length_take]; rfl) | (simp only [Int.toNat_natCast, ByteArray.extract_zero_size] <;> rfl) | (rw [Int.toNat_natCast, ByteArray.extract_zero_size] <;> rfl)) ?_; (with_reducible refine (Ex.unit_Amount.calls (⟨#[48]⟩ : ByteArray) a0 t137 t138 t139 _ ?side1 A2.out).mono ?_); (case side1 => exact Go.Proofs.YtahjkibjcibpgaaGreatDoor.U.UW.step HGW.out (by repeat with_reducible first|exact HB.out|apply ba|apply bN|apply bd)); rintro e w3 ⟨rfl, hb⟩; refine ⟨_, rfl, ?_⟩; have n0_ := Aside0.mk (below_step (by repeat with_reducible first|exact HB.out|apply ba|apply bN|apply bd) hb); clear HB; have HB := n0_; clear n0_; (try clear hb); (try clear hb2); (try clear hk); (try clear hi)) | ((with_reducible refine gate_dst (N := 3) rfl ?_); refine box_event ?hg (N := 3) ?hd (cs := #[.int .i64 0, .int .i64 0]) (t := 23) ?hr ?_; (case hd => rfl); (case hg => rfl); (case hr => first | (go_simp; done) | (go_simp; rfl)); intro gb140 hg w4 hbox hb; have n0_ := Aside0.mk (below_step (by repeat with_reducible first|exact HB.out|apply ba|apply bN|apply bd) hb); have n1_ := Aside0.mk (hbox); have n2_ := Aside0.mk ((by rw [hg]; exact (below_size (by repeat with_reducible first|exact HB.out|apply ba|apply bN|apply bd)) : w.heap.size ≤ gb140)); have n3_ := Aside0.mk ((by rw [hg]; exact (below_size (by repeat with_reducible first|exact HB.out|apply ba|apply bN|apply bd)) : w.heap.size ≤ gb140)); clear HB; have HB := n0_; have BK140 := n1_; have GW140 := n2_; have GE140 := n3_; clear n0_ n1_ n2_ n3_; clear hb hbox hg; obtain ⟨hcz5_0, hcz5_1, hfz5_0, hfz5_1⟩ := cl2 BK140.out))
  go_ret
  exact ⟨by first|rfl|(simp<;>rfl)|(simp [*]<;>rfl), by repeat with_reducible first|exact HB.out|apply ba|apply bN|apply bd|refine below_set ?_ GE140.out⟩
end Go.Proofs.YtahjkibjcibpgaaGreatDoor.PTr
end
section
namespace Go.Proofs.YtahjkibjcibpgaaGreatDoor.L
open Go.RowKit Go.Proofs.YtahjkibjcibpgaaGreatDoor.U Go.Proofs.YtahjkibjcibpgaaGreatDoorW.PrintWords Go.Proofs.YtahjkibjcibpgaaGreatDoor.PTr
mutual
def wtV : PTr.S26 → Nat
  | ⟨_, t, _, _, ks⟩ => t.size + 100 + wtVs ks
def wtVs : List PTr.S26 → Nat
  | [] => 0
  | v :: r => wtV v + wtVs r
end
theorem wtV_eq (v : PTr.S26) : wtV v = v.f1.size + 100 + wtVs v.f4 := by cases v; rw [wtV]
theorem wtVs_cons (v : PTr.S26) (r : List PTr.S26) : wtVs (v :: r) = wtV v + wtVs r := by rw [wtVs]
theorem wtVs_nil : wtVs [] = 0 := by rw [wtVs]
theorem wtVs_app (a b : List PTr.S26) : wtVs (a ++ b) = wtVs a + wtVs b := by
  induction a with
  | nil => rw [List.nil_append, wtVs_nil, Nat.zero_add]
  | cons v r ih => rw [List.cons_append, wtVs_cons, wtVs_cons, ih]; omega
theorem wtVs_len (l : List PTr.S26) : l.length * 100 ≤ wtVs l := by
  induction l with
  | nil => simp
  | cons v r ih => rw [wtVs_cons, wtV_eq, List.length_cons]; omega
theorem rd_at (pre : List PTr.S26) (v : PTr.S26) (post : List PTr.S26) : PTr.rd_T26 (pre ++ v :: post) (pre.length : Int) = v := by
  unfold PTr.rd_T26
  rw [Int.toNat_natCast, List.getD_eq_getElem?_getD, List.getElem?_append_right (Nat.le_refl _), Nat.sub_self]
  rfl
def plainP (k : Int) (t : ByteArray) (a b : Int) (ks : List PTr.S26) : Prop := (k = 3 ∨ k = 4 ∨ k = 5 → ks = []) ∧ (k = 1 ∨ k = 2 ∨ k = 3 ∨ k = 4 ∨ t.data.toList = []) ∧ (k = 5 ∨ (a = 0 ∧ b = 0))
theorem len0 (ks : List PTr.S26) : ((ks.length : Int) = 0) = (ks = []) := by
  rw [← List.length_eq_zero_iff]; simp
open Classical in
theorem plain_f (k : Int) (t : ByteArray) (a b c : Int) (ks : List PTr.S26) : tree_plain.f k t a b c ks = some (decide (plainP k t a b ks)) := by
  unfold tree_plain.f plainP
  simp only [len0, Lib.toList_data]
  have hab : (a == 0 && b == 0) = decide (a = 0 ∧ b = 0) := by rw [Bool.eq_iff_iff]; simp
  rw [hab]
  by_cases h3 : k = 3
  · subst h3
    by_cases hk : ks = [] <;> simp [hk]
  · by_cases h4 : k = 4
    · subst h4
      by_cases hk : ks = [] <;> simp [hk]
    · by_cases h5 : k = 5
      · subst h5
        by_cases hk : ks = [] <;> by_cases ht : t.data.toList = [] <;> simp [hk, ht]
      · by_cases h1 : k = 1
        · subst h1; simp
        · by_cases h2 : k = 2
          · subst h2; simp
          · by_cases ht : t.data.toList = [] <;> simp [h1, h2, h3, h4, h5, ht]
theorem bytes_nil {t : ByteArray} : t = ⟨#[]⟩ ↔ t.data.toList = [] := ⟨fun h => by rw [h], fun h => bytes_ext h⟩
theorem am_zero {a : PTr.S23} : a = ⟨0, 0⟩ ↔ a.f0 = 0 ∧ a.f1 = 0 := ⟨fun h => by rw [h]; exact ⟨rfl, rfl⟩, fun ⟨h, h2⟩ => by cases a; simp at h h2; rw [h, h2]⟩
theorem okV_plain {v : PTr.S26} {d : Nat} (h : okV v d) : plainP v.f0 v.f1 v.f2.f0 v.f2.f1 v.f4 := by
  obtain ⟨k, t, a, x, ks⟩ := v
  rw [okV] at h
  unfold plainP
  simp only
  rcases h with ⟨rfl, _, rfl, rfl⟩ | ⟨rfl, _, rfl, rfl⟩ | ⟨rfl, rfl, _, _, _, _, rfl⟩ | ⟨rfl, rfl, rfl, _⟩ <;> simp
open Classical in
mutual
theorem value_f (v : PTr.S26) (d : Nat) (hd : d ≤ 40) (hw : wtV v < 1000000000) : Ev (fun k => tree_value.f k v.f0 v.f1 v.f2.f0 v.f2.f1 v.f3 v.f4 (d : Int)) (decide (okV v d)) := by
  match v, hw with
  | ⟨k0, t, a, x, ks⟩, hw =>
    simp only
    by_cases hp : plainP k0 t a.f0 a.f1 ks
    · have hw2 := wtV_eq ⟨k0, t, a, x, ks⟩
      simp only at hw2
      by_cases h3 : k0 = 3
      · subst h3
        refine Ev.step (f := fun k => (tree_one.f k t 0).bind some) (fun k => ?_) (Ev.bind (one_name t) ?_)
        · simp only [tree_value.f, plain_f, Option.bind_some, decide_eq_true hp, if_true]
        · have : decide (okV ⟨3, t, a, x, ks⟩ d) = decide (gtok 0 t.data.toList) := by
            rw [decide_eq_decide, okV]
            unfold plainP at hp
            simp at hp
            simp [hp.1, am_zero, hp.2]
          rw [this]
          exact Ev.now _
      · by_cases h4 : k0 = 4
        · subst h4
          refine Ev.step (f := fun k => (tree_one.f k t 2).bind some) (fun k => ?_) (Ev.bind (one_text t (by omega)) ?_)
          · simp only [tree_value.f, plain_f, Option.bind_some, decide_eq_true hp, if_true]
            rw [if_neg h3]
          · have : decide (okV ⟨4, t, a, x, ks⟩ d) = decide (gtok 2 (34 :: (t.data.toList ++ [34]))) := by
              rw [decide_eq_decide, okV]
              unfold plainP at hp
              simp at hp
              simp [hp.1, am_zero, hp.2]
            rw [this]
            exact Ev.now _
        · by_cases h5 : k0 = 5
          · subst h5
            have hok : okV ⟨5, t, a, x, ks⟩ d ↔ (0 ≤ a.f0 ∧ a.f0 ≤ 1125899906842624 ∧ 0 ≤ a.f1 ∧ a.f1 ≤ 6) := by
              rw [okV]
              unfold plainP at hp
              simp at hp
              simp [hp.1, bytes_nil, hp.2]
            refine Ev.step (f := fun _ => some (decide (okV ⟨5, t, a, x, ks⟩ d))) (fun k => ?_) (Ev.now _)
            simp only [tree_value.f, plain_f, Option.bind_some, decide_eq_true hp, if_true]
            rw [if_neg h3, if_neg h4, show decide (okV ⟨5, t, a, x, ks⟩ d) = decide (0 ≤ a.f0 ∧ a.f0 ≤ 1125899906842624 ∧ 0 ≤ a.f1 ∧ a.f1 ≤ 6) from decide_eq_decide.2 hok]
            by_cases c1 : 0 ≤ a.f0
            · rw [if_pos c1]
              by_cases c2 : a.f0 ≤ 1125899906842624
              · rw [if_pos c2]
                by_cases c3 : 0 ≤ a.f1
                · rw [if_pos c3]; simp [c1, c2, c3]
                · rw [if_neg c3]; simp [c3]
              · rw [if_neg c2]; simp [c2]
            · rw [if_neg c1]; simp [c1]
          · by_cases h6 : k0 = 6
            · subst h6
              have hl := value_l0 ks d [] 6 t a.f0 a.f1 x hd (by rw [List.nil_append]; omega)
              rw [List.nil_append] at hl
              have hok : okV ⟨6, t, a, x, ks⟩ d ↔ (d < 40 ∧ ks ≠ [] ∧ okVs ks (d + 1)) := by
                rw [okV]
                unfold plainP at hp
                simp at hp
                simp [bytes_nil, hp.1, am_zero, hp.2]
              rw [decide_eq_decide.2 hok]
              refine Ev.step (fun k => ?_) hl
              simp only [tree_value.f, plain_f, Option.bind_some, decide_eq_true hp, if_true]
              rw [if_neg h3, if_neg h4, if_neg h5]
              rfl
            · have hok : ¬ okV ⟨k0, t, a, x, ks⟩ d := by
                rw [okV]
                simp [h3, h4, h5, h6]
              rw [decide_eq_false hok]
              refine Ev.step (f := fun _ => some false) (fun k => ?_) (Ev.now _)
              simp only [tree_value.f, plain_f, Option.bind_some, decide_eq_true hp, if_true]
              rw [if_neg h3, if_neg h4, if_neg h5, if_neg h6]
    · rw [decide_eq_false (fun h => hp (okV_plain h))]
      refine Ev.step (f := fun _ => some false) (fun k => ?_) (Ev.now _)
      simp only [tree_value.f, plain_f, Option.bind_some, decide_eq_false hp, Bool.false_eq_true, if_false]
termination_by structural v
theorem value_l0 (l : List PTr.S26) (d : Nat) (pre : List PTr.S26) (x0 : Int) (x1 : ByteArray) (x2 x3 x4 : Int) (hd : d ≤ 40) (hw : wtVs (pre ++ l) < 1000000000) :
    Ev (fun k => tree_value.l0 k (d : Int) (pre ++ l) ((pre ++ l).length : Int) (pre.length : Int) x0 x1 x2 x3 x4 (pre ++ l)) (decide (d < 40 ∧ pre ++ l ≠ [] ∧ okVs l (d + 1))) := by
  have hlen := wtVs_len (pre ++ l)
  match l, hw, hlen with
  | [], hw, hlen =>
    refine Ev.step (f := fun _ => some (decide (d < 40 ∧ pre ++ [] ≠ [] ∧ okVs [] (d + 1)))) (fun k => ?_) (Ev.now _)
    simp only [tree_value.l0]
    rw [if_neg (by simp)]
    by_cases c : d < 40
    · rw [if_pos (by omega)]
      rw [okVs]
      congr 1
      rw [decide_eq_decide]
      simp [c, List.length_pos_iff]
    · rw [if_neg (by omega)]
      simp [c]
  | v :: r, hw, hlen =>
    have hl2 : (pre ++ v :: r).length = pre.length + 1 + r.length := by simp; omega
    have hrd := rd_at pre v r
    by_cases c : d = 40
    · subst c
      refine Ev.step (f := fun _ => some false) (fun k => ?_) ?_
      · simp only [tree_value.l0]
        rw [if_pos (by omega), if_pos (by omega), if_pos (by omega), if_pos (by decide)]
      · rw [decide_eq_false (by omega)]
        exact Ev.now _
    · have hv := value_f v (d + 1) (by omega) (by rw [wtVs_app, wtVs_cons] at hw; omega)
      have hr := value_l0 r d (pre ++ [v]) x0 x1 x2 x3 x4 hd (by rw [List.append_assoc]; exact hw)
      rw [List.append_assoc, List.singleton_append] at hr
      refine Ev.step (f := fun k => (tree_value.f k v.f0 v.f1 v.f2.f0 v.f2.f1 v.f3 v.f4 ((d + 1 : Nat) : Int)).bind fun t136 => if t136 = true then tree_value.l0 k (d : Int) (pre ++ v :: r) ((pre ++ v :: r).length : Int) (((pre ++ [v]).length : Nat) : Int) x0 x1 x2 x3 x4 (pre ++ v :: r) else some false) (fun k => ?_) (Ev.bind hv ?_)
      · simp only [tree_value.l0, hrd]
        rw [if_pos (by omega), if_pos (by omega), if_pos (by omega), if_neg (by omega), wrap_nat d (by omega), wrap_nat pre.length (by omega), show (pre ++ [v]).length = pre.length + 1 by simp]
      · by_cases h1 : okV v (d + 1)
        · simp only [decide_eq_true h1, if_true]
          have : decide (d < 40 ∧ pre ++ v :: r ≠ [] ∧ okVs (v :: r) (d + 1)) = decide (d < 40 ∧ pre ++ v :: r ≠ [] ∧ okVs r (d + 1)) := by
            rw [decide_eq_decide, okVs]
            simp [h1]
          rw [this]
          exact hr
        · simp only [decide_eq_false h1, Bool.false_eq_true, if_false]
          rw [decide_eq_false (by rw [okVs]; exact fun h => h1 h.2.2.1)]
          exact Ev.now _
termination_by structural l
end
theorem known_f (s : ByteArray) : tree_known.f s = some (knownP s) := by
  unfold tree_known.f Ex.unit_Amount.f knownP
  rfl
end Go.Proofs.YtahjkibjcibpgaaGreatDoor.L
end
section
namespace Go.Proofs.YtahjkibjcibpgaaGreatDoor.PTr
open Go.RowKit Go.Proofs.YtahjkibjcibpgaaGreatDoorW.Sq Go.Proofs.YtahjkibjcibpgaaGreatDoorW.PrintWords Go.Proofs.YtahjkibjcibpgaaGreatDoorW.PrintLast Go.Proofs.YtahjkibjcibpgaaGreatDoorW.PrintMore
attribute [local go_sem] max2_int min2_int max_two min_two max_three min_three max_four min_four   -- for this text's walks alone
set_option linter.unusedVariables false
set_option linter.unusedSimpArgs false
mutual
def tree_prop.j0 : Nat → Bool → Int → ByteArray → Int → Int → Int → List (S26) → Option (Bool)
  | 0, _, _, _, _, _, _, _ => none
  | k + 1, x18, x142000, x142001, x142002, x142003, x142004, x142005 => if x18 = true then (some false) else (tree_prop.l0 k x142005 (x142005.length : Int) 0 x142000 x142001 x142002 x142003 x142004 x142005)
def tree_prop.l0 : Nat → List (S26) → Int → Int → Int → ByteArray → Int → Int → Int → List (S26) → Option (Bool)
  | 0, _, _, _, _, _, _, _, _, _ => none
  | k + 1, x20, x21, x22, x142000, x142001, x142002, x142003, x142004, x142005 => if x22 < x21 then (if 0 ≤ x22 then (if x22 < (x20.length : Int) then ((tree_value.f k ((rd_T26 x20 x22).f0) ((rd_T26 x20 x22).f1) ((rd_T26 x20 x22).f2.f0) ((rd_T26 x20 x22).f2.f1) ((rd_T26 x20 x22).f3) ((rd_T26 x20 x22).f4) 0).bind fun t146 => (if t146 = true then (if x22 > 0 then (if ((rd_T26 x20 x22).f0) = 3 then ((tree_known.f ((rd_T26 x20 x22).f1)).bind fun t147 => (if t147 = true then (if 0 ≤ (wrap64 (x22 - 1)) then (if (wrap64 (x22 - 1)) < (x142005.length : Int) then (if ((rd_T26 x142005 (wrap64 (x22 - 1))).f0) = 5 then (if ((rd_T26 x142005 (wrap64 (x22 - 1))).f2.f1) = 0 then (some false) else (tree_prop.l0 k x20 x21 (wrap64 (x22 + 1)) x142000 x142001 x142002 x142003 x142004 x142005)) else (tree_prop.l0 k x20 x21 (wrap64 (x22 + 1)) x142000 x142001 x142002 x142003 x142004 x142005)) else (none)) else (none)) else (tree_prop.l0 k x20 x21 (wrap64 (x22 + 1)) x142000 x142001 x142002 x142003 x142004 x142005))) else (tree_prop.l0 k x20 x21 (wrap64 (x22 + 1)) x142000 x142001 x142002 x142003 x142004 x142005)) else (tree_prop.l0 k x20 x21 (wrap64 (x22 + 1)) x142000 x142001 x142002 x142003 x142004 x142005)) else (some false))) else (none)) else (none)) else (some true)
end
def tree_prop.f (k : Nat) (a0_0 : Int) (a0_1 : ByteArray) (a0_2 : Int) (a0_3 : Int) (a0_4 : Int) (l0_5 : List (S26)) : Option (Bool) := if a0_0 = 2 then ((tree_plain.f a0_0 a0_1 a0_2 a0_3 a0_4 l0_5).bind fun t142 => (if t142 = true then ((tree_one.f k a0_1 0).bind fun t143 => (tree_prop.j0 k (!t143) a0_0 a0_1 a0_2 a0_3 a0_4 l0_5)) else (tree_prop.j0 k true a0_0 a0_1 a0_2 a0_3 a0_4 l0_5))) else (tree_prop.j0 k true a0_0 a0_1 a0_2 a0_3 a0_4 l0_5)
theorem tree_prop.mono_l : ∀ k, (∀ y0 y1 y2 y3 y4 y5 y6, LeO (tree_prop.j0 k y0 y1 y2 y3 y4 y5 y6) (tree_prop.j0 (k + 1) y0 y1 y2 y3 y4 y5 y6)) ∧ (∀ y0 y1 y2 y3 y4 y5 y6 y7 y8, LeO (tree_prop.l0 k y0 y1 y2 y3 y4 y5 y6 y7 y8) (tree_prop.l0 (k + 1) y0 y1 y2 y3 y4 y5 y6 y7 y8))
  | 0 => ⟨fun _ _ _ _ _ _ _ r h => by simp [tree_prop.j0] at h, fun _ _ _ _ _ _ _ _ _ r h => by simp [tree_prop.l0] at h⟩
  | k + 1 => by
    obtain ⟨ih0, ih1⟩ := tree_prop.mono_l k
    refine ⟨?_, ?_⟩
    · intro y0 y1 y2 y3 y4 y5 y6
      unfold tree_prop.j0
      repeat' first
      | (with_reducible exact ih0 _ _ _ _ _ _ _)
      | (with_reducible exact ih1 _ _ _ _ _ _ _ _ _)
      | (with_reducible exact tree_one.mono _ _ _)
      | (with_reducible exact tree_value.mono _ _ _ _ _ _ _ _)
      | (with_reducible exact LeO.refl _)
      | (with_reducible exact LeO.none _)
      | (with_reducible refine LeO.ite ?_ ?_)
      | (with_reducible refine LeO.bind ?_ (fun _ => ?_))
      | exact ih0 _ _ _ _ _ _ _
      | exact ih1 _ _ _ _ _ _ _ _ _
      | exact tree_one.mono _ _ _
      | exact tree_value.mono _ _ _ _ _ _ _ _
      | exact LeO.none _
      | refine LeO.ite ?_ ?_
      | refine LeO.bind ?_ (fun _ => ?_)
    intro y0 y1 y2 y3 y4 y5 y6 y7 y8
    unfold tree_prop.l0
    repeat' first
    | (with_reducible exact ih0 _ _ _ _ _ _ _)
    | (with_reducible exact ih1 _ _ _ _ _ _ _ _ _)
    | (with_reducible exact tree_one.mono _ _ _)
    | (with_reducible exact tree_value.mono _ _ _ _ _ _ _ _)
    | (with_reducible exact LeO.refl _)
    | (with_reducible exact LeO.none _)
    | (with_reducible refine LeO.ite ?_ ?_)
    | (with_reducible refine LeO.bind ?_ (fun _ => ?_))
    | exact ih0 _ _ _ _ _ _ _
    | exact ih1 _ _ _ _ _ _ _ _ _
    | exact tree_one.mono _ _ _
    | exact tree_value.mono _ _ _ _ _ _ _ _
    | exact LeO.none _
    | refine LeO.ite ?_ ?_
    | refine LeO.bind ?_ (fun _ => ?_)
theorem tree_prop.mono : ∀ a0 a1 a2 a3 a4 a5 k, LeO (tree_prop.f k a0 a1 a2 a3 a4 a5) (tree_prop.f (k + 1) a0 a1 a2 a3 a4 a5) := by
  intro a0 a1 a2 a3 a4 a5 k
  obtain ⟨ih0, ih1⟩ := tree_prop.mono_l k
  unfold tree_prop.f
  repeat' first
      | (with_reducible exact ih0 _ _ _ _ _ _ _)
      | (with_reducible exact ih1 _ _ _ _ _ _ _ _ _)
      | (with_reducible exact tree_one.mono _ _ _)
      | (with_reducible exact tree_value.mono _ _ _ _ _ _ _ _)
      | (with_reducible exact LeO.refl _)
      | (with_reducible exact LeO.none _)
      | (with_reducible refine LeO.ite ?_ ?_)
      | (with_reducible refine LeO.bind ?_ (fun _ => ?_))
      | exact ih0 _ _ _ _ _ _ _
      | exact ih1 _ _ _ _ _ _ _ _ _
      | exact tree_one.mono _ _ _
      | exact tree_value.mono _ _ _ _ _ _ _ _
      | exact LeO.none _
      | refine LeO.ite ?_ ?_
      | refine LeO.bind ?_ (fun _ => ?_)
set_option maxHeartbeats 8000000 in
set_option maxRecDepth 100000 in
theorem tree_prop.calls (k : Nat) (a0_0 : Int) (a0_1 : ByteArray) (a0_2 : Int) (a0_3 : Int) (a0_4 : Int) (A0_5 : Option Addr) (c0_5 : Nat) (l0_5 : List (S26)) (r : Bool) (w : World) (hg : Go.Proofs.YtahjkibjcibpgaaGreatDoor.U.UW w) (hr0_5 : Kd.C k26 w A0_5 l0_5.length l0_5) (hc0_5 : l0_5.length ≤ c0_5) (h : tree_prop.f k a0_0 a0_1 a0_2 a0_3 a0_4 l0_5 = some r) :
    Calls Tryz.prog 36 #[.agg #[.int .i64 a0_0, .string a0_1, .int .i64 a0_2, .int .i64 a0_3, .int .i64 a0_4, .slice A0_5 l0_5.length c0_5]] w fun e w' => e = .returned (.bool r) ∧ Below w.heap.size w w' := by
  have hu26 := Tryz.underlying26
  have HR0_5 := Aside0.mk hr0_5
  have HC0_5 := Aside0.mk hc0_5
  clear hr0_5 hc0_5
  have HB := Aside0.mk (Below.refl w.heap.size w)
  have HGW := Aside0.mk hg
  clear hg
  have H : (if a0_0 = 2 then ((tree_plain.f a0_0 a0_1 a0_2 a0_3 a0_4 l0_5).bind fun t142 => (if t142 = true then ((tree_one.f k a0_1 0).bind fun t143 => (tree_prop.j0 k (!t143) a0_0 a0_1 a0_2 a0_3 a0_4 l0_5)) else (tree_prop.j0 k true a0_0 a0_1 a0_2 a0_3 a0_4 l0_5))) else (tree_prop.j0 k true a0_0 a0_1 a0_2 a0_3 a0_4 l0_5)) = some r := h
  clear h
  have HC2 := Aside0.mk H
  clear H
  go_enter Tryz.func36, Tryz.ntmps36
  go_upto_region 1 with (first | ((with_reducible refine gate_dst (N := 1) rfl ?_); refine box_event ?hg (N := 1) ?hd (cs := #[.int .i64 a0_0, .string a0_1, .int .i64 a0_2, .int .i64 a0_3, .int .i64 a0_4, .slice A0_5 l0_5.length c0_5]) (t := 26) ?hr ?_; (case hd => rfl); (case hg => rfl); (case hr => first | (go_simp; done) | (go_simp; rfl)); intro gb141 hg w3 hbox hb; have n0_ := Aside0.mk (below_step (by repeat with_reducible first|exact HB.out|apply ba|apply bN|apply bd) hb); have n1_ := Aside0.mk (hbox); have n2_ := Aside0.mk ((by rw [hg]; exact (below_size (by repeat with_reducible first|exact HB.out|apply ba|apply bN|apply bd)) : w.heap.size ≤ gb141)); have n3_ := Aside0.mk ((by rw [hg]; exact (below_size (by repeat with_reducible first|exact HB.out|apply ba|apply bN|apply bd)) : w.heap.size ≤ gb141)); clear HB; have HB := n0_; have BK141 := n1_; have GW141 := n2_; have GE141 := n3_; clear n0_ n1_ n2_ n3_; clear hb hbox hg))
  (try simp only [Act.put, List.setIfInBounds_toArray, List.set_cons_zero, List.set_cons_succ])
  go_cut [18] (fun v18 wc => ∃ (kq : Nat) (x18_1 : Bool), v18 = .bool x18_1 ∧ Aside0 (tree_prop.j0 kq x18_1 a0_0 a0_1 a0_2 a0_3 a0_4 l0_5 = some r) ∧ Aside0 (kq ≤ k) ∧ Aside0 (wc.heap[gb141]? = some (.cells #[.int .i64 a0_0, .string a0_1, .int .i64 a0_2, .int .i64 a0_3, .int .i64 a0_4, (.slice A0_5 l0_5.length c0_5)] 26 (0, 0))) ∧ Aside0 (Below w.heap.size w wc))
  case first =>
    have H := HC2.out
    clear HC2
    by_cases c4 : a0_0 = 2
    · rw [if_pos c4] at H
      have c4b0 : (a0_0 == 2) = true := beq_iff_eq.mpr c4
      have c4b1 : (a0_0 != 2) = false := bne_eq_false_iff_eq.mpr c4
      clear c4
      (first | rw [c4b0] | (simp only [i64_w, i32_w]; rw [c4b0]) | skip)
      replace H := Option.bind_eq_some_iff.mp H
      obtain ⟨t142, A50, H⟩ := H
      replace H : (if t142 = true then ((tree_one.f k a0_1 0).bind fun t143 => (tree_prop.j0 k (!t143) a0_0 a0_1 a0_2 a0_3 a0_4 l0_5)) else (tree_prop.j0 k true a0_0 a0_1 a0_2 a0_3 a0_4 l0_5)) = some r := H
      have A5 := Aside0.mk A50
      clear A50
      by_cases c6 : t142 = true
      · subst c6
        have H1 : ((tree_one.f k a0_1 0).bind fun t143 => (tree_prop.j0 k (!t143) a0_0 a0_1 a0_2 a0_3 a0_4 l0_5)) = some r := by rw [if_pos rfl] at H; exact H
        clear H
        have H := H1
        clear H1
        replace H := Option.bind_eq_some_iff.mp H
        obtain ⟨t143, A70, H⟩ := H
        replace H : (tree_prop.j0 k (!t143) a0_0 a0_1 a0_2 a0_3 a0_4 l0_5) = some r := H
        have A7 := Aside0.mk A70
        clear A70
        have H' := Aside0.mk H
        clear H
        obtain ⟨hcz8_0, hcz8_1, hcz8_2, hcz8_3, hcz8_4, hcz8_5, hfz8_0, hfz8_1, hfz8_2, hfz8_3, hfz8_4, hfz8_5⟩ := cl6 BK141.out
        go_wp2_with (first | (go_at_call 21; (with_reducible refine (tree_plain.calls a0_0 a0_1 a0_2 a0_3 a0_4 _ _ l0_5 true _ ?side1 ?side2 A5.out).mono ?_); (case side1 => repeat (first | exact (Kd.C_below HR0_5.out HB.out) | (with_reducible refine Kd.C_alloc ?_ _) | (with_reducible refine Kd.C_drewN ?_ _) | (with_reducible refine Kd.C_drew ?_))); (case side2 => exact HC0_5.out); rintro e w9 ⟨rfl, hb⟩; have n0_ := Aside0.mk (blk_below (g := gb141) (o := .cells #[.int .i64 a0_0, .string a0_1, .int .i64 a0_2, .int .i64 a0_3, .int .i64 a0_4, .slice A0_5 l0_5.length c0_5] 26 (0, 0)) (by (with_reducible repeat first|refine kN ?_ _|refine kd ?_|refine ka ?_ _); exact BK141.out) hb); have n1_ := Aside0.mk (below_step (by repeat with_reducible first|exact HB.out|apply ba|apply bN|apply bd|refine below_set ?_ GE141.out) hb); clear BK141; clear HB; have BK141 := n0_; have HB := n1_; clear n0_ n1_; (try clear hb); (try clear hb2); (try clear hk); (try clear hi); obtain ⟨hcz10_0, hcz10_1, hcz10_2, hcz10_3, hcz10_4, hcz10_5, hfz10_0, hfz10_1, hfz10_2, hfz10_3, hfz10_4, hfz10_5⟩ := cl6 BK141.out) | (go_at_call 34; (with_reducible refine (tree_one.calls k a0_1 0 t143 _ ?side1 A7.out).mono ?_); (case side1 => exact Go.Proofs.YtahjkibjcibpgaaGreatDoor.U.UW.step HGW.out (by repeat with_reducible first|exact HB.out|apply ba|apply bN|apply bd|refine below_set ?_ GE141.out)); rintro e w11 ⟨rfl, hb⟩; have n0_ := Aside0.mk (blk_below (g := gb141) (o := .cells #[.int .i64 a0_0, .string a0_1, .int .i64 a0_2, .int .i64 a0_3, .int .i64 a0_4, .slice A0_5 l0_5.length c0_5] 26 (0, 0)) (by (with_reducible repeat first|refine kN ?_ _|refine kd ?_|refine ka ?_ _); exact BK141.out) hb); have n1_ := Aside0.mk (below_step (by repeat with_reducible first|exact HB.out|apply ba|apply bN|apply bd|refine below_set ?_ GE141.out) hb); clear BK141; clear HB; have BK141 := n0_; have HB := n1_; clear n0_ n1_; (try clear hb); (try clear hb2); (try clear hk); (try clear hi)))
        go_meet
        case rel => exact ⟨_, (!t143), (by first|rfl|(simp;done)|(simp [*];done)), H', ⟨by first|omega|exact Nat.le_refl _⟩, ⟨by (with_reducible repeat first|refine kN ?_ _|refine kd ?_|refine ka ?_ _); exact BK141.out⟩, ⟨by repeat with_reducible first|exact HB.out|apply ba|apply bN|apply bd|refine below_set ?_ GE141.out⟩⟩
      replace c6 := Bool.eq_false_iff.mpr c6
      subst c6
      have H1 : (tree_prop.j0 k true a0_0 a0_1 a0_2 a0_3 a0_4 l0_5) = some r := by rw [if_neg (show ¬ (false = true) by decide)] at H; exact H
      clear H
      have H := H1
      clear H1
      have H' := Aside0.mk H
      clear H
      obtain ⟨hcz12_0, hcz12_1, hcz12_2, hcz12_3, hcz12_4, hcz12_5, hfz12_0, hfz12_1, hfz12_2, hfz12_3, hfz12_4, hfz12_5⟩ := cl6 BK141.out
      go_wp2_with (first | (go_at_call 21; (with_reducible refine (tree_plain.calls a0_0 a0_1 a0_2 a0_3 a0_4 _ _ l0_5 false _ ?side1 ?side2 A5.out).mono ?_); (case side1 => repeat (first | exact (Kd.C_below HR0_5.out HB.out) | (with_reducible refine Kd.C_alloc ?_ _) | (with_reducible refine Kd.C_drewN ?_ _) | (with_reducible refine Kd.C_drew ?_))); (case side2 => exact HC0_5.out); rintro e w13 ⟨rfl, hb⟩; have n0_ := Aside0.mk (blk_below (g := gb141) (o := .cells #[.int .i64 a0_0, .string a0_1, .int .i64 a0_2, .int .i64 a0_3, .int .i64 a0_4, .slice A0_5 l0_5.length c0_5] 26 (0, 0)) (by (with_reducible repeat first|refine kN ?_ _|refine kd ?_|refine ka ?_ _); exact BK141.out) hb); have n1_ := Aside0.mk (below_step (by repeat with_reducible first|exact HB.out|apply ba|apply bN|apply bd|refine below_set ?_ GE141.out) hb); clear BK141; clear HB; have BK141 := n0_; have HB := n1_; clear n0_ n1_; (try clear hb); (try clear hb2); (try clear hk); (try clear hi)))
      go_meet
      case rel => exact ⟨_, (true), (by first|rfl|(simp;done)|(simp [*];done)), H', ⟨by first|omega|exact Nat.le_refl _⟩, ⟨by (with_reducible repeat first|refine kN ?_ _|refine kd ?_|refine ka ?_ _); exact BK141.out⟩, ⟨by repeat with_reducible first|exact HB.out|apply ba|apply bN|apply bd|refine below_set ?_ GE141.out⟩⟩
    rw [if_neg c4] at H
    have c4b0 : (a0_0 == 2) = false := beq_eq_false_iff_ne.mpr c4
    have c4b1 : (a0_0 != 2) = true := bne_iff_ne.mpr c4
    (first | rw [c4b0] | (simp only [i64_w, i32_w]; rw [c4b0]) | skip)
    have H' := Aside0.mk H
    clear H
    obtain ⟨hcz14_0, hcz14_1, hcz14_2, hcz14_3, hcz14_4, hcz14_5, hfz14_0, hfz14_1, hfz14_2, hfz14_3, hfz14_4, hfz14_5⟩ := cl6 BK141.out
    go_wp2
    go_meet
    case rel => exact ⟨_, (true), (by first|rfl|(simp;done)|(simp [*];done)), H', ⟨by first|omega|exact Nat.le_refl _⟩, ⟨by (with_reducible repeat first|refine kN ?_ _|refine kd ?_|refine ka ?_ _); exact BK141.out⟩, ⟨by repeat with_reducible first|exact HB.out|apply ba|apply bN|apply bd|refine below_set ?_ GE141.out⟩⟩
  case rest =>
    clear HC2
    try clear p2;try clear c3;try clear c4;try clear c4b0;try clear c4b1;try clear c6;try clear hcz10_0;try clear hcz10_1;try clear hcz10_2;try clear hcz10_3;try clear hcz10_4;try clear hcz10_5;try clear hcz12_0;try clear hcz12_1;try clear hcz12_2;try clear hcz12_3;try clear hcz12_4;try clear hcz12_5;try clear hcz14_0;try clear hcz14_1;try clear hcz14_2;try clear hcz14_3;try clear hcz14_4;try clear hcz14_5;try clear hcz8_0;try clear hcz8_1;try clear hcz8_2;try clear hcz8_3;try clear hcz8_4;try clear hcz8_5;try clear hfz10_0;try clear hfz10_1;try clear hfz10_2;try clear hfz10_3;try clear hfz10_4;try clear hfz10_5;try clear hfz12_0;try clear hfz12_1;try clear hfz12_2;try clear hfz12_3;try clear hfz12_4;try clear hfz12_5;try clear hfz14_0;try clear hfz14_1;try clear hfz14_2;try clear hfz14_3;try clear hfz14_4;try clear hfz14_5;try clear hfz8_0;try clear hfz8_1;try clear hfz8_2;try clear hfz8_3;try clear hfz8_4;try clear hfz8_5
    obtain ⟨kq, x18_1, rfl, HA, HJ1, BK141, HB⟩ := hcut
    cases kq with
    | zero => exact absurd HA.out (by simp [tree_prop.j0])
    | succ kj1 =>
      have H := HA.out
      clear HA
      simp only [tree_prop.j0] at H
      by_cases c15 : x18_1 = true
      · subst c15
        have H1 : (some false) = some r := by rw [if_pos rfl] at H; exact H
        clear H
        have H := H1
        clear H1
        obtain rfl := Option.some.inj H
        go_wp2
        go_ret
        exact ⟨by first|rfl|(simp<;>rfl)|(simp [*]<;>rfl), by repeat with_reducible first|exact HB.out|apply ba|apply bN|apply bd|refine below_set ?_ GE141.out⟩
      replace c15 := Bool.eq_false_iff.mpr c15
      subst c15
      have H1 : (tree_prop.l0 kj1 l0_5 (l0_5.length : Int) 0 a0_0 a0_1 a0_2 a0_3 a0_4 l0_5) = some r := by rw [if_neg (show ¬ (false = true) by decide)] at H; exact H
      clear H
      have H := H1
      clear H1
      have H' := Aside0.mk H
      clear H
      obtain ⟨hcz16_0, hcz16_1, hcz16_2, hcz16_3, hcz16_4, hcz16_5, hfz16_0, hfz16_1, hfz16_2, hfz16_3, hfz16_4, hfz16_5⟩ := cl6 BK141.out
      go_wp2
      go_loopg [22] kj1 (fun kq v22 w' => ∃ (x22_2 : Int), v22 = .int .i64 x22_2 ∧ Aside0 (tree_prop.l0 kq l0_5 (l0_5.length : Int) x22_2 a0_0 a0_1 a0_2 a0_3 a0_4 l0_5 = some r) ∧ Aside0 (kq ≤ kj1) ∧ Aside0 (w'.heap[gb141]? = some (.cells #[.int .i64 a0_0, .string a0_1, .int .i64 a0_2, .int .i64 a0_3, .int .i64 a0_4, (.slice A0_5 l0_5.length c0_5)] 26 (0, 0))) ∧ Aside0 (Below w.heap.size w w'))
      case atStart => exact ⟨(0), (by first|rfl|(simp;done)|(simp [*];done)), H', ⟨Nat.le_refl _⟩, ⟨by (with_reducible repeat first|refine kN ?_ _|refine kd ?_|refine ka ?_ _); exact BK141.out⟩, ⟨by repeat with_reducible first|exact HB.out|apply ba|apply bN|apply bd|refine below_set ?_ GE141.out⟩⟩
      case round =>
        clear H'
        try clear c1;try clear p2;try clear c3;try clear c4;try clear c4b0;try clear c4b1;try clear c6;try clear c15;try clear hcz10_0;try clear hcz10_1;try clear hcz10_2;try clear hcz10_3;try clear hcz10_4;try clear hcz10_5;try clear hcz12_0;try clear hcz12_1;try clear hcz12_2;try clear hcz12_3;try clear hcz12_4;try clear hcz12_5;try clear hcz14_0;try clear hcz14_1;try clear hcz14_2;try clear hcz14_3;try clear hcz14_4;try clear hcz14_5;try clear hcz16_0;try clear hcz16_1;try clear hcz16_2;try clear hcz16_3;try clear hcz16_4;try clear hcz16_5;try clear hcz8_0;try clear hcz8_1;try clear hcz8_2;try clear hcz8_3;try clear hcz8_4;try clear hcz8_5;try clear hfz10_0;try clear hfz10_1;try clear hfz10_2;try clear hfz10_3;try clear hfz10_4;try clear hfz10_5;try clear hfz12_0;try clear hfz12_1;try clear hfz12_2;try clear hfz12_3;try clear hfz12_4;try clear hfz12_5;try clear hfz14_0;try clear hfz14_1;try clear hfz14_2;try clear hfz14_3;try clear hfz14_4;try clear hfz14_5;try clear hfz16_0;try clear hfz16_1;try clear hfz16_2;try clear hfz16_3;try clear hfz16_4;try clear hfz16_5;try clear hfz8_0;try clear hfz8_1;try clear hfz8_2;try clear hfz8_3;try clear hfz8_4;try clear hfz8_5;try clear p2
        obtain ⟨x22_2, rfl, HA, HK2, BK141, HB⟩ := hrel
        cases gk with
        | zero => exact absurd HA.out (by simp [tree_prop.l0])
        | succ k2 =>
          have H := HA.out
          clear HA
          simp only [tree_prop.l0] at H
          by_cases c17 : x22_2 < (l0_5.length : Int)
          · rw [if_pos c17] at H
            have c17b0 : decide (x22_2 < (l0_5.length : Int)) = true := decide_eq_true c17
            clear c17
            by_cases c18 : 0 ≤ x22_2
            · rw [if_pos c18] at H
              have c18b0 : decide (0 ≤ x22_2) = true := decide_eq_true c18
              clear c18
              by_cases c19 : x22_2 < (l0_5.length : Int)
              · rw [if_pos c19] at H
                have c19b0 : decide (x22_2 < (l0_5.length : Int)) = true := decide_eq_true c19
                clear c19
                replace H := Option.bind_eq_some_iff.mp H
                obtain ⟨t146, A200, H⟩ := H
                replace H : (if t146 = true then (if x22_2 > 0 then (if ((rd_T26 l0_5 x22_2).f0) = 3 then ((tree_known.f ((rd_T26 l0_5 x22_2).f1)).bind fun t147 => (if t147 = true then (if 0 ≤ (wrap64 (x22_2 - 1)) then (if (wrap64 (x22_2 - 1)) < (l0_5.length : Int) then (if ((rd_T26 l0_5 (wrap64 (x22_2 - 1))).f0) = 5 then (if ((rd_T26 l0_5 (wrap64 (x22_2 - 1))).f2.f1) = 0 then (some false) else (tree_prop.l0 k2 l0_5 (l0_5.length : Int) (wrap64 (x22_2 + 1)) a0_0 a0_1 a0_2 a0_3 a0_4 l0_5)) else (tree_prop.l0 k2 l0_5 (l0_5.length : Int) (wrap64 (x22_2 + 1)) a0_0 a0_1 a0_2 a0_3 a0_4 l0_5)) else (none)) else (none)) else (tree_prop.l0 k2 l0_5 (l0_5.length : Int) (wrap64 (x22_2 + 1)) a0_0 a0_1 a0_2 a0_3 a0_4 l0_5))) else (tree_prop.l0 k2 l0_5 (l0_5.length : Int) (wrap64 (x22_2 + 1)) a0_0 a0_1 a0_2 a0_3 a0_4 l0_5)) else (tree_prop.l0 k2 l0_5 (l0_5.length : Int) (wrap64 (x22_2 + 1)) a0_0 a0_1 a0_2 a0_3 a0_4 l0_5)) else (some false)) = some r := H
                have A20 := Aside0.mk A200
                clear A200
                by_cases c21 : t146 = true
                · subst c21
                  have H1 : (if x22_2 > 0 then (if ((rd_T26 l0_5 x22_2).f0) = 3 then ((tree_known.f ((rd_T26 l0_5 x22_2).f1)).bind fun t147 => (if t147 = true then (if 0 ≤ (wrap64 (x22_2 - 1)) then (if (wrap64 (x22_2 - 1)) < (l0_5.length : Int) then (if ((rd_T26 l0_5 (wrap64 (x22_2 - 1))).f0) = 5 then (if ((rd_T26 l0_5 (wrap64 (x22_2 - 1))).f2.f1) = 0 then (some false) else (tree_prop.l0 k2 l0_5 (l0_5.length : Int) (wrap64 (x22_2 + 1)) a0_0 a0_1 a0_2 a0_3 a0_4 l0_5)) else (tree_prop.l0 k2 l0_5 (l0_5.length : Int) (wrap64 (x22_2 + 1)) a0_0 a0_1 a0_2 a0_3 a0_4 l0_5)) else (none)) else (none)) else (tree_prop.l0 k2 l0_5 (l0_5.length : Int) (wrap64 (x22_2 + 1)) a0_0 a0_1 a0_2 a0_3 a0_4 l0_5))) else (tree_prop.l0 k2 l0_5 (l0_5.length : Int) (wrap64 (x22_2 + 1)) a0_0 a0_1 a0_2 a0_3 a0_4 l0_5)) else (tree_prop.l0 k2 l0_5 (l0_5.length : Int) (wrap64 (x22_2 + 1)) a0_0 a0_1 a0_2 a0_3 a0_4 l0_5)) = some r := by rw [if_pos rfl] at H; exact H
                  clear H
                  have H := H1
                  clear H1
                  by_cases c22 : x22_2 > 0
                  · rw [if_pos c22] at H
                    have c22b0 : decide (0 < x22_2) = true := decide_eq_true c22
                    clear c22
                    by_cases c23 : ((rd_T26 l0_5 x22_2).f0) = 3
                    · rw [if_pos c23] at H
                      have c23b0 : (((rd_T26 l0_5 x22_2).f0) == 3) = true := beq_iff_eq.mpr c23
                      have c23b1 : (((rd_T26 l0_5 x22_2).f0) != 3) = false := bne_eq_false_iff_eq.mpr c23
                      clear c23
                      replace H := Option.bind_eq_some_iff.mp H
                      obtain ⟨t147, A240, H⟩ := H
                      replace H : (if t147 = true then (if 0 ≤ (wrap64 (x22_2 - 1)) then (if (wrap64 (x22_2 - 1)) < (l0_5.length : Int) then (if ((rd_T26 l0_5 (wrap64 (x22_2 - 1))).f0) = 5 then (if ((rd_T26 l0_5 (wrap64 (x22_2 - 1))).f2.f1) = 0 then (some false) else (tree_prop.l0 k2 l0_5 (l0_5.length : Int) (wrap64 (x22_2 + 1)) a0_0 a0_1 a0_2 a0_3 a0_4 l0_5)) else (tree_prop.l0 k2 l0_5 (l0_5.length : Int) (wrap64 (x22_2 + 1)) a0_0 a0_1 a0_2 a0_3 a0_4 l0_5)) else (none)) else (none)) else (tree_prop.l0 k2 l0_5 (l0_5.length : Int) (wrap64 (x22_2 + 1)) a0_0 a0_1 a0_2 a0_3 a0_4 l0_5)) = some r := H
                      have A24 := Aside0.mk A240
                      clear A240
                      by_cases c25 : t147 = true
                      · subst c25
                        have H1 : (if 0 ≤ (wrap64 (x22_2 - 1)) then (if (wrap64 (x22_2 - 1)) < (l0_5.length : Int) then (if ((rd_T26 l0_5 (wrap64 (x22_2 - 1))).f0) = 5 then (if ((rd_T26 l0_5 (wrap64 (x22_2 - 1))).f2.f1) = 0 then (some false) else (tree_prop.l0 k2 l0_5 (l0_5.length : Int) (wrap64 (x22_2 + 1)) a0_0 a0_1 a0_2 a0_3 a0_4 l0_5)) else (tree_prop.l0 k2 l0_5 (l0_5.length : Int) (wrap64 (x22_2 + 1)) a0_0 a0_1 a0_2 a0_3 a0_4 l0_5)) else (none)) else (none)) = some r := by rw [if_pos rfl] at H; exact H
                        clear H
                        have H := H1
                        clear H1
                        obtain ⟨ji26, hji26⟩ : ∃ j_ : Int, (wrap64 (x22_2 - 1)) = j_ := ⟨_, rfl⟩
                        replace H : (if 0 ≤ (ji26) then (if (ji26) < (l0_5.length : Int) then (if ((rd_T26 l0_5 (ji26)).f0) = 5 then (if ((rd_T26 l0_5 (ji26)).f2.f1) = 0 then (some false) else (tree_prop.l0 k2 l0_5 (l0_5.length : Int) (wrap64 (x22_2 + 1)) a0_0 a0_1 a0_2 a0_3 a0_4 l0_5)) else (tree_prop.l0 k2 l0_5 (l0_5.length : Int) (wrap64 (x22_2 + 1)) a0_0 a0_1 a0_2 a0_3 a0_4 l0_5)) else (none)) else (none)) = some r := by first | (rw [hji26] at H; exact H) | (simp only [hji26] at H ⊢; exact H)
                        (try rw [hji26] at A20)
                        (try rw [hji26] at A24)
                        have hji26w : (IntKind.i64.wrap (x22_2 - 1)) = ji26 := (i64_w _).trans hji26
                        by_cases c27 : 0 ≤ (ji26)
                        · rw [if_pos c27] at H
                          have c27b0 : decide (0 ≤ (ji26)) = true := decide_eq_true c27
                          clear c27
                          by_cases c28 : (ji26) < (l0_5.length : Int)
                          · rw [if_pos c28] at H
                            have c28b0 : decide ((ji26) < (l0_5.length : Int)) = true := decide_eq_true c28
                            clear c28
                            by_cases c29 : ((rd_T26 l0_5 (ji26)).f0) = 5
                            · rw [if_pos c29] at H
                              have c29b0 : (((rd_T26 l0_5 (ji26)).f0) == 5) = true := beq_iff_eq.mpr c29
                              have c29b1 : (((rd_T26 l0_5 (ji26)).f0) != 5) = false := bne_eq_false_iff_eq.mpr c29
                              clear c29
                              by_cases c30 : ((rd_T26 l0_5 (ji26)).f2.f1) = 0
                              · rw [if_pos c30] at H
                                have c30b0 : (((rd_T26 l0_5 (ji26)).f2.f1) == 0) = true := beq_iff_eq.mpr c30
                                have c30b1 : (((rd_T26 l0_5 (ji26)).f2.f1) != 0) = false := bne_eq_false_iff_eq.mpr c30
                                clear c30
                                obtain rfl := Option.some.inj H
                                have p144 : 0 ≤ (x22_2 : Int) := of_decide_eq_true (by first|with_reducible assumption|assumption)
                                have q144 : x22_2 < (l0_5.length : Int) := of_decide_eq_true (by first|with_reducible assumption|assumption)
                                obtain ⟨ad144, A144_5, c144_5, e144, hx144_0, hx144_1, hx144_2, hx144_3, hx144_4, hx144_5, hl144_5, hi144_5⟩ := at_T26 HR0_5.out x22_2 p144 q144
                                cases e144
                                replace hx144_0 := cb HB.out hx144_0
                                replace hx144_1 := cb HB.out hx144_1
                                replace hx144_2 := cb HB.out hx144_2
                                replace hx144_3 := cb HB.out hx144_3
                                replace hx144_4 := cb HB.out hx144_4
                                replace hx144_5 := cb HB.out hx144_5
                                have HR144_5 := Aside0.mk hi144_5
                                have HC144_5 := Aside0.mk hl144_5
                                clear hi144_5 hl144_5
                                replace p144 := eq_true p144
                                replace q144 := eq_true q144
                                go_wp2_with (first | ((with_reducible refine gate_dst (N := 4) rfl ?_); refine box_event ?hg (N := 4) ?hd (cs := #[.int .i64 0, .string (⟨#[]⟩ : ByteArray), .int .i64 0, .int .i64 0, .int .i64 0, .slice none 0 0]) (t := 26) ?hr ?_; (case hd => rfl); (case hg => rfl); (case hr => first | (go_simp; done) | (go_simp; rfl)); intro gb145 hg w31 hbox hb; have n0_ := Aside0.mk (blk_below (g := gb141) (o := .cells #[.int .i64 a0_0, .string a0_1, .int .i64 a0_2, .int .i64 a0_3, .int .i64 a0_4, .slice (some ad144) l0_5.length c0_5] 26 (0, 0)) (by (with_reducible repeat first|refine kN ?_ _|refine kd ?_|refine ka ?_ _); exact BK141.out) hb); have n1_ := Aside0.mk (below_step (by repeat with_reducible first|exact HB.out|apply ba|apply bN|apply bd|refine below_set ?_ GE141.out) hb); have n2_ := Aside0.mk (hbox); have n3_ := Aside0.mk ((by rw [hg]; exact (below_size (by repeat with_reducible first|exact HB.out|apply ba|apply bN|apply bd|refine below_set ?_ GE141.out)) : w.heap.size ≤ gb145)); have n4_ := Aside0.mk ((by rw [hg]; exact (below_size (by repeat with_reducible first|exact HB.out|apply ba|apply bN|apply bd|refine below_set ?_ GE141.out)) : w.heap.size ≤ gb145)); have n5_ := Aside0.mk ((by rw [hg]; exact Nat.ne_of_lt (blk_lt (g := gb141) (o := .cells #[.int .i64 a0_0, .string a0_1, .int .i64 a0_2, .int .i64 a0_3, .int .i64 a0_4, .slice (some ad144) l0_5.length c0_5] 26 (0, 0)) (by (with_reducible repeat first|refine kN ?_ _|refine kd ?_|refine ka ?_ _); exact BK141.out)) : gb141 ≠ gb145)); have n6_ := Aside0.mk ((by rw [hg]; exact Nat.ne_of_gt (blk_lt (g := gb141) (o := .cells #[.int .i64 a0_0, .string a0_1, .int .i64 a0_2, .int .i64 a0_3, .int .i64 a0_4, .slice (some ad144) l0_5.length c0_5] 26 (0, 0)) (by (with_reducible repeat first|refine kN ?_ _|refine kd ?_|refine ka ?_ _); exact BK141.out)) : gb145 ≠ gb141)); clear BK141; clear HB; have BK141 := n0_; have HB := n1_; have BK145 := n2_; have GW145 := n3_; have GE145 := n4_; have NB141_145 := n5_; have NB145_141 := n6_; clear n0_ n1_ n2_ n3_ n4_ n5_ n6_; clear hb hbox hg; have hnb32 := NB145_141.out; have hnc32 := NB141_145.out; obtain ⟨hcz33_0, hcz33_1, hcz33_2, hcz33_3, hcz33_4, hcz33_5, hfz33_0, hfz33_1, hfz33_2, hfz33_3, hfz33_4, hfz33_5⟩ := cl6 BK145.out) | ((with_reducible refine gate_callee (f := 35) rfl ?_); refine goesL_ (some 28) rfl rfl Tryz.func35 (by kernel_rfl) rfl #[.agg #[.int .i64 ((rd_T26 l0_5 x22_2).f0), .string ((rd_T26 l0_5 x22_2).f1), .int .i64 ((rd_T26 l0_5 x22_2).f2.f0), .int .i64 ((rd_T26 l0_5 x22_2).f2.f1), .int .i64 ((rd_T26 l0_5 x22_2).f3), .slice A144_5 ((rd_T26 l0_5 x22_2).f4).length c144_5], .int .i64 0] rfl (by (try simp only [List.map_toArray, List.map_cons, List.map_nil]); first | done | rfl | (simp only [List.length_drop, List.length_take]; rfl) | (simp only [Int.toNat_natCast, ByteArray.extract_zero_size] <;> rfl) | (rw [Int.toNat_natCast, ByteArray.extract_zero_size] <;> rfl)) ?_; (with_reducible refine (tree_value.calls k2 ((rd_T26 l0_5 x22_2).f0) ((rd_T26 l0_5 x22_2).f1) ((rd_T26 l0_5 x22_2).f2.f0) ((rd_T26 l0_5 x22_2).f2.f1) ((rd_T26 l0_5 x22_2).f3) _ _ ((rd_T26 l0_5 x22_2).f4) 0 true _ ?side1 ?side2 ?side3 A20.out).mono ?_); (case side1 => exact Go.Proofs.YtahjkibjcibpgaaGreatDoor.U.UW.step HGW.out (by repeat with_reducible first|exact HB.out|apply ba|apply bN|apply bd|refine below_set ?_ GE141.out|refine below_set ?_ GE145.out)); (case side2 => exact Kd.C_below HR144_5.out (by repeat with_reducible first|exact HB.out|apply ba|apply bN|apply bd|refine below_set ?_ GE141.out|refine below_set ?_ GE145.out)); (case side3 => exact HC144_5.out); rintro e w34 ⟨rfl, hb⟩; refine ⟨_, rfl, ?_⟩; have n0_ := Aside0.mk (blk_below (g := gb141) (o := .cells #[.int .i64 a0_0, .string a0_1, .int .i64 a0_2, .int .i64 a0_3, .int .i64 a0_4, .slice (some ad144) l0_5.length c0_5] 26 (0, 0)) (by (with_reducible repeat first|refine kN ?_ _|refine kd ?_|refine ka ?_ _); refine blk_far ?_ NB141_145.out _; (with_reducible repeat first|refine kN ?_ _|refine kd ?_|refine ka ?_ _); refine blk_far ?_ NB141_145.out _; (with_reducible repeat first|refine kN ?_ _|refine kd ?_|refine ka ?_ _); refine blk_far ?_ NB141_145.out _; (with_reducible repeat first|refine kN ?_ _|refine kd ?_|refine ka ?_ _); refine blk_far ?_ NB141_145.out _; (with_reducible repeat first|refine kN ?_ _|refine kd ?_|refine ka ?_ _); refine blk_far ?_ NB141_145.out _; (with_reducible repeat first|refine kN ?_ _|refine kd ?_|refine ka ?_ _); refine blk_far ?_ NB141_145.out _; (with_reducible repeat first|refine kN ?_ _|refine kd ?_|refine ka ?_ _); exact BK141.out) hb); have n1_ := Aside0.mk (blk_below (g := gb145) (o := .cells #[.int .i64 ((rd_T26 l0_5 x22_2).f0), .string ((rd_T26 l0_5 x22_2).f1), .int .i64 ((rd_T26 l0_5 x22_2).f2.f0), .int .i64 ((rd_T26 l0_5 x22_2).f2.f1), .int .i64 ((rd_T26 l0_5 x22_2).f3), .slice A144_5 ((rd_T26 l0_5 x22_2).f4).length c144_5] 26 (0, 0)) (by (with_reducible repeat first|refine kN ?_ _|refine kd ?_|refine ka ?_ _); refine blk_put (cs := #[.int .i64 ((rd_T26 l0_5 x22_2).f0), .string ((rd_T26 l0_5 x22_2).f1), .int .i64 ((rd_T26 l0_5 x22_2).f2.f0), .int .i64 ((rd_T26 l0_5 x22_2).f2.f1), .int .i64 ((rd_T26 l0_5 x22_2).f3), .slice none 0 0]) ?_ 5 _ rfl; (with_reducible repeat first|refine kN ?_ _|refine kd ?_|refine ka ?_ _); refine blk_put (cs := #[.int .i64 ((rd_T26 l0_5 x22_2).f0), .string ((rd_T26 l0_5 x22_2).f1), .int .i64 ((rd_T26 l0_5 x22_2).f2.f0), .int .i64 ((rd_T26 l0_5 x22_2).f2.f1), .int .i64 0, .slice none 0 0]) ?_ 4 _ rfl; (with_reducible repeat first|refine kN ?_ _|refine kd ?_|refine ka ?_ _); refine blk_put (cs := #[.int .i64 ((rd_T26 l0_5 x22_2).f0), .string ((rd_T26 l0_5 x22_2).f1), .int .i64 ((rd_T26 l0_5 x22_2).f2.f0), .int .i64 0, .int .i64 0, .slice none 0 0]) ?_ 3 _ rfl; (with_reducible repeat first|refine kN ?_ _|refine kd ?_|refine ka ?_ _); refine blk_put (cs := #[.int .i64 ((rd_T26 l0_5 x22_2).f0), .string ((rd_T26 l0_5 x22_2).f1), .int .i64 0, .int .i64 0, .int .i64 0, .slice none 0 0]) ?_ 2 _ rfl; (with_reducible repeat first|refine kN ?_ _|refine kd ?_|refine ka ?_ _); refine blk_put (cs := #[.int .i64 ((rd_T26 l0_5 x22_2).f0), .string (⟨#[]⟩ : ByteArray), .int .i64 0, .int .i64 0, .int .i64 0, .slice none 0 0]) ?_ 1 _ rfl; (with_reducible repeat first|refine kN ?_ _|refine kd ?_|refine ka ?_ _); refine blk_put (cs := #[.int .i64 0, .string (⟨#[]⟩ : ByteArray), .int .i64 0, .int .i64 0, .int .i64 0, .slice none 0 0]) ?_ 0 _ rfl; (with_reducible repeat first|refine kN ?_ _|refine kd ?_|refine ka ?_ _); exact BK145.out) hb); have n2_ := Aside0.mk (below_step (by repeat with_reducible first|exact HB.out|apply ba|apply bN|apply bd|refine below_set ?_ GE141.out|refine below_set ?_ GE145.out) hb); clear BK141; clear BK145; clear HB; have BK141 := n0_; have BK145 := n1_; have HB := n2_; clear n0_ n1_ n2_; (try clear hb); (try clear hb2); (try clear hk); (try clear hi); obtain ⟨hcz35_0, hcz35_1, hcz35_2, hcz35_3, hcz35_4, hcz35_5, hfz35_0, hfz35_1, hfz35_2, hfz35_3, hfz35_4, hfz35_5⟩ := cl6 BK145.out) | (go_at_call 55; (with_reducible refine (tree_known.calls ((rd_T26 l0_5 x22_2).f1) true _ ?side1 A24.out).mono ?_); (case side1 => exact Go.Proofs.YtahjkibjcibpgaaGreatDoor.U.UW.step HGW.out (by repeat with_reducible first|exact HB.out|apply ba|apply bN|apply bd|refine below_set ?_ GE141.out|refine below_set ?_ GE145.out)); rintro e w36 ⟨rfl, hb⟩; have n0_ := Aside0.mk (blk_below (g := gb141) (o := .cells #[.int .i64 a0_0, .string a0_1, .int .i64 a0_2, .int .i64 a0_3, .int .i64 a0_4, .slice (some ad144) l0_5.length c0_5] 26 (0, 0)) (by (with_reducible repeat first|refine kN ?_ _|refine kd ?_|refine ka ?_ _); exact BK141.out) hb); have n1_ := Aside0.mk (blk_below (g := gb145) (o := .cells #[.int .i64 ((rd_T26 l0_5 x22_2).f0), .string ((rd_T26 l0_5 x22_2).f1), .int .i64 ((rd_T26 l0_5 x22_2).f2.f0), .int .i64 ((rd_T26 l0_5 x22_2).f2.f1), .int .i64 ((rd_T26 l0_5 x22_2).f3), .slice A144_5 ((rd_T26 l0_5 x22_2).f4).length c144_5] 26 (0, 0)) (by (with_reducible repeat first|refine kN ?_ _|refine kd ?_|refine ka ?_ _); exact BK145.out) hb); have n2_ := Aside0.mk (below_step (by repeat with_reducible first|exact HB.out|apply ba|apply bN|apply bd|refine below_set ?_ GE141.out|refine below_set ?_ GE145.out) hb); clear BK141; clear BK145; clear HB; have BK141 := n0_; have BK145 := n1_; have HB := n2_; clear n0_ n1_ n2_; (try clear hb); (try clear hb2); (try clear hk); (try clear hi); obtain ⟨hcz37_0, hcz37_1, hcz37_2, hcz37_3, hcz37_4, hcz37_5, hfz37_0, hfz37_1, hfz37_2, hfz37_3, hfz37_4, hfz37_5⟩ := cl6 BK141.out; have p148 : 0 ≤ ((ji26) : Int) := of_decide_eq_true (by first|with_reducible assumption|assumption); have q148 : (ji26) < (l0_5.length : Int) := of_decide_eq_true (by first|with_reducible assumption|assumption); obtain ⟨ad148, A148_5, c148_5, e148, hx148_0, hx148_1, hx148_2, hx148_3, hx148_4, hx148_5, hl148_5, hi148_5⟩ := at_T26 HR0_5.out (ji26) p148 q148; obtain rfl : ad144 = ad148 := (by injection e148); replace hx148_0 := cb HB.out hx148_0; replace hx148_1 := cb HB.out hx148_1; replace hx148_2 := cb HB.out hx148_2; replace hx148_3 := cb HB.out hx148_3; replace hx148_4 := cb HB.out hx148_4; replace hx148_5 := cb HB.out hx148_5; have HR148_5 := Aside0.mk hi148_5; have HC148_5 := Aside0.mk hl148_5; clear hi148_5 hl148_5; replace p148 := eq_true p148; replace q148 := eq_true q148; have p149 : 0 ≤ ((ji26) : Int) := of_decide_eq_true (by first|with_reducible assumption|assumption); have q149 : (ji26) < (l0_5.length : Int) := of_decide_eq_true (by first|with_reducible assumption|assumption); obtain ⟨ad149, A149_5, c149_5, e149, hx149_0, hx149_1, hx149_2, hx149_3, hx149_4, hx149_5, hl149_5, hi149_5⟩ := at_T26 HR0_5.out (ji26) p149 q149; obtain rfl : ad144 = ad149 := (by injection e149); replace hx149_0 := cb HB.out hx149_0; replace hx149_1 := cb HB.out hx149_1; replace hx149_2 := cb HB.out hx149_2; replace hx149_3 := cb HB.out hx149_3; replace hx149_4 := cb HB.out hx149_4; replace hx149_5 := cb HB.out hx149_5; have HR149_5 := Aside0.mk hi149_5; have HC149_5 := Aside0.mk hl149_5; clear hi149_5 hl149_5; replace p149 := eq_true p149; replace q149 := eq_true q149; have ea_ := Option.some.inj (hx148_5.symm.trans hx149_5); injection ea_ with ea_ en_ ec_; subst ea_; subst ec_; clear en_))
                                go_ret
                                exact ⟨by first | rfl | (simp [errW_none, errW_some] <;> rfl) | (simp only [← hji26]; first | rfl | (simp [errW_none, errW_some] <;> rfl)) | (simp [*, errW_none, errW_some] <;> rfl), by repeat with_reducible first|exact HB.out|apply ba|apply bN|apply bd|refine below_set ?_ GE141.out|refine below_set ?_ GE145.out⟩
                              rw [if_neg c30] at H
                              have c30b0 : (((rd_T26 l0_5 (ji26)).f2.f1) == 0) = false := beq_eq_false_iff_ne.mpr c30
                              have c30b1 : (((rd_T26 l0_5 (ji26)).f2.f1) != 0) = true := bne_iff_ne.mpr c30
                              have H' := Aside0.mk H
                              clear H
                              have p144 : 0 ≤ (x22_2 : Int) := of_decide_eq_true (by first|with_reducible assumption|assumption)
                              have q144 : x22_2 < (l0_5.length : Int) := of_decide_eq_true (by first|with_reducible assumption|assumption)
                              obtain ⟨ad144, A144_5, c144_5, e144, hx144_0, hx144_1, hx144_2, hx144_3, hx144_4, hx144_5, hl144_5, hi144_5⟩ := at_T26 HR0_5.out x22_2 p144 q144
                              cases e144
                              replace hx144_0 := cb HB.out hx144_0
                              replace hx144_1 := cb HB.out hx144_1
                              replace hx144_2 := cb HB.out hx144_2
                              replace hx144_3 := cb HB.out hx144_3
                              replace hx144_4 := cb HB.out hx144_4
                              replace hx144_5 := cb HB.out hx144_5
                              have HR144_5 := Aside0.mk hi144_5
                              have HC144_5 := Aside0.mk hl144_5
                              clear hi144_5 hl144_5
                              replace p144 := eq_true p144
                              replace q144 := eq_true q144
                              go_wp2_with (first | ((with_reducible refine gate_dst (N := 4) rfl ?_); refine box_event ?hg (N := 4) ?hd (cs := #[.int .i64 0, .string (⟨#[]⟩ : ByteArray), .int .i64 0, .int .i64 0, .int .i64 0, .slice none 0 0]) (t := 26) ?hr ?_; (case hd => rfl); (case hg => rfl); (case hr => first | (go_simp; done) | (go_simp; rfl)); intro gb145 hg w38 hbox hb; have n0_ := Aside0.mk (blk_below (g := gb141) (o := .cells #[.int .i64 a0_0, .string a0_1, .int .i64 a0_2, .int .i64 a0_3, .int .i64 a0_4, .slice (some ad144) l0_5.length c0_5] 26 (0, 0)) (by (with_reducible repeat first|refine kN ?_ _|refine kd ?_|refine ka ?_ _); exact BK141.out) hb); have n1_ := Aside0.mk (below_step (by repeat with_reducible first|exact HB.out|apply ba|apply bN|apply bd|refine below_set ?_ GE141.out) hb); have n2_ := Aside0.mk (hbox); have n3_ := Aside0.mk ((by rw [hg]; exact (below_size (by repeat with_reducible first|exact HB.out|apply ba|apply bN|apply bd|refine below_set ?_ GE141.out)) : w.heap.size ≤ gb145)); have n4_ := Aside0.mk ((by rw [hg]; exact (below_size (by repeat with_reducible first|exact HB.out|apply ba|apply bN|apply bd|refine below_set ?_ GE141.out)) : w.heap.size ≤ gb145)); have n5_ := Aside0.mk ((by rw [hg]; exact Nat.ne_of_lt (blk_lt (g := gb141) (o := .cells #[.int .i64 a0_0, .string a0_1, .int .i64 a0_2, .int .i64 a0_3, .int .i64 a0_4, .slice (some ad144) l0_5.length c0_5] 26 (0, 0)) (by (with_reducible repeat first|refine kN ?_ _|refine kd ?_|refine ka ?_ _); exact BK141.out)) : gb141 ≠ gb145)); have n6_ := Aside0.mk ((by rw [hg]; exact Nat.ne_of_gt (blk_lt (g := gb141) (o := .cells #[.int .i64 a0_0, .string a0_1, .int .i64 a0_2, .int .i64 a0_3, .int .i64 a0_4, .slice (some ad144) l0_5.length c0_5] 26 (0, 0)) (by (with_reducible repeat first|refine kN ?_ _|refine kd ?_|refine ka ?_ _); exact BK141.out)) : gb145 ≠ gb141)); clear BK141; clear HB; have BK141 := n0_; have HB := n1_; have BK145 := n2_; have GW145 := n3_; have GE145 := n4_; have NB141_145 := n5_; have NB145_141 := n6_; clear n0_ n1_ n2_ n3_ n4_ n5_ n6_; clear hb hbox hg; have hnb39 := NB145_141.out; have hnc39 := NB141_145.out; obtain ⟨hcz40_0, hcz40_1, hcz40_2, hcz40_3, hcz40_4, hcz40_5, hfz40_0, hfz40_1, hfz40_2, hfz40_3, hfz40_4, hfz40_5⟩ := cl6 BK145.out) | ((with_reducible refine gate_callee (f := 35) rfl ?_); refine goesL_ (some 28) rfl rfl Tryz.func35 (by kernel_rfl) rfl #[.agg #[.int .i64 ((rd_T26 l0_5 x22_2).f0), .string ((rd_T26 l0_5 x22_2).f1), .int .i64 ((rd_T26 l0_5 x22_2).f2.f0), .int .i64 ((rd_T26 l0_5 x22_2).f2.f1), .int .i64 ((rd_T26 l0_5 x22_2).f3), .slice A144_5 ((rd_T26 l0_5 x22_2).f4).length c144_5], .int .i64 0] rfl (by (try simp only [List.map_toArray, List.map_cons, List.map_nil]); first | done | rfl | (simp only [List.length_drop, List.length_take]; rfl) | (simp only [Int.toNat_natCast, ByteArray.extract_zero_size] <;> rfl) | (rw [Int.toNat_natCast, ByteArray.extract_zero_size] <;> rfl)) ?_; (with_reducible refine (tree_value.calls k2 ((rd_T26 l0_5 x22_2).f0) ((rd_T26 l0_5 x22_2).f1) ((rd_T26 l0_5 x22_2).f2.f0) ((rd_T26 l0_5 x22_2).f2.f1) ((rd_T26 l0_5 x22_2).f3) _ _ ((rd_T26 l0_5 x22_2).f4) 0 true _ ?side1 ?side2 ?side3 A20.out).mono ?_); (case side1 => exact Go.Proofs.YtahjkibjcibpgaaGreatDoor.U.UW.step HGW.out (by repeat with_reducible first|exact HB.out|apply ba|apply bN|apply bd|refine below_set ?_ GE141.out|refine below_set ?_ GE145.out)); (case side2 => exact Kd.C_below HR144_5.out (by repeat with_reducible first|exact HB.out|apply ba|apply bN|apply bd|refine below_set ?_ GE141.out|refine below_set ?_ GE145.out)); (case side3 => exact HC144_5.out); rintro e w41 ⟨rfl, hb⟩; refine ⟨_, rfl, ?_⟩; have n0_ := Aside0.mk (blk_below (g := gb141) (o := .cells #[.int .i64 a0_0, .string a0_1, .int .i64 a0_2, .int .i64 a0_3, .int .i64 a0_4, .slice (some ad144) l0_5.length c0_5] 26 (0, 0)) (by (with_reducible repeat first|refine kN ?_ _|refine kd ?_|refine ka ?_ _); refine blk_far ?_ NB141_145.out _; (with_reducible repeat first|refine kN ?_ _|refine kd ?_|refine ka ?_ _); refine blk_far ?_ NB141_145.out _; (with_reducible repeat first|refine kN ?_ _|refine kd ?_|refine ka ?_ _); refine blk_far ?_ NB141_145.out _; (with_reducible repeat first|refine kN ?_ _|refine kd ?_|refine ka ?_ _); refine blk_far ?_ NB141_145.out _; (with_reducible repeat first|refine kN ?_ _|refine kd ?_|refine ka ?_ _); refine blk_far ?_ NB141_145.out _; (with_reducible repeat first|refine kN ?_ _|refine kd ?_|refine ka ?_ _); refine blk_far ?_ NB141_145.out _; (with_reducible repeat first|refine kN ?_ _|refine kd ?_|refine ka ?_ _); exact BK141.out) hb); have n1_ := Aside0.mk (blk_below (g := gb145) (o := .cells #[.int .i64 ((rd_T26 l0_5 x22_2).f0), .string ((rd_T26 l0_5 x22_2).f1), .int .i64 ((rd_T26 l0_5 x22_2).f2.f0), .int .i64 ((rd_T26 l0_5 x22_2).f2.f1), .int .i64 ((rd_T26 l0_5 x22_2).f3), .slice A144_5 ((rd_T26 l0_5 x22_2).f4).length c144_5] 26 (0, 0)) (by (with_reducible repeat first|refine kN ?_ _|refine kd ?_|refine ka ?_ _); refine blk_put (cs := #[.int .i64 ((rd_T26 l0_5 x22_2).f0), .string ((rd_T26 l0_5 x22_2).f1), .int .i64 ((rd_T26 l0_5 x22_2).f2.f0), .int .i64 ((rd_T26 l0_5 x22_2).f2.f1), .int .i64 ((rd_T26 l0_5 x22_2).f3), .slice none 0 0]) ?_ 5 _ rfl; (with_reducible repeat first|refine kN ?_ _|refine kd ?_|refine ka ?_ _); refine blk_put (cs := #[.int .i64 ((rd_T26 l0_5 x22_2).f0), .string ((rd_T26 l0_5 x22_2).f1), .int .i64 ((rd_T26 l0_5 x22_2).f2.f0), .int .i64 ((rd_T26 l0_5 x22_2).f2.f1), .int .i64 0, .slice none 0 0]) ?_ 4 _ rfl; (with_reducible repeat first|refine kN ?_ _|refine kd ?_|refine ka ?_ _); refine blk_put (cs := #[.int .i64 ((rd_T26 l0_5 x22_2).f0), .string ((rd_T26 l0_5 x22_2).f1), .int .i64 ((rd_T26 l0_5 x22_2).f2.f0), .int .i64 0, .int .i64 0, .slice none 0 0]) ?_ 3 _ rfl; (with_reducible repeat first|refine kN ?_ _|refine kd ?_|refine ka ?_ _); refine blk_put (cs := #[.int .i64 ((rd_T26 l0_5 x22_2).f0), .string ((rd_T26 l0_5 x22_2).f1), .int .i64 0, .int .i64 0, .int .i64 0, .slice none 0 0]) ?_ 2 _ rfl; (with_reducible repeat first|refine kN ?_ _|refine kd ?_|refine ka ?_ _); refine blk_put (cs := #[.int .i64 ((rd_T26 l0_5 x22_2).f0), .string (⟨#[]⟩ : ByteArray), .int .i64 0, .int .i64 0, .int .i64 0, .slice none 0 0]) ?_ 1 _ rfl; (with_reducible repeat first|refine kN ?_ _|refine kd ?_|refine ka ?_ _); refine blk_put (cs := #[.int .i64 0, .string (⟨#[]⟩ : ByteArray), .int .i64 0, .int .i64 0, .int .i64 0, .slice none 0 0]) ?_ 0 _ rfl; (with_reducible repeat first|refine kN ?_ _|refine kd ?_|refine ka ?_ _); exact BK145.out) hb); have n2_ := Aside0.mk (below_step (by repeat with_reducible first|exact HB.out|apply ba|apply bN|apply bd|refine below_set ?_ GE141.out|refine below_set ?_ GE145.out) hb); clear BK141; clear BK145; clear HB; have BK141 := n0_; have BK145 := n1_; have HB := n2_; clear n0_ n1_ n2_; (try clear hb); (try clear hb2); (try clear hk); (try clear hi); obtain ⟨hcz42_0, hcz42_1, hcz42_2, hcz42_3, hcz42_4, hcz42_5, hfz42_0, hfz42_1, hfz42_2, hfz42_3, hfz42_4, hfz42_5⟩ := cl6 BK145.out) | (go_at_call 55; (with_reducible refine (tree_known.calls ((rd_T26 l0_5 x22_2).f1) true _ ?side1 A24.out).mono ?_); (case side1 => exact Go.Proofs.YtahjkibjcibpgaaGreatDoor.U.UW.step HGW.out (by repeat with_reducible first|exact HB.out|apply ba|apply bN|apply bd|refine below_set ?_ GE141.out|refine below_set ?_ GE145.out)); rintro e w43 ⟨rfl, hb⟩; have n0_ := Aside0.mk (blk_below (g := gb141) (o := .cells #[.int .i64 a0_0, .string a0_1, .int .i64 a0_2, .int .i64 a0_3, .int .i64 a0_4, .slice (some ad144) l0_5.length c0_5] 26 (0, 0)) (by (with_reducible repeat first|refine kN ?_ _|refine kd ?_|refine ka ?_ _); exact BK141.out) hb); have n1_ := Aside0.mk (blk_below (g := gb145) (o := .cells #[.int .i64 ((rd_T26 l0_5 x22_2).f0), .string ((rd_T26 l0_5 x22_2).f1), .int .i64 ((rd_T26 l0_5 x22_2).f2.f0), .int .i64 ((rd_T26 l0_5 x22_2).f2.f1), .int .i64 ((rd_T26 l0_5 x22_2).f3), .slice A144_5 ((rd_T26 l0_5 x22_2).f4).length c144_5] 26 (0, 0)) (by (with_reducible repeat first|refine kN ?_ _|refine kd ?_|refine ka ?_ _); exact BK145.out) hb); have n2_ := Aside0.mk (below_step (by repeat with_reducible first|exact HB.out|apply ba|apply bN|apply bd|refine below_set ?_ GE141.out|refine below_set ?_ GE145.out) hb); clear BK141; clear BK145; clear HB; have BK141 := n0_; have BK145 := n1_; have HB := n2_; clear n0_ n1_ n2_; (try clear hb); (try clear hb2); (try clear hk); (try clear hi); obtain ⟨hcz44_0, hcz44_1, hcz44_2, hcz44_3, hcz44_4, hcz44_5, hfz44_0, hfz44_1, hfz44_2, hfz44_3, hfz44_4, hfz44_5⟩ := cl6 BK141.out; have p148 : 0 ≤ ((ji26) : Int) := of_decide_eq_true (by first|with_reducible assumption|assumption); have q148 : (ji26) < (l0_5.length : Int) := of_decide_eq_true (by first|with_reducible assumption|assumption); obtain ⟨ad148, A148_5, c148_5, e148, hx148_0, hx148_1, hx148_2, hx148_3, hx148_4, hx148_5, hl148_5, hi148_5⟩ := at_T26 HR0_5.out (ji26) p148 q148; obtain rfl : ad144 = ad148 := (by injection e148); replace hx148_0 := cb HB.out hx148_0; replace hx148_1 := cb HB.out hx148_1; replace hx148_2 := cb HB.out hx148_2; replace hx148_3 := cb HB.out hx148_3; replace hx148_4 := cb HB.out hx148_4; replace hx148_5 := cb HB.out hx148_5; have HR148_5 := Aside0.mk hi148_5; have HC148_5 := Aside0.mk hl148_5; clear hi148_5 hl148_5; replace p148 := eq_true p148; replace q148 := eq_true q148; have p149 : 0 ≤ ((ji26) : Int) := of_decide_eq_true (by first|with_reducible assumption|assumption); have q149 : (ji26) < (l0_5.length : Int) := of_decide_eq_true (by first|with_reducible assumption|assumption); obtain ⟨ad149, A149_5, c149_5, e149, hx149_0, hx149_1, hx149_2, hx149_3, hx149_4, hx149_5, hl149_5, hi149_5⟩ := at_T26 HR0_5.out (ji26) p149 q149; obtain rfl : ad144 = ad149 := (by injection e149); replace hx149_0 := cb HB.out hx149_0; replace hx149_1 := cb HB.out hx149_1; replace hx149_2 := cb HB.out hx149_2; replace hx149_3 := cb HB.out hx149_3; replace hx149_4 := cb HB.out hx149_4; replace hx149_5 := cb HB.out hx149_5; have HR149_5 := Aside0.mk hi149_5; have HC149_5 := Aside0.mk hl149_5; clear hi149_5 hl149_5; replace p149 := eq_true p149; replace q149 := eq_true q149; have ea_ := Option.some.inj (hx148_5.symm.trans hx149_5); injection ea_ with ea_ en_ ec_; subst ea_; subst ec_; clear en_))
                              go_roundg k2
                              case measure => have := HJ1.out; have := HK2.out; omega
                              case rel => exact ⟨(wrap64 (x22_2 + 1)), (by first|rfl|(simp;done)|(simp [*];done)), H', ⟨by have := HJ1.out; have := HK2.out; omega⟩, ⟨by (with_reducible repeat first|refine kN ?_ _|refine kd ?_|refine ka ?_ _); exact BK141.out⟩, ⟨by repeat with_reducible first|exact HB.out|apply ba|apply bN|apply bd|refine below_set ?_ GE141.out|refine below_set ?_ GE145.out⟩⟩
                            rw [if_neg c29] at H
                            have c29b0 : (((rd_T26 l0_5 (ji26)).f0) == 5) = false := beq_eq_false_iff_ne.mpr c29
                            have c29b1 : (((rd_T26 l0_5 (ji26)).f0) != 5) = true := bne_iff_ne.mpr c29
                            have H' := Aside0.mk H
                            clear H
                            have p144 : 0 ≤ (x22_2 : Int) := of_decide_eq_true (by first|with_reducible assumption|assumption)
                            have q144 : x22_2 < (l0_5.length : Int) := of_decide_eq_true (by first|with_reducible assumption|assumption)
                            obtain ⟨ad144, A144_5, c144_5, e144, hx144_0, hx144_1, hx144_2, hx144_3, hx144_4, hx144_5, hl144_5, hi144_5⟩ := at_T26 HR0_5.out x22_2 p144 q144
                            cases e144
                            replace hx144_0 := cb HB.out hx144_0
                            replace hx144_1 := cb HB.out hx144_1
                            replace hx144_2 := cb HB.out hx144_2
                            replace hx144_3 := cb HB.out hx144_3
                            replace hx144_4 := cb HB.out hx144_4
                            replace hx144_5 := cb HB.out hx144_5
                            have HR144_5 := Aside0.mk hi144_5
                            have HC144_5 := Aside0.mk hl144_5
                            clear hi144_5 hl144_5
                            replace p144 := eq_true p144
                            replace q144 := eq_true q144
                            go_wp2_with (first | ((with_reducible refine gate_dst (N := 4) rfl ?_); refine box_event ?hg (N := 4) ?hd (cs := #[.int .i64 0, .string (⟨#[]⟩ : ByteArray), .int .i64 0, .int .i64 0, .int .i64 0, .slice none 0 0]) (t := 26) ?hr ?_; (case hd => rfl); (case hg => rfl); (case hr => first | (go_simp; done) | (go_simp; rfl)); intro gb145 hg w45 hbox hb; have n0_ := Aside0.mk (blk_below (g := gb141) (o := .cells #[.int .i64 a0_0, .string a0_1, .int .i64 a0_2, .int .i64 a0_3, .int .i64 a0_4, .slice (some ad144) l0_5.length c0_5] 26 (0, 0)) (by (with_reducible repeat first|refine kN ?_ _|refine kd ?_|refine ka ?_ _); exact BK141.out) hb); have n1_ := Aside0.mk (below_step (by repeat with_reducible first|exact HB.out|apply ba|apply bN|apply bd|refine below_set ?_ GE141.out) hb); have n2_ := Aside0.mk (hbox); have n3_ := Aside0.mk ((by rw [hg]; exact (below_size (by repeat with_reducible first|exact HB.out|apply ba|apply bN|apply bd|refine below_set ?_ GE141.out)) : w.heap.size ≤ gb145)); have n4_ := Aside0.mk ((by rw [hg]; exact (below_size (by repeat with_reducible first|exact HB.out|apply ba|apply bN|apply bd|refine below_set ?_ GE141.out)) : w.heap.size ≤ gb145)); have n5_ := Aside0.mk ((by rw [hg]; exact Nat.ne_of_lt (blk_lt (g := gb141) (o := .cells #[.int .i64 a0_0, .string a0_1, .int .i64 a0_2, .int .i64 a0_3, .int .i64 a0_4, .slice (some ad144) l0_5.length c0_5] 26 (0, 0)) (by (with_reducible repeat first|refine kN ?_ _|refine kd ?_|refine ka ?_ _); exact BK141.out)) : gb141 ≠ gb145)); have n6_ := Aside0.mk ((by rw [hg]; exact Nat.ne_of_gt (blk_lt (g := gb141) (o := .cells #[.int .i64 a0_0, .string a0_1, .int .i64 a0_2, .int .i64 a0_3, .int .i64 a0_4, .slice (some ad144) l0_5.length c0_5] 26 (0, 0)) (by (with_reducible repeat first|refine kN ?_ _|refine kd ?_|refine ka ?_ _); exact BK141.out)) : gb145 ≠ gb141)); clear BK141; clear HB; have BK141 := n0_; have HB := n1_; have BK145 := n2_; have GW145 := n3_; have GE145 := n4_; have NB141_145 := n5_; have NB145_141 := n6_; clear n0_ n1_ n2_ n3_ n4_ n5_ n6_; clear hb hbox hg; have hnb46 := NB145_141.out; have hnc46 := NB141_145.out; obtain ⟨hcz47_0, hcz47_1, hcz47_2, hcz47_3, hcz47_4, hcz47_5, hfz47_0, hfz47_1, hfz47_2, hfz47_3, hfz47_4, hfz47_5⟩ := cl6 BK145.out) | ((with_reducible refine gate_callee (f := 35) rfl ?_); refine goesL_ (some 28) rfl rfl Tryz.func35 (by kernel_rfl) rfl #[.agg #[.int .i64 ((rd_T26 l0_5 x22_2).f0), .string ((rd_T26 l0_5 x22_2).f1), .int .i64 ((rd_T26 l0_5 x22_2).f2.f0), .int .i64 ((rd_T26 l0_5 x22_2).f2.f1), .int .i64 ((rd_T26 l0_5 x22_2).f3), .slice A144_5 ((rd_T26 l0_5 x22_2).f4).length c144_5], .int .i64 0] rfl (by (try simp only [List.map_toArray, List.map_cons, List.map_nil]); first | done | rfl | (simp only [List.length_drop, List.length_take]; rfl) | (simp only [Int.toNat_natCast, ByteArray.extract_zero_size] <;> rfl) | (rw [Int.toNat_natCast, ByteArray.extract_zero_size] <;> rfl)) ?_; (with_reducible refine (tree_value.calls k2 ((rd_T26 l0_5 x22_2).f0) ((rd_T26 l0_5 x22_2).f1) ((rd_T26 l0_5 x22_2).f2.f0) ((rd_T26 l0_5 x22_2).f2.f1) ((rd_T26 l0_5 x22_2).f3) _ _ ((rd_T26 l0_5 x22_2).f4) 0 true _ ?side1 ?side2 ?side3 A20.out).mono ?_); (case side1 => exact Go.Proofs.YtahjkibjcibpgaaGreatDoor.U.UW.step HGW.out (by repeat with_reducible first|exact HB.out|apply ba|apply bN|apply bd|refine below_set ?_ GE141.out|refine below_set ?_ GE145.out)); (case side2 => exact Kd.C_below HR144_5.out (by repeat with_reducible first|exact HB.out|apply ba|apply bN|apply bd|refine below_set ?_ GE141.out|refine below_set ?_ GE145.out)); (case side3 => exact HC144_5.out); rintro e w48 ⟨rfl, hb⟩; refine ⟨_, rfl, ?_⟩; have n0_ := Aside0.mk (blk_below (g := gb141) (o := .cells #[.int .i64 a0_0, .string a0_1, .int .i64 a0_2, .int .i64 a0_3, .int .i64 a0_4, .slice (some ad144) l0_5.length c0_5] 26 (0, 0)) (by (with_reducible repeat first|refine kN ?_ _|refine kd ?_|refine ka ?_ _); refine blk_far ?_ NB141_145.out _; (with_reducible repeat first|refine kN ?_ _|refine kd ?_|refine ka ?_ _); refine blk_far ?_ NB141_145.out _; (with_reducible repeat first|refine kN ?_ _|refine kd ?_|refine ka ?_ _); refine blk_far ?_ NB141_145.out _; (with_reducible repeat first|refine kN ?_ _|refine kd ?_|refine ka ?_ _); refine blk_far ?_ NB141_145.out _; (with_reducible repeat first|refine kN ?_ _|refine kd ?_|refine ka ?_ _); refine blk_far ?_ NB141_145.out _; (with_reducible repeat first|refine kN ?_ _|refine kd ?_|refine ka ?_ _); refine blk_far ?_ NB141_145.out _; (with_reducible repeat first|refine kN ?_ _|refine kd ?_|refine ka ?_ _); exact BK141.out) hb); have n1_ := Aside0.mk (blk_below (g := gb145) (o := .cells #[.int .i64 ((rd_T26 l0_5 x22_2).f0), .string ((rd_T26 l0_5 x22_2).f1), .int .i64 ((rd_T26 l0_5 x22_2).f2.f0), .int .i64 ((rd_T26 l0_5 x22_2).f2.f1), .int .i64 ((rd_T26 l0_5 x22_2).f3), .slice A144_5 ((rd_T26 l0_5 x22_2).f4).length c144_5] 26 (0, 0)) (by (with_reducible repeat first|refine kN ?_ _|refine kd ?_|refine ka ?_ _); refine blk_put (cs := #[.int .i64 ((rd_T26 l0_5 x22_2).f0), .string ((rd_T26 l0_5 x22_2).f1), .int .i64 ((rd_T26 l0_5 x22_2).f2.f0), .int .i64 ((rd_T26 l0_5 x22_2).f2.f1), .int .i64 ((rd_T26 l0_5 x22_2).f3), .slice none 0 0]) ?_ 5 _ rfl; (with_reducible repeat first|refine kN ?_ _|refine kd ?_|refine ka ?_ _); refine blk_put (cs := #[.int .i64 ((rd_T26 l0_5 x22_2).f0), .string ((rd_T26 l0_5 x22_2).f1), .int .i64 ((rd_T26 l0_5 x22_2).f2.f0), .int .i64 ((rd_T26 l0_5 x22_2).f2.f1), .int .i64 0, .slice none 0 0]) ?_ 4 _ rfl; (with_reducible repeat first|refine kN ?_ _|refine kd ?_|refine ka ?_ _); refine blk_put (cs := #[.int .i64 ((rd_T26 l0_5 x22_2).f0), .string ((rd_T26 l0_5 x22_2).f1), .int .i64 ((rd_T26 l0_5 x22_2).f2.f0), .int .i64 0, .int .i64 0, .slice none 0 0]) ?_ 3 _ rfl; (with_reducible repeat first|refine kN ?_ _|refine kd ?_|refine ka ?_ _); refine blk_put (cs := #[.int .i64 ((rd_T26 l0_5 x22_2).f0), .string ((rd_T26 l0_5 x22_2).f1), .int .i64 0, .int .i64 0, .int .i64 0, .slice none 0 0]) ?_ 2 _ rfl; (with_reducible repeat first|refine kN ?_ _|refine kd ?_|refine ka ?_ _); refine blk_put (cs := #[.int .i64 ((rd_T26 l0_5 x22_2).f0), .string (⟨#[]⟩ : ByteArray), .int .i64 0, .int .i64 0, .int .i64 0, .slice none 0 0]) ?_ 1 _ rfl; (with_reducible repeat first|refine kN ?_ _|refine kd ?_|refine ka ?_ _); refine blk_put (cs := #[.int .i64 0, .string (⟨#[]⟩ : ByteArray), .int .i64 0, .int .i64 0, .int .i64 0, .slice none 0 0]) ?_ 0 _ rfl; (with_reducible repeat first|refine kN ?_ _|refine kd ?_|refine ka ?_ _); exact BK145.out) hb); have n2_ := Aside0.mk (below_step (by repeat with_reducible first|exact HB.out|apply ba|apply bN|apply bd|refine below_set ?_ GE141.out|refine below_set ?_ GE145.out) hb); clear BK141; clear BK145; clear HB; have BK141 := n0_; have BK145 := n1_; have HB := n2_; clear n0_ n1_ n2_; (try clear hb); (try clear hb2); (try clear hk); (try clear hi); obtain ⟨hcz49_0, hcz49_1, hcz49_2, hcz49_3, hcz49_4, hcz49_5, hfz49_0, hfz49_1, hfz49_2, hfz49_3, hfz49_4, hfz49_5⟩ := cl6 BK145.out) | (go_at_call 55; (with_reducible refine (tree_known.calls ((rd_T26 l0_5 x22_2).f1) true _ ?side1 A24.out).mono ?_); (case side1 => exact Go.Proofs.YtahjkibjcibpgaaGreatDoor.U.UW.step HGW.out (by repeat with_reducible first|exact HB.out|apply ba|apply bN|apply bd|refine below_set ?_ GE141.out|refine below_set ?_ GE145.out)); rintro e w50 ⟨rfl, hb⟩; have n0_ := Aside0.mk (blk_below (g := gb141) (o := .cells #[.int .i64 a0_0, .string a0_1, .int .i64 a0_2, .int .i64 a0_3, .int .i64 a0_4, .slice (some ad144) l0_5.length c0_5] 26 (0, 0)) (by (with_reducible repeat first|refine kN ?_ _|refine kd ?_|refine ka ?_ _); exact BK141.out) hb); have n1_ := Aside0.mk (blk_below (g := gb145) (o := .cells #[.int .i64 ((rd_T26 l0_5 x22_2).f0), .string ((rd_T26 l0_5 x22_2).f1), .int .i64 ((rd_T26 l0_5 x22_2).f2.f0), .int .i64 ((rd_T26 l0_5 x22_2).f2.f1), .int .i64 ((rd_T26 l0_5 x22_2).f3), .slice A144_5 ((rd_T26 l0_5 x22_2).f4).length c144_5] 26 (0, 0)) (by (with_reducible repeat first|refine kN ?_ _|refine kd ?_|refine ka ?_ _); exact BK145.out) hb); have n2_ := Aside0.mk (below_step (by repeat with_reducible first|exact HB.out|apply ba|apply bN|apply bd|refine below_set ?_ GE141.out|refine below_set ?_ GE145.out) hb); clear BK141; clear BK145; clear HB; have BK141 := n0_; have BK145 := n1_; have HB := n2_; clear n0_ n1_ n2_; (try clear hb); (try clear hb2); (try clear hk); (try clear hi); obtain ⟨hcz51_0, hcz51_1, hcz51_2, hcz51_3, hcz51_4, hcz51_5, hfz51_0, hfz51_1, hfz51_2, hfz51_3, hfz51_4, hfz51_5⟩ := cl6 BK141.out; have p148 : 0 ≤ ((ji26) : Int) := of_decide_eq_true (by first|with_reducible assumption|assumption); have q148 : (ji26) < (l0_5.length : Int) := of_decide_eq_true (by first|with_reducible assumption|assumption); obtain ⟨ad148, A148_5, c148_5, e148, hx148_0, hx148_1, hx148_2, hx148_3, hx148_4, hx148_5, hl148_5, hi148_5⟩ := at_T26 HR0_5.out (ji26) p148 q148; obtain rfl : ad144 = ad148 := (by injection e148); replace hx148_0 := cb HB.out hx148_0; replace hx148_1 := cb HB.out hx148_1; replace hx148_2 := cb HB.out hx148_2; replace hx148_3 := cb HB.out hx148_3; replace hx148_4 := cb HB.out hx148_4; replace hx148_5 := cb HB.out hx148_5; have HR148_5 := Aside0.mk hi148_5; have HC148_5 := Aside0.mk hl148_5; clear hi148_5 hl148_5; replace p148 := eq_true p148; replace q148 := eq_true q148))
                            go_roundg k2
                            case measure => have := HJ1.out; have := HK2.out; omega
                            case rel => exact ⟨(wrap64 (x22_2 + 1)), (by first|rfl|(simp;done)|(simp [*];done)), H', ⟨by have := HJ1.out; have := HK2.out; omega⟩, ⟨by (with_reducible repeat first|refine kN ?_ _|refine kd ?_|refine ka ?_ _); exact BK141.out⟩, ⟨by repeat with_reducible first|exact HB.out|apply ba|apply bN|apply bd|refine below_set ?_ GE141.out|refine below_set ?_ GE145.out⟩⟩
                          rw [if_neg c28] at H
                          exact absurd H (by simp)
                        rw [if_neg c27] at H
                        exact absurd H (by simp)
                      replace c25 := Bool.eq_false_iff.mpr c25
                      subst c25
                      have H1 : (tree_prop.l0 k2 l0_5 (l0_5.length : Int) (wrap64 (x22_2 + 1)) a0_0 a0_1 a0_2 a0_3 a0_4 l0_5) = some r := by rw [if_neg (show ¬ (false = true) by decide)] at H; exact H
                      clear H
                      have H := H1
                      clear H1
                      have H' := Aside0.mk H
                      clear H
                      have p144 : 0 ≤ (x22_2 : Int) := of_decide_eq_true (by first|with_reducible assumption|assumption)
                      have q144 : x22_2 < (l0_5.length : Int) := of_decide_eq_true (by first|with_reducible assumption|assumption)
                      obtain ⟨ad144, A144_5, c144_5, e144, hx144_0, hx144_1, hx144_2, hx144_3, hx144_4, hx144_5, hl144_5, hi144_5⟩ := at_T26 HR0_5.out x22_2 p144 q144
                      cases e144
                      replace hx144_0 := cb HB.out hx144_0
                      replace hx144_1 := cb HB.out hx144_1
                      replace hx144_2 := cb HB.out hx144_2
                      replace hx144_3 := cb HB.out hx144_3
                      replace hx144_4 := cb HB.out hx144_4
                      replace hx144_5 := cb HB.out hx144_5
                      have HR144_5 := Aside0.mk hi144_5
                      have HC144_5 := Aside0.mk hl144_5
                      clear hi144_5 hl144_5
                      replace p144 := eq_true p144
                      replace q144 := eq_true q144
                      go_wp2_with (first | ((with_reducible refine gate_dst (N := 4) rfl ?_); refine box_event ?hg (N := 4) ?hd (cs := #[.int .i64 0, .string (⟨#[]⟩ : ByteArray), .int .i64 0, .int .i64 0, .int .i64 0, .slice none 0 0]) (t := 26) ?hr ?_; (case hd => rfl); (case hg => rfl); (case hr => first | (go_simp; done) | (go_simp; rfl)); intro gb145 hg w52 hbox hb; have n0_ := Aside0.mk (blk_below (g := gb141) (o := .cells #[.int .i64 a0_0, .string a0_1, .int .i64 a0_2, .int .i64 a0_3, .int .i64 a0_4, .slice (some ad144) l0_5.length c0_5] 26 (0, 0)) (by (with_reducible repeat first|refine kN ?_ _|refine kd ?_|refine ka ?_ _); exact BK141.out) hb); have n1_ := Aside0.mk (below_step (by repeat with_reducible first|exact HB.out|apply ba|apply bN|apply bd|refine below_set ?_ GE141.out) hb); have n2_ := Aside0.mk (hbox); have n3_ := Aside0.mk ((by rw [hg]; exact (below_size (by repeat with_reducible first|exact HB.out|apply ba|apply bN|apply bd|refine below_set ?_ GE141.out)) : w.heap.size ≤ gb145)); have n4_ := Aside0.mk ((by rw [hg]; exact (below_size (by repeat with_reducible first|exact HB.out|apply ba|apply bN|apply bd|refine below_set ?_ GE141.out)) : w.heap.size ≤ gb145)); have n5_ := Aside0.mk ((by rw [hg]; exact Nat.ne_of_lt (blk_lt (g := gb141) (o := .cells #[.int .i64 a0_0, .string a0_1, .int .i64 a0_2, .int .i64 a0_3, .int .i64 a0_4, .slice (some ad144) l0_5.length c0_5] 26 (0, 0)) (by (with_reducible repeat first|refine kN ?_ _|refine kd ?_|refine ka ?_ _); exact BK141.out)) : gb141 ≠ gb145)); have n6_ := Aside0.mk ((by rw [hg]; exact Nat.ne_of_gt (blk_lt (g := gb141) (o := .cells #[.int .i64 a0_0, .string a0_1, .int .i64 a0_2, .int .i64 a0_3, .int .i64 a0_4, .slice (some ad144) l0_5.length c0_5] 26 (0, 0)) (by (with_reducible repeat first|refine kN ?_ _|refine kd ?_|refine ka ?_ _); exact BK141.out)) : gb145 ≠ gb141)); clear BK141; clear HB; have BK141 := n0_; have HB := n1_; have BK145 := n2_; have GW145 := n3_; have GE145 := n4_; have NB141_145 := n5_; have NB145_141 := n6_; clear n0_ n1_ n2_ n3_ n4_ n5_ n6_; clear hb hbox hg; have hnb53 := NB145_141.out; have hnc53 := NB141_145.out; obtain ⟨hcz54_0, hcz54_1, hcz54_2, hcz54_3, hcz54_4, hcz54_5, hfz54_0, hfz54_1, hfz54_2, hfz54_3, hfz54_4, hfz54_5⟩ := cl6 BK145.out) | ((with_reducible refine gate_callee (f := 35) rfl ?_); refine goesL_ (some 28) rfl rfl Tryz.func35 (by kernel_rfl) rfl #[.agg #[.int .i64 ((rd_T26 l0_5 x22_2).f0), .string ((rd_T26 l0_5 x22_2).f1), .int .i64 ((rd_T26 l0_5 x22_2).f2.f0), .int .i64 ((rd_T26 l0_5 x22_2).f2.f1), .int .i64 ((rd_T26 l0_5 x22_2).f3), .slice A144_5 ((rd_T26 l0_5 x22_2).f4).length c144_5], .int .i64 0] rfl (by (try simp only [List.map_toArray, List.map_cons, List.map_nil]); first | done | rfl | (simp only [List.length_drop, List.length_take]; rfl) | (simp only [Int.toNat_natCast, ByteArray.extract_zero_size] <;> rfl) | (rw [Int.toNat_natCast, ByteArray.extract_zero_size] <;> rfl)) ?_; (with_reducible refine (tree_value.calls k2 ((rd_T26 l0_5 x22_2).f0) ((rd_T26 l0_5 x22_2).f1) ((rd_T26 l0_5 x22_2).f2.f0) ((rd_T26 l0_5 x22_2).f2.f1) ((rd_T26 l0_5 x22_2).f3) _ _ ((rd_T26 l0_5 x22_2).f4) 0 true _ ?side1 ?side2 ?side3 A20.out).mono ?_); (case side1 => exact Go.Proofs.YtahjkibjcibpgaaGreatDoor.U.UW.step HGW.out (by repeat with_reducible first|exact HB.out|apply ba|apply bN|apply bd|refine below_set ?_ GE141.out|refine below_set ?_ GE145.out)); (case side2 => exact Kd.C_below HR144_5.out (by repeat with_reducible first|exact HB.out|apply ba|apply bN|apply bd|refine below_set ?_ GE141.out|refine below_set ?_ GE145.out)); (case side3 => exact HC144_5.out); rintro e w55 ⟨rfl, hb⟩; refine ⟨_, rfl, ?_⟩; have n0_ := Aside0.mk (blk_below (g := gb141) (o := .cells #[.int .i64 a0_0, .string a0_1, .int .i64 a0_2, .int .i64 a0_3, .int .i64 a0_4, .slice (some ad144) l0_5.length c0_5] 26 (0, 0)) (by (with_reducible repeat first|refine kN ?_ _|refine kd ?_|refine ka ?_ _); refine blk_far ?_ NB141_145.out _; (with_reducible repeat first|refine kN ?_ _|refine kd ?_|refine ka ?_ _); refine blk_far ?_ NB141_145.out _; (with_reducible repeat first|refine kN ?_ _|refine kd ?_|refine ka ?_ _); refine blk_far ?_ NB141_145.out _; (with_reducible repeat first|refine kN ?_ _|refine kd ?_|refine ka ?_ _); refine blk_far ?_ NB141_145.out _; (with_reducible repeat first|refine kN ?_ _|refine kd ?_|refine ka ?_ _); refine blk_far ?_ NB141_145.out _; (with_reducible repeat first|refine kN ?_ _|refine kd ?_|refine ka ?_ _); refine blk_far ?_ NB141_145.out _; (with_reducible repeat first|refine kN ?_ _|refine kd ?_|refine ka ?_ _); exact BK141.out) hb); have n1_ := Aside0.mk (blk_below (g := gb145) (o := .cells #[.int .i64 ((rd_T26 l0_5 x22_2).f0), .string ((rd_T26 l0_5 x22_2).f1), .int .i64 ((rd_T26 l0_5 x22_2).f2.f0), .int .i64 ((rd_T26 l0_5 x22_2).f2.f1), .int .i64 ((rd_T26 l0_5 x22_2).f3), .slice A144_5 ((rd_T26 l0_5 x22_2).f4).length c144_5] 26 (0, 0)) (by (with_reducible repeat first|refine kN ?_ _|refine kd ?_|refine ka ?_ _); refine blk_put (cs := #[.int .i64 ((rd_T26 l0_5 x22_2).f0), .string ((rd_T26 l0_5 x22_2).f1), .int .i64 ((rd_T26 l0_5 x22_2).f2.f0), .int .i64 ((rd_T26 l0_5 x22_2).f2.f1), .int .i64 ((rd_T26 l0_5 x22_2).f3), .slice none 0 0]) ?_ 5 _ rfl; (with_reducible repeat first|refine kN ?_ _|refine kd ?_|refine ka ?_ _); refine blk_put (cs := #[.int .i64 ((rd_T26 l0_5 x22_2).f0), .string ((rd_T26 l0_5 x22_2).f1), .int .i64 ((rd_T26 l0_5 x22_2).f2.f0), .int .i64 ((rd_T26 l0_5 x22_2).f2.f1), .int .i64 0, .slice none 0 0]) ?_ 4 _ rfl; (with_reducible repeat first|refine kN ?_ _|refine kd ?_|refine ka ?_ _); refine blk_put (cs := #[.int .i64 ((rd_T26 l0_5 x22_2).f0), .string ((rd_T26 l0_5 x22_2).f1), .int .i64 ((rd_T26 l0_5 x22_2).f2.f0), .int .i64 0, .int .i64 0, .slice none 0 0]) ?_ 3 _ rfl; (with_reducible repeat first|refine kN ?_ _|refine kd ?_|refine ka ?_ _); refine blk_put (cs := #[.int .i64 ((rd_T26 l0_5 x22_2).f0), .string ((rd_T26 l0_5 x22_2).f1), .int .i64 0, .int .i64 0, .int .i64 0, .slice none 0 0]) ?_ 2 _ rfl; (with_reducible repeat first|refine kN ?_ _|refine kd ?_|refine ka ?_ _); refine blk_put (cs := #[.int .i64 ((rd_T26 l0_5 x22_2).f0), .string (⟨#[]⟩ : ByteArray), .int .i64 0, .int .i64 0, .int .i64 0, .slice none 0 0]) ?_ 1 _ rfl; (with_reducible repeat first|refine kN ?_ _|refine kd ?_|refine ka ?_ _); refine blk_put (cs := #[.int .i64 0, .string (⟨#[]⟩ : ByteArray), .int .i64 0, .int .i64 0, .int .i64 0, .slice none 0 0]) ?_ 0 _ rfl; (with_reducible repeat first|refine kN ?_ _|refine kd ?_|refine ka ?_ _); exact BK145.out) hb); have n2_ := Aside0.mk (below_step (by repeat with_reducible first|exact HB.out|apply ba|apply bN|apply bd|refine below_set ?_ GE141.out|refine below_set ?_ GE145.out) hb); clear BK141; clear BK145; clear HB; have BK141 := n0_; have BK145 := n1_; have HB := n2_; clear n0_ n1_ n2_; (try clear hb); (try clear hb2); (try clear hk); (try clear hi); obtain ⟨hcz56_0, hcz56_1, hcz56_2, hcz56_3, hcz56_4, hcz56_5, hfz56_0, hfz56_1, hfz56_2, hfz56_3, hfz56_4, hfz56_5⟩ := cl6 BK145.out) | (go_at_call 55; (with_reducible refine (tree_known.calls ((rd_T26 l0_5 x22_2).f1) false _ ?side1 A24.out).mono ?_); (case side1 => exact Go.Proofs.YtahjkibjcibpgaaGreatDoor.U.UW.step HGW.out (by repeat with_reducible first|exact HB.out|apply ba|apply bN|apply bd|refine below_set ?_ GE141.out|refine below_set ?_ GE145.out)); rintro e w57 ⟨rfl, hb⟩; have n0_ := Aside0.mk (blk_below (g := gb141) (o := .cells #[.int .i64 a0_0, .string a0_1, .int .i64 a0_2, .int .i64 a0_3, .int .i64 a0_4, .slice (some ad144) l0_5.length c0_5] 26 (0, 0)) (by (with_reducible repeat first|refine kN ?_ _|refine kd ?_|refine ka ?_ _); exact BK141.out) hb); have n1_ := Aside0.mk (blk_below (g := gb145) (o := .cells #[.int .i64 ((rd_T26 l0_5 x22_2).f0), .string ((rd_T26 l0_5 x22_2).f1), .int .i64 ((rd_T26 l0_5 x22_2).f2.f0), .int .i64 ((rd_T26 l0_5 x22_2).f2.f1), .int .i64 ((rd_T26 l0_5 x22_2).f3), .slice A144_5 ((rd_T26 l0_5 x22_2).f4).length c144_5] 26 (0, 0)) (by (with_reducible repeat first|refine kN ?_ _|refine kd ?_|refine ka ?_ _); exact BK145.out) hb); have n2_ := Aside0.mk (below_step (by repeat with_reducible first|exact HB.out|apply ba|apply bN|apply bd|refine below_set ?_ GE141.out|refine below_set ?_ GE145.out) hb); clear BK141; clear BK145; clear HB; have BK141 := n0_; have BK145 := n1_; have HB := n2_; clear n0_ n1_ n2_; (try clear hb); (try clear hb2); (try clear hk); (try clear hi)))
                      go_roundg k2
                      case measure => have := HJ1.out; have := HK2.out; omega
                      case rel => exact ⟨(wrap64 (x22_2 + 1)), (by first|rfl|(simp;done)|(simp [*];done)), H', ⟨by have := HJ1.out; have := HK2.out; omega⟩, ⟨by (with_reducible repeat first|refine kN ?_ _|refine kd ?_|refine ka ?_ _); exact BK141.out⟩, ⟨by repeat with_reducible first|exact HB.out|apply ba|apply bN|apply bd|refine below_set ?_ GE141.out|refine below_set ?_ GE145.out⟩⟩
                    rw [if_neg c23] at H
                    have c23b0 : (((rd_T26 l0_5 x22_2).f0) == 3) = false := beq_eq_false_iff_ne.mpr c23
                    have c23b1 : (((rd_T26 l0_5 x22_2).f0) != 3) = true := bne_iff_ne.mpr c23
                    have H' := Aside0.mk H
                    clear H
                    have p144 : 0 ≤ (x22_2 : Int) := of_decide_eq_true (by first|with_reducible assumption|assumption)
                    have q144 : x22_2 < (l0_5.length : Int) := of_decide_eq_true (by first|with_reducible assumption|assumption)
                    obtain ⟨ad144, A144_5, c144_5, e144, hx144_0, hx144_1, hx144_2, hx144_3, hx144_4, hx144_5, hl144_5, hi144_5⟩ := at_T26 HR0_5.out x22_2 p144 q144
                    cases e144
                    replace hx144_0 := cb HB.out hx144_0
                    replace hx144_1 := cb HB.out hx144_1
                    replace hx144_2 := cb HB.out hx144_2
                    replace hx144_3 := cb HB.out hx144_3
                    replace hx144_4 := cb HB.out hx144_4
                    replace hx144_5 := cb HB.out hx144_5
                    have HR144_5 := Aside0.mk hi144_5
                    have HC144_5 := Aside0.mk hl144_5
                    clear hi144_5 hl144_5
                    replace p144 := eq_true p144
                    replace q144 := eq_true q144
                    go_wp2_with (first | ((with_reducible refine gate_dst (N := 4) rfl ?_); refine box_event ?hg (N := 4) ?hd (cs := #[.int .i64 0, .string (⟨#[]⟩ : ByteArray), .int .i64 0, .int .i64 0, .int .i64 0, .slice none 0 0]) (t := 26) ?hr ?_; (case hd => rfl); (case hg => rfl); (case hr => first | (go_simp; done) | (go_simp; rfl)); intro gb145 hg w58 hbox hb; have n0_ := Aside0.mk (blk_below (g := gb141) (o := .cells #[.int .i64 a0_0, .string a0_1, .int .i64 a0_2, .int .i64 a0_3, .int .i64 a0_4, .slice (some ad144) l0_5.length c0_5] 26 (0, 0)) (by (with_reducible repeat first|refine kN ?_ _|refine kd ?_|refine ka ?_ _); exact BK141.out) hb); have n1_ := Aside0.mk (below_step (by repeat with_reducible first|exact HB.out|apply ba|apply bN|apply bd|refine below_set ?_ GE141.out) hb); have n2_ := Aside0.mk (hbox); have n3_ := Aside0.mk ((by rw [hg]; exact (below_size (by repeat with_reducible first|exact HB.out|apply ba|apply bN|apply bd|refine below_set ?_ GE141.out)) : w.heap.size ≤ gb145)); have n4_ := Aside0.mk ((by rw [hg]; exact (below_size (by repeat with_reducible first|exact HB.out|apply ba|apply bN|apply bd|refine below_set ?_ GE141.out)) : w.heap.size ≤ gb145)); have n5_ := Aside0.mk ((by rw [hg]; exact Nat.ne_of_lt (blk_lt (g := gb141) (o := .cells #[.int .i64 a0_0, .string a0_1, .int .i64 a0_2, .int .i64 a0_3, .int .i64 a0_4, .slice (some ad144) l0_5.length c0_5] 26 (0, 0)) (by (with_reducible repeat first|refine kN ?_ _|refine kd ?_|refine ka ?_ _); exact BK141.out)) : gb141 ≠ gb145)); have n6_ := Aside0.mk ((by rw [hg]; exact Nat.ne_of_gt (blk_lt (g := gb141) (o := .cells #[.int .i64 a0_0, .string a0_1, .int .i64 a0_2, .int .i64 a0_3, .int .i64 a0_4, .slice (some ad144) l0_5.length c0_5] 26 (0, 0)) (by (with_reducible repeat first|refine kN ?_ _|refine kd ?_|refine ka ?_ _); exact BK141.out)) : gb145 ≠ gb141)); clear BK141; clear HB; have BK141 := n0_; have HB := n1_; have BK145 := n2_; have GW145 := n3_; have GE145 := n4_; have NB141_145 := n5_; have NB145_141 := n6_; clear n0_ n1_ n2_ n3_ n4_ n5_ n6_; clear hb hbox hg; have hnb59 := NB145_141.out; have hnc59 := NB141_145.out; obtain ⟨hcz60_0, hcz60_1, hcz60_2, hcz60_3, hcz60_4, hcz60_5, hfz60_0, hfz60_1, hfz60_2, hfz60_3, hfz60_4, hfz60_5⟩ := cl6 BK145.out) | ((with_reducible refine gate_callee (f := 35) rfl ?_); refine goesL_ (some 28) rfl rfl Tryz.func35 (by kernel_rfl) rfl #[.agg #[.int .i64 ((rd_T26 l0_5 x22_2).f0), .string ((rd_T26 l0_5 x22_2).f1), .int .i64 ((rd_T26 l0_5 x22_2).f2.f0), .int .i64 ((rd_T26 l0_5 x22_2).f2.f1), .int .i64 ((rd_T26 l0_5 x22_2).f3), .slice A144_5 ((rd_T26 l0_5 x22_2).f4).length c144_5], .int .i64 0] rfl (by (try simp only [List.map_toArray, List.map_cons, List.map_nil]); first | done | rfl | (simp only [List.length_drop, List.length_take]; rfl) | (simp only [Int.toNat_natCast, ByteArray.extract_zero_size] <;> rfl) | (rw [Int.toNat_natCast, ByteArray.extract_zero_size] <;> rfl)) ?_; (with_reducible refine (tree_value.calls k2 ((rd_T26 l0_5 x22_2).f0) ((rd_T26 l0_5 x22_2).f1) ((rd_T26 l0_5 x22_2).f2.f0) ((rd_T26 l0_5 x22_2).f2.f1) ((rd_T26 l0_5 x22_2).f3) _ _ ((rd_T26 l0_5 x22_2).f4) 0 true _ ?side1 ?side2 ?side3 A20.out).mono ?_); (case side1 => exact Go.Proofs.YtahjkibjcibpgaaGreatDoor.U.UW.step HGW.out (by repeat with_reducible first|exact HB.out|apply ba|apply bN|apply bd|refine below_set ?_ GE141.out|refine below_set ?_ GE145.out)); (case side2 => exact Kd.C_below HR144_5.out (by repeat with_reducible first|exact HB.out|apply ba|apply bN|apply bd|refine below_set ?_ GE141.out|refine below_set ?_ GE145.out)); (case side3 => exact HC144_5.out); rintro e w61 ⟨rfl, hb⟩; refine ⟨_, rfl, ?_⟩; have n0_ := Aside0.mk (blk_below (g := gb141) (o := .cells #[.int .i64 a0_0, .string a0_1, .int .i64 a0_2, .int .i64 a0_3, .int .i64 a0_4, .slice (some ad144) l0_5.length c0_5] 26 (0, 0)) (by (with_reducible repeat first|refine kN ?_ _|refine kd ?_|refine ka ?_ _); refine blk_far ?_ NB141_145.out _; (with_reducible repeat first|refine kN ?_ _|refine kd ?_|refine ka ?_ _); refine blk_far ?_ NB141_145.out _; (with_reducible repeat first|refine kN ?_ _|refine kd ?_|refine ka ?_ _); refine blk_far ?_ NB141_145.out _; (with_reducible repeat first|refine kN ?_ _|refine kd ?_|refine ka ?_ _); refine blk_far ?_ NB141_145.out _; (with_reducible repeat first|refine kN ?_ _|refine kd ?_|refine ka ?_ _); refine blk_far ?_ NB141_145.out _; (with_reducible repeat first|refine kN ?_ _|refine kd ?_|refine ka ?_ _); refine blk_far ?_ NB141_145.out _; (with_reducible repeat first|refine kN ?_ _|refine kd ?_|refine ka ?_ _); exact BK141.out) hb); have n1_ := Aside0.mk (blk_below (g := gb145) (o := .cells #[.int .i64 ((rd_T26 l0_5 x22_2).f0), .string ((rd_T26 l0_5 x22_2).f1), .int .i64 ((rd_T26 l0_5 x22_2).f2.f0), .int .i64 ((rd_T26 l0_5 x22_2).f2.f1), .int .i64 ((rd_T26 l0_5 x22_2).f3), .slice A144_5 ((rd_T26 l0_5 x22_2).f4).length c144_5] 26 (0, 0)) (by (with_reducible repeat first|refine kN ?_ _|refine kd ?_|refine ka ?_ _); refine blk_put (cs := #[.int .i64 ((rd_T26 l0_5 x22_2).f0), .string ((rd_T26 l0_5 x22_2).f1), .int .i64 ((rd_T26 l0_5 x22_2).f2.f0), .int .i64 ((rd_T26 l0_5 x22_2).f2.f1), .int .i64 ((rd_T26 l0_5 x22_2).f3), .slice none 0 0]) ?_ 5 _ rfl; (with_reducible repeat first|refine kN ?_ _|refine kd ?_|refine ka ?_ _); refine blk_put (cs := #[.int .i64 ((rd_T26 l0_5 x22_2).f0), .string ((rd_T26 l0_5 x22_2).f1), .int .i64 ((rd_T26 l0_5 x22_2).f2.f0), .int .i64 ((rd_T26 l0_5 x22_2).f2.f1), .int .i64 0, .slice none 0 0]) ?_ 4 _ rfl; (with_reducible repeat first|refine kN ?_ _|refine kd ?_|refine ka ?_ _); refine blk_put (cs := #[.int .i64 ((rd_T26 l0_5 x22_2).f0), .string ((rd_T26 l0_5 x22_2).f1), .int .i64 ((rd_T26 l0_5 x22_2).f2.f0), .int .i64 0, .int .i64 0, .slice none 0 0]) ?_ 3 _ rfl; (with_reducible repeat first|refine kN ?_ _|refine kd ?_|refine ka ?_ _); refine blk_put (cs := #[.int .i64 ((rd_T26 l0_5 x22_2).f0), .string ((rd_T26 l0_5 x22_2).f1), .int .i64 0, .int .i64 0, .int .i64 0, .slice none 0 0]) ?_ 2 _ rfl; (with_reducible repeat first|refine kN ?_ _|refine kd ?_|refine ka ?_ _); refine blk_put (cs := #[.int .i64 ((rd_T26 l0_5 x22_2).f0), .string (⟨#[]⟩ : ByteArray), .int .i64 0, .int .i64 0, .int .i64 0, .slice none 0 0]) ?_ 1 _ rfl; (with_reducible repeat first|refine kN ?_ _|refine kd ?_|refine ka ?_ _); refine blk_put (cs := #[.int .i64 0, .string (⟨#[]⟩ : ByteArray), .int .i64 0, .int .i64 0, .int .i64 0, .slice none 0 0]) ?_ 0 _ rfl; (with_reducible repeat first|refine kN ?_ _|refine kd ?_|refine ka ?_ _); exact BK145.out) hb); have n2_ := Aside0.mk (below_step (by repeat with_reducible first|exact HB.out|apply ba|apply bN|apply bd|refine below_set ?_ GE141.out|refine below_set ?_ GE145.out) hb); clear BK141; clear BK145; clear HB; have BK141 := n0_; have BK145 := n1_; have HB := n2_; clear n0_ n1_ n2_; (try clear hb); (try clear hb2); (try clear hk); (try clear hi); obtain ⟨hcz62_0, hcz62_1, hcz62_2, hcz62_3, hcz62_4, hcz62_5, hfz62_0, hfz62_1, hfz62_2, hfz62_3, hfz62_4, hfz62_5⟩ := cl6 BK145.out))
                    go_roundg k2
                    case measure => have := HJ1.out; have := HK2.out; omega
                    case rel => exact ⟨(wrap64 (x22_2 + 1)), (by first|rfl|(simp;done)|(simp [*];done)), H', ⟨by have := HJ1.out; have := HK2.out; omega⟩, ⟨by (with_reducible repeat first|refine kN ?_ _|refine kd ?_|refine ka ?_ _); exact BK141.out⟩, ⟨by repeat with_reducible first|exact HB.out|apply ba|apply bN|apply bd|refine below_set ?_ GE141.out|refine below_set ?_ GE145.out⟩⟩
                  rw [if_neg c22] at H
                  have c22b0 : decide (0 < x22_2) = false := decide_eq_false c22
                  clear c22
                  have H' := Aside0.mk H
                  clear H
                  have p144 : 0 ≤ (x22_2 : Int) := of_decide_eq_true (by first|with_reducible assumption|assumption)
                  have q144 : x22_2 < (l0_5.length : Int) := of_decide_eq_true (by first|with_reducible assumption|assumption)
                  obtain ⟨ad144, A144_5, c144_5, e144, hx144_0, hx144_1, hx144_2, hx144_3, hx144_4, hx144_5, hl144_5, hi144_5⟩ := at_T26 HR0_5.out x22_2 p144 q144
                  cases e144
                  replace hx144_0 := cb HB.out hx144_0
                  replace hx144_1 := cb HB.out hx144_1
                  replace hx144_2 := cb HB.out hx144_2
                  replace hx144_3 := cb HB.out hx144_3
                  replace hx144_4 := cb HB.out hx144_4
                  replace hx144_5 := cb HB.out hx144_5
                  have HR144_5 := Aside0.mk hi144_5
                  have HC144_5 := Aside0.mk hl144_5
                  clear hi144_5 hl144_5
                  replace p144 := eq_true p144
                  replace q144 := eq_true q144
                  go_wp2_with (first | ((with_reducible refine gate_dst (N := 4) rfl ?_); refine box_event ?hg (N := 4) ?hd (cs := #[.int .i64 0, .string (⟨#[]⟩ : ByteArray), .int .i64 0, .int .i64 0, .int .i64 0, .slice none 0 0]) (t := 26) ?hr ?_; (case hd => rfl); (case hg => rfl); (case hr => first | (go_simp; done) | (go_simp; rfl)); intro gb145 hg w63 hbox hb; have n0_ := Aside0.mk (blk_below (g := gb141) (o := .cells #[.int .i64 a0_0, .string a0_1, .int .i64 a0_2, .int .i64 a0_3, .int .i64 a0_4, .slice (some ad144) l0_5.length c0_5] 26 (0, 0)) (by (with_reducible repeat first|refine kN ?_ _|refine kd ?_|refine ka ?_ _); exact BK141.out) hb); have n1_ := Aside0.mk (below_step (by repeat with_reducible first|exact HB.out|apply ba|apply bN|apply bd|refine below_set ?_ GE141.out) hb); have n2_ := Aside0.mk (hbox); have n3_ := Aside0.mk ((by rw [hg]; exact (below_size (by repeat with_reducible first|exact HB.out|apply ba|apply bN|apply bd|refine below_set ?_ GE141.out)) : w.heap.size ≤ gb145)); have n4_ := Aside0.mk ((by rw [hg]; exact (below_size (by repeat with_reducible first|exact HB.out|apply ba|apply bN|apply bd|refine below_set ?_ GE141.out)) : w.heap.size ≤ gb145)); have n5_ := Aside0.mk ((by rw [hg]; exact Nat.ne_of_lt (blk_lt (g := gb141) (o := .cells #[.int .i64 a0_0, .string a0_1, .int .i64 a0_2, .int .i64 a0_3, .int .i64 a0_4, .slice (some ad144) l0_5.length c0_5] 26 (0, 0)) (by (with_reducible repeat first|refine kN ?_ _|refine kd ?_|refine ka ?_ _); exact BK141.out)) : gb141 ≠ gb145)); have n6_ := Aside0.mk ((by rw [hg]; exact Nat.ne_of_gt (blk_lt (g := gb141) (o := .cells #[.int .i64 a0_0, .string a0_1, .int .i64 a0_2, .int .i64 a0_3, .int .i64 a0_4, .slice (some ad144) l0_5.length c0_5] 26 (0, 0)) (by (with_reducible repeat first|refine kN ?_ _|refine kd ?_|refine ka ?_ _); exact BK141.out)) : gb145 ≠ gb141)); clear BK141; clear HB; have BK141 := n0_; have HB := n1_; have BK145 := n2_; have GW145 := n3_; have GE145 := n4_; have NB141_145 := n5_; have NB145_141 := n6_; clear n0_ n1_ n2_ n3_ n4_ n5_ n6_; clear hb hbox hg; have hnb64 := NB145_141.out; have hnc64 := NB141_145.out; obtain ⟨hcz65_0, hcz65_1, hcz65_2, hcz65_3, hcz65_4, hcz65_5, hfz65_0, hfz65_1, hfz65_2, hfz65_3, hfz65_4, hfz65_5⟩ := cl6 BK145.out) | ((with_reducible refine gate_callee (f := 35) rfl ?_); refine goesL_ (some 28) rfl rfl Tryz.func35 (by kernel_rfl) rfl #[.agg #[.int .i64 ((rd_T26 l0_5 x22_2).f0), .string ((rd_T26 l0_5 x22_2).f1), .int .i64 ((rd_T26 l0_5 x22_2).f2.f0), .int .i64 ((rd_T26 l0_5 x22_2).f2.f1), .int .i64 ((rd_T26 l0_5 x22_2).f3), .slice A144_5 ((rd_T26 l0_5 x22_2).f4).length c144_5], .int .i64 0] rfl (by (try simp only [List.map_toArray, List.map_cons, List.map_nil]); first | done | rfl | (simp only [List.length_drop, List.length_take]; rfl) | (simp only [Int.toNat_natCast, ByteArray.extract_zero_size] <;> rfl) | (rw [Int.toNat_natCast, ByteArray.extract_zero_size] <;> rfl)) ?_; (with_reducible refine (tree_value.calls k2 ((rd_T26 l0_5 x22_2).f0) ((rd_T26 l0_5 x22_2).f1) ((rd_T26 l0_5 x22_2).f2.f0) ((rd_T26 l0_5 x22_2).f2.f1) ((rd_T26 l0_5 x22_2).f3) _ _ ((rd_T26 l0_5 x22_2).f4) 0 true _ ?side1 ?side2 ?side3 A20.out).mono ?_); (case side1 => exact Go.Proofs.YtahjkibjcibpgaaGreatDoor.U.UW.step HGW.out (by repeat with_reducible first|exact HB.out|apply ba|apply bN|apply bd|refine below_set ?_ GE141.out|refine below_set ?_ GE145.out)); (case side2 => exact Kd.C_below HR144_5.out (by repeat with_reducible first|exact HB.out|apply ba|apply bN|apply bd|refine below_set ?_ GE141.out|refine below_set ?_ GE145.out)); (case side3 => exact HC144_5.out); rintro e w66 ⟨rfl, hb⟩; refine ⟨_, rfl, ?_⟩; have n0_ := Aside0.mk (blk_below (g := gb141) (o := .cells #[.int .i64 a0_0, .string a0_1, .int .i64 a0_2, .int .i64 a0_3, .int .i64 a0_4, .slice (some ad144) l0_5.length c0_5] 26 (0, 0)) (by (with_reducible repeat first|refine kN ?_ _|refine kd ?_|refine ka ?_ _); refine blk_far ?_ NB141_145.out _; (with_reducible repeat first|refine kN ?_ _|refine kd ?_|refine ka ?_ _); refine blk_far ?_ NB141_145.out _; (with_reducible repeat first|refine kN ?_ _|refine kd ?_|refine ka ?_ _); refine blk_far ?_ NB141_145.out _; (with_reducible repeat first|refine kN ?_ _|refine kd ?_|refine ka ?_ _); refine blk_far ?_ NB141_145.out _; (with_reducible repeat first|refine kN ?_ _|refine kd ?_|refine ka ?_ _); refine blk_far ?_ NB141_145.out _; (with_reducible repeat first|refine kN ?_ _|refine kd ?_|refine ka ?_ _); refine blk_far ?_ NB141_145.out _; (with_reducible repeat first|refine kN ?_ _|refine kd ?_|refine ka ?_ _); exact BK141.out) hb); have n1_ := Aside0.mk (blk_below (g := gb145) (o := .cells #[.int .i64 ((rd_T26 l0_5 x22_2).f0), .string ((rd_T26 l0_5 x22_2).f1), .int .i64 ((rd_T26 l0_5 x22_2).f2.f0), .int .i64 ((rd_T26 l0_5 x22_2).f2.f1), .int .i64 ((rd_T26 l0_5 x22_2).f3), .slice A144_5 ((rd_T26 l0_5 x22_2).f4).length c144_5] 26 (0, 0)) (by (with_reducible repeat first|refine kN ?_ _|refine kd ?_|refine ka ?_ _); refine blk_put (cs := #[.int .i64 ((rd_T26 l0_5 x22_2).f0), .string ((rd_T26 l0_5 x22_2).f1), .int .i64 ((rd_T26 l0_5 x22_2).f2.f0), .int .i64 ((rd_T26 l0_5 x22_2).f2.f1), .int .i64 ((rd_T26 l0_5 x22_2).f3), .slice none 0 0]) ?_ 5 _ rfl; (with_reducible repeat first|refine kN ?_ _|refine kd ?_|refine ka ?_ _); refine blk_put (cs := #[.int .i64 ((rd_T26 l0_5 x22_2).f0), .string ((rd_T26 l0_5 x22_2).f1), .int .i64 ((rd_T26 l0_5 x22_2).f2.f0), .int .i64 ((rd_T26 l0_5 x22_2).f2.f1), .int .i64 0, .slice none 0 0]) ?_ 4 _ rfl; (with_reducible repeat first|refine kN ?_ _|refine kd ?_|refine ka ?_ _); refine blk_put (cs := #[.int .i64 ((rd_T26 l0_5 x22_2).f0), .string ((rd_T26 l0_5 x22_2).f1), .int .i64 ((rd_T26 l0_5 x22_2).f2.f0), .int .i64 0, .int .i64 0, .slice none 0 0]) ?_ 3 _ rfl; (with_reducible repeat first|refine kN ?_ _|refine kd ?_|refine ka ?_ _); refine blk_put (cs := #[.int .i64 ((rd_T26 l0_5 x22_2).f0), .string ((rd_T26 l0_5 x22_2).f1), .int .i64 0, .int .i64 0, .int .i64 0, .slice none 0 0]) ?_ 2 _ rfl; (with_reducible repeat first|refine kN ?_ _|refine kd ?_|refine ka ?_ _); refine blk_put (cs := #[.int .i64 ((rd_T26 l0_5 x22_2).f0), .string (⟨#[]⟩ : ByteArray), .int .i64 0, .int .i64 0, .int .i64 0, .slice none 0 0]) ?_ 1 _ rfl; (with_reducible repeat first|refine kN ?_ _|refine kd ?_|refine ka ?_ _); refine blk_put (cs := #[.int .i64 0, .string (⟨#[]⟩ : ByteArray), .int .i64 0, .int .i64 0, .int .i64 0, .slice none 0 0]) ?_ 0 _ rfl; (with_reducible repeat first|refine kN ?_ _|refine kd ?_|refine ka ?_ _); exact BK145.out) hb); have n2_ := Aside0.mk (below_step (by repeat with_reducible first|exact HB.out|apply ba|apply bN|apply bd|refine below_set ?_ GE141.out|refine below_set ?_ GE145.out) hb); clear BK141; clear BK145; clear HB; have BK141 := n0_; have BK145 := n1_; have HB := n2_; clear n0_ n1_ n2_; (try clear hb); (try clear hb2); (try clear hk); (try clear hi)))
                  go_roundg k2
                  case measure => have := HJ1.out; have := HK2.out; omega
                  case rel => exact ⟨(wrap64 (x22_2 + 1)), (by first|rfl|(simp;done)|(simp [*];done)), H', ⟨by have := HJ1.out; have := HK2.out; omega⟩, ⟨by (with_reducible repeat first|refine kN ?_ _|refine kd ?_|refine ka ?_ _); exact BK141.out⟩, ⟨by repeat with_reducible first|exact HB.out|apply ba|apply bN|apply bd|refine below_set ?_ GE141.out|refine below_set ?_ GE145.out⟩⟩
                replace c21 := Bool.eq_false_iff.mpr c21
                subst c21
                have H1 : (some false) = some r := by rw [if_neg (show ¬ (false = true) by decide)] at H; exact H
                clear H
                have H := H1
                clear H1
                obtain rfl := Option.some.inj H
                have p144 : 0 ≤ (x22_2 : Int) := of_decide_eq_true (by first|with_reducible assumption|assumption)
                have q144 : x22_2 < (l0_5.length : Int) := of_decide_eq_true (by first|with_reducible assumption|assumption)
                obtain ⟨ad144, A144_5, c144_5, e144, hx144_0, hx144_1, hx144_2, hx144_3, hx144_4, hx144_5, hl144_5, hi144_5⟩ := at_T26 HR0_5.out x22_2 p144 q144
                cases e144
                replace hx144_0 := cb HB.out hx144_0
                replace hx144_1 := cb HB.out hx144_1
                replace hx144_2 := cb HB.out hx144_2
                replace hx144_3 := cb HB.out hx144_3
                replace hx144_4 := cb HB.out hx144_4
                replace hx144_5 := cb HB.out hx144_5
                have HR144_5 := Aside0.mk hi144_5
                have HC144_5 := Aside0.mk hl144_5
                clear hi144_5 hl144_5
                replace p144 := eq_true p144
                replace q144 := eq_true q144
                go_wp2_with (first | ((with_reducible refine gate_dst (N := 4) rfl ?_); refine box_event ?hg (N := 4) ?hd (cs := #[.int .i64 0, .string (⟨#[]⟩ : ByteArray), .int .i64 0, .int .i64 0, .int .i64 0, .slice none 0 0]) (t := 26) ?hr ?_; (case hd => rfl); (case hg => rfl); (case hr => first | (go_simp; done) | (go_simp; rfl)); intro gb145 hg w67 hbox hb; have n0_ := Aside0.mk (blk_below (g := gb141) (o := .cells #[.int .i64 a0_0, .string a0_1, .int .i64 a0_2, .int .i64 a0_3, .int .i64 a0_4, .slice (some ad144) l0_5.length c0_5] 26 (0, 0)) (by (with_reducible repeat first|refine kN ?_ _|refine kd ?_|refine ka ?_ _); exact BK141.out) hb); have n1_ := Aside0.mk (below_step (by repeat with_reducible first|exact HB.out|apply ba|apply bN|apply bd|refine below_set ?_ GE141.out) hb); have n2_ := Aside0.mk (hbox); have n3_ := Aside0.mk ((by rw [hg]; exact (below_size (by repeat with_reducible first|exact HB.out|apply ba|apply bN|apply bd|refine below_set ?_ GE141.out)) : w.heap.size ≤ gb145)); have n4_ := Aside0.mk ((by rw [hg]; exact (below_size (by repeat with_reducible first|exact HB.out|apply ba|apply bN|apply bd|refine below_set ?_ GE141.out)) : w.heap.size ≤ gb145)); have n5_ := Aside0.mk ((by rw [hg]; exact Nat.ne_of_lt (blk_lt (g := gb141) (o := .cells #[.int .i64 a0_0, .string a0_1, .int .i64 a0_2, .int .i64 a0_3, .int .i64 a0_4, .slice (some ad144) l0_5.length c0_5] 26 (0, 0)) (by (with_reducible repeat first|refine kN ?_ _|refine kd ?_|refine ka ?_ _); exact BK141.out)) : gb141 ≠ gb145)); have n6_ := Aside0.mk ((by rw [hg]; exact Nat.ne_of_gt (blk_lt (g := gb141) (o := .cells #[.int .i64 a0_0, .string a0_1, .int .i64 a0_2, .int .i64 a0_3, .int .i64 a0_4, .slice (some ad144) l0_5.length c0_5] 26 (0, 0)) (by (with_reducible repeat first|refine kN ?_ _|refine kd ?_|refine ka ?_ _); exact BK141.out)) : gb145 ≠ gb141)); clear BK141; clear HB; have BK141 := n0_; have HB := n1_; have BK145 := n2_; have GW145 := n3_; have GE145 := n4_; have NB141_145 := n5_; have NB145_141 := n6_; clear n0_ n1_ n2_ n3_ n4_ n5_ n6_; clear hb hbox hg; have hnb68 := NB145_141.out; have hnc68 := NB141_145.out; obtain ⟨hcz69_0, hcz69_1, hcz69_2, hcz69_3, hcz69_4, hcz69_5, hfz69_0, hfz69_1, hfz69_2, hfz69_3, hfz69_4, hfz69_5⟩ := cl6 BK145.out) | ((with_reducible refine gate_callee (f := 35) rfl ?_); refine goesL_ (some 28) rfl rfl Tryz.func35 (by kernel_rfl) rfl #[.agg #[.int .i64 ((rd_T26 l0_5 x22_2).f0), .string ((rd_T26 l0_5 x22_2).f1), .int .i64 ((rd_T26 l0_5 x22_2).f2.f0), .int .i64 ((rd_T26 l0_5 x22_2).f2.f1), .int .i64 ((rd_T26 l0_5 x22_2).f3), .slice A144_5 ((rd_T26 l0_5 x22_2).f4).length c144_5], .int .i64 0] rfl (by (try simp only [List.map_toArray, List.map_cons, List.map_nil]); first | done | rfl | (simp only [List.length_drop, List.length_take]; rfl) | (simp only [Int.toNat_natCast, ByteArray.extract_zero_size] <;> rfl) | (rw [Int.toNat_natCast, ByteArray.extract_zero_size] <;> rfl)) ?_; (with_reducible refine (tree_value.calls k2 ((rd_T26 l0_5 x22_2).f0) ((rd_T26 l0_5 x22_2).f1) ((rd_T26 l0_5 x22_2).f2.f0) ((rd_T26 l0_5 x22_2).f2.f1) ((rd_T26 l0_5 x22_2).f3) _ _ ((rd_T26 l0_5 x22_2).f4) 0 false _ ?side1 ?side2 ?side3 A20.out).mono ?_); (case side1 => exact Go.Proofs.YtahjkibjcibpgaaGreatDoor.U.UW.step HGW.out (by repeat with_reducible first|exact HB.out|apply ba|apply bN|apply bd|refine below_set ?_ GE141.out|refine below_set ?_ GE145.out)); (case side2 => exact Kd.C_below HR144_5.out (by repeat with_reducible first|exact HB.out|apply ba|apply bN|apply bd|refine below_set ?_ GE141.out|refine below_set ?_ GE145.out)); (case side3 => exact HC144_5.out); rintro e w70 ⟨rfl, hb⟩; refine ⟨_, rfl, ?_⟩; have n0_ := Aside0.mk (blk_below (g := gb141) (o := .cells #[.int .i64 a0_0, .string a0_1, .int .i64 a0_2, .int .i64 a0_3, .int .i64 a0_4, .slice (some ad144) l0_5.length c0_5] 26 (0, 0)) (by (with_reducible repeat first|refine kN ?_ _|refine kd ?_|refine ka ?_ _); refine blk_far ?_ NB141_145.out _; (with_reducible repeat first|refine kN ?_ _|refine kd ?_|refine ka ?_ _); refine blk_far ?_ NB141_145.out _; (with_reducible repeat first|refine kN ?_ _|refine kd ?_|refine ka ?_ _); refine blk_far ?_ NB141_145.out _; (with_reducible repeat first|refine kN ?_ _|refine kd ?_|refine ka ?_ _); refine blk_far ?_ NB141_145.out _; (with_reducible repeat first|refine kN ?_ _|refine kd ?_|refine ka ?_ _); refine blk_far ?_ NB141_145.out _; (with_reducible repeat first|refine kN ?_ _|refine kd ?_|refine ka ?_ _); refine blk_far ?_ NB141_145.out _; (with_reducible repeat first|refine kN ?_ _|refine kd ?_|refine ka ?_ _); exact BK141.out) hb); have n1_ := Aside0.mk (blk_below (g := gb145) (o := .cells #[.int .i64 ((rd_T26 l0_5 x22_2).f0), .string ((rd_T26 l0_5 x22_2).f1), .int .i64 ((rd_T26 l0_5 x22_2).f2.f0), .int .i64 ((rd_T26 l0_5 x22_2).f2.f1), .int .i64 ((rd_T26 l0_5 x22_2).f3), .slice A144_5 ((rd_T26 l0_5 x22_2).f4).length c144_5] 26 (0, 0)) (by (with_reducible repeat first|refine kN ?_ _|refine kd ?_|refine ka ?_ _); refine blk_put (cs := #[.int .i64 ((rd_T26 l0_5 x22_2).f0), .string ((rd_T26 l0_5 x22_2).f1), .int .i64 ((rd_T26 l0_5 x22_2).f2.f0), .int .i64 ((rd_T26 l0_5 x22_2).f2.f1), .int .i64 ((rd_T26 l0_5 x22_2).f3), .slice none 0 0]) ?_ 5 _ rfl; (with_reducible repeat first|refine kN ?_ _|refine kd ?_|refine ka ?_ _); refine blk_put (cs := #[.int .i64 ((rd_T26 l0_5 x22_2).f0), .string ((rd_T26 l0_5 x22_2).f1), .int .i64 ((rd_T26 l0_5 x22_2).f2.f0), .int .i64 ((rd_T26 l0_5 x22_2).f2.f1), .int .i64 0, .slice none 0 0]) ?_ 4 _ rfl; (with_reducible repeat first|refine kN ?_ _|refine kd ?_|refine ka ?_ _); refine blk_put (cs := #[.int .i64 ((rd_T26 l0_5 x22_2).f0), .string ((rd_T26 l0_5 x22_2).f1), .int .i64 ((rd_T26 l0_5 x22_2).f2.f0), .int .i64 0, .int .i64 0, .slice none 0 0]) ?_ 3 _ rfl; (with_reducible repeat first|refine kN ?_ _|refine kd ?_|refine ka ?_ _); refine blk_put (cs := #[.int .i64 ((rd_T26 l0_5 x22_2).f0), .string ((rd_T26 l0_5 x22_2).f1), .int .i64 0, .int .i64 0, .int .i64 0, .slice none 0 0]) ?_ 2 _ rfl; (with_reducible repeat first|refine kN ?_ _|refine kd ?_|refine ka ?_ _); refine blk_put (cs := #[.int .i64 ((rd_T26 l0_5 x22_2).f0), .string (⟨#[]⟩ : ByteArray), .int .i64 0, .int .i64 0, .int .i64 0, .slice none 0 0]) ?_ 1 _ rfl; (with_reducible repeat first|refine kN ?_ _|refine kd ?_|refine ka ?_ _); refine blk_put (cs := #[.int .i64 0, .string (⟨#[]⟩ : ByteArray), .int .i64 0, .int .i64 0, .int .i64 0, .slice none 0 0]) ?_ 0 _ rfl; (with_reducible repeat first|refine kN ?_ _|refine kd ?_|refine ka ?_ _); exact BK145.out) hb); have n2_ := Aside0.mk (below_step (by repeat with_reducible first|exact HB.out|apply ba|apply bN|apply bd|refine below_set ?_ GE141.out|refine below_set ?_ GE145.out) hb); clear BK141; clear BK145; clear HB; have BK141 := n0_; have BK145 := n1_; have HB := n2_; clear n0_ n1_ n2_; (try clear hb); (try clear hb2); (try clear hk); (try clear hi)))
                go_ret
                exact ⟨by first|rfl|(simp<;>rfl)|(simp [*]<;>rfl), by repeat with_reducible first|exact HB.out|apply ba|apply bN|apply bd|refine below_set ?_ GE141.out|refine below_set ?_ GE145.out⟩
              rw [if_neg c19] at H
              exact absurd H (by simp)
            rw [if_neg c18] at H
            exact absurd H (by simp)
          rw [if_neg c17] at H
          have c17b0 : decide (x22_2 < (l0_5.length : Int)) = false := decide_eq_false c17
          clear c17
          obtain rfl := Option.some.inj H
          go_wp2
          go_ret
          exact ⟨by first|rfl|(simp<;>rfl)|(simp [*]<;>rfl), by repeat with_reducible first|exact HB.out|apply ba|apply bN|apply bd|refine below_set ?_ GE141.out⟩
end Go.Proofs.YtahjkibjcibpgaaGreatDoor.PTr
end
