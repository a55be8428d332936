-- Laid by ext.py (this claim's own program) over the kit's printer: functions some of whose callees are told by contracts of this claim.
import Derived.Test.YtahjkibjcibpgaaDoorPUnx0
import Derived.Test.YtahjkibjcibpgaaDoorPUnx2
import Derived.Test.YtahjkibjcibpgaaDoorPUnx3
namespace Go.Proofs.YtahjkibjcibpgaaDoor.PUn
open Go.RowKit Go.Proofs.YtahjkibjcibpgaaDoorW.PrintWords Go.Proofs.YtahjkibjcibpgaaDoorW.PrintLast Go.Proofs.YtahjkibjcibpgaaDoorW.PrintMore
attribute [local go_sem] max2_int min2_int max_two min_two max_three min_three max_four min_four   -- for this text's walks alone
set_option linter.unusedVariables false
set_option linter.unusedSimpArgs false

/-! ### bournelaw14_UnitAdds: function 7 -/
mutual
def bournelaw14_UnitAdds.j0 : Nat → Int → Int → ByteArray → Bool → Bool → Option (Bool)
  | 0, _, _, _, _, _ => none
  | k + 1, x0, x1, x2, x7, x28 => if x28 = true then (some x7) else ((bourneref14_Digits.f k x0).bind fun t273 => ((Ex.unit_Amount.f t273 x2).bind fun bt274 => ((bourneref14_Digits.f k x1).bind fun t278 => ((Ex.unit_Amount.f t278 x2).bind fun bt279 => ((bourneref14_Digits.f k (wrap64 (x0 + x1))).bind fun t283 => ((Ex.unit_Amount.f t283 x2).bind fun bt284 => (if bt274.2.2 = 0 then (bournelaw14_UnitAdds.j1 k x7 bt284.2.2 (bt279.2.2 != 0) bt274.1 bt274.2.1 bt279.1 bt279.2.1 bt284.1 bt284.2.1) else (bournelaw14_UnitAdds.j1 k x7 bt284.2.2 true bt274.1 bt274.2.1 bt279.1 bt279.2.1 bt284.1 bt284.2.1))))))))
def bournelaw14_UnitAdds.j1 : Nat → Bool → Int → Bool → Int → Int → Int → Int → Int → Int → Option (Bool)
  | 0, _, _, _, _, _, _, _, _, _ => none
  | k + 1, x7, x13, x58, x278000, x278001, x283000, x283001, x288000, x288001 => if x58 = true then (some x7) else (if (wrap64 (x278000 + x283000)) > 1125899906842624 then (if x7 = true then (some (x13 == 7)) else (some false)) else (if x7 = true then (if x13 = 0 then (if x288000 = (wrap64 (x278000 + x283000)) then (if x288001 = x278001 then (some (x278001 == x283001)) else (some false)) else (some false)) else (some false)) else (some false)))
end
def bournelaw14_UnitAdds.f (k : Nat) (a0 : Int) (a1 : Int) (a2 : ByteArray) : Option (Bool) := (bournelaw14_small.f).bind fun t272 => (if a0 < 0 then (bournelaw14_UnitAdds.j0 k a0 a1 a2 t272 true) else (if a0 > 1099511627776 then (bournelaw14_UnitAdds.j0 k a0 a1 a2 t272 true) else (if a1 < 0 then (bournelaw14_UnitAdds.j0 k a0 a1 a2 t272 true) else (bournelaw14_UnitAdds.j0 k a0 a1 a2 t272 (decide (a1 > 1099511627776))))))
theorem bournelaw14_UnitAdds.mono_l : ∀ k, (∀ y0 y1 y2 y3 y4, LeO (bournelaw14_UnitAdds.j0 k y0 y1 y2 y3 y4) (bournelaw14_UnitAdds.j0 (k + 1) y0 y1 y2 y3 y4)) ∧ (∀ y0 y1 y2 y3 y4 y5 y6 y7 y8, LeO (bournelaw14_UnitAdds.j1 k y0 y1 y2 y3 y4 y5 y6 y7 y8) (bournelaw14_UnitAdds.j1 (k + 1) y0 y1 y2 y3 y4 y5 y6 y7 y8))
  | 0 => ⟨fun _ _ _ _ _ r h => by simp [bournelaw14_UnitAdds.j0] at h, fun _ _ _ _ _ _ _ _ _ r h => by simp [bournelaw14_UnitAdds.j1] at h⟩
  | k + 1 => by
    obtain ⟨ih0, ih1⟩ := bournelaw14_UnitAdds.mono_l k
    refine ⟨?_, ?_⟩
    · intro y0 y1 y2 y3 y4
      unfold bournelaw14_UnitAdds.j0
      repeat' first
      | (with_reducible exact ih0 _ _ _ _ _)
      | (with_reducible exact ih1 _ _ _ _ _ _ _ _ _)
      | (with_reducible exact bourneref14_Digits.mono _ _)
      | (with_reducible exact LeO.refl _)
      | (with_reducible exact LeO.none _)
      | (with_reducible refine LeO.ite ?_ ?_)
      | (with_reducible refine LeO.bind ?_ (fun _ => ?_))
      | exact ih0 _ _ _ _ _
      | exact ih1 _ _ _ _ _ _ _ _ _
      | exact bourneref14_Digits.mono _ _
      | exact LeO.none _
      | refine LeO.ite ?_ ?_
      | refine LeO.bind ?_ (fun _ => ?_)
    · intro y0 y1 y2 y3 y4 y5 y6 y7 y8
      unfold bournelaw14_UnitAdds.j1
      repeat' first
      | (with_reducible exact ih0 _ _ _ _ _)
      | (with_reducible exact ih1 _ _ _ _ _ _ _ _ _)
      | (with_reducible exact bourneref14_Digits.mono _ _)
      | (with_reducible exact LeO.refl _)
      | (with_reducible exact LeO.none _)
      | (with_reducible refine LeO.ite ?_ ?_)
      | (with_reducible refine LeO.bind ?_ (fun _ => ?_))
      | exact ih0 _ _ _ _ _
      | exact ih1 _ _ _ _ _ _ _ _ _
      | exact bourneref14_Digits.mono _ _
      | exact LeO.none _
      | refine LeO.ite ?_ ?_
      | refine LeO.bind ?_ (fun _ => ?_)
theorem bournelaw14_UnitAdds.mono : ∀ a0 a1 a2 k, LeO (bournelaw14_UnitAdds.f k a0 a1 a2) (bournelaw14_UnitAdds.f (k + 1) a0 a1 a2) := by
  intro a0 a1 a2 k
  obtain ⟨ih0, ih1⟩ := bournelaw14_UnitAdds.mono_l k
  unfold bournelaw14_UnitAdds.f
  repeat' first
      | (with_reducible exact ih0 _ _ _ _ _)
      | (with_reducible exact ih1 _ _ _ _ _ _ _ _ _)
      | (with_reducible exact bourneref14_Digits.mono _ _)
      | (with_reducible exact LeO.refl _)
      | (with_reducible exact LeO.none _)
      | (with_reducible refine LeO.ite ?_ ?_)
      | (with_reducible refine LeO.bind ?_ (fun _ => ?_))
      | exact ih0 _ _ _ _ _
      | exact ih1 _ _ _ _ _ _ _ _ _
      | exact bourneref14_Digits.mono _ _
      | exact LeO.none _
      | refine LeO.ite ?_ ?_
      | refine LeO.bind ?_ (fun _ => ?_)
set_option maxHeartbeats 8000000 in
set_option maxRecDepth 100000 in
theorem bournelaw14_UnitAdds.calls (k : Nat) (a0 : Int) (a1 : Int) (a2 : ByteArray) (r : Bool) (w : World) (hg : Go.Proofs.YtahjkibjcibpgaaDoor.U.UW w) (h : bournelaw14_UnitAdds.f k a0 a1 a2 = some r) :
    Calls Tryd.prog 7 #[.int .i64 a0, .int .i64 a1, .string a2] w fun e w' => e = .returned (.bool r) ∧ Below w.heap.size w w' := by
  have hu23 := Tryd.underlying23
  have HB := Aside0.mk (Below.refl w.heap.size w)
  have HGW := Aside0.mk hg
  clear hg
  have H : ((bournelaw14_small.f).bind fun t272 => (if a0 < 0 then (bournelaw14_UnitAdds.j0 k a0 a1 a2 t272 true) else (if a0 > 1099511627776 then (bournelaw14_UnitAdds.j0 k a0 a1 a2 t272 true) else (if a1 < 0 then (bournelaw14_UnitAdds.j0 k a0 a1 a2 t272 true) else (bournelaw14_UnitAdds.j0 k a0 a1 a2 t272 (decide (a1 > 1099511627776))))))) = some r := h
  clear h
  replace H := Option.bind_eq_some_iff.mp H
  obtain ⟨t272, A40, H⟩ := H
  replace H : (if a0 < 0 then (bournelaw14_UnitAdds.j0 k a0 a1 a2 t272 true) else (if a0 > 1099511627776 then (bournelaw14_UnitAdds.j0 k a0 a1 a2 t272 true) else (if a1 < 0 then (bournelaw14_UnitAdds.j0 k a0 a1 a2 t272 true) else (bournelaw14_UnitAdds.j0 k a0 a1 a2 t272 (decide (a1 > 1099511627776)))))) = some r := H
  have A4 := Aside0.mk A40
  clear A40
  have HC5 := Aside0.mk H
  clear H
  go_enter Tryd.func7, Tryd.ntmps7
  go_upto_region 2 with (first | ((with_reducible refine gate_callee (f := 8) rfl ?_); refine goesL_ (some 14) rfl rfl Tryd.func8 (by kernel_rfl) rfl #[] rfl (by (try simp only [List.map_toArray, List.map_cons, List.map_nil]); first | done | rfl | (simp only [List.length_drop, List.length_take]; rfl) | (simp only [Int.toNat_natCast, ByteArray.extract_zero_size] <;> rfl) | (rw [Int.toNat_natCast, ByteArray.extract_zero_size] <;> rfl)) ?_; (with_reducible refine (bournelaw14_small.calls  t272 _ ?side1 A4.out).mono ?_); (case side1 => exact Go.Proofs.YtahjkibjcibpgaaDoor.U.UW.step HGW.out (by repeat (first | (with_reducible first | exact HB.out | apply below_alloc | apply pw_below_drewN | apply below_drew1) | exact HB.out))); rintro e w6 ⟨rfl, hb⟩; refine ⟨_, rfl, ?_⟩; have n0_ := Aside0.mk (below_step (by repeat (first | (with_reducible first | exact HB.out | apply below_alloc | apply pw_below_drewN | apply below_drew1) | exact HB.out)) hb); clear HB; have HB := n0_; clear n0_; (try clear hb); (try clear hb2); (try clear hk); (try clear hi)))
  (try simp only [Act.put, List.setIfInBounds_toArray, List.set_cons_zero, List.set_cons_succ])
  go_cut [28] (fun v28 wc => ∃ (kq : Nat) (x28_4 : Bool), v28 = .bool x28_4 ∧ Aside0 (bournelaw14_UnitAdds.j0 kq a0 a1 a2 t272 x28_4 = some r) ∧ Aside0 (kq ≤ k) ∧ Aside0 (Below w.heap.size w wc))
  case first =>
    have H := HC5.out
    clear HC5
    by_cases c7 : a0 < 0
    · rw [if_pos c7] at H
      have c7b0 : decide (a0 < 0) = true := decide_eq_true c7
      clear c7
      (first | rw [c7b0] | (simp only [i64_w, i32_w]; rw [c7b0]) | skip)
      have H' := Aside0.mk H
      clear H
      go_wp2
      go_meet
      case rel => exact ⟨_, (true), (by first | rfl | (simp; done) | (simp [*]; done)), H', ⟨by first | omega | exact Nat.le_refl _⟩, ⟨by repeat (first | (with_reducible first | exact HB.out | apply below_alloc | apply pw_below_drewN | apply below_drew1) | exact HB.out)⟩⟩
    · rw [if_neg c7] at H
      have c7b0 : decide (a0 < 0) = false := decide_eq_false c7
      clear c7
      (first | rw [c7b0] | (simp only [i64_w, i32_w]; rw [c7b0]) | skip)
      by_cases c8 : a0 > 1099511627776
      · rw [if_pos c8] at H
        have c8b0 : decide (1099511627776 < a0) = true := decide_eq_true c8
        clear c8
        have H' := Aside0.mk H
        clear H
        go_wp2
        go_meet
        case rel => exact ⟨_, (true), (by first | rfl | (simp; done) | (simp [*]; done)), H', ⟨by first | omega | exact Nat.le_refl _⟩, ⟨by repeat (first | (with_reducible first | exact HB.out | apply below_alloc | apply pw_below_drewN | apply below_drew1) | exact HB.out)⟩⟩
      · rw [if_neg c8] at H
        have c8b0 : decide (1099511627776 < a0) = false := decide_eq_false c8
        clear c8
        by_cases c9 : a1 < 0
        · rw [if_pos c9] at H
          have c9b0 : decide (a1 < 0) = true := decide_eq_true c9
          clear c9
          have H' := Aside0.mk H
          clear H
          go_wp2
          go_meet
          case rel => exact ⟨_, (true), (by first | rfl | (simp; done) | (simp [*]; done)), H', ⟨by first | omega | exact Nat.le_refl _⟩, ⟨by repeat (first | (with_reducible first | exact HB.out | apply below_alloc | apply pw_below_drewN | apply below_drew1) | exact HB.out)⟩⟩
        · rw [if_neg c9] at H
          have c9b0 : decide (a1 < 0) = false := decide_eq_false c9
          clear c9
          have H' := Aside0.mk H
          clear H
          go_wp2
          go_meet
          case rel => exact ⟨_, (decide (a1 > 1099511627776)), (by first | rfl | (simp; done) | (simp [*]; done)), H', ⟨by first | omega | exact Nat.le_refl _⟩, ⟨by repeat (first | (with_reducible first | exact HB.out | apply below_alloc | apply pw_below_drewN | apply below_drew1) | exact HB.out)⟩⟩
  case rest =>
    clear HC5
    try clear p2
    try clear c7
    try clear c7b0
    try clear c8
    try clear c8b0
    try clear c9
    try clear c9b0
    obtain ⟨kq, x28_4, rfl, HA, HJ4, HB⟩ := hcut
    cases kq with
    | zero => exact absurd HA.out (by simp [bournelaw14_UnitAdds.j0])
    | succ kj4 =>
      have H := HA.out
      clear HA
      simp only [bournelaw14_UnitAdds.j0] at H
      by_cases c10 : x28_4 = true
      · subst c10
        have H1 : (some t272) = some r := by rw [if_pos rfl] at H; exact H
        clear H
        have H := H1
        clear H1
        obtain rfl := Option.some.inj H
        go_wp2
        go_ret
        exact ⟨by first | rfl | (simp [errW_none, errW_some] <;> rfl) | (simp [*, errW_none, errW_some] <;> rfl), by repeat (first | (with_reducible first | exact HB.out | apply below_alloc | apply pw_below_drewN | apply below_drew1) | exact HB.out)⟩
      · replace c10 := Bool.eq_false_iff.mpr c10
        subst c10
        have H1 : ((bourneref14_Digits.f kj4 a0).bind fun t273 => ((Ex.unit_Amount.f t273 a2).bind fun bt274 => ((bourneref14_Digits.f kj4 a1).bind fun t278 => ((Ex.unit_Amount.f t278 a2).bind fun bt279 => ((bourneref14_Digits.f kj4 (wrap64 (a0 + a1))).bind fun t283 => ((Ex.unit_Amount.f t283 a2).bind fun bt284 => (if bt274.2.2 = 0 then (bournelaw14_UnitAdds.j1 kj4 t272 bt284.2.2 (bt279.2.2 != 0) bt274.1 bt274.2.1 bt279.1 bt279.2.1 bt284.1 bt284.2.1) else (bournelaw14_UnitAdds.j1 kj4 t272 bt284.2.2 true bt274.1 bt274.2.1 bt279.1 bt279.2.1 bt284.1 bt284.2.1)))))))) = some r := by rw [if_neg (show ¬ (false = true) by decide)] at H; exact H
        clear H
        have H := H1
        clear H1
        replace H := Option.bind_eq_some_iff.mp H
        obtain ⟨t273, A110, H⟩ := H
        replace H : ((Ex.unit_Amount.f t273 a2).bind fun bt274 => ((bourneref14_Digits.f kj4 a1).bind fun t278 => ((Ex.unit_Amount.f t278 a2).bind fun bt279 => ((bourneref14_Digits.f kj4 (wrap64 (a0 + a1))).bind fun t283 => ((Ex.unit_Amount.f t283 a2).bind fun bt284 => (if bt274.2.2 = 0 then (bournelaw14_UnitAdds.j1 kj4 t272 bt284.2.2 (bt279.2.2 != 0) bt274.1 bt274.2.1 bt279.1 bt279.2.1 bt284.1 bt284.2.1) else (bournelaw14_UnitAdds.j1 kj4 t272 bt284.2.2 true bt274.1 bt274.2.1 bt279.1 bt279.2.1 bt284.1 bt284.2.1))))))) = some r := H
        have A11 := Aside0.mk A110
        clear A110
        replace H := Option.bind_eq_some_iff.mp H
        obtain ⟨⟨t274, t275, t276⟩, A120, H⟩ := H
        replace H : ((bourneref14_Digits.f kj4 a1).bind fun t278 => ((Ex.unit_Amount.f t278 a2).bind fun bt279 => ((bourneref14_Digits.f kj4 (wrap64 (a0 + a1))).bind fun t283 => ((Ex.unit_Amount.f t283 a2).bind fun bt284 => (if t276 = 0 then (bournelaw14_UnitAdds.j1 kj4 t272 bt284.2.2 (bt279.2.2 != 0) t274 t275 bt279.1 bt279.2.1 bt284.1 bt284.2.1) else (bournelaw14_UnitAdds.j1 kj4 t272 bt284.2.2 true t274 t275 bt279.1 bt279.2.1 bt284.1 bt284.2.1)))))) = some r := H
        have A12 := Aside0.mk A120
        clear A120
        replace H := Option.bind_eq_some_iff.mp H
        obtain ⟨t278, A130, H⟩ := H
        replace H : ((Ex.unit_Amount.f t278 a2).bind fun bt279 => ((bourneref14_Digits.f kj4 (wrap64 (a0 + a1))).bind fun t283 => ((Ex.unit_Amount.f t283 a2).bind fun bt284 => (if t276 = 0 then (bournelaw14_UnitAdds.j1 kj4 t272 bt284.2.2 (bt279.2.2 != 0) t274 t275 bt279.1 bt279.2.1 bt284.1 bt284.2.1) else (bournelaw14_UnitAdds.j1 kj4 t272 bt284.2.2 true t274 t275 bt279.1 bt279.2.1 bt284.1 bt284.2.1))))) = some r := H
        have A13 := Aside0.mk A130
        clear A130
        replace H := Option.bind_eq_some_iff.mp H
        obtain ⟨⟨t279, t280, t281⟩, A140, H⟩ := H
        replace H : ((bourneref14_Digits.f kj4 (wrap64 (a0 + a1))).bind fun t283 => ((Ex.unit_Amount.f t283 a2).bind fun bt284 => (if t276 = 0 then (bournelaw14_UnitAdds.j1 kj4 t272 bt284.2.2 (t281 != 0) t274 t275 t279 t280 bt284.1 bt284.2.1) else (bournelaw14_UnitAdds.j1 kj4 t272 bt284.2.2 true t274 t275 t279 t280 bt284.1 bt284.2.1)))) = some r := H
        have A14 := Aside0.mk A140
        clear A140
        replace H := Option.bind_eq_some_iff.mp H
        obtain ⟨t283, A150, H⟩ := H
        replace H : ((Ex.unit_Amount.f t283 a2).bind fun bt284 => (if t276 = 0 then (bournelaw14_UnitAdds.j1 kj4 t272 bt284.2.2 (t281 != 0) t274 t275 t279 t280 bt284.1 bt284.2.1) else (bournelaw14_UnitAdds.j1 kj4 t272 bt284.2.2 true t274 t275 t279 t280 bt284.1 bt284.2.1))) = some r := H
        have A15 := Aside0.mk A150
        clear A150
        replace H := Option.bind_eq_some_iff.mp H
        obtain ⟨⟨t284, t285, t286⟩, A160, H⟩ := H
        replace H : (if t276 = 0 then (bournelaw14_UnitAdds.j1 kj4 t272 t286 (t281 != 0) t274 t275 t279 t280 t284 t285) else (bournelaw14_UnitAdds.j1 kj4 t272 t286 true t274 t275 t279 t280 t284 t285)) = some r := H
        have A16 := Aside0.mk A160
        clear A160
        have HC17 := Aside0.mk H
        clear H
        go_upto_region 7 with (first | ((with_reducible refine gate_callee (f := 15) rfl ?_); refine goesL_ (some 32) rfl rfl Tryd.func15 (by kernel_rfl) rfl #[.int .i64 a0] rfl (by (try simp only [List.map_toArray, List.map_cons, List.map_nil]); first | done | rfl | (simp only [List.length_drop, List.length_take]; rfl) | (simp only [Int.toNat_natCast, ByteArray.extract_zero_size] <;> rfl) | (rw [Int.toNat_natCast, ByteArray.extract_zero_size] <;> rfl)) ?_; (with_reducible refine (bourneref14_Digits.calls kj4 a0 t273 _ A11.out).mono ?_); rintro e w18 ⟨rfl, hb⟩; refine ⟨_, rfl, ?_⟩; have n0_ := Aside0.mk (below_step (by repeat (first | (with_reducible first | exact HB.out | apply below_alloc | apply pw_below_drewN | apply below_drew1) | exact HB.out)) hb); clear HB; have HB := n0_; clear n0_; (try clear hb); (try clear hb2); (try clear hk); (try clear hi)) | ((with_reducible refine gate_callee (f := 9) rfl ?_); refine goesL_ (some 34) rfl rfl Tryd.func9 (by kernel_rfl) rfl #[.string t273, .string a2] rfl (by (try simp only [List.map_toArray, List.map_cons, List.map_nil]); first | done | rfl | (simp only [List.length_drop, List.length_take]; rfl) | (simp only [Int.toNat_natCast, ByteArray.extract_zero_size] <;> rfl) | (rw [Int.toNat_natCast, ByteArray.extract_zero_size] <;> rfl)) ?_; (with_reducible refine (Ex.unit_Amount.calls t273 a2 t274 t275 t276 _ ?side1 A12.out).mono ?_); (case side1 => exact Go.Proofs.YtahjkibjcibpgaaDoor.U.UW.step HGW.out (by repeat (first | (with_reducible first | exact HB.out | apply below_alloc | apply pw_below_drewN | apply below_drew1) | exact HB.out))); rintro e w19 ⟨rfl, hb⟩; refine ⟨_, rfl, ?_⟩; have n0_ := Aside0.mk (below_step (by repeat (first | (with_reducible first | exact HB.out | apply below_alloc | apply pw_below_drewN | apply below_drew1) | exact HB.out)) hb); clear HB; have HB := n0_; clear n0_; (try clear hb); (try clear hb2); (try clear hk); (try clear hi)) | ((with_reducible refine gate_dst (N := 8) rfl ?_); refine box_event ?hg (N := 8) ?hd (cs := #[.int .i64 0, .int .i64 0]) (t := 23) ?hr ?_; (case hd => rfl); (case hg => rfl); (case hr => first | (go_simp; done) | (go_simp; rfl)); intro gb277 hg w20 hbox hb; have n0_ := Aside0.mk (below_step (by repeat (first | (with_reducible first | exact HB.out | apply below_alloc | apply pw_below_drewN | apply below_drew1) | exact HB.out)) hb); have n1_ := Aside0.mk (hbox); have n2_ := Aside0.mk ((by rw [hg]; exact (below_size (by repeat (first | (with_reducible first | exact HB.out | apply below_alloc | apply pw_below_drewN | apply below_drew1) | exact HB.out))) : w.heap.size ≤ gb277)); have n3_ := Aside0.mk ((by rw [hg]; exact (below_size (by repeat (first | (with_reducible first | exact HB.out | apply below_alloc | apply pw_below_drewN | apply below_drew1) | exact HB.out))) : w.heap.size ≤ gb277)); clear HB; have HB := n0_; have BK277 := n1_; have GW277 := n2_; have GE277 := n3_; clear n0_ n1_ n2_ n3_; clear hb hbox hg; have hcz21_0 : w20.cell? ⟨gb277, 0, none⟩ = some (.int .i64 0) := (blk_cell BK277.out 0).trans rfl; have hcz21_1 : w20.cell? ⟨gb277, 1, none⟩ = some (.int .i64 0) := (blk_cell BK277.out 1).trans rfl; have hfz21_0 := blk_frozen BK277.out 0; have hfz21_1 := blk_frozen BK277.out 1) | ((with_reducible refine gate_callee (f := 15) rfl ?_); refine goesL_ (some 39) rfl rfl Tryd.func15 (by kernel_rfl) rfl #[.int .i64 a1] rfl (by (try simp only [List.map_toArray, List.map_cons, List.map_nil]); first | done | rfl | (simp only [List.length_drop, List.length_take]; rfl) | (simp only [Int.toNat_natCast, ByteArray.extract_zero_size] <;> rfl) | (rw [Int.toNat_natCast, ByteArray.extract_zero_size] <;> rfl)) ?_; (with_reducible refine (bourneref14_Digits.calls kj4 a1 t278 _ A13.out).mono ?_); rintro e w22 ⟨rfl, hb⟩; refine ⟨_, rfl, ?_⟩; have n0_ := Aside0.mk (blk_below (g := gb277) (o := .cells #[.int .i64 t274, .int .i64 t275] 23 (0, 0)) (by (with_reducible repeat (first | refine blk_drewN ?_ _ | refine blk_drew ?_ | refine blk_alloc ?_ _)); refine blk_put (cs := #[.int .i64 t274, .int .i64 0]) ?_ 1 _ rfl; (with_reducible repeat (first | refine blk_drewN ?_ _ | refine blk_drew ?_ | refine blk_alloc ?_ _)); refine blk_put (cs := #[.int .i64 0, .int .i64 0]) ?_ 0 _ rfl; (with_reducible repeat (first | refine blk_drewN ?_ _ | refine blk_drew ?_ | refine blk_alloc ?_ _)); exact BK277.out) hb); have n1_ := Aside0.mk (below_step (by repeat (first | (with_reducible first | exact HB.out | apply below_alloc | apply pw_below_drewN | apply below_drew1 | refine below_set ?_ GE277.out) | exact HB.out)) hb); clear BK277; clear HB; have BK277 := n0_; have HB := n1_; clear n0_ n1_; (try clear hb); (try clear hb2); (try clear hk); (try clear hi)) | ((with_reducible refine gate_callee (f := 9) rfl ?_); refine goesL_ (some 41) rfl rfl Tryd.func9 (by kernel_rfl) rfl #[.string t278, .string a2] rfl (by (try simp only [List.map_toArray, List.map_cons, List.map_nil]); first | done | rfl | (simp only [List.length_drop, List.length_take]; rfl) | (simp only [Int.toNat_natCast, ByteArray.extract_zero_size] <;> rfl) | (rw [Int.toNat_natCast, ByteArray.extract_zero_size] <;> rfl)) ?_; (with_reducible refine (Ex.unit_Amount.calls t278 a2 t279 t280 t281 _ ?side1 A14.out).mono ?_); (case side1 => exact Go.Proofs.YtahjkibjcibpgaaDoor.U.UW.step HGW.out (by repeat (first | (with_reducible first | exact HB.out | apply below_alloc | apply pw_below_drewN | apply below_drew1 | refine below_set ?_ GE277.out) | exact HB.out))); rintro e w23 ⟨rfl, hb⟩; refine ⟨_, rfl, ?_⟩; have n0_ := Aside0.mk (blk_below (g := gb277) (o := .cells #[.int .i64 t274, .int .i64 t275] 23 (0, 0)) (by (with_reducible repeat (first | refine blk_drewN ?_ _ | refine blk_drew ?_ | refine blk_alloc ?_ _)); exact BK277.out) hb); have n1_ := Aside0.mk (below_step (by repeat (first | (with_reducible first | exact HB.out | apply below_alloc | apply pw_below_drewN | apply below_drew1 | refine below_set ?_ GE277.out) | exact HB.out)) hb); clear BK277; clear HB; have BK277 := n0_; have HB := n1_; clear n0_ n1_; (try clear hb); (try clear hb2); (try clear hk); (try clear hi)) | ((with_reducible refine gate_dst (N := 10) rfl ?_); refine box_event ?hg (N := 10) ?hd (cs := #[.int .i64 0, .int .i64 0]) (t := 23) ?hr ?_; (case hd => rfl); (case hg => rfl); (case hr => first | (go_simp; done) | (go_simp; rfl)); intro gb282 hg w24 hbox hb; have n0_ := Aside0.mk (blk_below (g := gb277) (o := .cells #[.int .i64 t274, .int .i64 t275] 23 (0, 0)) (by (with_reducible repeat (first | refine blk_drewN ?_ _ | refine blk_drew ?_ | refine blk_alloc ?_ _)); exact BK277.out) hb); have n1_ := Aside0.mk (below_step (by repeat (first | (with_reducible first | exact HB.out | apply below_alloc | apply pw_below_drewN | apply below_drew1 | refine below_set ?_ GE277.out) | exact HB.out)) hb); have n2_ := Aside0.mk (hbox); have n3_ := Aside0.mk ((by rw [hg]; exact (below_size (by repeat (first | (with_reducible first | exact HB.out | apply below_alloc | apply pw_below_drewN | apply below_drew1 | refine below_set ?_ GE277.out) | exact HB.out))) : w.heap.size ≤ gb282)); have n4_ := Aside0.mk ((by rw [hg]; exact (below_size (by repeat (first | (with_reducible first | exact HB.out | apply below_alloc | apply pw_below_drewN | apply below_drew1 | refine below_set ?_ GE277.out) | exact HB.out))) : w.heap.size ≤ gb282)); have n5_ := Aside0.mk ((by rw [hg]; exact Nat.ne_of_lt (blk_lt (g := gb277) (o := .cells #[.int .i64 t274, .int .i64 t275] 23 (0, 0)) (by (with_reducible repeat (first | refine blk_drewN ?_ _ | refine blk_drew ?_ | refine blk_alloc ?_ _)); exact BK277.out)) : gb277 ≠ gb282)); have n6_ := Aside0.mk ((by rw [hg]; exact Nat.ne_of_gt (blk_lt (g := gb277) (o := .cells #[.int .i64 t274, .int .i64 t275] 23 (0, 0)) (by (with_reducible repeat (first | refine blk_drewN ?_ _ | refine blk_drew ?_ | refine blk_alloc ?_ _)); exact BK277.out)) : gb282 ≠ gb277)); clear BK277; clear HB; have BK277 := n0_; have HB := n1_; have BK282 := n2_; have GW282 := n3_; have GE282 := n4_; have NB277_282 := n5_; have NB282_277 := n6_; clear n0_ n1_ n2_ n3_ n4_ n5_ n6_; clear hb hbox hg; have hnb25 := NB282_277.out; have hnc25 := NB277_282.out; have hcz26_0 : w24.cell? ⟨gb282, 0, none⟩ = some (.int .i64 0) := (blk_cell BK282.out 0).trans rfl; have hcz26_1 : w24.cell? ⟨gb282, 1, none⟩ = some (.int .i64 0) := (blk_cell BK282.out 1).trans rfl; have hfz26_0 := blk_frozen BK282.out 0; have hfz26_1 := blk_frozen BK282.out 1) | ((with_reducible refine gate_callee (f := 15) rfl ?_); refine goesL_ (some 48) rfl rfl Tryd.func15 (by kernel_rfl) rfl #[.int .i64 (wrap64 (a0 + a1))] rfl (by (try simp only [List.map_toArray, List.map_cons, List.map_nil]); first | done | rfl | (simp only [List.length_drop, List.length_take]; rfl) | (simp only [Int.toNat_natCast, ByteArray.extract_zero_size] <;> rfl) | (rw [Int.toNat_natCast, ByteArray.extract_zero_size] <;> rfl)) ?_; (with_reducible refine (bourneref14_Digits.calls kj4 (wrap64 (a0 + a1)) t283 _ A15.out).mono ?_); rintro e w27 ⟨rfl, hb⟩; refine ⟨_, rfl, ?_⟩; have n0_ := Aside0.mk (blk_below (g := gb277) (o := .cells #[.int .i64 t274, .int .i64 t275] 23 (0, 0)) (by (with_reducible repeat (first | refine blk_drewN ?_ _ | refine blk_drew ?_ | refine blk_alloc ?_ _)); refine blk_far ?_ NB277_282.out _; (with_reducible repeat (first | refine blk_drewN ?_ _ | refine blk_drew ?_ | refine blk_alloc ?_ _)); refine blk_far ?_ NB277_282.out _; (with_reducible repeat (first | refine blk_drewN ?_ _ | refine blk_drew ?_ | refine blk_alloc ?_ _)); exact BK277.out) hb); have n1_ := Aside0.mk (blk_below (g := gb282) (o := .cells #[.int .i64 t279, .int .i64 t280] 23 (0, 0)) (by (with_reducible repeat (first | refine blk_drewN ?_ _ | refine blk_drew ?_ | refine blk_alloc ?_ _)); refine blk_put (cs := #[.int .i64 t279, .int .i64 0]) ?_ 1 _ rfl; (with_reducible repeat (first | refine blk_drewN ?_ _ | refine blk_drew ?_ | refine blk_alloc ?_ _)); refine blk_put (cs := #[.int .i64 0, .int .i64 0]) ?_ 0 _ rfl; (with_reducible repeat (first | refine blk_drewN ?_ _ | refine blk_drew ?_ | refine blk_alloc ?_ _)); exact BK282.out) hb); have n2_ := Aside0.mk (below_step (by repeat (first | (with_reducible first | exact HB.out | apply below_alloc | apply pw_below_drewN | apply below_drew1 | refine below_set ?_ GE277.out | refine below_set ?_ GE282.out) | exact HB.out)) hb); clear BK277; clear BK282; clear HB; have BK277 := n0_; have BK282 := n1_; have HB := n2_; clear n0_ n1_ n2_; (try clear hb); (try clear hb2); (try clear hk); (try clear hi)) | ((with_reducible refine gate_callee (f := 9) rfl ?_); refine goesL_ (some 50) rfl rfl Tryd.func9 (by kernel_rfl) rfl #[.string t283, .string a2] rfl (by (try simp only [List.map_toArray, List.map_cons, List.map_nil]); first | done | rfl | (simp only [List.length_drop, List.length_take]; rfl) | (simp only [Int.toNat_natCast, ByteArray.extract_zero_size] <;> rfl) | (rw [Int.toNat_natCast, ByteArray.extract_zero_size] <;> rfl)) ?_; (with_reducible refine (Ex.unit_Amount.calls t283 a2 t284 t285 t286 _ ?side1 A16.out).mono ?_); (case side1 => exact Go.Proofs.YtahjkibjcibpgaaDoor.U.UW.step HGW.out (by repeat (first | (with_reducible first | exact HB.out | apply below_alloc | apply pw_below_drewN | apply below_drew1 | refine below_set ?_ GE277.out | refine below_set ?_ GE282.out) | exact HB.out))); rintro e w28 ⟨rfl, hb⟩; refine ⟨_, rfl, ?_⟩; have n0_ := Aside0.mk (blk_below (g := gb277) (o := .cells #[.int .i64 t274, .int .i64 t275] 23 (0, 0)) (by (with_reducible repeat (first | refine blk_drewN ?_ _ | refine blk_drew ?_ | refine blk_alloc ?_ _)); exact BK277.out) hb); have n1_ := Aside0.mk (blk_below (g := gb282) (o := .cells #[.int .i64 t279, .int .i64 t280] 23 (0, 0)) (by (with_reducible repeat (first | refine blk_drewN ?_ _ | refine blk_drew ?_ | refine blk_alloc ?_ _)); exact BK282.out) hb); have n2_ := Aside0.mk (below_step (by repeat (first | (with_reducible first | exact HB.out | apply below_alloc | apply pw_below_drewN | apply below_drew1 | refine below_set ?_ GE277.out | refine below_set ?_ GE282.out) | exact HB.out)) hb); clear BK277; clear BK282; clear HB; have BK277 := n0_; have BK282 := n1_; have HB := n2_; clear n0_ n1_ n2_; (try clear hb); (try clear hb2); (try clear hk); (try clear hi)) | ((with_reducible refine gate_dst (N := 12) rfl ?_); refine box_event ?hg (N := 12) ?hd (cs := #[.int .i64 0, .int .i64 0]) (t := 23) ?hr ?_; (case hd => rfl); (case hg => rfl); (case hr => first | (go_simp; done) | (go_simp; rfl)); intro gb287 hg w29 hbox hb; have n0_ := Aside0.mk (blk_below (g := gb277) (o := .cells #[.int .i64 t274, .int .i64 t275] 23 (0, 0)) (by (with_reducible repeat (first | refine blk_drewN ?_ _ | refine blk_drew ?_ | refine blk_alloc ?_ _)); exact BK277.out) hb); have n1_ := Aside0.mk (blk_below (g := gb282) (o := .cells #[.int .i64 t279, .int .i64 t280] 23 (0, 0)) (by (with_reducible repeat (first | refine blk_drewN ?_ _ | refine blk_drew ?_ | refine blk_alloc ?_ _)); exact BK282.out) hb); have n2_ := Aside0.mk (below_step (by repeat (first | (with_reducible first | exact HB.out | apply below_alloc | apply pw_below_drewN | apply below_drew1 | refine below_set ?_ GE277.out | refine below_set ?_ GE282.out) | exact HB.out)) hb); have n3_ := Aside0.mk (hbox); have n4_ := Aside0.mk ((by rw [hg]; exact (below_size (by repeat (first | (with_reducible first | exact HB.out | apply below_alloc | apply pw_below_drewN | apply below_drew1 | refine below_set ?_ GE277.out | refine below_set ?_ GE282.out) | exact HB.out))) : w.heap.size ≤ gb287)); have n5_ := Aside0.mk ((by rw [hg]; exact (below_size (by repeat (first | (with_reducible first | exact HB.out | apply below_alloc | apply pw_below_drewN | apply below_drew1 | refine below_set ?_ GE277.out | refine below_set ?_ GE282.out) | exact HB.out))) : w.heap.size ≤ gb287)); have n6_ := Aside0.mk ((by rw [hg]; exact Nat.ne_of_lt (blk_lt (g := gb277) (o := .cells #[.int .i64 t274, .int .i64 t275] 23 (0, 0)) (by (with_reducible repeat (first | refine blk_drewN ?_ _ | refine blk_drew ?_ | refine blk_alloc ?_ _)); exact BK277.out)) : gb277 ≠ gb287)); have n7_ := Aside0.mk ((by rw [hg]; exact Nat.ne_of_gt (blk_lt (g := gb277) (o := .cells #[.int .i64 t274, .int .i64 t275] 23 (0, 0)) (by (with_reducible repeat (first | refine blk_drewN ?_ _ | refine blk_drew ?_ | refine blk_alloc ?_ _)); exact BK277.out)) : gb287 ≠ gb277)); have n8_ := Aside0.mk ((by rw [hg]; exact Nat.ne_of_lt (blk_lt (g := gb282) (o := .cells #[.int .i64 t279, .int .i64 t280] 23 (0, 0)) (by (with_reducible repeat (first | refine blk_drewN ?_ _ | refine blk_drew ?_ | refine blk_alloc ?_ _)); exact BK282.out)) : gb282 ≠ gb287)); have n9_ := Aside0.mk ((by rw [hg]; exact Nat.ne_of_gt (blk_lt (g := gb282) (o := .cells #[.int .i64 t279, .int .i64 t280] 23 (0, 0)) (by (with_reducible repeat (first | refine blk_drewN ?_ _ | refine blk_drew ?_ | refine blk_alloc ?_ _)); exact BK282.out)) : gb287 ≠ gb282)); clear BK277; clear BK282; clear HB; have BK277 := n0_; have BK282 := n1_; have HB := n2_; have BK287 := n3_; have GW287 := n4_; have GE287 := n5_; have NB277_287 := n6_; have NB287_277 := n7_; have NB282_287 := n8_; have NB287_282 := n9_; clear n0_ n1_ n2_ n3_ n4_ n5_ n6_ n7_ n8_ n9_; clear hb hbox hg; have hnb30 := NB287_277.out; have hnc30 := NB277_287.out; have hnb31 := NB287_282.out; have hnc31 := NB282_287.out; have hcz32_0 : w29.cell? ⟨gb287, 0, none⟩ = some (.int .i64 0) := (blk_cell BK287.out 0).trans rfl; have hcz32_1 : w29.cell? ⟨gb287, 1, none⟩ = some (.int .i64 0) := (blk_cell BK287.out 1).trans rfl; have hfz32_0 := blk_frozen BK287.out 0; have hfz32_1 := blk_frozen BK287.out 1))
        (try simp only [Act.put, List.setIfInBounds_toArray, List.set_cons_zero, List.set_cons_succ])
        go_cut [58] (fun v58 wc => ∃ (kq : Nat) (x58_16 : Bool), v58 = .bool x58_16 ∧ Aside0 (bournelaw14_UnitAdds.j1 kq t272 t286 x58_16 t274 t275 t279 t280 t284 t285 = some r) ∧ Aside0 (kq ≤ kj4) ∧ Aside0 (wc.heap[gb277]? = some (.cells #[.int .i64 t274, .int .i64 t275] 23 (0, 0))) ∧ Aside0 (wc.heap[gb282]? = some (.cells #[.int .i64 t279, .int .i64 t280] 23 (0, 0))) ∧ Aside0 (wc.heap[gb287]? = some (.cells #[.int .i64 t284, .int .i64 t285] 23 (0, 0))) ∧ Aside0 (Below w.heap.size w wc))
        case first =>
          have H := HC17.out
          clear HC17
          by_cases c33 : t276 = 0
          · rw [if_pos c33] at H
            have c33b0 : (t276 == 0) = true := beq_iff_eq.mpr c33
            have c33b1 : (t276 != 0) = false := bne_eq_false_iff_eq.mpr c33
            clear c33
            (first | rw [c33b0] | (simp only [i64_w, i32_w]; rw [c33b0]) | skip)
            have H' := Aside0.mk H
            clear H
            go_wp2
            go_meet
            case rel => exact ⟨_, ((t281 != 0)), (by first | rfl | (simp; done) | (simp [*]; done)), H', ⟨by have := HJ4.out; first | omega | exact Nat.le_refl _⟩, ⟨by (with_reducible repeat (first | refine blk_drewN ?_ _ | refine blk_drew ?_ | refine blk_alloc ?_ _)); refine blk_far ?_ NB277_287.out _; (with_reducible repeat (first | refine blk_drewN ?_ _ | refine blk_drew ?_ | refine blk_alloc ?_ _)); refine blk_far ?_ NB277_287.out _; (with_reducible repeat (first | refine blk_drewN ?_ _ | refine blk_drew ?_ | refine blk_alloc ?_ _)); exact BK277.out⟩, ⟨by (with_reducible repeat (first | refine blk_drewN ?_ _ | refine blk_drew ?_ | refine blk_alloc ?_ _)); refine blk_far ?_ NB282_287.out _; (with_reducible repeat (first | refine blk_drewN ?_ _ | refine blk_drew ?_ | refine blk_alloc ?_ _)); refine blk_far ?_ NB282_287.out _; (with_reducible repeat (first | refine blk_drewN ?_ _ | refine blk_drew ?_ | refine blk_alloc ?_ _)); exact BK282.out⟩, ⟨by (with_reducible repeat (first | refine blk_drewN ?_ _ | refine blk_drew ?_ | refine blk_alloc ?_ _)); refine blk_put (cs := #[.int .i64 t284, .int .i64 0]) ?_ 1 _ rfl; (with_reducible repeat (first | refine blk_drewN ?_ _ | refine blk_drew ?_ | refine blk_alloc ?_ _)); refine blk_put (cs := #[.int .i64 0, .int .i64 0]) ?_ 0 _ rfl; (with_reducible repeat (first | refine blk_drewN ?_ _ | refine blk_drew ?_ | refine blk_alloc ?_ _)); exact BK287.out⟩, ⟨by repeat (first | (with_reducible first | exact HB.out | apply below_alloc | apply pw_below_drewN | apply below_drew1 | refine below_set ?_ GE277.out | refine below_set ?_ GE282.out | refine below_set ?_ GE287.out) | exact HB.out)⟩⟩
          · rw [if_neg c33] at H
            have c33b0 : (t276 == 0) = false := beq_eq_false_iff_ne.mpr c33
            have c33b1 : (t276 != 0) = true := bne_iff_ne.mpr c33
            (first | rw [c33b0] | (simp only [i64_w, i32_w]; rw [c33b0]) | skip)
            have H' := Aside0.mk H
            clear H
            go_wp2
            go_meet
            case rel => exact ⟨_, (true), (by first | rfl | (simp; done) | (simp [*]; done)), H', ⟨by have := HJ4.out; first | omega | exact Nat.le_refl _⟩, ⟨by (with_reducible repeat (first | refine blk_drewN ?_ _ | refine blk_drew ?_ | refine blk_alloc ?_ _)); refine blk_far ?_ NB277_287.out _; (with_reducible repeat (first | refine blk_drewN ?_ _ | refine blk_drew ?_ | refine blk_alloc ?_ _)); refine blk_far ?_ NB277_287.out _; (with_reducible repeat (first | refine blk_drewN ?_ _ | refine blk_drew ?_ | refine blk_alloc ?_ _)); exact BK277.out⟩, ⟨by (with_reducible repeat (first | refine blk_drewN ?_ _ | refine blk_drew ?_ | refine blk_alloc ?_ _)); refine blk_far ?_ NB282_287.out _; (with_reducible repeat (first | refine blk_drewN ?_ _ | refine blk_drew ?_ | refine blk_alloc ?_ _)); refine blk_far ?_ NB282_287.out _; (with_reducible repeat (first | refine blk_drewN ?_ _ | refine blk_drew ?_ | refine blk_alloc ?_ _)); exact BK282.out⟩, ⟨by (with_reducible repeat (first | refine blk_drewN ?_ _ | refine blk_drew ?_ | refine blk_alloc ?_ _)); refine blk_put (cs := #[.int .i64 t284, .int .i64 0]) ?_ 1 _ rfl; (with_reducible repeat (first | refine blk_drewN ?_ _ | refine blk_drew ?_ | refine blk_alloc ?_ _)); refine blk_put (cs := #[.int .i64 0, .int .i64 0]) ?_ 0 _ rfl; (with_reducible repeat (first | refine blk_drewN ?_ _ | refine blk_drew ?_ | refine blk_alloc ?_ _)); exact BK287.out⟩, ⟨by repeat (first | (with_reducible first | exact HB.out | apply below_alloc | apply pw_below_drewN | apply below_drew1 | refine below_set ?_ GE277.out | refine below_set ?_ GE282.out | refine below_set ?_ GE287.out) | exact HB.out)⟩⟩
        case rest =>
          clear HC17
          try clear c1
          try clear c2
          try clear p2
          try clear c3
          try clear p6
          try clear c7
          try clear c7b0
          try clear c8
          try clear c8b0
          try clear c9
          try clear c9b0
          try clear c10
          try clear c15
          try clear c25
          try clear c30
          try clear c31
          try clear c33
          try clear c33b0
          try clear c33b1
          try clear hcz21_0
          try clear hcz21_1
          try clear hcz26_0
          try clear hcz26_1
          try clear hcz32_0
          try clear hcz32_1
          try clear hfz21_0
          try clear hfz21_1
          try clear hfz26_0
          try clear hfz26_1
          try clear hfz32_0
          try clear hfz32_1
          try clear p2
          obtain ⟨kq, x58_16, rfl, HA, HJ16, BK277, BK282, BK287, HB⟩ := hcut
          cases kq with
          | zero => exact absurd HA.out (by simp [bournelaw14_UnitAdds.j1])
          | succ kj16 =>
            have H := HA.out
            clear HA
            simp only [bournelaw14_UnitAdds.j1] at H
            by_cases c34 : x58_16 = true
            · subst c34
              have H1 : (some t272) = some r := by rw [if_pos rfl] at H; exact H
              clear H
              have H := H1
              clear H1
              obtain rfl := Option.some.inj H
              go_wp2
              go_ret
              exact ⟨by first | rfl | (simp [errW_none, errW_some] <;> rfl) | (simp [*, errW_none, errW_some] <;> rfl), by repeat (first | (with_reducible first | exact HB.out | apply below_alloc | apply pw_below_drewN | apply below_drew1 | refine below_set ?_ GE277.out | refine below_set ?_ GE282.out | refine below_set ?_ GE287.out) | exact HB.out)⟩
            · replace c34 := Bool.eq_false_iff.mpr c34
              subst c34
              have H1 : (if (wrap64 (t274 + t279)) > 1125899906842624 then (if t272 = true then (some (t286 == 7)) else (some false)) else (if t272 = true then (if t286 = 0 then (if t284 = (wrap64 (t274 + t279)) then (if t285 = t275 then (some (t275 == t280)) else (some false)) else (some false)) else (some false)) else (some false))) = some r := by rw [if_neg (show ¬ (false = true) by decide)] at H; exact H
              clear H
              have H := H1
              clear H1
              by_cases c35 : (wrap64 (t274 + t279)) > 1125899906842624
              · rw [if_pos c35] at H
                have c35b0 : decide (1125899906842624 < (wrap64 (t274 + t279))) = true := decide_eq_true c35
                clear c35
                by_cases c36 : t272 = true
                · subst c36
                  have H1 : (some (t286 == 7)) = some r := by rw [if_pos rfl] at H; exact H
                  clear H
                  have H := H1
                  clear H1
                  obtain rfl := Option.some.inj H
                  have hnb37 := NB277_282.out
                  have hnc37 := NB282_277.out
                  have hnb38 := NB277_287.out
                  have hnc38 := NB287_277.out
                  have hcz39_0 : wc.cell? ⟨gb277, 0, none⟩ = some (.int .i64 t274) := (blk_cell BK277.out 0).trans rfl
                  have hcz39_1 : wc.cell? ⟨gb277, 1, none⟩ = some (.int .i64 t275) := (blk_cell BK277.out 1).trans rfl
                  have hfz39_0 := blk_frozen BK277.out 0
                  have hfz39_1 := blk_frozen BK277.out 1
                  have hnb40 := NB282_287.out
                  have hnc40 := NB287_282.out
                  have hcz41_0 : wc.cell? ⟨gb282, 0, none⟩ = some (.int .i64 t279) := (blk_cell BK282.out 0).trans rfl
                  have hcz41_1 : wc.cell? ⟨gb282, 1, none⟩ = some (.int .i64 t280) := (blk_cell BK282.out 1).trans rfl
                  have hfz41_0 := blk_frozen BK282.out 0
                  have hfz41_1 := blk_frozen BK282.out 1
                  go_wp2
                  go_ret
                  exact ⟨by first | rfl | (simp [errW_none, errW_some] <;> rfl) | (simp [*, errW_none, errW_some] <;> rfl), by repeat (first | (with_reducible first | exact HB.out | apply below_alloc | apply pw_below_drewN | apply below_drew1 | refine below_set ?_ GE277.out | refine below_set ?_ GE282.out | refine below_set ?_ GE287.out) | exact HB.out)⟩
                · replace c36 := Bool.eq_false_iff.mpr c36
                  subst c36
                  have H1 : (some false) = some r := by rw [if_neg (show ¬ (false = true) by decide)] at H; exact H
                  clear H
                  have H := H1
                  clear H1
                  obtain rfl := Option.some.inj H
                  have hnb42 := NB277_282.out
                  have hnc42 := NB282_277.out
                  have hnb43 := NB277_287.out
                  have hnc43 := NB287_277.out
                  have hcz44_0 : wc.cell? ⟨gb277, 0, none⟩ = some (.int .i64 t274) := (blk_cell BK277.out 0).trans rfl
                  have hcz44_1 : wc.cell? ⟨gb277, 1, none⟩ = some (.int .i64 t275) := (blk_cell BK277.out 1).trans rfl
                  have hfz44_0 := blk_frozen BK277.out 0
                  have hfz44_1 := blk_frozen BK277.out 1
                  have hnb45 := NB282_287.out
                  have hnc45 := NB287_282.out
                  have hcz46_0 : wc.cell? ⟨gb282, 0, none⟩ = some (.int .i64 t279) := (blk_cell BK282.out 0).trans rfl
                  have hcz46_1 : wc.cell? ⟨gb282, 1, none⟩ = some (.int .i64 t280) := (blk_cell BK282.out 1).trans rfl
                  have hfz46_0 := blk_frozen BK282.out 0
                  have hfz46_1 := blk_frozen BK282.out 1
                  go_wp2
                  go_ret
                  exact ⟨by first | rfl | (simp [errW_none, errW_some] <;> rfl) | (simp [*, errW_none, errW_some] <;> rfl), by repeat (first | (with_reducible first | exact HB.out | apply below_alloc | apply pw_below_drewN | apply below_drew1 | refine below_set ?_ GE277.out | refine below_set ?_ GE282.out | refine below_set ?_ GE287.out) | exact HB.out)⟩
              · rw [if_neg c35] at H
                have c35b0 : decide (1125899906842624 < (wrap64 (t274 + t279))) = false := decide_eq_false c35
                clear c35
                by_cases c47 : t272 = true
                · subst c47
                  have H1 : (if t286 = 0 then (if t284 = (wrap64 (t274 + t279)) then (if t285 = t275 then (some (t275 == t280)) else (some false)) else (some false)) else (some false)) = some r := by rw [if_pos rfl] at H; exact H
                  clear H
                  have H := H1
                  clear H1
                  by_cases c48 : t286 = 0
                  · rw [if_pos c48] at H
                    have c48b0 : (t286 == 0) = true := beq_iff_eq.mpr c48
                    have c48b1 : (t286 != 0) = false := bne_eq_false_iff_eq.mpr c48
                    clear c48
                    by_cases c49 : t284 = (wrap64 (t274 + t279))
                    · rw [if_pos c49] at H
                      have c49b0 : (t284 == (wrap64 (t274 + t279))) = true := beq_iff_eq.mpr c49
                      have c49b1 : (t284 != (wrap64 (t274 + t279))) = false := bne_eq_false_iff_eq.mpr c49
                      clear c49
                      by_cases c50 : t285 = t275
                      · rw [if_pos c50] at H
                        have c50b0 : (t285 == t275) = true := beq_iff_eq.mpr c50
                        have c50b1 : (t285 != t275) = false := bne_eq_false_iff_eq.mpr c50
                        clear c50
                        obtain rfl := Option.some.inj H
                        have hnb51 := NB277_282.out
                        have hnc51 := NB282_277.out
                        have hnb52 := NB277_287.out
                        have hnc52 := NB287_277.out
                        have hcz53_0 : wc.cell? ⟨gb277, 0, none⟩ = some (.int .i64 t274) := (blk_cell BK277.out 0).trans rfl
                        have hcz53_1 : wc.cell? ⟨gb277, 1, none⟩ = some (.int .i64 t275) := (blk_cell BK277.out 1).trans rfl
                        have hfz53_0 := blk_frozen BK277.out 0
                        have hfz53_1 := blk_frozen BK277.out 1
                        have hnb54 := NB282_287.out
                        have hnc54 := NB287_282.out
                        have hcz55_0 : wc.cell? ⟨gb282, 0, none⟩ = some (.int .i64 t279) := (blk_cell BK282.out 0).trans rfl
                        have hcz55_1 : wc.cell? ⟨gb282, 1, none⟩ = some (.int .i64 t280) := (blk_cell BK282.out 1).trans rfl
                        have hfz55_0 := blk_frozen BK282.out 0
                        have hfz55_1 := blk_frozen BK282.out 1
                        have hcz56_0 : wc.cell? ⟨gb287, 0, none⟩ = some (.int .i64 t284) := (blk_cell BK287.out 0).trans rfl
                        have hcz56_1 : wc.cell? ⟨gb287, 1, none⟩ = some (.int .i64 t285) := (blk_cell BK287.out 1).trans rfl
                        have hfz56_0 := blk_frozen BK287.out 0
                        have hfz56_1 := blk_frozen BK287.out 1
                        go_wp2
                        go_ret
                        exact ⟨by first | rfl | (simp [errW_none, errW_some] <;> rfl) | (simp [*, errW_none, errW_some] <;> rfl), by repeat (first | (with_reducible first | exact HB.out | apply below_alloc | apply pw_below_drewN | apply below_drew1 | refine below_set ?_ GE277.out | refine below_set ?_ GE282.out | refine below_set ?_ GE287.out) | exact HB.out)⟩
                      · rw [if_neg c50] at H
                        have c50b0 : (t285 == t275) = false := beq_eq_false_iff_ne.mpr c50
                        have c50b1 : (t285 != t275) = true := bne_iff_ne.mpr c50
                        obtain rfl := Option.some.inj H
                        have hnb57 := NB277_282.out
                        have hnc57 := NB282_277.out
                        have hnb58 := NB277_287.out
                        have hnc58 := NB287_277.out
                        have hcz59_0 : wc.cell? ⟨gb277, 0, none⟩ = some (.int .i64 t274) := (blk_cell BK277.out 0).trans rfl
                        have hcz59_1 : wc.cell? ⟨gb277, 1, none⟩ = some (.int .i64 t275) := (blk_cell BK277.out 1).trans rfl
                        have hfz59_0 := blk_frozen BK277.out 0
                        have hfz59_1 := blk_frozen BK277.out 1
                        have hnb60 := NB282_287.out
                        have hnc60 := NB287_282.out
                        have hcz61_0 : wc.cell? ⟨gb282, 0, none⟩ = some (.int .i64 t279) := (blk_cell BK282.out 0).trans rfl
                        have hcz61_1 : wc.cell? ⟨gb282, 1, none⟩ = some (.int .i64 t280) := (blk_cell BK282.out 1).trans rfl
                        have hfz61_0 := blk_frozen BK282.out 0
                        have hfz61_1 := blk_frozen BK282.out 1
                        have hcz62_0 : wc.cell? ⟨gb287, 0, none⟩ = some (.int .i64 t284) := (blk_cell BK287.out 0).trans rfl
                        have hcz62_1 : wc.cell? ⟨gb287, 1, none⟩ = some (.int .i64 t285) := (blk_cell BK287.out 1).trans rfl
                        have hfz62_0 := blk_frozen BK287.out 0
                        have hfz62_1 := blk_frozen BK287.out 1
                        go_wp2
                        go_ret
                        exact ⟨by first | rfl | (simp [errW_none, errW_some] <;> rfl) | (simp [*, errW_none, errW_some] <;> rfl), by repeat (first | (with_reducible first | exact HB.out | apply below_alloc | apply pw_below_drewN | apply below_drew1 | refine below_set ?_ GE277.out | refine below_set ?_ GE282.out | refine below_set ?_ GE287.out) | exact HB.out)⟩
                    · rw [if_neg c49] at H
                      have c49b0 : (t284 == (wrap64 (t274 + t279))) = false := beq_eq_false_iff_ne.mpr c49
                      have c49b1 : (t284 != (wrap64 (t274 + t279))) = true := bne_iff_ne.mpr c49
                      obtain rfl := Option.some.inj H
                      have hnb63 := NB277_282.out
                      have hnc63 := NB282_277.out
                      have hnb64 := NB277_287.out
                      have hnc64 := NB287_277.out
                      have hcz65_0 : wc.cell? ⟨gb277, 0, none⟩ = some (.int .i64 t274) := (blk_cell BK277.out 0).trans rfl
                      have hcz65_1 : wc.cell? ⟨gb277, 1, none⟩ = some (.int .i64 t275) := (blk_cell BK277.out 1).trans rfl
                      have hfz65_0 := blk_frozen BK277.out 0
                      have hfz65_1 := blk_frozen BK277.out 1
                      have hnb66 := NB282_287.out
                      have hnc66 := NB287_282.out
                      have hcz67_0 : wc.cell? ⟨gb282, 0, none⟩ = some (.int .i64 t279) := (blk_cell BK282.out 0).trans rfl
                      have hcz67_1 : wc.cell? ⟨gb282, 1, none⟩ = some (.int .i64 t280) := (blk_cell BK282.out 1).trans rfl
                      have hfz67_0 := blk_frozen BK282.out 0
                      have hfz67_1 := blk_frozen BK282.out 1
                      have hcz68_0 : wc.cell? ⟨gb287, 0, none⟩ = some (.int .i64 t284) := (blk_cell BK287.out 0).trans rfl
                      have hcz68_1 : wc.cell? ⟨gb287, 1, none⟩ = some (.int .i64 t285) := (blk_cell BK287.out 1).trans rfl
                      have hfz68_0 := blk_frozen BK287.out 0
                      have hfz68_1 := blk_frozen BK287.out 1
                      go_wp2
                      go_ret
                      exact ⟨by first | rfl | (simp [errW_none, errW_some] <;> rfl) | (simp [*, errW_none, errW_some] <;> rfl), by repeat (first | (with_reducible first | exact HB.out | apply below_alloc | apply pw_below_drewN | apply below_drew1 | refine below_set ?_ GE277.out | refine below_set ?_ GE282.out | refine below_set ?_ GE287.out) | exact HB.out)⟩
                  · rw [if_neg c48] at H
                    have c48b0 : (t286 == 0) = false := beq_eq_false_iff_ne.mpr c48
                    have c48b1 : (t286 != 0) = true := bne_iff_ne.mpr c48
                    obtain rfl := Option.some.inj H
                    have hnb69 := NB277_282.out
                    have hnc69 := NB282_277.out
                    have hnb70 := NB277_287.out
                    have hnc70 := NB287_277.out
                    have hcz71_0 : wc.cell? ⟨gb277, 0, none⟩ = some (.int .i64 t274) := (blk_cell BK277.out 0).trans rfl
                    have hcz71_1 : wc.cell? ⟨gb277, 1, none⟩ = some (.int .i64 t275) := (blk_cell BK277.out 1).trans rfl
                    have hfz71_0 := blk_frozen BK277.out 0
                    have hfz71_1 := blk_frozen BK277.out 1
                    have hnb72 := NB282_287.out
                    have hnc72 := NB287_282.out
                    have hcz73_0 : wc.cell? ⟨gb282, 0, none⟩ = some (.int .i64 t279) := (blk_cell BK282.out 0).trans rfl
                    have hcz73_1 : wc.cell? ⟨gb282, 1, none⟩ = some (.int .i64 t280) := (blk_cell BK282.out 1).trans rfl
                    have hfz73_0 := blk_frozen BK282.out 0
                    have hfz73_1 := blk_frozen BK282.out 1
                    go_wp2
                    go_ret
                    exact ⟨by first | rfl | (simp [errW_none, errW_some] <;> rfl) | (simp [*, errW_none, errW_some] <;> rfl), by repeat (first | (with_reducible first | exact HB.out | apply below_alloc | apply pw_below_drewN | apply below_drew1 | refine below_set ?_ GE277.out | refine below_set ?_ GE282.out | refine below_set ?_ GE287.out) | exact HB.out)⟩
                · replace c47 := Bool.eq_false_iff.mpr c47
                  subst c47
                  have H1 : (some false) = some r := by rw [if_neg (show ¬ (false = true) by decide)] at H; exact H
                  clear H
                  have H := H1
                  clear H1
                  obtain rfl := Option.some.inj H
                  have hnb74 := NB277_282.out
                  have hnc74 := NB282_277.out
                  have hnb75 := NB277_287.out
                  have hnc75 := NB287_277.out
                  have hcz76_0 : wc.cell? ⟨gb277, 0, none⟩ = some (.int .i64 t274) := (blk_cell BK277.out 0).trans rfl
                  have hcz76_1 : wc.cell? ⟨gb277, 1, none⟩ = some (.int .i64 t275) := (blk_cell BK277.out 1).trans rfl
                  have hfz76_0 := blk_frozen BK277.out 0
                  have hfz76_1 := blk_frozen BK277.out 1
                  have hnb77 := NB282_287.out
                  have hnc77 := NB287_282.out
                  have hcz78_0 : wc.cell? ⟨gb282, 0, none⟩ = some (.int .i64 t279) := (blk_cell BK282.out 0).trans rfl
                  have hcz78_1 : wc.cell? ⟨gb282, 1, none⟩ = some (.int .i64 t280) := (blk_cell BK282.out 1).trans rfl
                  have hfz78_0 := blk_frozen BK282.out 0
                  have hfz78_1 := blk_frozen BK282.out 1
                  go_wp2
                  go_ret
                  exact ⟨by first | rfl | (simp [errW_none, errW_some] <;> rfl) | (simp [*, errW_none, errW_some] <;> rfl), by repeat (first | (with_reducible first | exact HB.out | apply below_alloc | apply pw_below_drewN | apply below_drew1 | refine below_set ?_ GE277.out | refine below_set ?_ GE282.out | refine below_set ?_ GE287.out) | exact HB.out)⟩

/-- THE ONE PURE STATEMENT of bournelaw14_UnitAdds: yours. -/
def bournelaw14_UnitAdds.Pure : Prop := ∀ (a0 : Int) (a1 : Int) (a2 : ByteArray), (Lit.int .i64 a0).wf = true → (Lit.int .i64 a1).wf = true → a2.size ≤ 140737488351232 → ∃ k, bournelaw14_UnitAdds.f k a0 a1 a2 = some true
theorem bournelaw14_UnitAdds.walk (P : bournelaw14_UnitAdds.Pure) (a0 : Int) (a1 : Int) (a2 : ByteArray) (w : World) (hg : Go.Proofs.YtahjkibjcibpgaaDoor.U.UW w) (w0 : (Lit.int .i64 a0).wf = true) (w1 : (Lit.int .i64 a1).wf = true) (w2 : a2.size ≤ 140737488351232) :
    Calls Tryd.prog 7 #[.int .i64 a0, .int .i64 a1, .string a2] w fun e w' => e = .returned (.bool true) ∧ Below w.heap.size w w' := by
  obtain ⟨k, h⟩ := P a0 a1 a2 w0 w1 w2
  refine (bournelaw14_UnitAdds.calls k a0 a1 a2 true w hg h).mono ?_
  rintro e w' ⟨rfl, hd⟩
  exact ⟨rfl, hd⟩

end Go.Proofs.YtahjkibjcibpgaaDoor.PUn
