/- unit.scaled, walked. -/
import Derived.Test.YtahjkibjcibpgaaDoorUnWalkA
import Derived.Test.YtahjkibjcibpgaaDoorUnDiv
import Derived.Deep.CutBlock
import Derived.WalkSmall
import Derived.Deep.DeepCutAuto
namespace Go.Proofs.YtahjkibjcibpgaaDoor.U
open Go.RowKit Go.Shelf Go.Lib

set_option maxHeartbeats 1000000 in
theorem scaled_any (h l b : Nat) (hh : h < 18446744073709551616) (hl : l < 18446744073709551616) (hb : b < 18446744073709551616)
    (hP : (h * 18446744073709551616 + l) * b < 340282366920938463463374607431768211456) (w : World) :
    Calls Tryd.prog 30 #[.int .u64 h, .int .u64 l, .int .u64 b] w fun e w' =>
      e = .returned (.tuple #[.agg #[.int .u64 ((h * 18446744073709551616 + l) * b / 18446744073709551616 : Nat), .int .u64 ((h * 18446744073709551616 + l) * b % 18446744073709551616 : Nat)], .bool false]) ∧ Below w.heap.size w w' := by
  obtain ⟨e1, e2, e3, e4, e5⟩ := scale_parts h l b hl hP
  have m1 := Tryd.bits_Mul64 h b hh hb
  have m2 := Tryd.bits_Mul64 l b hl hb
  rw [e1, e2] at m1
  rw [e3] at m2
  rw [← e4]
  clear e1 e2 e3 e4 hP
  generalize (h * 18446744073709551616 + l) * b % 18446744073709551616 = lo at m2
  have h3 : l * b / 18446744073709551616 < 18446744073709551616 := by omega
  have h4 : h * b < 18446744073709551616 := by omega
  generalize l * b / 18446744073709551616 = ca at m2 e5 h3
  generalize h * b = up at m1 e5 h4
  have ha0 := fun w => add64 up ca 0 h4 h3 (by omega) w
  have q1 : (up + ca + 0) % 18446744073709551616 = up + ca := by omega
  have q2 : (up + ca + 0) / 18446744073709551616 = 0 := by omega
  rw [q1, q2] at ha0
  clear q1 q2 e5 h3 h4
  generalize up + ca = s at ha0
  have ha : ∀ w, (callFunc 29 #[.int .u64 (up : Int), .int .u64 (ca : Int), .int .u64 0]).run Tryd.prog w = .ok (.value (.tuple #[.int .u64 (s : Int), .int .u64 0])) w := ha0
  clear ha0
  go_enter Tryd.func30, Tryd.ntmps30
  go_wp2_with fail
  refine (m1 _).mono ?_
  rintro e w' ⟨rfl, hw1⟩
  rw [hw1]
  go_wp2_with fail
  refine (m2 _).mono ?_
  rintro e w2 ⟨rfl, hw2⟩
  rw [hw2]
  go_wp2
  refine bodyPost_ret (v := .tuple #[.agg #[.int .u64 (s : Int), .int .u64 (lo : Int)], .bool false]) (by simp [results, Tryd.results30, go_sem]) rfl ⟨rfl, ?_⟩
  exact (Below.refl _ _).alloc (Nat.le_refl _) _


set_option maxHeartbeats 4000000 in
set_option maxRecDepth 100000 in
theorem div_core (h l y s Y y1 y0 u u1 u0 lo q r Q1 a1 a2 a3 R1 p r2 Q0 b1 b2 b3 R0 rem : Nat) (hh : 0 < h) (hhy : h < y) (hs : s ≤ 63)
    (hz : ∀ w, Calls Tryd.prog 42 #[.int .u64 (y : Int)] w fun e w' => e = .returned (.int .i64 (s : Int)) ∧ w' = w)
    (hy1 : 1 ≤ y1) (hy1m : y1 < 4294967296) (hu1 : u1 < 4294967296) (hu0 : u0 < 4294967296)
    (e1 : IntKind.u64.wrap ((y : Int) * 2 ^ s) = (Y : Int)) (e2 : (Y : Int) / 4294967296 = (y1 : Int)) (e3 : bits .and .u64 (Y : Int) 4294967295 = (y0 : Int))
    (e4 : bits .or .u64 (IntKind.u64.wrap ((h : Int) * 2 ^ s)) ((l : Int) / 2 ^ (64 - s)) = (u : Int))
    (e5 : IntKind.u64.wrap ((l : Int) * 2 ^ s) = (lo : Int)) (e6 : (lo : Int) / 4294967296 = (u1 : Int)) (e7 : bits .and .u64 (lo : Int) 4294967295 = (u0 : Int))
    (e8 : (u : Int) / (y1 : Int) = (q : Int)) (e9 : IntKind.u64.wrap ((q : Int) * (y1 : Int)) = (q : Int) * (y1 : Int)) (e10 : (u : Int) - (q : Int) * (y1 : Int) = (r : Int))
    (hq : q ≤ 4294967297) (hr : r < 4294967296) (hqr : Hid (q * y1 + r = u)) (hQq : Q1 ≤ q) (hQ : Q1 < 4294967296) (D1 : Hid (Digit u y1 y0 u1 Q1))
    (f1 : IntKind.u64.wrap ((u : Int) * 4294967296) = (a1 : Int)) (f2 : IntKind.u64.wrap ((a1 : Int) + (u1 : Int)) = (a2 : Int)) (f3 : IntKind.u64.wrap ((Q1 : Int) * (Y : Int)) = (a3 : Int)) (f4 : IntKind.u64.wrap ((a2 : Int) - (a3 : Int)) = (R1 : Int))
    (f8 : (R1 : Int) / (y1 : Int) = (p : Int)) (f9 : IntKind.u64.wrap ((p : Int) * (y1 : Int)) = (p : Int) * (y1 : Int)) (f10 : (R1 : Int) - (p : Int) * (y1 : Int) = (r2 : Int))
    (hq2 : p ≤ 4294967297) (hr2 : r2 < 4294967296) (hqr2 : Hid (p * y1 + r2 = R1)) (hQq2 : Q0 ≤ p) (hQ0 : Q0 < 4294967296) (D2 : Hid (Digit R1 y1 y0 u0 Q0))
    (f11 : IntKind.u64.wrap ((R1 : Int) * 4294967296) = (b1 : Int)) (f12 : IntKind.u64.wrap ((b1 : Int) + (u0 : Int)) = (b2 : Int)) (f13 : IntKind.u64.wrap ((Q0 : Int) * (Y : Int)) = (b3 : Int)) (f14 : IntKind.u64.wrap ((b2 : Int) - (b3 : Int)) = (R0 : Int))
    (f15 : (R0 : Int) / 2 ^ s = (rem : Int))
    (hm : ∀ q : Nat, q < 4294967296 → IntKind.u64.wrap ((q : Int) * (y0 : Int)) = (q : Int) * (y0 : Int))
    (w : World) :
    Calls Tryd.prog 31 #[.int .u64 h, .int .u64 l, .int .u64 y] w fun e w' =>
      e = .returned (.tuple #[.int .u64 ((Q1 : Int) * 4294967296 + (Q0 : Int)), .int .u64 (rem : Int)]) ∧ Below w.heap.size w w' := by
  have h1 : ((y : Int) == 0) = false := beq_eq_false_iff_ne.2 (by omega)
  have h2 : decide ((y : Int) ≤ (h : Int)) = false := decide_eq_false (by omega)
  have h3 : ((h : Int) == 0) = false := beq_eq_false_iff_ne.2 (by omega)
  have HM := Lib.hid hm
  clear hm
  go_enter Tryd.func31, Tryd.ntmps31
  go_wp2_with fail
  refine (hz _).mono ?_
  rintro e w' ⟨rfl, hw1⟩
  rw [hw1]
  go_upto_block 0 with fail
  clear e1 e2 e3 e4 e5 e6 e7 e8 e9 e10
  go_cut [15] (fun a wx => a = .int .u64 Q1 ∧ wx = w)
  case first =>
    go_wp2_with fail
    go_loop [15, 16] (fun a b => ∃ q r : Nat, a = .int .u64 q ∧ b = .int .u64 r ∧ Hid (q * y1 + r = u) ∧ Q1 ≤ q ∧ q ≤ 4294967297 ∧ r < 4294967296) (fun a _ => (Go.RowKit.intOf a).toNat)
    case atStart => exact ⟨q, r, rfl, rfl, hqr, hQq, hq, hr⟩
    case round =>
      clear hqr hQq hq hr
      obtain ⟨q, r, rfl, rfl, hqr, hQq, hq, hr⟩ := hrel
      obtain ⟨F1, F2, F3, F4⟩ := D1.out q r hqr.out
      by_cases hA : 4294967296 ≤ q
      · have hA1 : decide ((4294967296 : Int) ≤ (q : Int)) = true := decide_eq_true (by omega)
        have hlt := F1 hA
        clear F1 F2 F3 F4
        have hb := Lib.hid (Digit.back hqr.out (by omega))
        by_cases hB : 4294967296 ≤ r + y1
        · have hq1 : (q : Int) - 1 = (Q1 : Int) := by
            have := (D1.out _ _ hb.out).2.2.2 (by omega) hB
            omega
          have hB1 : decide ((4294967296 : Int) ≤ (r : Int) + (y1 : Int)) = true := decide_eq_true (by omega)
          clear hb hqr
          go_wp2_with fail
          go_meet
          exact ⟨rfl, rfl⟩
        · have hB1 : decide ((4294967296 : Int) ≤ (r : Int) + (y1 : Int)) = false := decide_eq_false (by omega)
          go_wp2_with fail
          go_round
          case rel => exact ⟨q - 1, r + y1, by go_num, by go_num, hb, by omega, by omega, by omega⟩
          case measure => simp [Go.RowKit.intOf]; omega
      · have hA1 : decide ((4294967296 : Int) ≤ (q : Int)) = false := decide_eq_false (by omega)
        have hw := HM.out q (by omega)
        by_cases hC : 4294967296 * r + u1 < q * y0
        · have hC0 : (4294967296 : Int) * (r : Int) + (u1 : Int) < (q : Int) * (y0 : Int) := by
            have : ((4294967296 * r + u1 : Nat) : Int) < ((q * y0 : Nat) : Int) := by exact_mod_cast hC
            simpa using this
          have hC1 := decide_eq_true hC0
          have hlt := F2 (by omega) hC
          clear F1 F2 F3 F4 hC hC0
          have hb := Lib.hid (Digit.back hqr.out (by omega))
          by_cases hB : 4294967296 ≤ r + y1
          · have hq1 : (q : Int) - 1 = (Q1 : Int) := by
              have := (D1.out _ _ hb.out).2.2.2 (by omega) hB
              omega
            have hB1 : decide ((4294967296 : Int) ≤ (r : Int) + (y1 : Int)) = true := decide_eq_true (by omega)
            clear hb hqr
            go_wp2_with fail
            go_meet
            exact ⟨rfl, rfl⟩
          · have hB1 : decide ((4294967296 : Int) ≤ (r : Int) + (y1 : Int)) = false := decide_eq_false (by omega)
            go_wp2_with fail
            go_round
            case rel => exact ⟨q - 1, r + y1, by go_num, by go_num, hb, by omega, by omega, by omega⟩
            case measure => simp [Go.RowKit.intOf]; omega
        · have hC0 : ¬ (4294967296 : Int) * (r : Int) + (u1 : Int) < (q : Int) * (y0 : Int) := by
            intro h
            apply hC
            have : ((4294967296 * r + u1 : Nat) : Int) < ((q * y0 : Nat) : Int) := by simpa using h
            exact_mod_cast this
          have hC1 := decide_eq_false hC0
          obtain rfl : Q1 = q := by
            have := F3 (by omega) (by omega)
            omega
          clear F1 F2 F3 F4 hC hC0
          go_wp2_with fail
          go_meet
          exact ⟨rfl, rfl⟩
  case rest =>
    obtain ⟨rfl, rfl⟩ := hcut
    clear hqr hQq hq hr D1
    go_upto_block 2 with fail
    clear f1 f2 f3 f4 f8 f9 f10
    go_cut [18] (fun a wx => a = .int .u64 Q0 ∧ wx = wc)
    case first =>
      go_wp2_with fail
      go_loop [18, 16] (fun a b => ∃ q r : Nat, a = .int .u64 q ∧ b = .int .u64 r ∧ Hid (q * y1 + r = R1) ∧ Q0 ≤ q ∧ q ≤ 4294967297 ∧ r < 4294967296) (fun a _ => (Go.RowKit.intOf a).toNat)
      case atStart => exact ⟨p, r2, rfl, rfl, hqr2, hQq2, hq2, hr2⟩
      case round =>
        clear hqr2 hQq2 hq2 hr2
        obtain ⟨q, r, rfl, rfl, hqr, hQq, hq, hr⟩ := hrel
        obtain ⟨F1, F2, F3, F4⟩ := D2.out q r hqr.out
        by_cases hA : 4294967296 ≤ q
        · have hA1 : decide ((4294967296 : Int) ≤ (q : Int)) = true := decide_eq_true (by omega)
          have hlt := F1 hA
          clear F1 F2 F3 F4
          have hb := Lib.hid (Digit.back hqr.out (by omega))
          by_cases hB : 4294967296 ≤ r + y1
          · have hq1 : (q : Int) - 1 = (Q0 : Int) := by
              have := (D2.out _ _ hb.out).2.2.2 (by omega) hB
              omega
            have hB1 : decide ((4294967296 : Int) ≤ (r : Int) + (y1 : Int)) = true := decide_eq_true (by omega)
            clear hb hqr
            go_wp2_with fail
            go_meet
            exact ⟨rfl, rfl⟩
          · have hB1 : decide ((4294967296 : Int) ≤ (r : Int) + (y1 : Int)) = false := decide_eq_false (by omega)
            go_wp2_with fail
            go_round
            case rel => exact ⟨q - 1, r + y1, by go_num, by go_num, hb, by omega, by omega, by omega⟩
            case measure => simp [Go.RowKit.intOf]; omega
        · have hA1 : decide ((4294967296 : Int) ≤ (q : Int)) = false := decide_eq_false (by omega)
          have hw := HM.out q (by omega)
          by_cases hC : 4294967296 * r + u0 < q * y0
          · have hC0 : (4294967296 : Int) * (r : Int) + (u0 : Int) < (q : Int) * (y0 : Int) := by
              have : ((4294967296 * r + u0 : Nat) : Int) < ((q * y0 : Nat) : Int) := by exact_mod_cast hC
              simpa using this
            have hC1 := decide_eq_true hC0
            have hlt := F2 (by omega) hC
            clear F1 F2 F3 F4 hC hC0
            have hb := Lib.hid (Digit.back hqr.out (by omega))
            by_cases hB : 4294967296 ≤ r + y1
            · have hq1 : (q : Int) - 1 = (Q0 : Int) := by
                have := (D2.out _ _ hb.out).2.2.2 (by omega) hB
                omega
              have hB1 : decide ((4294967296 : Int) ≤ (r : Int) + (y1 : Int)) = true := decide_eq_true (by omega)
              clear hb hqr
              go_wp2_with fail
              go_meet
              exact ⟨rfl, rfl⟩
            · have hB1 : decide ((4294967296 : Int) ≤ (r : Int) + (y1 : Int)) = false := decide_eq_false (by omega)
              go_wp2_with fail
              go_round
              case rel => exact ⟨q - 1, r + y1, by go_num, by go_num, hb, by omega, by omega, by omega⟩
              case measure => simp [Go.RowKit.intOf]; omega
          · have hC0 : ¬ (4294967296 : Int) * (r : Int) + (u0 : Int) < (q : Int) * (y0 : Int) := by
              intro h
              apply hC
              have : ((4294967296 * r + u0 : Nat) : Int) < ((q * y0 : Nat) : Int) := by simpa using h
              exact_mod_cast this
            have hC1 := decide_eq_false hC0
            obtain rfl : Q0 = q := by
              have := F3 (by omega) (by omega)
              omega
            clear F1 F2 F3 F4 hC hC0
            go_wp2_with fail
            go_meet
            exact ⟨rfl, rfl⟩
    case rest =>
      obtain ⟨rfl, hcw⟩ := hcut
      clear hqr2 hQq2 hq2 hr2 D2
      rw [hcw]
      go_wp2_with fail
      go_ret2
      exact ⟨rfl, Below.refl _ _⟩

theorem div_low (l y : Nat) (hy0 : 0 < y) (hl : l < 18446744073709551616) (hy : y < 18446744073709551616) (w : World) :
    Calls Tryd.prog 31 #[.int .u64 0, .int .u64 l, .int .u64 y] w fun e w' =>
      e = .returned (.tuple #[.int .u64 ((l : Int) / (y : Int)), .int .u64 ((l : Int) % (y : Int))]) ∧ Below w.heap.size w w' := by
  have h1 : ((y : Int) == 0) = false := beq_eq_false_iff_ne.2 (by omega)
  have h2 : decide ((y : Int) ≤ 0) = false := decide_eq_false (by omega)
  have h3 : IntKind.u64.wrap ((l : Int) / (y : Int)) = (l : Int) / (y : Int) := by
    have e : (l : Int) / (y : Int) = ((l / y : Nat) : Int) := (Int.natCast_ediv l y).symm
    have b : l / y < 18446744073709551616 := Nat.lt_of_le_of_lt (Nat.div_le_self _ _) hl
    rw [e, IntKind.wrap_u64]
    exact Int.emod_eq_of_lt (Int.natCast_nonneg _) (Int.ofNat_lt.2 b)
  go_enter Tryd.func31, Tryd.ntmps31
  go_wp2_with fail
  go_quiet (fail)
  go_wp2
  go_ret2
  exact ⟨rfl, below_drewN (Below.refl _ _) _⟩

theorem wrapN (a : Nat) (ha : a < 18446744073709551616) : IntKind.u64.wrap (a : Int) = (a : Int) := by rw [IntKind.wrap_u64]; omega
theorem wrapM (a : Nat) : IntKind.u64.wrap (a : Int) = ((a % 18446744073709551616 : Nat) : Int) := by rw [IntKind.wrap_u64]; omega

/-- a - b, taken modulo 2^64, where a = b + r -/
theorem wrap_back (D X r : Nat) (h : D = X + r) (hr : r < 18446744073709551616) : IntKind.u64.wrap (((D % 18446744073709551616 : Nat) : Int) - ((X % 18446744073709551616 : Nat) : Int)) = (r : Int) := by
  rw [IntKind.wrap_u64]; omega
theorem wrap_two (a c : Nat) : (a % 18446744073709551616 + c) % 18446744073709551616 = (a + c) % 18446744073709551616 := by omega

/-- the numerator's upper part and its digits are told -/
theorem div_mid (h l y s N Y u lo u1 u0 y1 y0 : Nat) (hh : 0 < h) (hhy : h < y) (hs : s ≤ 63)
    (hz : ∀ w, Calls Tryd.prog 42 #[.int .u64 (y : Int)] w fun e w' => e = .returned (.int .i64 (s : Int)) ∧ w' = w)
    (hY : Y = y * 2 ^ s) (hY2 : Y < 18446744073709551616) (eY : Y = y1 * 4294967296 + y0) (hy1 : 2147483648 ≤ y1) (hy1m : y1 < 4294967296) (hy0 : y0 < 4294967296) (hu1 : u1 < 4294967296) (hu0 : u0 < 4294967296) (hu : u < Y)
    (hU : N * 2 ^ s = (u * 4294967296 + u1) * 4294967296 + u0)
    (e1 : IntKind.u64.wrap ((y : Int) * 2 ^ s) = (Y : Int)) (e2 : (Y : Int) / 4294967296 = (y1 : Int)) (e3 : bits .and .u64 (Y : Int) 4294967295 = (y0 : Int))
    (e4 : bits .or .u64 (IntKind.u64.wrap ((h : Int) * 2 ^ s)) ((l : Int) / 2 ^ (64 - s)) = (u : Int))
    (e5 : IntKind.u64.wrap ((l : Int) * 2 ^ s) = (lo : Int)) (e6 : (lo : Int) / 4294967296 = (u1 : Int)) (e7 : bits .and .u64 (lo : Int) 4294967295 = (u0 : Int)) (w : World) :
    Calls Tryd.prog 31 #[.int .u64 h, .int .u64 l, .int .u64 y] w fun e w' =>
      e = .returned (.tuple #[.int .u64 (N / y : Nat), .int .u64 (N % y : Nat)]) ∧ Below w.heap.size w w' := by
  have hd : 0 < 2 ^ s := Nat.two_pow_pos _
  obtain ⟨D1, Q1l, Q1q, q1l, q1e⟩ := digit_of u y1 y0 u1 hy0 hy1 (by rw [← eY]; exact hu) hu1
  have x1 := Nat.div_add_mod' (u * 4294967296 + u1) (y1 * 4294967296 + y0)
  have x1l := Nat.mod_lt (u * 4294967296 + u1) (show 0 < y1 * 4294967296 + y0 by omega)
  obtain ⟨Q1, hQ1⟩ : ∃ Q, Q = (u * 4294967296 + u1) / (y1 * 4294967296 + y0) := ⟨_, rfl⟩
  obtain ⟨R1, hR1⟩ : ∃ R, R = (u * 4294967296 + u1) % (y1 * 4294967296 + y0) := ⟨_, rfl⟩
  rw [← hQ1] at D1 Q1l Q1q x1
  rw [← hR1] at x1 x1l
  obtain ⟨D2, Q0l, Q0q, q0l, q0e⟩ := digit_of R1 y1 y0 u0 hy0 hy1 x1l hu0
  have x0 := Nat.div_add_mod' (R1 * 4294967296 + u0) (y1 * 4294967296 + y0)
  have x0l := Nat.mod_lt (R1 * 4294967296 + u0) (show 0 < y1 * 4294967296 + y0 by omega)
  obtain ⟨Q0, hQ0⟩ : ∃ Q, Q = (R1 * 4294967296 + u0) / (y1 * 4294967296 + y0) := ⟨_, rfl⟩
  obtain ⟨R0, hR0⟩ : ∃ R, R = (R1 * 4294967296 + u0) % (y1 * 4294967296 + y0) := ⟨_, rfl⟩
  rw [← hQ0] at D2 Q0l Q0q x0
  rw [← hR0] at x0 x0l
  rw [← eY] at x1 x1l x0 x0l
  obtain ⟨j1, j2⟩ := join N y (2 ^ s) Q0 Q1 R1 R0 u u1 u0 hd hU (by rw [← hY]; exact x1.symm) (by rw [← hY]; exact x0.symm) (by rw [← hY]; exact x0l)
  clear hQ1 hR1 hQ0 hR0 hU hY
  have m1 : u % y1 < y1 := Nat.mod_lt _ (by omega)
  have m0 : R1 % y1 < y1 := Nat.mod_lt _ (by omega)
  obtain ⟨q, hq⟩ : ∃ q, q = u / y1 := ⟨_, rfl⟩
  obtain ⟨r, hr⟩ : ∃ r, r = u % y1 := ⟨_, rfl⟩
  obtain ⟨p, hp⟩ : ∃ q, q = R1 / y1 := ⟨_, rfl⟩
  obtain ⟨r2, hr2⟩ : ∃ r, r = R1 % y1 := ⟨_, rfl⟩
  have i1 : (u : Int) / (y1 : Int) = (q : Int) := by rw [hq]; exact (Int.natCast_ediv u y1).symm
  have i0 : (R1 : Int) / (y1 : Int) = (p : Int) := by rw [hp]; exact (Int.natCast_ediv R1 y1).symm
  rw [← hq] at Q1q q1l q1e
  rw [← hr] at q1e m1
  rw [← hp] at Q0q q0l q0e
  rw [← hr2] at q0e m0
  clear hq hr hp hr2
  have c1 : ((q * y1 : Nat) : Int) = (q : Int) * (y1 : Int) := Int.natCast_mul q y1
  have c0 : ((p * y1 : Nat) : Int) = (p : Int) * (y1 : Int) := Int.natCast_mul p y1
  have cQ1 : ((Q1 * Y : Nat) : Int) = (Q1 : Int) * (Y : Int) := Int.natCast_mul Q1 Y
  have cQ0 : ((Q0 * Y : Nat) : Int) = (Q0 : Int) * (Y : Int) := Int.natCast_mul Q0 Y
  have w1 := wrapN (q * y1) (by omega)
  have w0 := wrapN (p * y1) (by omega)
  rw [c1] at w1
  rw [c0] at w0
  have v1 := wrapM (u * 4294967296)
  have v2 := wrapM (u * 4294967296 % 18446744073709551616 + u1)
  have v3 := wrapM (Q1 * Y)
  have v4 := wrap_back (u * 4294967296 + u1) (Q1 * Y) R1 x1.symm (by omega)
  have v5 := wrapM (R1 * 4294967296)
  have v6 := wrapM (R1 * 4294967296 % 18446744073709551616 + u0)
  have v7 := wrapM (Q0 * Y)
  have v8 := wrap_back (R1 * 4294967296 + u0) (Q0 * Y) R0 x0.symm (by omega)
  rw [wrap_two, Int.natCast_add] at v2 v6
  rw [Int.natCast_mul] at v1 v5
  rw [cQ1] at v3
  rw [cQ0] at v7
  have k1 : (u : Int) - (q : Int) * (y1 : Int) = (r : Int) := by rw [← c1]; omega
  have k0 : (R1 : Int) - (p : Int) * (y1 : Int) = (r2 : Int) := by rw [← c0]; omega
  have z : (R0 : Int) / 2 ^ s = ((R0 / 2 ^ s : Nat) : Int) := by push_cast; rfl
  have hm : ∀ q : Nat, q < 4294967296 → IntKind.u64.wrap ((q : Int) * (y0 : Int)) = (q : Int) * (y0 : Int) := fun q hq => by
    have := wrapN (q * y0) (mul_small q y0 hq hy0)
    rw [Int.natCast_mul] at this
    exact this
  have hc := div_core h l y s Y y1 y0 u u1 u0 lo q r Q1 (u * 4294967296 % 18446744073709551616) ((u * 4294967296 + u1) % 18446744073709551616) (Q1 * Y % 18446744073709551616) R1 p r2 Q0
    (R1 * 4294967296 % 18446744073709551616) ((R1 * 4294967296 + u0) % 18446744073709551616) (Q0 * Y % 18446744073709551616) R0 (R0 / 2 ^ s) hh hhy hs hz (by omega) hy1m hu1 hu0 e1 e2 e3 e4 e5 e6 e7
    i1 w1 k1 q1l (by omega) (Lib.hid q1e) Q1q Q1l (Lib.hid D1) v1 v2 v3 v4 i0 w0 k0 q0l (by omega) (Lib.hid q0e) Q0q Q0l (Lib.hid D2) v5 v6 v7 v8 z hm w
  rw [← j1, ← j2]
  have e : ((Q1 * 4294967296 + Q0 : Nat) : Int) = (Q1 : Int) * 4294967296 + (Q0 : Int) := by rw [Int.natCast_add, Int.natCast_mul]; rfl
  rw [e]
  exact hc

/-- math/bits.Div64 -/
theorem div_any (h l y : Nat) (hhy : h < y) (hl : l < 18446744073709551616) (hy : y < 18446744073709551616) (w : World) :
    Calls Tryd.prog 31 #[.int .u64 h, .int .u64 l, .int .u64 y] w fun e w' =>
      e = .returned (.tuple #[.int .u64 ((h * 18446744073709551616 + l) / y : Nat), .int .u64 ((h * 18446744073709551616 + l) % y : Nat)]) ∧ Below w.heap.size w w' := by
  by_cases h0 : h = 0
  · subst h0
    have e1 : (((0 * 18446744073709551616 + l) / y : Nat) : Int) = (l : Int) / (y : Int) := by rw [Nat.zero_mul, Nat.zero_add]; exact Int.natCast_ediv l y
    have e2 : (((0 * 18446744073709551616 + l) % y : Nat) : Int) = (l : Int) % (y : Int) := by rw [Nat.zero_mul, Nat.zero_add]; exact Int.natCast_emod l y
    rw [e1, e2]
    exact div_low l y (by omega) hl hy w
  · obtain ⟨s, hs, hs2, hY1, hY2⟩ := norm y (by omega) hy
    obtain ⟨g1, g2, g3, g4, g5⟩ := upper h l y s hhy hl hs hY2
    have hz : ∀ w, Calls Tryd.prog 42 #[.int .u64 (y : Int)] w fun e w' => e = .returned (.int .i64 (s : Int)) ∧ w' = w := by
      intro w
      have := Tryd.bits_LeadingZeros64 (y : Int) w (by omega) (by omega)
      rw [Int.toNat_natCast, hs2] at this
      exact this
    have hU := two_digits 4294967296 ((h * 18446744073709551616 + l) * 2 ^ s)
    rw [show 4294967296 * 4294967296 = 18446744073709551616 from rfl] at hU
    obtain ⟨U, hUd⟩ : ∃ U, U = (h * 18446744073709551616 + l) * 2 ^ s := ⟨_, rfl⟩
    rw [← hUd] at hU g3 g4 g5
    obtain ⟨u, hu⟩ : ∃ u, u = U / 18446744073709551616 := ⟨_, rfl⟩
    obtain ⟨lo, hlo⟩ : ∃ u, u = U % 18446744073709551616 := ⟨_, rfl⟩
    have hlo2 : lo < 18446744073709551616 := by rw [hlo]; exact Nat.mod_lt _ (by omega)
    rw [← hu] at hU g3 g5
    rw [← hlo] at hU g4
    obtain ⟨Y, hY⟩ : ∃ Y, Y = y * 2 ^ s := ⟨_, rfl⟩
    have hYy : (y : Int) * 2 ^ s = ((y * 2 ^ s : Nat) : Int) := by push_cast; rfl
    have hHh : (h : Int) * 2 ^ s = ((h * 2 ^ s : Nat) : Int) := by push_cast; rfl
    have hLl : (l : Int) * 2 ^ s = ((l * 2 ^ s : Nat) : Int) := by push_cast; rfl
    have hLd : (l : Int) / 2 ^ (64 - s) = ((l / 2 ^ (64 - s) : Nat) : Int) := by push_cast; rfl
    have hl1 : l / 2 ^ (64 - s) < 18446744073709551616 := Nat.lt_of_le_of_lt (Nat.div_le_self _ _) hl
    have e1 : IntKind.u64.wrap ((y : Int) * 2 ^ s) = (Y : Int) := by rw [hYy, wrapN _ hY2, hY]
    have e4 : bits .or .u64 (IntKind.u64.wrap ((h : Int) * 2 ^ s)) ((l : Int) / 2 ^ (64 - s)) = (u : Int) := by
      rw [hHh, hLd, wrapN _ g1, bits_or_u64_nat _ _ g1 hl1, g3]
    have e5 : IntKind.u64.wrap ((l : Int) * 2 ^ s) = (lo : Int) := by
      rw [hLl, wrapM, g4]
    rw [← hY] at hY1 hY2 g5
    have hmask : Y &&& 4294967295 = Y % 4294967296 := Nat.and_two_pow_sub_one_eq_mod Y 32
    have lmask : lo &&& 4294967295 = lo % 4294967296 := Nat.and_two_pow_sub_one_eq_mod lo 32
    have e3 : bits .and .u64 (Y : Int) 4294967295 = ((Y % 4294967296 : Nat) : Int) := by
      have := bits_and_u64_nat Y 4294967295 hY2 (by omega)
      rw [hmask] at this
      exact this
    have e7 : bits .and .u64 (lo : Int) 4294967295 = ((lo % 4294967296 : Nat) : Int) := by
      have := bits_and_u64_nat lo 4294967295 hlo2 (by omega)
      rw [lmask] at this
      exact this
    rw [hUd] at hU
    exact div_mid h l y s (h * 18446744073709551616 + l) Y u lo (lo / 4294967296) (lo % 4294967296) (Y / 4294967296) (Y % 4294967296) (by omega) hhy hs hz hY hY2 (Nat.div_add_mod' Y 4294967296).symm
      (by omega) (by omega) (by omega) (by omega) (by omega) g5 hU e1 (by omega) e3 e4 e5 (by omega) e7 w
end Go.Proofs.YtahjkibjcibpgaaDoor.U
