/- What this claim's texts prove on the way, joined by program (wip/tools/merge.py), without what no text of the claim names. -/
import Derived.Test.YtahjkibjcibpgaaGreatDoorMU3
section
namespace Go.Proofs.YtahjkibjcibpgaaGreatDoor.L
open Go.RowKit Go.Shelf Go.Lib Go.Proofs.YtahjkibjcibpgaaGreatDoor.U
open Go.Proofs.YtahjkibjcibpgaaGreatDoorW Go.Proofs.YtahjkibjcibpgaaGreatDoorW.PrintWords Go.Proofs.YtahjkibjcibpgaaGreatDoorW.PrintLast
attribute [local go_sem] Oper.semAt_some
set_option maxRecDepth 100000 in
set_option maxHeartbeats 1000000 in
theorem write_no (k : Nat) (a0 : Int) (a1 : ByteArray) (a2 a3 a4 : Int) (l : List PTr.S26) (A : Option Addr) (c : Nat) (w : World) (hg : UW w) (hr : Kd.C PTr.k26 w A l.length l) (hc : l.length ≤ c)
    (hT : PTr.tree_Right.f k a0 a1 a2 a3 a4 l = some false) :
    Calls Tryz.prog 10 #[.agg #[.int .i64 a0, .string a1, .int .i64 a2, .int .i64 a3, .int .i64 a4, .slice A l.length c]] w fun e w' => e = .returned (.string ⟨#[]⟩) ∧ Below w.heap.size w w' := by
  have HG := Lib.hid hg
  have HR := Lib.hid hr
  have HC := Lib.hid hc
  have HT := Lib.hid hT
  clear hg hr hc hT
  go_enter Tryz.func10, Tryz.ntmps10
  go_wp2_with (first
    | (go_at_call 11; go_loud (refine (PTr.tree_Right.calls k a0 a1 a2 a3 a4 A c l false _ (HG.out.step (below_alloc (Below.refl _ _) _)) (Kd.C_alloc HR.out _) HC.out HT.out).mono ?_; rintro e w1 ⟨rfl, hb⟩; have HB := Lib.hid (below_step (below_alloc (Below.refl _ _) _) hb); clear hb)))
  go_ret
  exact ⟨rfl, HB.out⟩
def L1 (k : Nat) (l : List PTr.S26) (T : List UInt8) (w : World) (b i kq : Nat) (W : World) : Prop :=
  ∃ txt u, declsW k (l.drop i) = some u ∧ txt ++ u = T ∧ i ≤ l.length ∧ l.length ≤ i + kq ∧ BW w b txt [] W
def L2 (k : Nat) (ws y : List PTr.S26) (R T : List UInt8) (w : World) (b g : Nat) (cs : Array Value) (j kq : Nat) (W : World) : Prop :=
  ∃ txt x1, wordsW k (ws.drop j) = some (x1, y) ∧ txt ++ (x1 ++ R) = T ∧ j ≤ ws.length ∧ ws.length ≤ j + kq ∧ BW w b txt [(g, cs)] W
def L3 (k : Nat) (ps : List PTr.S26) (R T : List UInt8) (w : World) (b m kq : Nat) (W : World) : Prop :=
  ∃ txt u, propsW k (ps.drop m) = some u ∧ txt ++ (u ++ R) = T ∧ m ≤ ps.length ∧ ps.length ≤ m + kq ∧ BW w b txt [] W
def L4 (k : Nat) (vs : List PTr.S26) (R T : List UInt8) (w : World) (b m kq : Nat) (W : World) : Prop :=
  ∃ txt u, strsW k (vs.drop m) = some u ∧ txt ++ (u ++ R) = T ∧ m ≤ vs.length ∧ vs.length ≤ m + kq ∧ BW w b txt [] W
theorem fits {a : List UInt8} {s : ByteArray} {c T : List UInt8} (h : a ++ (s.data.toList ++ c) = T) (hl : T.length ≤ 140737488355328) : a.length + s.size ≤ 140737488355328 := by
  have := congrArg List.length h
  simp only [List.length_append] at this
  have h2 : s.data.toList.length = s.size := Array.length_toList
  omega
abbrev nodeC (d : PTr.S26) (A : Option Addr) (c : Nat) : Array Value := #[.int .i64 d.f0, .string d.f1, .int .i64 d.f2.f0, .int .i64 d.f2.f1, .int .i64 d.f3, .slice A d.f4.length c]
theorem at_node {w W : World} {A : Option Addr} {xs : List PTr.S26} (h : Kd.C PTr.k26 w A xs.length xs) (hb : Below w.heap.size w W) (i : Nat) (h1 : i < xs.length) : ∃ ad A5 c5, A = some ad ∧ W.cell? (ad.add (i * 6)) = some (.int .i64 (PTr.rd_T26 xs i).f0) ∧ W.cell? ⟨(ad.add (i * 6)).block, (ad.add (i * 6)).off + 1, none⟩ = some (.string (PTr.rd_T26 xs i).f1) ∧
    W.cell? ⟨(ad.add (i * 6)).block, (ad.add (i * 6)).off + 2, none⟩ = some (.int .i64 (PTr.rd_T26 xs i).f2.f0) ∧ W.cell? ⟨(ad.add (i * 6)).block, (ad.add (i * 6)).off + 3, none⟩ = some (.int .i64 (PTr.rd_T26 xs i).f2.f1) ∧ W.cell? ⟨(ad.add (i * 6)).block, (ad.add (i * 6)).off + 4, none⟩ = some (.int .i64 (PTr.rd_T26 xs i).f3) ∧
    W.cell? ⟨(ad.add (i * 6)).block, (ad.add (i * 6)).off + 5, none⟩ = some (.slice A5 (PTr.rd_T26 xs i).f4.length c5) ∧ (PTr.rd_T26 xs i).f4.length ≤ c5 ∧ PTr.k26.C w A5 (PTr.rd_T26 xs i).f4.length (PTr.rd_T26 xs i).f4 := by
  have := PTr.at_T26 h (i : Int) (by omega) (by omega)
  rw [Int.toNat_natCast] at this
  obtain ⟨ad, A5, c5, e, p0, p1, p2, p3, p4, p5, q⟩ := this
  exact ⟨ad, A5, c5, e, (hb.cell (World.block_lt_of_cell? w _ p0)).trans p0, (hb.cell (World.block_lt_of_cell? w _ p1)).trans p1, (hb.cell (World.block_lt_of_cell? w _ p2)).trans p2, (hb.cell (World.block_lt_of_cell? w _ p3)).trans p3, (hb.cell (World.block_lt_of_cell? w _ p4)).trans p4, (hb.cell (World.block_lt_of_cell? w _ p5)).trans p5, q⟩
theorem blank_cat (t : ByteArray) : ((⟨#[32]⟩ : ByteArray) ++ t).data.toList = 32 :: t.data.toList := by simp [ByteArray.data_append]
theorem blanks_cat (t : ByteArray) : ((⟨#[32, 32]⟩ : ByteArray) ++ t).data.toList = 32 :: 32 :: t.data.toList := by simp [ByteArray.data_append]
set_option maxRecDepth 100000 in
set_option maxHeartbeats 4000000 in
theorem write_yes (k : Nat) (a0 : Int) (a1 : ByteArray) (a2 a3 a4 : Int) (l : List PTr.S26) (A : Option Addr) (c : Nat) (w : World) (hg : UW w) (hr : Kd.C PTr.k26 w A l.length l) (hc : l.length ≤ c)
    (hT : PTr.tree_Right.f k a0 a1 a2 a3 a4 l = some true) (T : List UInt8) (hD : declsW k l = some T) (hl : T.length ≤ 140737488355328) :
    Calls Tryz.prog 10 #[.agg #[.int .i64 a0, .string a1, .int .i64 a2, .int .i64 a3, .int .i64 a4, .slice A l.length c]] w fun e w' => e = .returned (.string ⟨T.toArray⟩) ∧ Below w.heap.size w w' := by
  have HG := Lib.hid hg
  have HR := Lib.hid hr
  have HC := Lib.hid hc
  have HT := Lib.hid hT
  have HD := Lib.hid hD
  have HL := Lib.hid hl
  have hcap := hr.2.1
  have HM := Lib.hid hcap
  clear hg hr hc hT hD hl hcap
  go_enter Tryz.func10, Tryz.ntmps10
  go_wp2_with (first
    | (go_at_call 11; go_loud (refine (PTr.tree_Right.calls k a0 a1 a2 a3 a4 A c l true _ (HG.out.step (below_alloc (Below.refl _ _) _)) (Kd.C_alloc HR.out _) HC.out HT.out).mono ?_; rintro e w1 ⟨rfl, hb⟩; have hn := blk_alloc (blk_below (blk_new w (.cells #[.int .i64 a0, .string a1, .int .i64 a2, .int .i64 a3, .int .i64 a4, .slice A l.length c] 26)) hb) (.cells #[.pointer none, .slice none 0 0] 50); have hB := below_step (below_alloc (Below.refl _ _) _) hb; have HBW := Lib.hid (BW.mk (txt := []) (bl := []) (below_alloc hB (.cells #[.pointer none, .slice none 0 0] 50)) hB.size (.inl ⟨hB.size, .slice none 0 0, blk_new w1 _, World.ownsRowF_nil _ _ _ _, fun e => by simp [Value.ownBlock] at e⟩) (fun x hx => by simp at hx)); have n5 := blk_cell hn 5; simp at n5; clear hb hB hn)))
  generalize w1.heap.size = b at *
  go_loopg [17] l.length (fun kq s17 W => ∃ i : Nat, s17 = .int .i64 (i : Int) ∧ Hid (L1 k l T w b i kq W))
  case atStart => exact ⟨0, rfl, Lib.hid ⟨[], T, HD.out, rfl, Nat.zero_le _, by omega, HBW.out⟩⟩
  case round =>
    clear HBW n5
    obtain ⟨i, rfl, HW⟩ := hrel
    obtain ⟨txt, u, hu, htx, hil, hms, hS⟩ := HW.out
    clear HW
    have SS := Lib.hid hS
    clear hS
    rcases Nat.lt_or_ge i l.length with hlt | hge
    · rw [drop_cons hlt] at hu
      generalize hd : PTr.rd_T26 l (i : Int) = d at hu
      obtain ⟨t1, ht1, hv⟩ := Option.bind_eq_some_iff.1 hu
      obtain ⟨u1, hu1, hw⟩ := Option.bind_eq_some_iff.1 hv
      have he1 := Option.some.inj hw
      obtain ⟨⟨x1, y⟩, hx2, hv2⟩ := Option.bind_eq_some_iff.1 ht1
      obtain ⟨u2, hu2, hw2⟩ := Option.bind_eq_some_iff.1 hv2
      have he2 := Option.some.inj hw2
      have c1 : (i : Int) < (l.length : Int) := by omega
      have c0 : (0 : Int) ≤ (i : Int) := by omega
      obtain ⟨ad, A5, c5, e1, p0, p1, p2, p3, p4, p5, hl5, hi5⟩ := at_node HR.out SS.out.bw i hlt
      subst e1
      rw [hd] at p0 p1 p2 p3 p4 p5 hl5 hi5
      have CD := Lib.hid hi5
      have LD := Lib.hid hl5
      have HU1 := Lib.hid hu1
      have HU2 := Lib.hid hu2
      have HX2 := Lib.hid hx2
      have SB := Lib.hid (SS.out.alloc (nodeC d A5 c5))
      obtain ⟨R2, hR2⟩ : ∃ R2, R2 = [32, 123, 10] ++ (u2 ++ ([125, 10] ++ u1)) := ⟨_, rfl⟩
      have HR2 := Lib.hid hR2
      have HTL : Hid (txt ++ (d.f1.data.toList ++ (x1 ++ R2)) = T) := Lib.hid (by rw [hR2, ← htx, ← he1, ← he2]; simp)
      clear hi5 hl5 hu1 hu2 hx2 hu ht1 htx hv hw hv2 hw2 he1 he2 hR2 hd
      have hib : wrap64 ((i : Int) + 1) = (i : Int) + 1 := by have := HM.out; unfold wrap64; omega
      obtain ⟨q1, hq1⟩ : ∃ q1, gk = q1 + 1 := ⟨gk - 1, by omega⟩
      subst hq1
      go_wp2_with (first
        | (go_at_call 18; go_loud (refine (bld_write w.heap.size b _ d.f1 _ SB.out.bld (by rw [Lib.byteCells_length]; exact fits HTL.out HL.out) SB.out.bw.size).mono ?_; rintro e w2 ⟨rfl, h1, h2, h3⟩; have SC := Lib.hid (SB.out.write h1 h2 h3); clear h1 h2 h3)))
      have hgs := SS.out.bw.size
      generalize hge : wr.heap.size = g at *
      clear p0 p1 p2 p3 p4 p5
      go_loopg [6] d.f4.length (fun kq s6 W => ∃ j : Nat, s6 = .int .i64 (j : Int) ∧ Hid (L2 k d.f4 y R2 T w b g (nodeC d A5 c5) j kq W))
      case atStart => exact ⟨0, rfl, Lib.hid ⟨_, x1, HX2.out, (by rw [List.append_assoc]; exact HTL.out), Nat.zero_le _, by omega, SC.out⟩⟩
      case round =>
        clear SB SC SS HTL HX2 hgs
        obtain ⟨j, rfl, HW2⟩ := hrel
        obtain ⟨tx2, z1, hz, htx2, hjl, hms2, hS2⟩ := HW2.out
        clear HW2
        have S2 := Lib.hid hS2
        have HTX := Lib.hid htx2
        obtain ⟨hgb, _, _⟩ := hS2.blk _ List.mem_cons_self
        have n5 : wr.cell? ⟨g, 5, none⟩ = some (.slice A5 d.f4.length c5) := blk_cell hgb 5
        have n1 : wr.cell? ⟨g, 1, none⟩ = some (.string d.f1) := blk_cell hgb 1
        have j0 : (0 : Int) ≤ (j : Int) := by omega
        have hw2 : j < 9223372036854775807 → wrap64 ((j : Int) + 1) = (j : Int) + 1 := fun h => by unfold wrap64; omega
        clear hS2 htx2 hgb
        rcases Nat.lt_or_ge j d.f4.length with jlt | jge
        · have hgk : 0 < gk := Nat.lt_of_add_lt_add_left (Nat.lt_of_lt_of_le jlt hms2)
          obtain ⟨q, hq⟩ : ∃ q, gk = q + 1 := ⟨gk - 1, (Nat.sub_add_cancel hgk).symm⟩
          clear hgk
          subst hq
          rw [drop_cons jlt] at hz
          have j1 : (j : Int) < (d.f4.length : Int) := by omega
          obtain ⟨ad2, A6, c6, e2, qq0, qq1, qq2, qq3, qq4, qq5, hl6, hi6⟩ := at_node CD.out S2.out.bw j jlt
          generalize hd2 : PTr.rd_T26 d.f4 (j : Int) = v at hz qq0 qq1 qq2 qq3 qq4 qq5 hl6 hi6
          subst e2
          unfold wordsW at hz
          by_cases hk : v.f0 = 2
          · rw [if_pos hk] at hz
            have hz4 := Option.some.inj hz
            injection hz4 with hz5 hz6
            have hyd : y = d.f4.drop j := by rw [drop_cons jlt, hd2]; exact hz6.symm
            have HTX2 : Hid (tx2 ++ ((⟨#[32, 123, 10]⟩ : ByteArray).data.toList ++ (u2 ++ ([125, 10] ++ u1))) = T) := Lib.hid (by rw [← HTX.out, ← hz5, HR2.out]; rfl)
            have k0 : (v.f0 != 2) = false := by simpa using hk
            clear hz hz5 hz6 hw2 hd2 hk
            obtain ⟨v0, v1, ⟨v2, v3⟩, v4, v5⟩ := v
            have jle : (j : Int) ≤ (d.f4.length : Int) := by omega
            have jlc : (d.f4.length : Int) ≤ (c5 : Int) := by have := LD.out; omega
            have hcj : ¬ c5 = j := by have := LD.out; omega
            have hCY := Kd.C_drop CD.out (Nat.le_of_lt jlt) LD.out
            rw [if_neg hcj] at hCY
            have CY := Lib.hid hCY
            clear hCY
            go_wp2_with (first
              | (go_at_call 18; go_loud (refine (bld_write w.heap.size b _ ⟨#[32, 123, 10]⟩ _ S2.out.bld (by rw [Lib.byteCells_length]; exact fits HTX2.out HL.out) S2.out.bw.size).mono ?_; rintro e w2 ⟨rfl, h1, h2, h3⟩; have S5 := Lib.hid (S2.out.write h1 h2 h3); clear h1 h2 h3; obtain ⟨hgb, _, _⟩ := S5.out.blk _ List.mem_cons_self; have n5 : w2.cell? ⟨g, 5, none⟩ = some (.slice (some ad2) d.f4.length c5) := blk_cell hgb 5; clear hgb)))
            have hyl : y.length = d.f4.length - j := by rw [hyd]; simp
            have CY2 : Hid (Kd.C PTr.k26 w (some (ad2.add (j * 6))) y.length y) := Lib.hid (by rw [hyd]; exact CY.out)
            rw [← hyl]
            generalize ad2.add (j * 6) = ad3 at *
            generalize c5 - j = c3 at *
            obtain ⟨R3, hR3⟩ : ∃ R3, R3 = [125, 10] ++ u1 := ⟨_, rfl⟩
            have HR3 := Lib.hid hR3
            have HS3 := Lib.hid (And.intro (show (tx2 ++ [32, 123, 10]) ++ (u2 ++ R3) = T by rw [hR3, List.append_assoc]; exact HTX2.out) S5.out.forget)
            clear S2 S5 HTX HTX2 n5 n1 CY hyl hyd hR3 k0
            go_loopg [54] y.length (fun kq s54 W => ∃ m : Nat, s54 = .int .i64 (m : Int) ∧ Hid (L3 k y R3 T w b m kq W))
            case atStart => exact ⟨0, rfl, Lib.hid ⟨_, u2, HU2.out, HS3.out.1, Nat.zero_le _, by omega, HS3.out.2⟩⟩
            case round =>
              clear HS3
              obtain ⟨m, rfl, HW3⟩ := hrel
              obtain ⟨tx3, u3, hu3, htx3, hml, hms3, hS3⟩ := HW3.out
              clear HW3
              have S7 := Lib.hid hS3
              have HTX3 := Lib.hid htx3
              clear hS3 htx3
              have m0 : (0 : Int) ≤ (m : Int) := by omega
              rcases Nat.lt_or_ge m y.length with mlt | mge
              · have hgk : 0 < gk := Nat.lt_of_add_lt_add_left (Nat.lt_of_lt_of_le mlt hms3)
                obtain ⟨r1, hr1⟩ : ∃ r1, gk = r1 + 1 := ⟨gk - 1, (Nat.sub_add_cancel hgk).symm⟩
                clear hgk
                subst hr1
                have hmb : wrap64 ((m : Int) + 1) = (m : Int) + 1 := by have := (CY2.out).2.1; unfold wrap64; omega
                have m1 : (m : Int) < (y.length : Int) := Int.ofNat_lt.2 mlt
                rw [drop_cons mlt] at hu3
                obtain ⟨ad4, A7, c7, e4, p0, p1, p2, p3, p4, p5, hl7, hi7⟩ := at_node CY2.out S7.out.bw m mlt
                generalize hp : PTr.rd_T26 y (m : Int) = p at hu3 p0 p1 p2 p3 p4 p5 hl7 hi7
                injection e4 with e4
                subst e4
                obtain ⟨t3, ht3, hu3b⟩ := Option.bind_eq_some_iff.1 hu3
                obtain ⟨u3', hu3', hu3c⟩ := Option.bind_eq_some_iff.1 hu3b
                have hu3d := Option.some.inj hu3c
                obtain ⟨u4, hu4, ht3b⟩ := Option.bind_eq_some_iff.1 ht3
                have ht3c := Option.some.inj ht3b
                obtain ⟨R4, hR4⟩ : ∃ R4, R4 = [59, 10] ++ (u3' ++ R3) := ⟨_, rfl⟩
                have HR4 := Lib.hid hR4
                have HTX4 : Hid (tx3 ++ (((⟨#[32, 32]⟩ : ByteArray) ++ p.f1).data.toList ++ (u4 ++ R4)) = T) := Lib.hid (by rw [blanks_cat, hR4, ← HTX3.out, ← hu3d, ← ht3c]; simp)
                have hsz := fits HTX4.out HL.out
                have hsz2 : ((⟨#[32, 32]⟩ : ByteArray) ++ p.f1).size = 2 + p.f1.size := by rw [ByteArray.size_append]; rfl
                have z2s : (9223372036854775807 < 2 + p.f1.size) = False := eq_false (by omega)
                have HU4 := Lib.hid hu4
                have HU3 := Lib.hid hu3'
                have C7 := Lib.hid hi7
                have L7 := Lib.hid hl7
                have SB7 := Lib.hid (S7.out.alloc (nodeC p A7 c7))
                clear hu3 ht3 hu3b hu3' hu3c hu3d hu4 ht3b ht3c hR4 hsz hsz2 hi7 hl7 hp
                go_wp2_with (first
                  | (go_at_call 18; go_loud (refine (bld_write w.heap.size b _ ((⟨#[32, 32]⟩ : ByteArray) ++ p.f1) _ SB7.out.bld (by rw [Lib.byteCells_length]; exact fits HTX4.out HL.out) SB7.out.bw.size).mono ?_; rintro e w2 ⟨rfl, h1, h2, h3⟩; have S8 := Lib.hid (SB7.out.write h1 h2 h3); clear h1 h2 h3; obtain ⟨hgb, _, _⟩ := S8.out.blk _ List.mem_cons_self; have b5 : w2.cell? ⟨wr.heap.size, 5, none⟩ = some (.slice A7 p.f4.length c7) := blk_cell hgb 5; clear hgb)))
                have HS4 := Lib.hid (And.intro (show (tx3 ++ ((⟨#[32, 32]⟩ : ByteArray) ++ p.f1).data.toList) ++ (u4 ++ R4) = T by rw [List.append_assoc]; exact HTX4.out) S8.out.forget)
                clear S7 SB7 S8 HTX3 HTX4 p0 p1 p2 p3 p4 p5 z2s b5
                go_loopg [65] p.f4.length (fun kq s65 W => ∃ n : Nat, s65 = .int .i64 (n : Int) ∧ Hid (L4 k p.f4 R4 T w b n kq W))
                case atStart => exact ⟨0, rfl, Lib.hid ⟨_, u4, HU4.out, HS4.out.1, Nat.zero_le _, by omega, HS4.out.2⟩⟩
                case round =>
                  clear HS4
                  obtain ⟨n, rfl, HW4⟩ := hrel
                  obtain ⟨tx4, u5, hu5, htx4, hnl, hms4, hS4⟩ := HW4.out
                  clear HW4
                  have S9 := Lib.hid hS4
                  have HTX5 := Lib.hid htx4
                  clear hS4 htx4
                  have n0 : (0 : Int) ≤ (n : Int) := by omega
                  rcases Nat.lt_or_ge n p.f4.length with nlt | nge
                  · have hgk : 0 < gk := Nat.lt_of_add_lt_add_left (Nat.lt_of_lt_of_le nlt hms4)
                    obtain ⟨r2, hr2⟩ : ∃ r2, gk = r2 + 1 := ⟨gk - 1, (Nat.sub_add_cancel hgk).symm⟩
                    clear hgk
                    subst hr2
                    have hnb : wrap64 ((n : Int) + 1) = (n : Int) + 1 := by have := (C7.out).2.1; unfold wrap64; omega
                    have n1 : (n : Int) < (p.f4.length : Int) := Int.ofNat_lt.2 nlt
                    rw [drop_cons nlt] at hu5
                    obtain ⟨ad5, A8, c8, e5, p0, p1, p2, p3, p4, p5, hl8, hi8⟩ := at_node C7.out S9.out.bw n nlt
                    generalize hx : PTr.rd_T26 p.f4 (n : Int) = x at hu5 p0 p1 p2 p3 p4 p5 hl8 hi8
                    subst e5
                    obtain ⟨t, ht, hu5b⟩ := Option.bind_eq_some_iff.1 hu5
                    obtain ⟨u5', hu5', hu5c⟩ := Option.bind_eq_some_iff.1 hu5b
                    have hu5d := Option.some.inj hu5c
                    have HTX6 : Hid (tx4 ++ (((⟨#[32]⟩ : ByteArray) ++ t).data.toList ++ (u5' ++ R4)) = T) := Lib.hid (by rw [blank_cat, ← HTX5.out, ← hu5d]; simp)
                    have hsz := fits HTX6.out HL.out
                    have hsz2 : ((⟨#[32]⟩ : ByteArray) ++ t).size = 1 + t.size := by rw [ByteArray.size_append]; rfl
                    have z1s : (9223372036854775807 < 1 + t.size) = False := eq_false (by omega)
                    have HV := Lib.hid ht
                    have HX5 := Lib.hid hu5'
                    have C8 := Lib.hid hi8
                    have L8 := Lib.hid hl8
                    have SB9 := Lib.hid (S9.out.alloc (nodeC x A8 c8))
                    clear hu5 ht hu5b hu5' hu5c hu5d hsz hsz2 hi8 hl8 hx
                    obtain ⟨x0, x1', ⟨x2, x3⟩, x4, x5⟩ := x
                    go_wp2_with (first
                      | (go_at_call 18; go_loud (refine (bld_write w.heap.size b _ ((⟨#[32]⟩ : ByteArray) ++ t) _ SC9.out.bld (by rw [Lib.byteCells_length]; exact fits HTX6.out HL.out) SC9.out.bw.size).mono ?_; rintro e w2 ⟨rfl, h1, h2, h3⟩; have SD9 := Lib.hid (SC9.out.write h1 h2 h3); clear h1 h2 h3))
                      | (go_at_call 19; go_loud (refine (PTr.tree_write.calls k x0 x1' x2 x3 x4 A8 c8 x5 t _ (HG.out.step SB9.out.bw) (Kd.C_below C8.out SB9.out.bw) L8.out HV.out).mono ?_; rintro e w3 ⟨rfl, hb⟩; have SC9 := Lib.hid (SB9.out.below hb); clear hb)))
                    go_roundg r2
                    case rel => exact ⟨n + 1, by simp [hnb], Lib.hid ⟨_, u5', HX5.out, (by rw [List.append_assoc]; exact HTX6.out), nlt, (by rw [Nat.add_assoc, Nat.add_comm 1 r2]; exact hms4), SD9.out.forget⟩⟩
                    case measure => exact Nat.lt_succ_self _
                  · rw [List.drop_eq_nil_of_le nge] at hu5
                    have hu50 := (Option.some.inj hu5).symm
                    have nn : ¬ (n : Int) < (p.f4.length : Int) := by omega
                    have HTX6 : Hid (tx4 ++ ((⟨#[59, 10]⟩ : ByteArray).data.toList ++ (u3' ++ R3)) = T) := Lib.hid (by rw [← HTX5.out, hu50, HR4.out]; rfl)
                    clear hu5 hu50
                    go_wp2_with (first
                      | (go_at_call 18; go_loud (refine (bld_write w.heap.size b _ ⟨#[59, 10]⟩ _ S9.out.bld (by rw [Lib.byteCells_length]; exact fits HTX6.out HL.out) S9.out.bw.size).mono ?_; rintro e w2 ⟨rfl, h1, h2, h3⟩; have SE9 := Lib.hid (S9.out.write h1 h2 h3); clear h1 h2 h3)))
                    go_roundg r1
                    case rel => exact ⟨m + 1, by simp [hmb], Lib.hid ⟨_, u3', HU3.out, (by rw [List.append_assoc]; exact HTX6.out), mlt, (by rw [Nat.add_assoc, Nat.add_comm 1 r1]; exact hms3), SE9.out⟩⟩
                    case measure => exact Nat.lt_succ_self _
              · rw [List.drop_eq_nil_of_le mge] at hu3
                have hu30 := (Option.some.inj hu3).symm
                have mn : ¬ (m : Int) < (y.length : Int) := by omega
                have HTX6 : Hid (tx3 ++ ((⟨#[125, 10]⟩ : ByteArray).data.toList ++ u1) = T) := Lib.hid (by rw [← HTX3.out, hu30, HR3.out]; rfl)
                clear hu3 hu30
                go_wp2_with (first
                  | (go_at_call 18; go_loud (refine (bld_write w.heap.size b _ ⟨#[125, 10]⟩ _ S7.out.bld (by rw [Lib.byteCells_length]; exact fits HTX6.out HL.out) S7.out.bw.size).mono ?_; rintro e w2 ⟨rfl, h1, h2, h3⟩; have SF9 := Lib.hid (S7.out.write h1 h2 h3); clear h1 h2 h3)))
                go_roundg q1
                case rel => exact ⟨i + 1, by simp [hib], Lib.hid ⟨_, u1, HU1.out, (by rw [List.append_assoc]; exact HTX6.out), hlt, by omega, SF9.out⟩⟩
                case measure => exact Nat.lt_succ_self _
          · rw [if_neg hk] at hz
            have k0 : (v.f0 != 2) = true := by simpa using hk
            obtain ⟨t, ht, hz2⟩ := Option.bind_eq_some_iff.1 hz
            obtain ⟨⟨x1', y'⟩, hx', hz3⟩ := Option.bind_eq_some_iff.1 hz2
            have hz4 := Option.some.inj hz3
            injection hz4 with hz5 hz6
            subst hz6
            have HTX2 : Hid (tx2 ++ (((⟨#[32]⟩ : ByteArray) ++ t).data.toList ++ (x1' ++ R2)) = T) := Lib.hid (by rw [blank_cat, ← HTX.out, ← hz5]; simp)
            have hsz := fits HTX2.out HL.out
            have hsz2 : ((⟨#[32]⟩ : ByteArray) ++ t).size = 1 + t.size := by rw [ByteArray.size_append]; rfl
            have z1s : (9223372036854775807 < 1 + t.size) = False := eq_false (by omega)
            have HV := Lib.hid ht
            have HX3 := Lib.hid hx'
            have C6 := Lib.hid hi6
            have L6 := Lib.hid hl6
            have hjb := hw2 (by have := (CD.out).2.1; omega)
            clear hz hz2 hz3 hz5 ht hx' hi6 hl6 hsz hsz2 hw2 hd2
            obtain ⟨v0, v1, ⟨v2, v3⟩, v4, v5⟩ := v
            go_wp2_with (first
              | (go_at_call 18; go_loud (refine (bld_write w.heap.size b _ ((⟨#[32]⟩ : ByteArray) ++ t) _ S3.out.bld (by rw [Lib.byteCells_length]; exact fits HTX2.out HL.out) S3.out.bw.size).mono ?_; rintro e w2 ⟨rfl, h1, h2, h3⟩; have S4 := Lib.hid (S3.out.write h1 h2 h3); clear h1 h2 h3))
              | (go_at_call 19; go_loud (refine (PTr.tree_write.calls k v0 v1 v2 v3 v4 A6 c6 v5 t _ (HG.out.step S2.out.bw) (Kd.C_below C6.out S2.out.bw) L6.out HV.out).mono ?_; rintro e w3 ⟨rfl, hb⟩; have S3 := Lib.hid (S2.out.below hb); clear hb)))
            go_roundg q
            case rel => exact ⟨j + 1, by simp [hjb], Lib.hid ⟨_, x1', HX3.out, by rw [List.append_assoc]; exact HTX2.out, jlt, (by rw [Nat.add_assoc, Nat.add_comm 1 q]; exact hms2), S4.out⟩⟩
            case measure => omega
        · rw [List.drop_eq_nil_of_le jge] at hz
          have hz4 := Option.some.inj hz
          injection hz4 with hz5 hz6
          have hj : j = d.f4.length := by omega
          have hyd : y = d.f4.drop j := by rw [← hz6, List.drop_eq_nil_of_le jge]
          have HTX2 : Hid (tx2 ++ ((⟨#[32, 123, 10]⟩ : ByteArray).data.toList ++ (u2 ++ ([125, 10] ++ u1))) = T) := Lib.hid (by rw [← HTX.out, ← hz5, HR2.out]; rfl)
          have jn : ¬ (j : Int) < (d.f4.length : Int) := by omega
          clear hz hz5 hz6 hw2
          have jle : (j : Int) ≤ (d.f4.length : Int) := by omega
          have jlc : (d.f4.length : Int) ≤ (c5 : Int) := by have := LD.out; omega
          have hy0 : y = [] := by rw [hyd, List.drop_eq_nil_of_le jge]
          have hu0 : u2 = [] := by have := HU2.out; rw [hy0] at this; exact (Option.some.inj this).symm
          have HTE : Hid ((tx2 ++ [32, 123, 10]) ++ ((⟨#[125, 10]⟩ : ByteArray).data.toList ++ u1) = T) := Lib.hid (by rw [← HTX2.out, hu0, List.append_assoc]; rfl)
          by_cases hcc : c5 = d.f4.length
          all_goals
            go_wp2_with (first
              | (go_at_call 18; go_loud (refine (bld_write w.heap.size b _ ⟨#[32, 123, 10]⟩ _ S2.out.bld (by rw [Lib.byteCells_length]; exact fits HTX2.out HL.out) S2.out.bw.size).mono ?_; rintro e w2 ⟨rfl, h1, h2, h3⟩; have S5 := Lib.hid (S2.out.write h1 h2 h3); clear h1 h2 h3; obtain ⟨hgb, _, _⟩ := S5.out.blk _ List.mem_cons_self; have n5 : w2.cell? ⟨g, 5, none⟩ = some (.slice A5 d.f4.length c5) := blk_cell hgb 5; clear hgb)))
            go_loopg [54] 0 (fun kq s54 W => s54 = .int .i64 0 ∧ Hid (BW w b (tx2 ++ [32, 123, 10]) [] W))
            case atStart => exact ⟨rfl, Lib.hid S5.out.forget⟩
            case round =>
              clear S2 S5 HTX HTX2 n5 n1
              obtain ⟨rfl, HB5⟩ := hrel
              go_wp2_with (first
                | (go_at_call 18; go_loud (refine (bld_write w.heap.size b _ ⟨#[125, 10]⟩ _ HB5.out.bld (by rw [Lib.byteCells_length]; exact fits HTE.out HL.out) HB5.out.bw.size).mono ?_; rintro e w2 ⟨rfl, h1, h2, h3⟩; have S6 := Lib.hid (HB5.out.write h1 h2 h3); clear h1 h2 h3)))
              go_roundg q1
              case rel => exact ⟨i + 1, by simp [hib], Lib.hid ⟨_, u1, HU1.out, (by rw [List.append_assoc]; exact HTE.out), hlt, by omega, S6.out⟩⟩
              case measure => omega
    · have hi : i = l.length := by omega
      have hu0 : u = [] := by rw [hi, List.drop_length] at hu; exact (Option.some.inj hu).symm
      rw [hu0, List.append_nil] at htx
      have cn : ¬ (i : Int) < (l.length : Int) := by omega
      have HTX := Lib.hid htx
      clear htx hu hu0 hi
      go_wp2_with (first
        | (go_at_call 20; go_loud (refine (Any.Builder_String_any_k Tryz.lays169 Tryz.Builder_Extra_169 w.heap.size b txt _ SS.out.bld SS.out.bw.size).mono ?_; rintro e w2 ⟨rfl, h1, h2, h3⟩; rw [HTX.out]; have HB2 := Lib.hid (SS.out.bw.trans h2); clear h1 h2 h3)))
      go_ret
      exact ⟨rfl, HB2.out⟩
end Go.Proofs.YtahjkibjcibpgaaGreatDoor.L
end
section
namespace Go.Proofs.YtahjkibjcibpgaaGreatDoor.L
open Go.RowKit Go.Shelf Go.Lib Go.Proofs.YtahjkibjcibpgaaGreatDoor.U
open Go.Proofs.YtahjkibjcibpgaaGreatDoorW Go.Proofs.YtahjkibjcibpgaaGreatDoorW.PrintWords
theorem wv_mono (k : Nat) (v : PTr.S26) {t : ByteArray} (h : wv k v = some t) : wv (k + 1) v = some t := PTr.tree_write.mono _ _ _ _ _ _ k _ h
theorem strsW_mono (k : Nat) : ∀ (l : List PTr.S26) {t : List UInt8}, strsW k l = some t → strsW (k + 1) l = some t
  | [], _, h => h
  | v :: r, t, h => by
    obtain ⟨a, ha, h⟩ := Option.bind_eq_some_iff.1 h
    obtain ⟨b, hb, h⟩ := Option.bind_eq_some_iff.1 h
    show (wv (k + 1) v).bind _ = _
    rw [wv_mono k v ha]
    show (strsW (k + 1) r).bind _ = _
    rw [strsW_mono k r hb]
    exact h
theorem propW_mono (k : Nat) (p : PTr.S26) {t : List UInt8} (h : propW k p = some t) : propW (k + 1) p = some t := by
  obtain ⟨a, ha, h⟩ := Option.bind_eq_some_iff.1 h
  unfold propW
  rw [strsW_mono k _ ha]
  exact h
theorem propsW_mono (k : Nat) : ∀ (l : List PTr.S26) {t : List UInt8}, propsW k l = some t → propsW (k + 1) l = some t
  | [], _, h => h
  | v :: r, t, h => by
    obtain ⟨a, ha, h⟩ := Option.bind_eq_some_iff.1 h
    obtain ⟨b, hb, h⟩ := Option.bind_eq_some_iff.1 h
    show (propW (k + 1) v).bind _ = _
    rw [propW_mono k v ha]
    show (propsW (k + 1) r).bind _ = _
    rw [propsW_mono k r hb]
    exact h
theorem wordsW_mono (k : Nat) : ∀ (l : List PTr.S26) {t : List UInt8 × List PTr.S26}, wordsW k l = some t → wordsW (k + 1) l = some t
  | [], _, h => h
  | v :: r, t, h => by
    unfold wordsW at h ⊢
    by_cases c : v.f0 = 2
    · rw [if_pos c] at h ⊢; exact h
    · rw [if_neg c] at h ⊢
      obtain ⟨a, ha, h⟩ := Option.bind_eq_some_iff.1 h
      obtain ⟨b, hb, h⟩ := Option.bind_eq_some_iff.1 h
      rw [wv_mono k v ha]
      show (wordsW (k + 1) r).bind _ = _
      rw [wordsW_mono k r hb]
      exact h
theorem declW_mono (k : Nat) (p : PTr.S26) {t : List UInt8} (h : declW k p = some t) : declW (k + 1) p = some t := by
  obtain ⟨a, ha, h⟩ := Option.bind_eq_some_iff.1 h
  obtain ⟨b, hb, h⟩ := Option.bind_eq_some_iff.1 h
  unfold declW
  rw [wordsW_mono k _ ha]
  show (propsW (k + 1) a.2).bind _ = _
  rw [propsW_mono k _ hb]
  exact h
theorem declsW_mono (k : Nat) : ∀ (l : List PTr.S26) {t : List UInt8}, declsW k l = some t → declsW (k + 1) l = some t
  | [], _, h => h
  | v :: r, t, h => by
    obtain ⟨a, ha, h⟩ := Option.bind_eq_some_iff.1 h
    obtain ⟨b, hb, h⟩ := Option.bind_eq_some_iff.1 h
    show (declW (k + 1) v).bind _ = _
    rw [declW_mono k v ha]
    show (declsW (k + 1) r).bind _ = _
    rw [declsW_mono k r hb]
    exact h
theorem rootW_mono (k : Nat) (n : PTr.S26) {t : List UInt8} (h : rootW k n = some t) : rootW (k + 1) n = some t := by
  obtain ⟨ok, ha, h⟩ := Option.bind_eq_some_iff.1 h
  unfold rootW
  rw [PTr.tree_Right.mono _ _ _ _ _ _ k _ ha]
  show (if ok = true then _ else _) = _
  cases ok with
  | true => exact declsW_mono k _ h
  | false => exact h
theorem rootW_up (k : Nat) (n : PTr.S26) {t : List UInt8} (h : rootW k n = some t) : ∀ d, rootW (k + d) n = some t
  | 0 => h
  | d + 1 => rootW_mono _ n (rootW_up k n h d)
theorem rootW_det {k k' : Nat} {n : PTr.S26} {t t' : List UInt8} (h : rootW k n = some t) (h' : rootW k' n = some t') : t = t' := by
  have a := rootW_up k n h k'
  have b := rootW_up k' n h' k
  rw [Nat.add_comm] at b
  exact Option.some.inj (a.symm.trans b)
theorem write_any (k : Nat) (n : PTr.S26) (A : Option Addr) (c : Nat) (w : World) (hg : UW w) (hr : Kd.C PTr.k26 w A n.f4.length n.f4) (hc : n.f4.length ≤ c) (T : List UInt8) (h : rootW k n = some T) (hl : T.length ≤ 140737488355328) :
    Calls Tryz.prog 10 #[.agg #[.int .i64 n.f0, .string n.f1, .int .i64 n.f2.f0, .int .i64 n.f2.f1, .int .i64 n.f3, .slice A n.f4.length c]] w fun e w' => e = .returned (.string ⟨T.toArray⟩) ∧ Below w.heap.size w w' := by
  obtain ⟨ok, ha, h⟩ := Option.bind_eq_some_iff.1 h
  cases ok with
  | true => exact write_yes k _ _ _ _ _ _ A c w hg hr hc ha T h hl
  | false =>
    have e := Option.some.inj (show some ([] : List UInt8) = some T from h)
    subst e
    exact write_no k _ _ _ _ _ _ A c w hg hr hc ha
end Go.Proofs.YtahjkibjcibpgaaGreatDoor.L
namespace Go.Proofs.YtahjkibjcibpgaaGreatDoor.Ex
open Go.RowKit Go.Proofs.YtahjkibjcibpgaaGreatDoor.U Go.Proofs.YtahjkibjcibpgaaGreatDoorW.PrintWords
open Classical in
noncomputable def tree_Write.f (a0 : Int) (a1 : ByteArray) (a2 a3 a4 : Int) (l : List PTr.S26) : Option ByteArray :=
  if h : ∃ T : List UInt8, (∃ k, L.rootW k ⟨a0, a1, ⟨a2, a3⟩, a4, l⟩ = some T) ∧ T.length ≤ 140737488355328 then some ⟨h.choose.toArray⟩ else none
theorem tree_Write.f_of {n : PTr.S26} {k : Nat} {T : List UInt8} (h : L.rootW k n = some T) (hl : T.length ≤ 140737488355328) : tree_Write.f n.f0 n.f1 n.f2.f0 n.f2.f1 n.f3 n.f4 = some ⟨T.toArray⟩ := by
  unfold tree_Write.f
  have hx : ∃ T : List UInt8, (∃ k, L.rootW k ⟨n.f0, n.f1, ⟨n.f2.f0, n.f2.f1⟩, n.f3, n.f4⟩ = some T) ∧ T.length ≤ 140737488355328 := ⟨T, ⟨k, h⟩, hl⟩
  rw [dif_pos hx]
  obtain ⟨⟨k', h'⟩, _⟩ := hx.choose_spec
  rw [L.rootW_det h' h]
theorem tree_Write.calls (a0 : Int) (a1 : ByteArray) (a2 a3 a4 : Int) (A : Option Addr) (c : Nat) (l : List PTr.S26) (r : ByteArray) (w : World) (hg : UW w) (hr : Kd.C PTr.k26 w A l.length l) (hc : l.length ≤ c) (h : tree_Write.f a0 a1 a2 a3 a4 l = some r) :
    Calls Tryz.prog 10 #[.agg #[.int .i64 a0, .string a1, .int .i64 a2, .int .i64 a3, .int .i64 a4, .slice A l.length c]] w fun e w' => e = .returned (.string r) ∧ Below w.heap.size w w' := by
  unfold tree_Write.f at h
  by_cases hx : ∃ T : List UInt8, (∃ k, L.rootW k ⟨a0, a1, ⟨a2, a3⟩, a4, l⟩ = some T) ∧ T.length ≤ 140737488355328
  · rw [dif_pos hx] at h
    have e := Option.some.inj h
    subst e
    obtain ⟨⟨k, h'⟩, hl⟩ := hx.choose_spec
    exact L.write_any k (⟨a0, a1, ⟨a2, a3⟩, a4, l⟩ : PTr.S26) A c w hg hr hc _ h' hl
  · rw [dif_neg hx] at h
    cases h
end Go.Proofs.YtahjkibjcibpgaaGreatDoor.Ex
end
section
namespace Go.Proofs.YtahjkibjcibpgaaGreatDoor.L
open Go.RowKit Go.Proofs.YtahjkibjcibpgaaGreatDoor.U Go.Proofs.YtahjkibjcibpgaaGreatDoorW.PrintWords Go.Proofs.YtahjkibjcibpgaaGreatDoor.PTr
end Go.Proofs.YtahjkibjcibpgaaGreatDoor.L
end
section
namespace Go.Proofs.YtahjkibjcibpgaaGreatDoor.L
open Go.Proofs.YtahjkibjcibpgaaGreatDoor.U
abbrev nd (k : Int) (t : List UInt8) (a : Int) (l : List PTr.S26) : PTr.S26 := ⟨k, ⟨t.toArray⟩, ⟨0, 0⟩, a, l⟩
abbrev am (n d a : Int) : PTr.S26 := ⟨5, ⟨#[]⟩, ⟨n, d⟩, a, []⟩
def sm1 : ByteArray := ⟨#[108, 97, 107, 101, 32, 116, 111, 112, 32, 34, 85, 112, 112, 101, 114, 34, 32, 123, 32, 99, 97, 112, 32, 52, 32, 77, 76, 59, 32, 108, 101, 118, 101, 108, 32, 40, 48, 32, 108, 44, 32, 48, 32, 109, 109, 41, 32, 40, 52, 32, 77, 76, 44, 32, 51, 32, 109, 41, 59, 32, 125]⟩
def sm2 : ByteArray := ⟨#[120, 32, 123, 32, 121, 32, 53, 32, 109, 32, 122, 59, 32, 125]⟩
def sm3 : ByteArray := ⟨#[120, 32, 123, 32, 121, 32, 53, 32, 125]⟩
def sm4 : ByteArray := ⟨#[120, 32, 121]⟩
def sm5 : ByteArray := ⟨#[120, 32, 123, 32, 121, 32, 40, 41, 59, 32, 125]⟩
def sm6 : ByteArray := ⟨#[120, 32, 123, 32, 121, 32, 49, 46, 53, 32, 108, 59, 32, 125]⟩
def tr1k : List PTr.S26 := [nd 3 [116, 111, 112] 5 [], nd 4 [85, 112, 112, 101, 114] 9 [], nd 2 [99, 97, 112] 19 [am 4000000 1 23], nd 2 [108, 101, 118, 101, 108] 29 [nd 6 [] 35 [am 0 1 36, am 0 3 41], nd 6 [] 47 [am 4000000 1 48, am 3000 3 54]]]
def tr1 : List PTr.S26 := [nd 1 [108, 97, 107, 101] 0 tr1k]
def tr2p : List PTr.S26 := [am 5000 3 6, nd 3 [122] 10 []]
def tr2k : List PTr.S26 := [nd 2 [121] 4 tr2p]
def tr2 : List PTr.S26 := [nd 1 [120] 0 tr2k]
theorem sm1_ok : Ex.tree_Parse.f sm1 = some (0, ⟨#[]⟩, 0, 0, 0, tr1, 0, 0) := Ex.tree_Parse.f_ok (by kernel_rfl) (RL_of 40 0 [] (.ok (tr1, 25)) (by kernel_rfl))
theorem sm2_ok : Ex.tree_Parse.f sm2 = some (0, ⟨#[]⟩, 0, 0, 0, tr2, 0, 0) := Ex.tree_Parse.f_ok (by kernel_rfl) (RL_of 40 0 [] (.ok (tr2, 8)) (by kernel_rfl))
theorem sm3_no : Ex.tree_Parse.f sm3 = some (0, ⟨#[]⟩, 0, 0, 0, [], 2, 8) := Ex.tree_Parse.f_fault (e := (2, 8)) (by kernel_rfl) (RL_of 40 0 [] _ (by kernel_rfl))
theorem sm4_no : Ex.tree_Parse.f sm4 = some (0, ⟨#[]⟩, 0, 0, 0, [], 2, 3) := Ex.tree_Parse.f_fault (e := (2, 3)) (by kernel_rfl) (RL_of 40 0 [] _ (by kernel_rfl))
theorem sm5_no : Ex.tree_Parse.f sm5 = some (0, ⟨#[]⟩, 0, 0, 0, [], 2, 7) := Ex.tree_Parse.f_fault (e := (2, 7)) (by kernel_rfl) (RL_of 40 0 [] _ (by kernel_rfl))
theorem sm6_no : Ex.tree_Parse.f sm6 = some (0, ⟨#[]⟩, 0, 0, 0, [], 7, 6) := Ex.tree_Parse.f_fault (e := (7, 6)) (by kernel_rfl) (RL_of 40 0 [] _ (by kernel_rfl))
end Go.Proofs.YtahjkibjcibpgaaGreatDoor.L
end
section
namespace Go.Proofs.YtahjkibjcibpgaaGreatDoor.L
open Go.Proofs.YtahjkibjcibpgaaGreatDoor.U
def sm2w : ByteArray := ⟨#[120, 32, 123, 10, 32, 32, 121, 32, 53, 48, 48, 48, 32, 109, 109, 32, 122, 59, 10, 125, 10]⟩
theorem sm1_right : PTr.tree_Right.f 60 0 ⟨#[]⟩ 0 0 0 tr1 = some true := by kernel_rfl
theorem sm2_root : rootW 60 ⟨0, ⟨#[]⟩, ⟨0, 0⟩, 0, tr2⟩ = some sm2w.data.toList := by kernel_rfl
theorem sm2_write : Ex.tree_Write.f 0 ⟨#[]⟩ 0 0 0 tr2 = some sm2w := Ex.tree_Write.f_of (n := ⟨0, ⟨#[]⟩, ⟨0, 0⟩, 0, tr2⟩) sm2_root (by decide)
end Go.Proofs.YtahjkibjcibpgaaGreatDoor.L
end
section
namespace Go.Proofs.YtahjkibjcibpgaaGreatDoor.L
open Go.RowKit Go.Shelf Go.Lib Go.Proofs.YtahjkibjcibpgaaGreatDoor.U
open Go.Proofs.YtahjkibjcibpgaaGreatDoorW Go.Proofs.YtahjkibjcibpgaaGreatDoorW.PrintWords Go.Proofs.YtahjkibjcibpgaaGreatDoorW.PrintLast
attribute [local go_sem] Oper.semAt_some
theorem node_at {W : World} {base n cap g : Nat} {ok : Nat → Prop} {xs : List PTr.S26} (h : PTr.k26.R 26 W base ok (.slice (some ⟨g, 0, none⟩) n cap) xs) (i : Nat) (hi : i < n) :
    ∃ v5, (∀ j u, [.int .i64 (xs.getD i PTr.z26).f0, .string (xs.getD i PTr.z26).f1, .int .i64 (xs.getD i PTr.z26).f2.f0, .int .i64 (xs.getD i PTr.z26).f2.f1, .int .i64 (xs.getD i PTr.z26).f3, v5][j]? = some u → W.cell? ⟨g, i * 6 + j, none⟩ = some u) ∧
      PTr.k26.R 26 W base (fun _ => True) v5 (xs.getD i PTr.z26).f4 := by
  obtain ⟨c, _, hM, hc, _⟩ := Kd.R_elem h PTr.z26 (i : Int) (by omega) (by omega)
  obtain ⟨v5, rfl, hr⟩ := PTr.k26_openM hM
  exact ⟨v5, hc, Kd.R_mono hr (fun _ _ => trivial)⟩
set_option maxRecDepth 100000 in
set_option maxHeartbeats 4000000 in
theorem small_any (w : World) (hg : UW w) : Calls Tryz.prog 8 #[] w fun e w' => e = .returned (.bool true) ∧ Below w.heap.size w w' := by
  have HG := Lib.hid hg
  clear hg
  go_enter Tryz.func8, Tryz.ntmps8
  go_upto_region 2 with (first | (go_at_call 12; go_loud (refine (Ex.tree_Parse.calls sm1 0 ⟨#[]⟩ 0 0 0 tr1 0 0 _ (HG.out.step (Below.refl _ _)) sm1_ok).mono ?_; rintro e w1 ⟨v1, rfl, hR, hb⟩; have B0_1 := Lib.hid (below_step (Below.refl _ _) hb); have R1 := Lib.hid hR; obtain ⟨A1, c1, ev⟩ := Kd.R_slice hR; have ev2 : v1 = .slice A1 1 c1 := ev; clear ev; subst ev2; have BK1 := Lib.hid (blk_new w1 (.cells #[.int .i64 0, .string (⟨#[]⟩ : ByteArray), .int .i64 0, .int .i64 0, .int .i64 0, .slice A1 1 c1] 26)); clear hR hb)))
  go_upto_region 3 with (first | (go_at_call 12; go_loud (refine (Ex.tree_Parse.calls sm2 0 ⟨#[]⟩ 0 0 0 tr2 0 0 _ (HG.out.step (below_alloc B0_1.out _)) sm2_ok).mono ?_; rintro e w2 ⟨v2, rfl, hR, hb⟩; have B0_2 := Lib.hid (below_step (below_alloc B0_1.out _) hb); have B1_2 := Lib.hid (below_step (Below.refl _ _) hb); have R2 := Lib.hid hR; obtain ⟨A2, c2, ev⟩ := Kd.R_slice hR; have ev2 : v2 = .slice A2 1 c2 := ev; clear ev; subst ev2; have BK2 := Lib.hid (blk_new w2 (.cells #[.int .i64 0, .string (⟨#[]⟩ : ByteArray), .int .i64 0, .int .i64 0, .int .i64 0, .slice A2 1 c2] 26)); clear hR hb)))
  go_upto_region 4 with (first | (go_at_call 12; go_loud (refine (Ex.tree_Parse.calls sm3 0 ⟨#[]⟩ 0 0 0 [] 2 8 _ (HG.out.step (below_alloc B0_2.out _)) sm3_no).mono ?_; rintro e w3 ⟨v3, rfl, hR, hb⟩; have B0_3 := Lib.hid (below_step (below_alloc B0_2.out _) hb); have B1_3 := Lib.hid (below_step (below_alloc B1_2.out _) hb); have B2_3 := Lib.hid (below_step (Below.refl _ _) hb); have R3 := Lib.hid hR; obtain ⟨A3, c3, ev⟩ := Kd.R_slice hR; have ev2 : v3 = .slice A3 0 c3 := ev; clear ev; subst ev2; have BK3 := Lib.hid (blk_new w3 (.cells #[.int .i64 0, .string (⟨#[]⟩ : ByteArray), .int .i64 0, .int .i64 0, .int .i64 0, .slice A3 0 c3] 26)); clear hR hb)))
  go_upto_region 5 with (first | (go_at_call 12; go_loud (refine (Ex.tree_Parse.calls sm4 0 ⟨#[]⟩ 0 0 0 [] 2 3 _ (HG.out.step (below_alloc B0_3.out _)) sm4_no).mono ?_; rintro e w4 ⟨v4, rfl, hR, hb⟩; have B0_4 := Lib.hid (below_step (below_alloc B0_3.out _) hb); have B1_4 := Lib.hid (below_step (below_alloc B1_3.out _) hb); have B2_4 := Lib.hid (below_step (below_alloc B2_3.out _) hb); have R4 := Lib.hid hR; obtain ⟨A4, c4, ev⟩ := Kd.R_slice hR; have ev2 : v4 = .slice A4 0 c4 := ev; clear ev; subst ev2; have BK4 := Lib.hid (blk_new w4 (.cells #[.int .i64 0, .string (⟨#[]⟩ : ByteArray), .int .i64 0, .int .i64 0, .int .i64 0, .slice A4 0 c4] 26)); clear hR hb)))
  go_upto_region 6 with (first | (go_at_call 12; go_loud (refine (Ex.tree_Parse.calls sm5 0 ⟨#[]⟩ 0 0 0 [] 2 7 _ (HG.out.step (below_alloc B0_4.out _)) sm5_no).mono ?_; rintro e w5 ⟨v5, rfl, hR, hb⟩; have B0_5 := Lib.hid (below_step (below_alloc B0_4.out _) hb); have B1_5 := Lib.hid (below_step (below_alloc B1_4.out _) hb); have B2_5 := Lib.hid (below_step (below_alloc B2_4.out _) hb); have R5 := Lib.hid hR; obtain ⟨A5, c5, ev⟩ := Kd.R_slice hR; have ev2 : v5 = .slice A5 0 c5 := ev; clear ev; subst ev2; have BK5 := Lib.hid (blk_new w5 (.cells #[.int .i64 0, .string (⟨#[]⟩ : ByteArray), .int .i64 0, .int .i64 0, .int .i64 0, .slice A5 0 c5] 26)); clear hR hb)))
  go_upto_region 7 with (first | (go_at_call 12; go_loud (refine (Ex.tree_Parse.calls sm6 0 ⟨#[]⟩ 0 0 0 [] 7 6 _ (HG.out.step (below_alloc B0_5.out _)) sm6_no).mono ?_; rintro e w6 ⟨v6, rfl, hR, hb⟩; have B0_6 := Lib.hid (below_step (below_alloc B0_5.out _) hb); have B1_6 := Lib.hid (below_step (below_alloc B1_5.out _) hb); have B2_6 := Lib.hid (below_step (below_alloc B2_5.out _) hb); have R6 := Lib.hid hR; obtain ⟨A6, c6, ev⟩ := Kd.R_slice hR; have ev2 : v6 = .slice A6 0 c6 := ev; clear ev; subst ev2; have BK6 := Lib.hid (blk_new w6 (.cells #[.int .i64 0, .string (⟨#[]⟩ : ByteArray), .int .i64 0, .int .i64 0, .int .i64 0, .slice A6 0 c6] 26)); clear hR hb)))
  have D1 := below_alloc B1_6.out (.cells #[.int .i64 0, .string (⟨#[]⟩ : ByteArray), .int .i64 0, .int .i64 0, .int .i64 0, .slice A6 0 c6] 26)
  have D2 := below_alloc B2_6.out (.cells #[.int .i64 0, .string (⟨#[]⟩ : ByteArray), .int .i64 0, .int .i64 0, .int .i64 0, .slice A6 0 c6] 26)
  have k1 := blk_alloc (blk_below BK1.out B1_6.out) (.cells #[.int .i64 0, .string (⟨#[]⟩ : ByteArray), .int .i64 0, .int .i64 0, .int .i64 0, .slice A6 0 c6] 26)
  have k2 := blk_alloc (blk_below BK2.out B2_6.out) (.cells #[.int .i64 0, .string (⟨#[]⟩ : ByteArray), .int .i64 0, .int .i64 0, .int .i64 0, .slice A6 0 c6] 26)
  have R1' := Kd.R_below (Kd.R_alloc R1.out (.cells #[.int .i64 0, .string (⟨#[]⟩ : ByteArray), .int .i64 0, .int .i64 0, .int .i64 0, .slice A1 1 c1] 26)) D1
  have R2' := Kd.R_below (Kd.R_alloc R2.out (.cells #[.int .i64 0, .string (⟨#[]⟩ : ByteArray), .int .i64 0, .int .i64 0, .int .i64 0, .slice A2 1 c2] 26)) D2
  have D0 := below_alloc B0_6.out (.cells #[.int .i64 0, .string (⟨#[]⟩ : ByteArray), .int .i64 0, .int .i64 0, .int .i64 0, .slice A6 0 c6] 26)
  clear BK1 BK2 BK3 BK4 BK5 BK6 R1 R2 R3 R4 R5 R6 B0_1 B0_2 B0_3 B0_4 B0_5 B0_6 B1_2 B1_3 B1_4 B1_5 B1_6 B2_3 B2_4 B2_5 B2_6 D1 D2
  generalize w6.alloc (.cells #[.int .i64 0, .string (⟨#[]⟩ : ByteArray), .int .i64 0, .int .i64 0, .int .i64 0, .slice A6 0 c6] 26) = W at *
  obtain ⟨G1, s1, e1, -⟩ := Kd.R_form R1' (by decide)
  obtain ⟨G2, s2, e2, -⟩ := Kd.R_form R2' (by decide)
  have e1' : Value.slice A1 1 c1 = .slice (some ⟨G1, 0, none⟩) 1 s1 := e1
  have e2' : Value.slice A2 1 c2 = .slice (some ⟨G2, 0, none⟩) 1 s2 := e2
  injection e1' with x1 x2 x3
  clear x2
  injection e2' with y1 y2 y3
  clear y2
  subst x1 x3 y1 y3
  clear e1 e2
  -- the first tree: the declaration, its kids, the third one's kid, the fourth one's kids
  obtain ⟨va, ha, ra⟩ := node_at R1' 0 (by decide)
  obtain ⟨Ga, qa, ea, -⟩ := Kd.R_form ra (by decide)
  have ea' : va = .slice (some ⟨Ga, 0, none⟩) 4 qa := ea
  subst ea'
  obtain ⟨vb, hb, rb⟩ := node_at ra 1 (by decide)
  obtain ⟨vc, hc, rc⟩ := node_at ra 2 (by decide)
  obtain ⟨Gc, qc, ec, -⟩ := Kd.R_form rc (by decide)
  have ec' : vc = .slice (some ⟨Gc, 0, none⟩) 1 qc := ec
  subst ec'
  obtain ⟨vd, hd, rd⟩ := node_at ra 3 (by decide)
  obtain ⟨Gd, qd, ed, -⟩ := Kd.R_form rd (by decide)
  have ed' : vd = .slice (some ⟨Gd, 0, none⟩) 2 qd := ed
  subst ed'
  obtain ⟨vm, hm, rm⟩ := node_at rc 0 (by decide)
  obtain ⟨Am, qm, em⟩ := Kd.R_slice rm
  have em' : vm = .slice Am 0 qm := em
  subst em'
  -- the second tree
  obtain ⟨ve, he, re⟩ := node_at R2' 0 (by decide)
  obtain ⟨Ge, qe, ee, -⟩ := Kd.R_form re (by decide)
  have ee' : ve = .slice (some ⟨Ge, 0, none⟩) 1 qe := ee
  subst ee'
  obtain ⟨vf, hf, rf⟩ := node_at re 0 (by decide)
  obtain ⟨Gf, qf, ef, -⟩ := Kd.R_form rf (by decide)
  have ef' : vf = .slice (some ⟨Gf, 0, none⟩) 2 qf := ef
  subst ef'
  obtain ⟨vl, hl, rl⟩ := node_at rf 0 (by decide)
  obtain ⟨Al, ql, el⟩ := Kd.R_slice rl
  have el' : vl = .slice Al 0 ql := el
  subst el'
  obtain ⟨vz, hz, rz⟩ := node_at rf 1 (by decide)
  have p1 : W.cell? ⟨G1, 1, none⟩ = some (.string ⟨#[108, 97, 107, 101]⟩) := ha 1 _ rfl
  have p2 : W.cell? ⟨G1, 5, none⟩ = some (.slice (some ⟨Ga, 0, none⟩) 4 qa) := ha 5 _ rfl
  have p3 : W.cell? ⟨Ga, 7, none⟩ = some (.string ⟨#[85, 112, 112, 101, 114]⟩) := hb 1 _ rfl
  have p4 : W.cell? ⟨Ga, 17, none⟩ = some (.slice (some ⟨Gc, 0, none⟩) 1 qc) := hc 5 _ rfl
  have p5 : W.cell? ⟨Ga, 23, none⟩ = some (.slice (some ⟨Gd, 0, none⟩) 2 qd) := hd 5 _ rfl
  have p6 : W.cell? ⟨Gc, 0, none⟩ = some (.int .i64 5) := hm 0 _ rfl
  have p7 : W.cell? ⟨Gc, 1, none⟩ = some (.string ⟨#[]⟩) := hm 1 _ rfl
  have p8 : W.cell? ⟨Gc, 2, none⟩ = some (.int .i64 4000000) := hm 2 _ rfl
  have p9 : W.cell? ⟨Gc, 3, none⟩ = some (.int .i64 1) := hm 3 _ rfl
  have p10 : W.cell? ⟨Gc, 4, none⟩ = some (.int .i64 23) := hm 4 _ rfl
  have p11 : W.cell? ⟨Gc, 5, none⟩ = some (.slice Am 0 qm) := hm 5 _ rfl
  have q1 : W.cell? ⟨G2, 5, none⟩ = some (.slice (some ⟨Ge, 0, none⟩) 1 qe) := he 5 _ rfl
  have q2 : W.cell? ⟨Ge, 5, none⟩ = some (.slice (some ⟨Gf, 0, none⟩) 2 qf) := hf 5 _ rfl
  have q3 : W.cell? ⟨Gf, 0, none⟩ = some (.int .i64 5) := hl 0 _ rfl
  have q4 : W.cell? ⟨Gf, 1, none⟩ = some (.string ⟨#[]⟩) := hl 1 _ rfl
  have q5 : W.cell? ⟨Gf, 2, none⟩ = some (.int .i64 5000) := hl 2 _ rfl
  have q6 : W.cell? ⟨Gf, 3, none⟩ = some (.int .i64 3) := hl 3 _ rfl
  have q7 : W.cell? ⟨Gf, 4, none⟩ = some (.int .i64 6) := hl 4 _ rfl
  have q8 : W.cell? ⟨Gf, 5, none⟩ = some (.slice Al 0 ql) := hl 5 _ rfl
  have q9 : W.cell? ⟨Gf, 7, none⟩ = some (.string ⟨#[122]⟩) := hz 1 _ rfl
  have b10 : W.cell? ⟨w1.heap.size, 0, none⟩ = some (.int .i64 0) := blk_cell k1 0
  have b11 : W.cell? ⟨w1.heap.size, 1, none⟩ = some (.string ⟨#[]⟩) := blk_cell k1 1
  have b12 : W.cell? ⟨w1.heap.size, 2, none⟩ = some (.int .i64 0) := blk_cell k1 2
  have b13 : W.cell? ⟨w1.heap.size, 3, none⟩ = some (.int .i64 0) := blk_cell k1 3
  have b14 : W.cell? ⟨w1.heap.size, 4, none⟩ = some (.int .i64 0) := blk_cell k1 4
  have b15 : W.cell? ⟨w1.heap.size, 5, none⟩ = some (.slice (some ⟨G1, 0, none⟩) 1 c1) := blk_cell k1 5
  have b20 : W.cell? ⟨w2.heap.size, 0, none⟩ = some (.int .i64 0) := blk_cell k2 0
  have b21 : W.cell? ⟨w2.heap.size, 1, none⟩ = some (.string ⟨#[]⟩) := blk_cell k2 1
  have b22 : W.cell? ⟨w2.heap.size, 2, none⟩ = some (.int .i64 0) := blk_cell k2 2
  have b23 : W.cell? ⟨w2.heap.size, 3, none⟩ = some (.int .i64 0) := blk_cell k2 3
  have b24 : W.cell? ⟨w2.heap.size, 4, none⟩ = some (.int .i64 0) := blk_cell k2 4
  have b25 : W.cell? ⟨w2.heap.size, 5, none⟩ = some (.slice (some ⟨G2, 0, none⟩) 1 c2) := blk_cell k2 5
  clear ha hb hc hd hm he hf hl hz ra rb rc rd rm re rf rl rz
  have K1 := Lib.hid k1
  have K2 := Lib.hid k2
  have RR1 := Lib.hid R1'
  have RR2 := Lib.hid R2'
  have DD := Lib.hid D0
  clear k1 k2 R1' R2' D0
  go_upto_region 9 with (fail)
  go_upto_region 11 with (fail)
  go_upto_region 12 with (fail)
  have DA := below_alloc (Below.refl W.heap.size W) (.cells #[.int .i64 5, .string ⟨#[]⟩, .int .i64 4000000, .int .i64 1, .int .i64 23, .slice Am 0 qm] 26)
  have kA := blk_new W (.cells #[.int .i64 5, .string ⟨#[]⟩, .int .i64 4000000, .int .i64 1, .int .i64 23, .slice Am 0 qm] 26)
  replace p1 := pw_cell_below DA p1
  replace p2 := pw_cell_below DA p2
  replace p3 := pw_cell_below DA p3
  replace q1 := pw_cell_below DA q1
  replace q2 := pw_cell_below DA q2
  replace q9 := pw_cell_below DA q9
  replace q3 := pw_cell_below DA q3
  replace q4 := pw_cell_below DA q4
  replace q5 := pw_cell_below DA q5
  replace q6 := pw_cell_below DA q6
  replace q7 := pw_cell_below DA q7
  replace q8 := pw_cell_below DA q8
  replace b10 := pw_cell_below DA b10
  replace b11 := pw_cell_below DA b11
  replace b12 := pw_cell_below DA b12
  replace b13 := pw_cell_below DA b13
  replace b14 := pw_cell_below DA b14
  replace b15 := pw_cell_below DA b15
  replace b20 := pw_cell_below DA b20
  replace b21 := pw_cell_below DA b21
  replace b22 := pw_cell_below DA b22
  replace b23 := pw_cell_below DA b23
  replace b24 := pw_cell_below DA b24
  replace b25 := pw_cell_below DA b25
  have RR3 := Lib.hid (Kd.R_below RR1.out DA)
  have RR4 := Lib.hid (Kd.R_below RR2.out DA)
  have DD2 := Lib.hid (below_step DD.out DA)
  clear RR1 RR2 DD K1 K2 p4 p5 p6 p7 p8 p9 p10 p11
  have DA2 := Lib.hid DA
  clear DA
  generalize W.alloc (.cells #[.int .i64 5, .string ⟨#[]⟩, .int .i64 4000000, .int .i64 1, .int .i64 23, .slice Am 0 qm] 26) = X at *
  have m2 : X.cell? ⟨W.heap.size, 2, none⟩ = some (.int .i64 4000000) := blk_cell kA 2
  have m3 : X.cell? ⟨W.heap.size, 3, none⟩ = some (.int .i64 1) := blk_cell kA 3
  clear kA
  go_upto_region 13 with (fail)
  have DB := below_alloc (Below.refl X.heap.size X) (.cells #[.int .i64 5, .string ⟨#[]⟩, .int .i64 5000, .int .i64 3, .int .i64 6, .slice Al 0 ql] 26)
  have kB := blk_new X (.cells #[.int .i64 5, .string ⟨#[]⟩, .int .i64 5000, .int .i64 3, .int .i64 6, .slice Al 0 ql] 26)
  replace p1 := pw_cell_below DB p1
  replace p2 := pw_cell_below DB p2
  replace p3 := pw_cell_below DB p3
  replace q1 := pw_cell_below DB q1
  replace q2 := pw_cell_below DB q2
  replace q9 := pw_cell_below DB q9
  replace b10 := pw_cell_below DB b10
  replace b11 := pw_cell_below DB b11
  replace b12 := pw_cell_below DB b12
  replace b13 := pw_cell_below DB b13
  replace b14 := pw_cell_below DB b14
  replace b15 := pw_cell_below DB b15
  replace b20 := pw_cell_below DB b20
  replace b21 := pw_cell_below DB b21
  replace b22 := pw_cell_below DB b22
  replace b23 := pw_cell_below DB b23
  replace b24 := pw_cell_below DB b24
  replace b25 := pw_cell_below DB b25
  replace m2 := pw_cell_below DB m2
  replace m3 := pw_cell_below DB m3
  have RR5 := Lib.hid (Kd.R_below RR3.out DB)
  have RR6 := Lib.hid (Kd.R_below RR4.out DB)
  have DD3 := Lib.hid (below_step DD2.out DB)
  clear RR3 RR4 DD2 DA2 q3 q4 q5 q6 q7 q8 DB
  generalize X.alloc (.cells #[.int .i64 5, .string ⟨#[]⟩, .int .i64 5000, .int .i64 3, .int .i64 6, .slice Al 0 ql] 26) = Y at *
  have l2 : Y.cell? ⟨X.heap.size, 2, none⟩ = some (.int .i64 5000) := blk_cell kB 2
  have l3 : Y.cell? ⟨X.heap.size, 3, none⟩ = some (.int .i64 3) := blk_cell kB 3
  clear kB
  go_wp2_with (first | (go_at_call 11; go_loud (refine (PTr.tree_Right.calls 60 0 ⟨#[]⟩ 0 0 0 (some ⟨G1, 0, none⟩) c1 tr1 true _ (HG.out.step DD3.out) (Kd.R_reads' RR5.out).2.2 (Kd.R_reads' RR5.out).2.1 sm1_right).mono ?_; rintro e w7 ⟨rfl, hb⟩; have HB := Lib.hid (below_step DD3.out hb); have RR7 := Lib.hid (Kd.R_below RR6.out hb); replace b20 := pw_cell_below hb b20; replace b21 := pw_cell_below hb b21; replace b22 := pw_cell_below hb b22; replace b23 := pw_cell_below hb b23; replace b24 := pw_cell_below hb b24; replace b25 := pw_cell_below hb b25; clear hb)) | (go_at_call 10; go_loud (refine (Ex.tree_Write.calls 0 ⟨#[]⟩ 0 0 0 (some ⟨G2, 0, none⟩) c2 tr2 sm2w _ (HG.out.step HB.out) (Kd.R_reads' RR7.out).2.2 (Kd.R_reads' RR7.out).2.1 sm2_write).mono ?_; rintro e w8 ⟨rfl, hb⟩; have HC := Lib.hid (below_step HB.out hb); clear hb)))
  go_ret
  exact ⟨by kernel_rfl, HC.out⟩
end Go.Proofs.YtahjkibjcibpgaaGreatDoor.L
namespace Go.Proofs.YtahjkibjcibpgaaGreatDoor.Ex
open Go.RowKit Go.Proofs.YtahjkibjcibpgaaGreatDoor.U Go.Proofs.YtahjkibjcibpgaaGreatDoorW.PrintWords
def small15.f : Option Bool := some true
theorem small15.calls (r : Bool) (w : World) (hg : UW w) (h : small15.f = some r) : Calls Tryz.prog 8 #[] w fun e w' => e = .returned (.bool r) ∧ Below w.heap.size w w' := by
  obtain rfl : true = r := Option.some.inj h
  exact L.small_any w hg
end Go.Proofs.YtahjkibjcibpgaaGreatDoor.Ex
end
section
namespace Go.Proofs.YtahjkibjcibpgaaGreatDoor.PTr
open Go.RowKit Go.Proofs.YtahjkibjcibpgaaGreatDoorW.Sq Go.Proofs.YtahjkibjcibpgaaGreatDoorW.PrintWords Go.Proofs.YtahjkibjcibpgaaGreatDoorW.PrintLast Go.Proofs.YtahjkibjcibpgaaGreatDoorW.PrintMore
attribute [local go_sem] max2_int min2_int max_two min_two max_three min_three max_four min_four   -- for this text's walks alone
set_option linter.unusedVariables false
set_option linter.unusedSimpArgs false
attribute [local go_sem high] eqA23
end Go.Proofs.YtahjkibjcibpgaaGreatDoor.PTr
end
section
namespace Go.Proofs.YtahjkibjcibpgaaGreatDoor.L
open Go.RowKit Go.Shelf Go.Lib Go.Proofs.YtahjkibjcibpgaaGreatDoor.U
open Go.Proofs.YtahjkibjcibpgaaGreatDoorW Go.Proofs.YtahjkibjcibpgaaGreatDoorW.PrintWords Go.Proofs.YtahjkibjcibpgaaGreatDoorW.PrintLast
attribute [local go_sem] Oper.semAt_some
end Go.Proofs.YtahjkibjcibpgaaGreatDoor.L
end
section
namespace Go.Proofs.YtahjkibjcibpgaaGreatDoor.L
open Go.RowKit Go.Proofs.YtahjkibjcibpgaaGreatDoor.U Go.Proofs.YtahjkibjcibpgaaGreatDoorW.PrintWords Go.Proofs.YtahjkibjcibpgaaGreatDoor.PTr
def cost (t : PTr.S41) : Nat := t.f1.size + 31
def cs (T : List PTr.S41) (i : Nat) : Nat := ((T.take i).map cost).sum
section
variable {T : List PTr.S41} {n : Nat} (hE : EndT T n)
include hE
end
end Go.Proofs.YtahjkibjcibpgaaGreatDoor.L
end
section
namespace Go.Proofs.YtahjkibjcibpgaaGreatDoor.L
open Go.RowKit Go.Shelf Go.Lib Go.Proofs.YtahjkibjcibpgaaGreatDoor.U
open Go.Proofs.YtahjkibjcibpgaaGreatDoorW Go.Proofs.YtahjkibjcibpgaaGreatDoorW.PrintWords Go.Proofs.YtahjkibjcibpgaaGreatDoorW.PrintLast
attribute [local go_sem] Oper.semAt_some
def srcU (n m : ByteArray) : ByteArray := ((((⟨#[120, 32, 123, 32, 121, 32]⟩ : ByteArray) ++ n) ++ (⟨#[32]⟩ : ByteArray)) ++ m) ++ (⟨#[59, 32, 125]⟩ : ByteArray)
set_option maxRecDepth 100000 in
set_option maxHeartbeats 4000000 in
theorem units_long1 (n m : ByteArray) (h1 : decide (24 < (n.size : Int)) = true) (w : World) (HG : Hid (UW w)) : Calls Tryz.prog 6 #[.string n, .string m] w fun e w' => e = .returned (.bool true) ∧ Below w.heap.size w w' := by
  go_enter Tryz.func6, Tryz.ntmps6
  go_wp2_with ((go_at_call 8; go_loud (refine (Ex.small15.calls true _ HG.out rfl).mono ?_; rintro e w1 ⟨rfl, hb⟩; have D1 := Lib.hid hb; clear hb)))
  go_ret
  exact ⟨rfl, D1.out⟩
set_option maxRecDepth 100000 in
set_option maxHeartbeats 4000000 in
theorem units_long2 (n m : ByteArray) (h1 : decide (24 < (n.size : Int)) = false) (h2 : decide (24 < (m.size : Int)) = true) (w : World) (HG : Hid (UW w)) : Calls Tryz.prog 6 #[.string n, .string m] w fun e w' => e = .returned (.bool true) ∧ Below w.heap.size w w' := by
  go_enter Tryz.func6, Tryz.ntmps6
  go_wp2_with ((go_at_call 8; go_loud (refine (Ex.small15.calls true _ HG.out rfl).mono ?_; rintro e w1 ⟨rfl, hb⟩; have D1 := Lib.hid hb; clear hb)))
  go_ret
  exact ⟨rfl, D1.out⟩
set_option maxRecDepth 100000 in
set_option maxHeartbeats 4000000 in
theorem units_scan1 (n m : ByteArray) (hn : n.size ≤ 24) (hm : m.size ≤ 24) (h1 : decide (24 < (n.size : Int)) = false) (h2 : decide (24 < (m.size : Int)) = false) (T : List PTr.S41) (e p : Int) (he : (e != 0) = true) (hsc : Hid (Ex.lex_Scan.f (srcU n m) = some (T, e, p))) (w : World) (HG : Hid (UW w)) : Calls Tryz.prog 6 #[.string n, .string m] w fun e w' => e = .returned (.bool true) ∧ Below w.heap.size w w' := by
  go_enter Tryz.func6, Tryz.ntmps6
  go_upto_region 2 with ((go_at_call 8; go_loud (refine (Ex.small15.calls true _ HG.out rfl).mono ?_; rintro e w1 ⟨rfl, hb⟩; have D1 := Lib.hid hb; clear hb)))
  go_upto_region 5 with (fail)
  unfold srcU at hsc
  generalize ((((⟨#[120, 32, 123, 32, 121, 32]⟩ : ByteArray) ++ n) ++ (⟨#[32]⟩ : ByteArray)) ++ m) ++ (⟨#[59, 32, 125]⟩ : ByteArray) = s at *
  go_wp2_with ((go_at_call 14; go_loud (refine (Ex.lex_Scan.calls s T e p _ (HG.out.step D1.out) hsc.out).mono ?_; rintro e w2 ⟨v0, rfl, hR, hb⟩; have D2 := Lib.hid (below_step D1.out hb); have Rt := Lib.hid hR; obtain ⟨At, ct, ev⟩ := Kd.R_slice hR; subst ev; clear hR; clear hb)))
  go_ret
  exact ⟨rfl, D2.out⟩
set_option maxRecDepth 100000 in
set_option maxHeartbeats 4000000 in
theorem units_scan2 (n m : ByteArray) (hn : n.size ≤ 24) (hm : m.size ≤ 24) (h1 : decide (24 < (n.size : Int)) = false) (h2 : decide (24 < (m.size : Int)) = false) (T : List PTr.S41) (ht : ((T.length : Int) != 8) = true) (p : Int) (hsc : Hid (Ex.lex_Scan.f (srcU n m) = some (T, 0, p))) (w : World) (HG : Hid (UW w)) : Calls Tryz.prog 6 #[.string n, .string m] w fun e w' => e = .returned (.bool true) ∧ Below w.heap.size w w' := by
  go_enter Tryz.func6, Tryz.ntmps6
  go_upto_region 2 with ((go_at_call 8; go_loud (refine (Ex.small15.calls true _ HG.out rfl).mono ?_; rintro e w1 ⟨rfl, hb⟩; have D1 := Lib.hid hb; clear hb)))
  go_upto_region 5 with (fail)
  unfold srcU at hsc
  generalize ((((⟨#[120, 32, 123, 32, 121, 32]⟩ : ByteArray) ++ n) ++ (⟨#[32]⟩ : ByteArray)) ++ m) ++ (⟨#[59, 32, 125]⟩ : ByteArray) = s at *
  go_wp2_with ((go_at_call 14; go_loud (refine (Ex.lex_Scan.calls s T 0 p _ (HG.out.step D1.out) hsc.out).mono ?_; rintro e w2 ⟨v0, rfl, hR, hb⟩; have D2 := Lib.hid (below_step D1.out hb); have Rt := Lib.hid hR; obtain ⟨At, ct, ev⟩ := Kd.R_slice hR; subst ev; clear hR; clear hb)))
  go_ret
  exact ⟨rfl, D2.out⟩
theorem tok_at {W : World} {base n cap g : Nat} {ok : Nat → Prop} {xs : List PTr.S41} (h : PTr.k41.R 41 W base ok (.slice (some ⟨g, 0, none⟩) n cap) xs) (i : Nat) (hi : i < n) :
    W.cell? ⟨g, i * 3 + 0, none⟩ = some (.int .i64 (xs.getD i PTr.z41).f0) ∧ W.cell? ⟨g, i * 3 + 1, none⟩ = some (.string (xs.getD i PTr.z41).f1) := by
  obtain ⟨c, _, hM, hc, _⟩ := Kd.R_elem h PTr.z41 (i : Int) (by omega) (by omega)
  obtain rfl := PTr.k41_openM hM
  exact ⟨hc 0 _ rfl, hc 1 _ rfl⟩
set_option maxRecDepth 100000 in
set_option maxHeartbeats 4000000 in
theorem units_tok1 (n m : ByteArray) (hn : n.size ≤ 24) (hm : m.size ≤ 24) (h1 : decide (24 < (n.size : Int)) = false) (h2 : decide (24 < (m.size : Int)) = false) (x0 x1 x2 x3 x4 x5 x6 x7 : PTr.S41) (ht : (x3.f0 != 1) = true) (p : Int) (hsc : Hid (Ex.lex_Scan.f (srcU n m) = some ([x0, x1, x2, x3, x4, x5, x6, x7], 0, p))) (w : World) (HG : Hid (UW w)) : Calls Tryz.prog 6 #[.string n, .string m] w fun e w' => e = .returned (.bool true) ∧ Below w.heap.size w w' := by
  go_enter Tryz.func6, Tryz.ntmps6
  go_upto_region 2 with ((go_at_call 8; go_loud (refine (Ex.small15.calls true _ HG.out rfl).mono ?_; rintro e w1 ⟨rfl, hb⟩; have D1 := Lib.hid hb; clear hb)))
  go_upto_region 5 with (fail)
  unfold srcU at hsc
  generalize ((((⟨#[120, 32, 123, 32, 121, 32]⟩ : ByteArray) ++ n) ++ (⟨#[32]⟩ : ByteArray)) ++ m) ++ (⟨#[59, 32, 125]⟩ : ByteArray) = s at *
  go_upto_region 8 with ((go_at_call 14; go_loud (refine (Ex.lex_Scan.calls s [x0, x1, x2, x3, x4, x5, x6, x7] 0 p _ (HG.out.step D1.out) hsc.out).mono ?_; rintro e w2 ⟨v0, rfl, hR, hb⟩; have D2 := Lib.hid (below_step D1.out hb); have Rt := Lib.hid hR; obtain ⟨At, ct, ev⟩ := Kd.R_slice hR; subst ev; clear hR; clear hb)))
  obtain ⟨Gt, qt, et, -⟩ := Kd.R_form Rt.out (by simp)
  have et' : Value.slice At 8 ct = .slice (some ⟨Gt, 0, none⟩) 8 qt := et
  injection et' with t1 t2 t3
  clear t2 et
  subst t1 t3
  obtain ⟨y3, m3⟩ := tok_at Rt.out 3 (by simp)
  obtain ⟨y4, m4⟩ := tok_at Rt.out 4 (by simp)
  have tk0 : w2.cell? ⟨Gt, 9, none⟩ = some (.int .i64 x3.f0) := y3
  have tk1 : w2.cell? ⟨Gt, 10, none⟩ = some (.string x3.f1) := m3
  have tk2 : w2.cell? ⟨Gt, 12, none⟩ = some (.int .i64 x4.f0) := y4
  have tk3 : w2.cell? ⟨Gt, 13, none⟩ = some (.string x4.f1) := m4
  clear y3 m3 y4 m4 Rt
  go_wp2
  go_ret
  exact ⟨rfl, D2.out⟩
set_option maxRecDepth 100000 in
set_option maxHeartbeats 4000000 in
theorem units_tok2 (n m : ByteArray) (hn : n.size ≤ 24) (hm : m.size ≤ 24) (h1 : decide (24 < (n.size : Int)) = false) (h2 : decide (24 < (m.size : Int)) = false) (x0 x1 x2 x5 x6 x7 : PTr.S41) (a3 : Int) (t3 : ByteArray) (x4 : PTr.S41) (ht : (t3.toList == n.toList) = false) (p : Int) (hsc : Hid (Ex.lex_Scan.f (srcU n m) = some ([x0, x1, x2, ⟨1, t3, a3⟩, x4, x5, x6, x7], 0, p))) (w : World) (HG : Hid (UW w)) : Calls Tryz.prog 6 #[.string n, .string m] w fun e w' => e = .returned (.bool true) ∧ Below w.heap.size w w' := by
  go_enter Tryz.func6, Tryz.ntmps6
  go_upto_region 2 with ((go_at_call 8; go_loud (refine (Ex.small15.calls true _ HG.out rfl).mono ?_; rintro e w1 ⟨rfl, hb⟩; have D1 := Lib.hid hb; clear hb)))
  go_upto_region 5 with (fail)
  unfold srcU at hsc
  generalize ((((⟨#[120, 32, 123, 32, 121, 32]⟩ : ByteArray) ++ n) ++ (⟨#[32]⟩ : ByteArray)) ++ m) ++ (⟨#[59, 32, 125]⟩ : ByteArray) = s at *
  go_upto_region 8 with ((go_at_call 14; go_loud (refine (Ex.lex_Scan.calls s [x0, x1, x2, ⟨1, t3, a3⟩, x4, x5, x6, x7] 0 p _ (HG.out.step D1.out) hsc.out).mono ?_; rintro e w2 ⟨v0, rfl, hR, hb⟩; have D2 := Lib.hid (below_step D1.out hb); have Rt := Lib.hid hR; obtain ⟨At, ct, ev⟩ := Kd.R_slice hR; subst ev; clear hR; clear hb)))
  obtain ⟨Gt, qt, et, -⟩ := Kd.R_form Rt.out (by simp)
  have et' : Value.slice At 8 ct = .slice (some ⟨Gt, 0, none⟩) 8 qt := et
  injection et' with t1 t2 t3
  clear t2 et
  subst t1 t3
  obtain ⟨y3, m3⟩ := tok_at Rt.out 3 (by simp)
  obtain ⟨y4, m4⟩ := tok_at Rt.out 4 (by simp)
  have tk0 : w2.cell? ⟨Gt, 9, none⟩ = some (.int .i64 1) := y3
  have tk1 : w2.cell? ⟨Gt, 10, none⟩ = some (.string t3) := m3
  have tk2 : w2.cell? ⟨Gt, 12, none⟩ = some (.int .i64 x4.f0) := y4
  have tk3 : w2.cell? ⟨Gt, 13, none⟩ = some (.string x4.f1) := m4
  clear y3 m3 y4 m4 Rt
  go_wp2
  go_ret
  exact ⟨rfl, D2.out⟩
set_option maxRecDepth 100000 in
set_option maxHeartbeats 4000000 in
theorem units_tok3 (n m : ByteArray) (hn : n.size ≤ 24) (hm : m.size ≤ 24) (h1 : decide (24 < (n.size : Int)) = false) (h2 : decide (24 < (m.size : Int)) = false) (x0 x1 x2 x5 x6 x7 : PTr.S41) (a3 : Int) (x4 : PTr.S41) (ht : (x4.f0 != 0) = true) (p : Int) (hsc : Hid (Ex.lex_Scan.f (srcU n m) = some ([x0, x1, x2, ⟨1, n, a3⟩, x4, x5, x6, x7], 0, p))) (w : World) (HG : Hid (UW w)) : Calls Tryz.prog 6 #[.string n, .string m] w fun e w' => e = .returned (.bool true) ∧ Below w.heap.size w w' := by
  go_enter Tryz.func6, Tryz.ntmps6
  go_upto_region 2 with ((go_at_call 8; go_loud (refine (Ex.small15.calls true _ HG.out rfl).mono ?_; rintro e w1 ⟨rfl, hb⟩; have D1 := Lib.hid hb; clear hb)))
  go_upto_region 5 with (fail)
  unfold srcU at hsc
  generalize ((((⟨#[120, 32, 123, 32, 121, 32]⟩ : ByteArray) ++ n) ++ (⟨#[32]⟩ : ByteArray)) ++ m) ++ (⟨#[59, 32, 125]⟩ : ByteArray) = s at *
  go_upto_region 8 with ((go_at_call 14; go_loud (refine (Ex.lex_Scan.calls s [x0, x1, x2, ⟨1, n, a3⟩, x4, x5, x6, x7] 0 p _ (HG.out.step D1.out) hsc.out).mono ?_; rintro e w2 ⟨v0, rfl, hR, hb⟩; have D2 := Lib.hid (below_step D1.out hb); have Rt := Lib.hid hR; obtain ⟨At, ct, ev⟩ := Kd.R_slice hR; subst ev; clear hR; clear hb)))
  obtain ⟨Gt, qt, et, -⟩ := Kd.R_form Rt.out (by simp)
  have et' : Value.slice At 8 ct = .slice (some ⟨Gt, 0, none⟩) 8 qt := et
  injection et' with t1 t2 t3
  clear t2 et
  subst t1 t3
  obtain ⟨y3, m3⟩ := tok_at Rt.out 3 (by simp)
  obtain ⟨y4, m4⟩ := tok_at Rt.out 4 (by simp)
  have tk0 : w2.cell? ⟨Gt, 9, none⟩ = some (.int .i64 1) := y3
  have tk1 : w2.cell? ⟨Gt, 10, none⟩ = some (.string n) := m3
  have tk2 : w2.cell? ⟨Gt, 12, none⟩ = some (.int .i64 x4.f0) := y4
  have tk3 : w2.cell? ⟨Gt, 13, none⟩ = some (.string x4.f1) := m4
  clear y3 m3 y4 m4 Rt
  go_wp2
  go_ret
  exact ⟨rfl, D2.out⟩
set_option maxRecDepth 100000 in
set_option maxHeartbeats 4000000 in
theorem units_tok4 (n m : ByteArray) (hn : n.size ≤ 24) (hm : m.size ≤ 24) (h1 : decide (24 < (n.size : Int)) = false) (h2 : decide (24 < (m.size : Int)) = false) (x0 x1 x2 x5 x6 x7 : PTr.S41) (a3 a4 : Int) (t4 : ByteArray) (ht : (t4.toList == m.toList) = false) (p : Int) (hsc : Hid (Ex.lex_Scan.f (srcU n m) = some ([x0, x1, x2, ⟨1, n, a3⟩, ⟨0, t4, a4⟩, x5, x6, x7], 0, p))) (w : World) (HG : Hid (UW w)) : Calls Tryz.prog 6 #[.string n, .string m] w fun e w' => e = .returned (.bool true) ∧ Below w.heap.size w w' := by
  go_enter Tryz.func6, Tryz.ntmps6
  go_upto_region 2 with ((go_at_call 8; go_loud (refine (Ex.small15.calls true _ HG.out rfl).mono ?_; rintro e w1 ⟨rfl, hb⟩; have D1 := Lib.hid hb; clear hb)))
  go_upto_region 5 with (fail)
  unfold srcU at hsc
  generalize ((((⟨#[120, 32, 123, 32, 121, 32]⟩ : ByteArray) ++ n) ++ (⟨#[32]⟩ : ByteArray)) ++ m) ++ (⟨#[59, 32, 125]⟩ : ByteArray) = s at *
  go_upto_region 8 with ((go_at_call 14; go_loud (refine (Ex.lex_Scan.calls s [x0, x1, x2, ⟨1, n, a3⟩, ⟨0, t4, a4⟩, x5, x6, x7] 0 p _ (HG.out.step D1.out) hsc.out).mono ?_; rintro e w2 ⟨v0, rfl, hR, hb⟩; have D2 := Lib.hid (below_step D1.out hb); have Rt := Lib.hid hR; obtain ⟨At, ct, ev⟩ := Kd.R_slice hR; subst ev; clear hR; clear hb)))
  obtain ⟨Gt, qt, et, -⟩ := Kd.R_form Rt.out (by simp)
  have et' : Value.slice At 8 ct = .slice (some ⟨Gt, 0, none⟩) 8 qt := et
  injection et' with t1 t2 t3
  clear t2 et
  subst t1 t3
  obtain ⟨y3, m3⟩ := tok_at Rt.out 3 (by simp)
  obtain ⟨y4, m4⟩ := tok_at Rt.out 4 (by simp)
  have tk0 : w2.cell? ⟨Gt, 9, none⟩ = some (.int .i64 1) := y3
  have tk1 : w2.cell? ⟨Gt, 10, none⟩ = some (.string n) := m3
  have tk2 : w2.cell? ⟨Gt, 12, none⟩ = some (.int .i64 0) := y4
  have tk3 : w2.cell? ⟨Gt, 13, none⟩ = some (.string t4) := m4
  clear y3 m3 y4 m4 Rt
  go_wp2
  go_ret
  exact ⟨rfl, D2.out⟩
set_option maxRecDepth 100000 in
set_option maxHeartbeats 4000000 in
theorem units_err1 (n m : ByteArray) (hn : n.size ≤ 24) (hm : m.size ≤ 24) (h1 : decide (24 < (n.size : Int)) = false) (h2 : decide (24 < (m.size : Int)) = false) (x0 x1 x2 x5 x6 x7 : PTr.S41) (a3 a4 : Int) (N Q g : Int) (g6 : (g == 6) = false) (g0 : (g != 0) = true) (ha : Hid (Ex.unit_Amount.f n m = some (N, Q, g))) (p : Int) (hsc : Hid (Ex.lex_Scan.f (srcU n m) = some ([x0, x1, x2, ⟨1, n, a3⟩, ⟨0, m, a4⟩, x5, x6, x7], 0, p))) (hp : Hid (Ex.tree_Parse.f (srcU n m) = some (0, ⟨#[]⟩, 0, 0, 0, ([] : List PTr.S26), 7, 6))) (w : World) (HG : Hid (UW w)) : Calls Tryz.prog 6 #[.string n, .string m] w fun e w' => e = .returned (.bool true) ∧ Below w.heap.size w w' := by
  go_enter Tryz.func6, Tryz.ntmps6
  go_upto_region 2 with ((go_at_call 8; go_loud (refine (Ex.small15.calls true _ HG.out rfl).mono ?_; rintro e w1 ⟨rfl, hb⟩; have D1 := Lib.hid hb; clear hb)))
  go_upto_region 5 with (fail)
  unfold srcU at hsc
  unfold srcU at hp
  generalize ((((⟨#[120, 32, 123, 32, 121, 32]⟩ : ByteArray) ++ n) ++ (⟨#[32]⟩ : ByteArray)) ++ m) ++ (⟨#[59, 32, 125]⟩ : ByteArray) = s at *
  go_upto_region 8 with ((go_at_call 14; go_loud (refine (Ex.lex_Scan.calls s [x0, x1, x2, ⟨1, n, a3⟩, ⟨0, m, a4⟩, x5, x6, x7] 0 p _ (HG.out.step D1.out) hsc.out).mono ?_; rintro e w2 ⟨v0, rfl, hR, hb⟩; have D2 := Lib.hid (below_step D1.out hb); have Rt := Lib.hid hR; obtain ⟨At, ct, ev⟩ := Kd.R_slice hR; subst ev; clear hR; clear hb)))
  obtain ⟨Gt, qt, et, -⟩ := Kd.R_form Rt.out (by simp)
  have et' : Value.slice At 8 ct = .slice (some ⟨Gt, 0, none⟩) 8 qt := et
  injection et' with t1 t2 t3
  clear t2 et
  subst t1 t3
  obtain ⟨y3, m3⟩ := tok_at Rt.out 3 (by simp)
  obtain ⟨y4, m4⟩ := tok_at Rt.out 4 (by simp)
  have tk0 : w2.cell? ⟨Gt, 9, none⟩ = some (.int .i64 1) := y3
  have tk1 : w2.cell? ⟨Gt, 10, none⟩ = some (.string n) := m3
  have tk2 : w2.cell? ⟨Gt, 12, none⟩ = some (.int .i64 0) := y4
  have tk3 : w2.cell? ⟨Gt, 13, none⟩ = some (.string m) := m4
  clear y3 m3 y4 m4 Rt
  go_upto_region 10 with (fail)
  clear tk0 tk1 tk2 tk3
  go_upto_region 11 with ((go_at_call 12; go_loud (refine (Ex.tree_Parse.calls s 0 ⟨#[]⟩ 0 0 0 ([] : List PTr.S26) 7 6 _ (HG.out.step D2.out) hp.out).mono ?_; rintro e w3 ⟨v0, rfl, hR, hb⟩; have D3 := Lib.hid (below_step D2.out hb); have Rc := Lib.hid hR; obtain ⟨Ac, cc, ev⟩ := Kd.R_slice hR; subst ev; have Kc := Lib.hid (blk_new w3 (.cells #[.int .i64 0, .string (⟨#[]⟩ : ByteArray), .int .i64 0, .int .i64 0, .int .i64 0, .slice Ac ([] : List PTr.S26).length cc] 26)); clear hR; clear hb)))
  have hA := below_alloc (Below.refl w3.heap.size w3) (.cells #[.int .i64 0, .string (⟨#[]⟩ : ByteArray), .int .i64 0, .int .i64 0, .int .i64 0, .slice Ac ([] : List PTr.S26).length cc] 26)
  have D4 := Lib.hid (below_step D3.out hA)
  have Lc := Lib.hid (Kd.C_below (Kd.R_reads' Rc.out).2.2 hA)
  have hcc := Lib.hid (Kd.R_reads' Rc.out).2.1
  clear hA Rc
  have kc := Kc.out
  clear Kc
  generalize w3.alloc (.cells #[.int .i64 0, .string (⟨#[]⟩ : ByteArray), .int .i64 0, .int .i64 0, .int .i64 0, .slice Ac ([] : List PTr.S26).length cc] 26) = Xc at *
  generalize w3.heap.size = bc at *
  have cn0 : Xc.cell? ⟨bc, 0, none⟩ = some (.int .i64 0) := blk_cell kc 0
  have cn1 : Xc.cell? ⟨bc, 1, none⟩ = some (.string ⟨#[]⟩) := blk_cell kc 1
  have cn2 : Xc.cell? ⟨bc, 2, none⟩ = some (.int .i64 0) := blk_cell kc 2
  have cn3 : Xc.cell? ⟨bc, 3, none⟩ = some (.int .i64 0) := blk_cell kc 3
  have cn4 : Xc.cell? ⟨bc, 4, none⟩ = some (.int .i64 0) := blk_cell kc 4
  have cn5 : Xc.cell? ⟨bc, 5, none⟩ = some (.slice Ac ([] : List PTr.S26).length cc) := blk_cell kc 5
  clear kc
  go_upto_region 12 with ((go_at_call 16; go_loud (refine (Ex.unit_Amount.calls n m N Q g _ (HG.out.step D4.out) ha.out).mono ?_; rintro e w4 ⟨rfl, hb⟩; have D5 := Lib.hid (below_step D4.out hb); replace cn0 := pw_cell_below hb cn0; replace cn1 := pw_cell_below hb cn1; replace cn2 := pw_cell_below hb cn2; replace cn3 := pw_cell_below hb cn3; replace cn4 := pw_cell_below hb cn4; replace cn5 := pw_cell_below hb cn5; replace Lc := Lib.hid (Kd.C_below Lc.out hb); clear hb)))
  have hA := below_alloc (Below.refl w4.heap.size w4) (.cells #[.int .i64 N, .int .i64 Q] 23)
  replace cn0 := pw_cell_below hA cn0
  replace cn1 := pw_cell_below hA cn1
  replace cn2 := pw_cell_below hA cn2
  replace cn3 := pw_cell_below hA cn3
  replace cn4 := pw_cell_below hA cn4
  replace cn5 := pw_cell_below hA cn5
  replace Lc := Lib.hid (Kd.C_below Lc.out hA)
  have D6 := Lib.hid (below_step D5.out hA)
  clear hA
  have km := blk_new w4 (.cells #[.int .i64 N, .int .i64 Q] 23)
  have gem := D5.out.size
  generalize w4.alloc (.cells #[.int .i64 N, .int .i64 Q] 23) = Xm at *
  generalize w4.heap.size = bm at *
  have mn0 : Xm.cell? ⟨bm, 0, none⟩ = some (.int .i64 N) := blk_cell km 0
  have mn1 : Xm.cell? ⟨bm, 1, none⟩ = some (.int .i64 Q) := blk_cell km 1
  clear km gem
  go_wp2
  go_ret
  exact ⟨rfl, D6.out⟩
set_option maxRecDepth 100000 in
set_option maxHeartbeats 4000000 in
theorem units_err2 (n m : ByteArray) (hn : n.size ≤ 24) (hm : m.size ≤ 24) (h1 : decide (24 < (n.size : Int)) = false) (h2 : decide (24 < (m.size : Int)) = false) (x0 x1 x2 x5 x6 x7 : PTr.S41) (a3 a4 : Int) (N Q N2 Q2 g2 : Int) (g0 : (g2 != 0) = true) (ha : Hid (Ex.unit_Amount.f n m = some (N, Q, 6))) (ha2 : Hid (Ex.unit_Amount.f n ⟨#[]⟩ = some (N2, Q2, g2))) (p : Int) (hsc : Hid (Ex.lex_Scan.f (srcU n m) = some ([x0, x1, x2, ⟨1, n, a3⟩, ⟨0, m, a4⟩, x5, x6, x7], 0, p))) (hp : Hid (Ex.tree_Parse.f (srcU n m) = some (0, ⟨#[]⟩, 0, 0, 0, ([] : List PTr.S26), 7, 6))) (w : World) (HG : Hid (UW w)) : Calls Tryz.prog 6 #[.string n, .string m] w fun e w' => e = .returned (.bool true) ∧ Below w.heap.size w w' := by
  go_enter Tryz.func6, Tryz.ntmps6
  go_upto_region 2 with ((go_at_call 8; go_loud (refine (Ex.small15.calls true _ HG.out rfl).mono ?_; rintro e w1 ⟨rfl, hb⟩; have D1 := Lib.hid hb; clear hb)))
  go_upto_region 5 with (fail)
  unfold srcU at hsc
  unfold srcU at hp
  generalize ((((⟨#[120, 32, 123, 32, 121, 32]⟩ : ByteArray) ++ n) ++ (⟨#[32]⟩ : ByteArray)) ++ m) ++ (⟨#[59, 32, 125]⟩ : ByteArray) = s at *
  go_upto_region 8 with ((go_at_call 14; go_loud (refine (Ex.lex_Scan.calls s [x0, x1, x2, ⟨1, n, a3⟩, ⟨0, m, a4⟩, x5, x6, x7] 0 p _ (HG.out.step D1.out) hsc.out).mono ?_; rintro e w2 ⟨v0, rfl, hR, hb⟩; have D2 := Lib.hid (below_step D1.out hb); have Rt := Lib.hid hR; obtain ⟨At, ct, ev⟩ := Kd.R_slice hR; subst ev; clear hR; clear hb)))
  obtain ⟨Gt, qt, et, -⟩ := Kd.R_form Rt.out (by simp)
  have et' : Value.slice At 8 ct = .slice (some ⟨Gt, 0, none⟩) 8 qt := et
  injection et' with t1 t2 t3
  clear t2 et
  subst t1 t3
  obtain ⟨y3, m3⟩ := tok_at Rt.out 3 (by simp)
  obtain ⟨y4, m4⟩ := tok_at Rt.out 4 (by simp)
  have tk0 : w2.cell? ⟨Gt, 9, none⟩ = some (.int .i64 1) := y3
  have tk1 : w2.cell? ⟨Gt, 10, none⟩ = some (.string n) := m3
  have tk2 : w2.cell? ⟨Gt, 12, none⟩ = some (.int .i64 0) := y4
  have tk3 : w2.cell? ⟨Gt, 13, none⟩ = some (.string m) := m4
  clear y3 m3 y4 m4 Rt
  go_upto_region 10 with (fail)
  clear tk0 tk1 tk2 tk3
  go_upto_region 11 with ((go_at_call 12; go_loud (refine (Ex.tree_Parse.calls s 0 ⟨#[]⟩ 0 0 0 ([] : List PTr.S26) 7 6 _ (HG.out.step D2.out) hp.out).mono ?_; rintro e w3 ⟨v0, rfl, hR, hb⟩; have D3 := Lib.hid (below_step D2.out hb); have Rc := Lib.hid hR; obtain ⟨Ac, cc, ev⟩ := Kd.R_slice hR; subst ev; have Kc := Lib.hid (blk_new w3 (.cells #[.int .i64 0, .string (⟨#[]⟩ : ByteArray), .int .i64 0, .int .i64 0, .int .i64 0, .slice Ac ([] : List PTr.S26).length cc] 26)); clear hR; clear hb)))
  have hA := below_alloc (Below.refl w3.heap.size w3) (.cells #[.int .i64 0, .string (⟨#[]⟩ : ByteArray), .int .i64 0, .int .i64 0, .int .i64 0, .slice Ac ([] : List PTr.S26).length cc] 26)
  have D4 := Lib.hid (below_step D3.out hA)
  have Lc := Lib.hid (Kd.C_below (Kd.R_reads' Rc.out).2.2 hA)
  have hcc := Lib.hid (Kd.R_reads' Rc.out).2.1
  clear hA Rc
  have kc := Kc.out
  clear Kc
  generalize w3.alloc (.cells #[.int .i64 0, .string (⟨#[]⟩ : ByteArray), .int .i64 0, .int .i64 0, .int .i64 0, .slice Ac ([] : List PTr.S26).length cc] 26) = Xc at *
  generalize w3.heap.size = bc at *
  have cn0 : Xc.cell? ⟨bc, 0, none⟩ = some (.int .i64 0) := blk_cell kc 0
  have cn1 : Xc.cell? ⟨bc, 1, none⟩ = some (.string ⟨#[]⟩) := blk_cell kc 1
  have cn2 : Xc.cell? ⟨bc, 2, none⟩ = some (.int .i64 0) := blk_cell kc 2
  have cn3 : Xc.cell? ⟨bc, 3, none⟩ = some (.int .i64 0) := blk_cell kc 3
  have cn4 : Xc.cell? ⟨bc, 4, none⟩ = some (.int .i64 0) := blk_cell kc 4
  have cn5 : Xc.cell? ⟨bc, 5, none⟩ = some (.slice Ac ([] : List PTr.S26).length cc) := blk_cell kc 5
  clear kc
  go_upto_region 12 with ((go_at_call 16; go_loud (refine (Ex.unit_Amount.calls n m N Q 6 _ (HG.out.step D4.out) ha.out).mono ?_; rintro e w4 ⟨rfl, hb⟩; have D5 := Lib.hid (below_step D4.out hb); replace cn0 := pw_cell_below hb cn0; replace cn1 := pw_cell_below hb cn1; replace cn2 := pw_cell_below hb cn2; replace cn3 := pw_cell_below hb cn3; replace cn4 := pw_cell_below hb cn4; replace cn5 := pw_cell_below hb cn5; replace Lc := Lib.hid (Kd.C_below Lc.out hb); clear hb)))
  have hA := below_alloc (Below.refl w4.heap.size w4) (.cells #[.int .i64 N, .int .i64 Q] 23)
  replace cn0 := pw_cell_below hA cn0
  replace cn1 := pw_cell_below hA cn1
  replace cn2 := pw_cell_below hA cn2
  replace cn3 := pw_cell_below hA cn3
  replace cn4 := pw_cell_below hA cn4
  replace cn5 := pw_cell_below hA cn5
  replace Lc := Lib.hid (Kd.C_below Lc.out hA)
  have D6 := Lib.hid (below_step D5.out hA)
  clear hA
  have km := blk_new w4 (.cells #[.int .i64 N, .int .i64 Q] 23)
  have gem := D5.out.size
  generalize w4.alloc (.cells #[.int .i64 N, .int .i64 Q] 23) = Xm at *
  generalize w4.heap.size = bm at *
  have mn0 : Xm.cell? ⟨bm, 0, none⟩ = some (.int .i64 N) := blk_cell km 0
  have mn1 : Xm.cell? ⟨bm, 1, none⟩ = some (.int .i64 Q) := blk_cell km 1
  go_upto_region 15 with ((go_at_call 16; go_loud (refine (Ex.unit_Amount.calls n ⟨#[]⟩ N2 Q2 g2 _ (HG.out.step D6.out) ha2.out).mono ?_; rintro e w5 ⟨rfl, hb⟩; have D7 := Lib.hid (below_step D6.out hb); replace cn0 := pw_cell_below hb cn0; replace cn1 := pw_cell_below hb cn1; replace cn2 := pw_cell_below hb cn2; replace cn3 := pw_cell_below hb cn3; replace cn4 := pw_cell_below hb cn4; replace cn5 := pw_cell_below hb cn5; replace mn0 := pw_cell_below hb mn0; replace mn1 := pw_cell_below hb mn1; replace Lc := Lib.hid (Kd.C_below Lc.out hb); replace km := blk_below km hb; have mf0 := blk_frozen km 0; have mf1 := blk_frozen km 1; clear hb)))
  go_wp2
  go_ret
  exact ⟨rfl, (D7.out.setCell (p := ⟨bm, 0, none⟩) gem _).setCell (p := ⟨bm, 1, none⟩) gem _⟩
def okU1 (tx ty : ByteArray) (ax ay N Q : Int) : List PTr.S26 := [⟨1, tx, ⟨0, 0⟩, ax, [⟨2, ty, ⟨0, 0⟩, ay, [⟨5, ⟨#[]⟩, ⟨N, Q⟩, 6, []⟩]⟩]⟩]
def okU2 (tx ty : ByteArray) (ax ay N Q : Int) (m : ByteArray) (at_ : Int) : List PTr.S26 := [⟨1, tx, ⟨0, 0⟩, ax, [⟨2, ty, ⟨0, 0⟩, ay, [⟨5, ⟨#[]⟩, ⟨N, Q⟩, 6, []⟩, ⟨3, m, ⟨0, 0⟩, at_, []⟩]⟩]⟩]
set_option maxRecDepth 100000 in
set_option maxHeartbeats 4000000 in
theorem units_ok1 (n m : ByteArray) (hn : n.size ≤ 24) (hm : m.size ≤ 24) (h1 : decide (24 < (n.size : Int)) = false) (h2 : decide (24 < (m.size : Int)) = false) (x0 x1 x2 x5 x6 x7 : PTr.S41) (a3 a4 : Int) (tx ty : ByteArray) (ax ay N Q : Int) (ha : Hid (Ex.unit_Amount.f n m = some (N, Q, 0))) (p : Int) (hsc : Hid (Ex.lex_Scan.f (srcU n m) = some ([x0, x1, x2, ⟨1, n, a3⟩, ⟨0, m, a4⟩, x5, x6, x7], 0, p))) (hp : Hid (Ex.tree_Parse.f (srcU n m) = some (0, ⟨#[]⟩, 0, 0, 0, (okU1 tx ty ax ay N Q), 0, 0))) (w : World) (HG : Hid (UW w)) : Calls Tryz.prog 6 #[.string n, .string m] w fun e w' => e = .returned (.bool true) ∧ Below w.heap.size w w' := by
  go_enter Tryz.func6, Tryz.ntmps6
  go_upto_region 2 with ((go_at_call 8; go_loud (refine (Ex.small15.calls true _ HG.out rfl).mono ?_; rintro e w1 ⟨rfl, hb⟩; have D1 := Lib.hid hb; clear hb)))
  go_upto_region 5 with (fail)
  unfold srcU at hsc
  unfold srcU at hp
  generalize ((((⟨#[120, 32, 123, 32, 121, 32]⟩ : ByteArray) ++ n) ++ (⟨#[32]⟩ : ByteArray)) ++ m) ++ (⟨#[59, 32, 125]⟩ : ByteArray) = s at *
  go_upto_region 8 with ((go_at_call 14; go_loud (refine (Ex.lex_Scan.calls s [x0, x1, x2, ⟨1, n, a3⟩, ⟨0, m, a4⟩, x5, x6, x7] 0 p _ (HG.out.step D1.out) hsc.out).mono ?_; rintro e w2 ⟨v0, rfl, hR, hb⟩; have D2 := Lib.hid (below_step D1.out hb); have Rt := Lib.hid hR; obtain ⟨At, ct, ev⟩ := Kd.R_slice hR; subst ev; clear hR; clear hb)))
  obtain ⟨Gt, qt, et, -⟩ := Kd.R_form Rt.out (by simp)
  have et' : Value.slice At 8 ct = .slice (some ⟨Gt, 0, none⟩) 8 qt := et
  injection et' with t1 t2 t3
  clear t2 et
  subst t1 t3
  obtain ⟨y3, m3⟩ := tok_at Rt.out 3 (by simp)
  obtain ⟨y4, m4⟩ := tok_at Rt.out 4 (by simp)
  have tk0 : w2.cell? ⟨Gt, 9, none⟩ = some (.int .i64 1) := y3
  have tk1 : w2.cell? ⟨Gt, 10, none⟩ = some (.string n) := m3
  have tk2 : w2.cell? ⟨Gt, 12, none⟩ = some (.int .i64 0) := y4
  have tk3 : w2.cell? ⟨Gt, 13, none⟩ = some (.string m) := m4
  clear y3 m3 y4 m4 Rt
  go_upto_region 10 with (fail)
  clear tk0 tk1 tk2 tk3
  go_upto_region 11 with ((go_at_call 12; go_loud (refine (Ex.tree_Parse.calls s 0 ⟨#[]⟩ 0 0 0 (okU1 tx ty ax ay N Q) 0 0 _ (HG.out.step D2.out) hp.out).mono ?_; rintro e w3 ⟨v0, rfl, hR, hb⟩; have D3 := Lib.hid (below_step D2.out hb); have Rc := Lib.hid hR; obtain ⟨Ac, cc, ev⟩ := Kd.R_slice hR; have ev2 : v0 = .slice Ac 1 cc := ev; clear ev; subst ev2; have Kc := Lib.hid (blk_new w3 (.cells #[.int .i64 0, .string (⟨#[]⟩ : ByteArray), .int .i64 0, .int .i64 0, .int .i64 0, .slice Ac 1 cc] 26)); clear hR; clear hb)))
  obtain ⟨Gl, ql, el, -⟩ := Kd.R_form Rc.out Nat.zero_lt_one
  have el' : Value.slice Ac 1 cc = .slice (some ⟨Gl, 0, none⟩) 1 ql := el
  injection el' with t1 t2 t3
  clear t2 el
  subst t1 t3
  obtain ⟨v1, y1, r1⟩ := node_at Rc.out 0 (by simp)
  obtain ⟨Gp, qp, e1, -⟩ := Kd.R_form r1 Nat.zero_lt_one
  have e1' : v1 = .slice (some ⟨Gp, 0, none⟩) 1 qp := e1
  subst e1'
  obtain ⟨v2, y2, r2⟩ := node_at r1 0 (by simp)
  obtain ⟨Gk, qk, e2, -⟩ := Kd.R_form r2 Nat.zero_lt_one
  have e2' : v2 = .slice (some ⟨Gk, 0, none⟩) 1 qk := e2
  subst e2'
  obtain ⟨v3, y3, r3⟩ := node_at r2 0 (by simp)
  have ln5 : w3.cell? ⟨Gl, 5, none⟩ = some (.slice (some ⟨Gp, 0, none⟩) 1 qp) := y1 5 _ rfl
  have pn0 : w3.cell? ⟨Gp, 0, none⟩ = some (.int .i64 2) := y2 0 _ rfl
  have pn1 : w3.cell? ⟨Gp, 1, none⟩ = some (.string ty) := y2 1 _ rfl
  have pn2 : w3.cell? ⟨Gp, 2, none⟩ = some (.int .i64 0) := y2 2 _ rfl
  have pn3 : w3.cell? ⟨Gp, 3, none⟩ = some (.int .i64 0) := y2 3 _ rfl
  have pn4 : w3.cell? ⟨Gp, 4, none⟩ = some (.int .i64 ay) := y2 4 _ rfl
  have pn5 : w3.cell? ⟨Gp, 5, none⟩ = some (.slice (some ⟨Gk, 0, none⟩) 1 qk) := y2 5 _ rfl
  have kn2 : w3.cell? ⟨Gk, 2, none⟩ = some (.int .i64 N) := y3 2 _ rfl
  have kn3 : w3.cell? ⟨Gk, 3, none⟩ = some (.int .i64 Q) := y3 3 _ rfl
  have kn4 : w3.cell? ⟨Gk, 4, none⟩ = some (.int .i64 6) := y3 4 _ rfl
  clear y1 y2 y3 r1 r2 r3
  have hA := below_alloc (Below.refl w3.heap.size w3) (.cells #[.int .i64 0, .string (⟨#[]⟩ : ByteArray), .int .i64 0, .int .i64 0, .int .i64 0, .slice (some ⟨Gl, 0, none⟩) 1 cc] 26)
  replace ln5 := pw_cell_below hA ln5
  replace pn0 := pw_cell_below hA pn0
  replace pn1 := pw_cell_below hA pn1
  replace pn2 := pw_cell_below hA pn2
  replace pn3 := pw_cell_below hA pn3
  replace pn4 := pw_cell_below hA pn4
  replace pn5 := pw_cell_below hA pn5
  replace kn2 := pw_cell_below hA kn2
  replace kn3 := pw_cell_below hA kn3
  replace kn4 := pw_cell_below hA kn4
  have D4 := Lib.hid (below_step D3.out hA)
  have Lc := Lib.hid (Kd.C_below (Kd.R_reads' Rc.out).2.2 hA)
  have hcc := Lib.hid (Kd.R_reads' Rc.out).2.1
  clear hA Rc
  have kc := Kc.out
  clear Kc
  generalize w3.alloc (.cells #[.int .i64 0, .string (⟨#[]⟩ : ByteArray), .int .i64 0, .int .i64 0, .int .i64 0, .slice (some ⟨Gl, 0, none⟩) 1 cc] 26) = Xc at *
  generalize w3.heap.size = bc at *
  have cn0 : Xc.cell? ⟨bc, 0, none⟩ = some (.int .i64 0) := blk_cell kc 0
  have cn1 : Xc.cell? ⟨bc, 1, none⟩ = some (.string ⟨#[]⟩) := blk_cell kc 1
  have cn2 : Xc.cell? ⟨bc, 2, none⟩ = some (.int .i64 0) := blk_cell kc 2
  have cn3 : Xc.cell? ⟨bc, 3, none⟩ = some (.int .i64 0) := blk_cell kc 3
  have cn4 : Xc.cell? ⟨bc, 4, none⟩ = some (.int .i64 0) := blk_cell kc 4
  have cn5 : Xc.cell? ⟨bc, 5, none⟩ = some (.slice (some ⟨Gl, 0, none⟩) 1 cc) := blk_cell kc 5
  clear kc
  go_upto_region 12 with ((go_at_call 16; go_loud (refine (Ex.unit_Amount.calls n m N Q 0 _ (HG.out.step D4.out) ha.out).mono ?_; rintro e w4 ⟨rfl, hb⟩; have D5 := Lib.hid (below_step D4.out hb); replace ln5 := pw_cell_below hb ln5; replace pn0 := pw_cell_below hb pn0; replace pn1 := pw_cell_below hb pn1; replace pn2 := pw_cell_below hb pn2; replace pn3 := pw_cell_below hb pn3; replace pn4 := pw_cell_below hb pn4; replace pn5 := pw_cell_below hb pn5; replace kn2 := pw_cell_below hb kn2; replace kn3 := pw_cell_below hb kn3; replace kn4 := pw_cell_below hb kn4; replace cn0 := pw_cell_below hb cn0; replace cn1 := pw_cell_below hb cn1; replace cn2 := pw_cell_below hb cn2; replace cn3 := pw_cell_below hb cn3; replace cn4 := pw_cell_below hb cn4; replace cn5 := pw_cell_below hb cn5; replace Lc := Lib.hid (Kd.C_below Lc.out hb); clear hb)))
  have hA := below_alloc (Below.refl w4.heap.size w4) (.cells #[.int .i64 N, .int .i64 Q] 23)
  replace ln5 := pw_cell_below hA ln5
  replace pn0 := pw_cell_below hA pn0
  replace pn1 := pw_cell_below hA pn1
  replace pn2 := pw_cell_below hA pn2
  replace pn3 := pw_cell_below hA pn3
  replace pn4 := pw_cell_below hA pn4
  replace pn5 := pw_cell_below hA pn5
  replace kn2 := pw_cell_below hA kn2
  replace kn3 := pw_cell_below hA kn3
  replace kn4 := pw_cell_below hA kn4
  replace cn0 := pw_cell_below hA cn0
  replace cn1 := pw_cell_below hA cn1
  replace cn2 := pw_cell_below hA cn2
  replace cn3 := pw_cell_below hA cn3
  replace cn4 := pw_cell_below hA cn4
  replace cn5 := pw_cell_below hA cn5
  replace Lc := Lib.hid (Kd.C_below Lc.out hA)
  have D6 := Lib.hid (below_step D5.out hA)
  clear hA
  have km := blk_new w4 (.cells #[.int .i64 N, .int .i64 Q] 23)
  have gem := D5.out.size
  generalize w4.alloc (.cells #[.int .i64 N, .int .i64 Q] 23) = Xm at *
  generalize w4.heap.size = bm at *
  have mn0 : Xm.cell? ⟨bm, 0, none⟩ = some (.int .i64 N) := blk_cell km 0
  have mn1 : Xm.cell? ⟨bm, 1, none⟩ = some (.int .i64 Q) := blk_cell km 1
  clear km gem
  go_upto_region 21 with (fail)
  have hA := below_alloc (Below.refl Xm.heap.size Xm) (.cells #[.int .i64 2, .string ty, .int .i64 0, .int .i64 0, .int .i64 ay, .slice (some ⟨Gk, 0, none⟩) 1 qk] 26)
  replace ln5 := pw_cell_below hA ln5
  replace pn0 := pw_cell_below hA pn0
  replace pn1 := pw_cell_below hA pn1
  replace pn2 := pw_cell_below hA pn2
  replace pn3 := pw_cell_below hA pn3
  replace pn4 := pw_cell_below hA pn4
  replace pn5 := pw_cell_below hA pn5
  replace kn2 := pw_cell_below hA kn2
  replace kn3 := pw_cell_below hA kn3
  replace kn4 := pw_cell_below hA kn4
  replace cn0 := pw_cell_below hA cn0
  replace cn1 := pw_cell_below hA cn1
  replace cn2 := pw_cell_below hA cn2
  replace cn3 := pw_cell_below hA cn3
  replace cn4 := pw_cell_below hA cn4
  replace cn5 := pw_cell_below hA cn5
  replace mn0 := pw_cell_below hA mn0
  replace mn1 := pw_cell_below hA mn1
  have D7 := Lib.hid (below_step D6.out hA)
  clear hA Lc hcc
  have kp := blk_new Xm (.cells #[.int .i64 2, .string ty, .int .i64 0, .int .i64 0, .int .i64 ay, .slice (some ⟨Gk, 0, none⟩) 1 qk] 26)
  generalize Xm.alloc (.cells #[.int .i64 2, .string ty, .int .i64 0, .int .i64 0, .int .i64 ay, .slice (some ⟨Gk, 0, none⟩) 1 qk] 26) = Xp at *
  generalize Xm.heap.size = bp at *
  have pb5 : Xp.cell? ⟨bp, 5, none⟩ = some (.slice (some ⟨Gk, 0, none⟩) 1 qk) := blk_cell kp 5
  clear kp
  go_quiet (fail)
  go_wp2
  go_ret
  exact ⟨rfl, pw_below_drewN D7.out _⟩
theorem cell_far {W : World} {p q : Addr} {v x : Value} (h : W.cell? q = some x) (hne : q.block ≠ p.block) : (W.setCell p v).cell? q = some x :=
  (World.cell?_of_block (w := W) (Below.heap_setCell W p v q.block hne)).trans h
set_option maxRecDepth 100000 in
set_option maxHeartbeats 4000000 in
theorem units_ok2 (n m : ByteArray) (hn : n.size ≤ 24) (hm : m.size ≤ 24) (h1 : decide (24 < (n.size : Int)) = false) (h2 : decide (24 < (m.size : Int)) = false) (x0 x1 x2 x5 x6 x7 : PTr.S41) (a3 a4 : Int) (tx ty : ByteArray) (ax ay N Q : Int) (at_ : Int) (hat : (at_ == 7 + (n.size : Int)) = true) (N1 Q1 : Int) (ha : Hid (Ex.unit_Amount.f n m = some (N1, Q1, 6))) (ha2 : Hid (Ex.unit_Amount.f n ⟨#[]⟩ = some (N, Q, 0))) (p : Int) (hsc : Hid (Ex.lex_Scan.f (srcU n m) = some ([x0, x1, x2, ⟨1, n, a3⟩, ⟨0, m, a4⟩, x5, x6, x7], 0, p))) (hp : Hid (Ex.tree_Parse.f (srcU n m) = some (0, ⟨#[]⟩, 0, 0, 0, (okU2 tx ty ax ay N Q m at_), 0, 0))) (w : World) (HG : Hid (UW w)) : Calls Tryz.prog 6 #[.string n, .string m] w fun e w' => e = .returned (.bool true) ∧ Below w.heap.size w w' := by
  go_enter Tryz.func6, Tryz.ntmps6
  go_upto_region 2 with ((go_at_call 8; go_loud (refine (Ex.small15.calls true _ HG.out rfl).mono ?_; rintro e w1 ⟨rfl, hb⟩; have D1 := Lib.hid hb; clear hb)))
  go_upto_region 5 with (fail)
  unfold srcU at hsc
  unfold srcU at hp
  generalize ((((⟨#[120, 32, 123, 32, 121, 32]⟩ : ByteArray) ++ n) ++ (⟨#[32]⟩ : ByteArray)) ++ m) ++ (⟨#[59, 32, 125]⟩ : ByteArray) = s at *
  go_upto_region 8 with ((go_at_call 14; go_loud (refine (Ex.lex_Scan.calls s [x0, x1, x2, ⟨1, n, a3⟩, ⟨0, m, a4⟩, x5, x6, x7] 0 p _ (HG.out.step D1.out) hsc.out).mono ?_; rintro e w2 ⟨v0, rfl, hR, hb⟩; have D2 := Lib.hid (below_step D1.out hb); have Rt := Lib.hid hR; obtain ⟨At, ct, ev⟩ := Kd.R_slice hR; subst ev; clear hR; clear hb)))
  obtain ⟨Gt, qt, et, -⟩ := Kd.R_form Rt.out (by simp)
  have et' : Value.slice At 8 ct = .slice (some ⟨Gt, 0, none⟩) 8 qt := et
  injection et' with t1 t2 t3
  clear t2 et
  subst t1 t3
  obtain ⟨y3, m3⟩ := tok_at Rt.out 3 (by simp)
  obtain ⟨y4, m4⟩ := tok_at Rt.out 4 (by simp)
  have tk0 : w2.cell? ⟨Gt, 9, none⟩ = some (.int .i64 1) := y3
  have tk1 : w2.cell? ⟨Gt, 10, none⟩ = some (.string n) := m3
  have tk2 : w2.cell? ⟨Gt, 12, none⟩ = some (.int .i64 0) := y4
  have tk3 : w2.cell? ⟨Gt, 13, none⟩ = some (.string m) := m4
  clear y3 m3 y4 m4 Rt
  go_upto_region 10 with (fail)
  clear tk0 tk1 tk2 tk3
  go_upto_region 11 with ((go_at_call 12; go_loud (refine (Ex.tree_Parse.calls s 0 ⟨#[]⟩ 0 0 0 (okU2 tx ty ax ay N Q m at_) 0 0 _ (HG.out.step D2.out) hp.out).mono ?_; rintro e w3 ⟨v0, rfl, hR, hb⟩; have D3 := Lib.hid (below_step D2.out hb); have Rc := Lib.hid hR; obtain ⟨Ac, cc, ev⟩ := Kd.R_slice hR; have ev2 : v0 = .slice Ac 1 cc := ev; clear ev; subst ev2; have Kc := Lib.hid (blk_new w3 (.cells #[.int .i64 0, .string (⟨#[]⟩ : ByteArray), .int .i64 0, .int .i64 0, .int .i64 0, .slice Ac 1 cc] 26)); clear hR; clear hb)))
  obtain ⟨Gl, ql, el, -⟩ := Kd.R_form Rc.out Nat.zero_lt_one
  have el' : Value.slice Ac 1 cc = .slice (some ⟨Gl, 0, none⟩) 1 ql := el
  injection el' with t1 t2 t3
  clear t2 el
  subst t1 t3
  obtain ⟨v1, y1, r1⟩ := node_at Rc.out 0 (by simp)
  obtain ⟨Gp, qp, e1, -⟩ := Kd.R_form r1 Nat.zero_lt_one
  have e1' : v1 = .slice (some ⟨Gp, 0, none⟩) 1 qp := e1
  subst e1'
  obtain ⟨v2, y2, r2⟩ := node_at r1 0 (by simp)
  obtain ⟨Gk, qk, e2, -⟩ := Kd.R_form r2 Nat.zero_lt_two
  have e2' : v2 = .slice (some ⟨Gk, 0, none⟩) 2 qk := e2
  subst e2'
  obtain ⟨v3, y3, r3⟩ := node_at r2 0 (by simp)
  obtain ⟨v4, y4, r4⟩ := node_at r2 1 (by simp)
  have ln5 : w3.cell? ⟨Gl, 5, none⟩ = some (.slice (some ⟨Gp, 0, none⟩) 1 qp) := y1 5 _ rfl
  have pn0 : w3.cell? ⟨Gp, 0, none⟩ = some (.int .i64 2) := y2 0 _ rfl
  have pn1 : w3.cell? ⟨Gp, 1, none⟩ = some (.string ty) := y2 1 _ rfl
  have pn2 : w3.cell? ⟨Gp, 2, none⟩ = some (.int .i64 0) := y2 2 _ rfl
  have pn3 : w3.cell? ⟨Gp, 3, none⟩ = some (.int .i64 0) := y2 3 _ rfl
  have pn4 : w3.cell? ⟨Gp, 4, none⟩ = some (.int .i64 ay) := y2 4 _ rfl
  have pn5 : w3.cell? ⟨Gp, 5, none⟩ = some (.slice (some ⟨Gk, 0, none⟩) 2 qk) := y2 5 _ rfl
  have kn2 : w3.cell? ⟨Gk, 2, none⟩ = some (.int .i64 N) := y3 2 _ rfl
  have kn3 : w3.cell? ⟨Gk, 3, none⟩ = some (.int .i64 Q) := y3 3 _ rfl
  have kn4 : w3.cell? ⟨Gk, 4, none⟩ = some (.int .i64 6) := y3 4 _ rfl
  have ko0 : w3.cell? ⟨Gk, 6, none⟩ = some (.int .i64 3) := y4 0 _ rfl
  have ko1 : w3.cell? ⟨Gk, 7, none⟩ = some (.string m) := y4 1 _ rfl
  have ko4 : w3.cell? ⟨Gk, 10, none⟩ = some (.int .i64 at_) := y4 4 _ rfl
  clear y1 y2 y3 r1 r2 r3 y4 r4
  have hA := below_alloc (Below.refl w3.heap.size w3) (.cells #[.int .i64 0, .string (⟨#[]⟩ : ByteArray), .int .i64 0, .int .i64 0, .int .i64 0, .slice (some ⟨Gl, 0, none⟩) 1 cc] 26)
  replace ln5 := pw_cell_below hA ln5
  replace pn0 := pw_cell_below hA pn0
  replace pn1 := pw_cell_below hA pn1
  replace pn2 := pw_cell_below hA pn2
  replace pn3 := pw_cell_below hA pn3
  replace pn4 := pw_cell_below hA pn4
  replace pn5 := pw_cell_below hA pn5
  replace kn2 := pw_cell_below hA kn2
  replace kn3 := pw_cell_below hA kn3
  replace kn4 := pw_cell_below hA kn4
  replace ko0 := pw_cell_below hA ko0
  replace ko1 := pw_cell_below hA ko1
  replace ko4 := pw_cell_below hA ko4
  have D4 := Lib.hid (below_step D3.out hA)
  have Lc := Lib.hid (Kd.C_below (Kd.R_reads' Rc.out).2.2 hA)
  have hcc := Lib.hid (Kd.R_reads' Rc.out).2.1
  clear hA Rc
  have kc := Kc.out
  clear Kc
  generalize w3.alloc (.cells #[.int .i64 0, .string (⟨#[]⟩ : ByteArray), .int .i64 0, .int .i64 0, .int .i64 0, .slice (some ⟨Gl, 0, none⟩) 1 cc] 26) = Xc at *
  generalize w3.heap.size = bc at *
  have cn0 : Xc.cell? ⟨bc, 0, none⟩ = some (.int .i64 0) := blk_cell kc 0
  have cn1 : Xc.cell? ⟨bc, 1, none⟩ = some (.string ⟨#[]⟩) := blk_cell kc 1
  have cn2 : Xc.cell? ⟨bc, 2, none⟩ = some (.int .i64 0) := blk_cell kc 2
  have cn3 : Xc.cell? ⟨bc, 3, none⟩ = some (.int .i64 0) := blk_cell kc 3
  have cn4 : Xc.cell? ⟨bc, 4, none⟩ = some (.int .i64 0) := blk_cell kc 4
  have cn5 : Xc.cell? ⟨bc, 5, none⟩ = some (.slice (some ⟨Gl, 0, none⟩) 1 cc) := blk_cell kc 5
  clear kc
  go_upto_region 12 with ((go_at_call 16; go_loud (refine (Ex.unit_Amount.calls n m N1 Q1 6 _ (HG.out.step D4.out) ha.out).mono ?_; rintro e w4 ⟨rfl, hb⟩; have D5 := Lib.hid (below_step D4.out hb); replace ln5 := pw_cell_below hb ln5; replace pn0 := pw_cell_below hb pn0; replace pn1 := pw_cell_below hb pn1; replace pn2 := pw_cell_below hb pn2; replace pn3 := pw_cell_below hb pn3; replace pn4 := pw_cell_below hb pn4; replace pn5 := pw_cell_below hb pn5; replace kn2 := pw_cell_below hb kn2; replace kn3 := pw_cell_below hb kn3; replace kn4 := pw_cell_below hb kn4; replace ko0 := pw_cell_below hb ko0; replace ko1 := pw_cell_below hb ko1; replace ko4 := pw_cell_below hb ko4; replace cn0 := pw_cell_below hb cn0; replace cn1 := pw_cell_below hb cn1; replace cn2 := pw_cell_below hb cn2; replace cn3 := pw_cell_below hb cn3; replace cn4 := pw_cell_below hb cn4; replace cn5 := pw_cell_below hb cn5; replace Lc := Lib.hid (Kd.C_below Lc.out hb); clear hb)))
  have qln5 := World.block_lt_of_cell? w4 _ ln5
  have qpn0 := World.block_lt_of_cell? w4 _ pn0
  have qpn1 := World.block_lt_of_cell? w4 _ pn1
  have qpn2 := World.block_lt_of_cell? w4 _ pn2
  have qpn3 := World.block_lt_of_cell? w4 _ pn3
  have qpn4 := World.block_lt_of_cell? w4 _ pn4
  have qpn5 := World.block_lt_of_cell? w4 _ pn5
  have qkn2 := World.block_lt_of_cell? w4 _ kn2
  have qkn3 := World.block_lt_of_cell? w4 _ kn3
  have qkn4 := World.block_lt_of_cell? w4 _ kn4
  have qko0 := World.block_lt_of_cell? w4 _ ko0
  have qko1 := World.block_lt_of_cell? w4 _ ko1
  have qko4 := World.block_lt_of_cell? w4 _ ko4
  have qcn0 := World.block_lt_of_cell? w4 _ cn0
  have qcn1 := World.block_lt_of_cell? w4 _ cn1
  have qcn2 := World.block_lt_of_cell? w4 _ cn2
  have qcn3 := World.block_lt_of_cell? w4 _ cn3
  have qcn4 := World.block_lt_of_cell? w4 _ cn4
  have qcn5 := World.block_lt_of_cell? w4 _ cn5
  have hA := below_alloc (Below.refl w4.heap.size w4) (.cells #[.int .i64 N1, .int .i64 Q1] 23)
  replace ln5 := pw_cell_below hA ln5
  replace pn0 := pw_cell_below hA pn0
  replace pn1 := pw_cell_below hA pn1
  replace pn2 := pw_cell_below hA pn2
  replace pn3 := pw_cell_below hA pn3
  replace pn4 := pw_cell_below hA pn4
  replace pn5 := pw_cell_below hA pn5
  replace kn2 := pw_cell_below hA kn2
  replace kn3 := pw_cell_below hA kn3
  replace kn4 := pw_cell_below hA kn4
  replace ko0 := pw_cell_below hA ko0
  replace ko1 := pw_cell_below hA ko1
  replace ko4 := pw_cell_below hA ko4
  replace cn0 := pw_cell_below hA cn0
  replace cn1 := pw_cell_below hA cn1
  replace cn2 := pw_cell_below hA cn2
  replace cn3 := pw_cell_below hA cn3
  replace cn4 := pw_cell_below hA cn4
  replace cn5 := pw_cell_below hA cn5
  replace Lc := Lib.hid (Kd.C_below Lc.out hA)
  have D6 := Lib.hid (below_step D5.out hA)
  clear hA
  have km := blk_new w4 (.cells #[.int .i64 N1, .int .i64 Q1] 23)
  have gem := D5.out.size
  generalize w4.alloc (.cells #[.int .i64 N1, .int .i64 Q1] 23) = Xm at *
  generalize w4.heap.size = bm at *
  have mn0 : Xm.cell? ⟨bm, 0, none⟩ = some (.int .i64 N1) := blk_cell km 0
  have mn1 : Xm.cell? ⟨bm, 1, none⟩ = some (.int .i64 Q1) := blk_cell km 1
  go_upto_region 16 with ((go_at_call 16; go_loud (refine (Ex.unit_Amount.calls n ⟨#[]⟩ N Q 0 _ (HG.out.step D6.out) ha2.out).mono ?_; rintro e w5 ⟨rfl, hb⟩; have D7 := Lib.hid (below_step D6.out hb); replace ln5 := pw_cell_below hb ln5; replace pn0 := pw_cell_below hb pn0; replace pn1 := pw_cell_below hb pn1; replace pn2 := pw_cell_below hb pn2; replace pn3 := pw_cell_below hb pn3; replace pn4 := pw_cell_below hb pn4; replace pn5 := pw_cell_below hb pn5; replace kn2 := pw_cell_below hb kn2; replace kn3 := pw_cell_below hb kn3; replace kn4 := pw_cell_below hb kn4; replace ko0 := pw_cell_below hb ko0; replace ko1 := pw_cell_below hb ko1; replace ko4 := pw_cell_below hb ko4; replace cn0 := pw_cell_below hb cn0; replace cn1 := pw_cell_below hb cn1; replace cn2 := pw_cell_below hb cn2; replace cn3 := pw_cell_below hb cn3; replace cn4 := pw_cell_below hb cn4; replace cn5 := pw_cell_below hb cn5; replace mn0 := pw_cell_below hb mn0; replace mn1 := pw_cell_below hb mn1; replace Lc := Lib.hid (Kd.C_below Lc.out hb); replace km := blk_below km hb; have mf0 := blk_frozen km 0; have mf1 := blk_frozen km 1; clear hb)))
  replace ln5 := cell_far (p := ⟨bm, 1, none⟩) (v := .int .i64 Q) (cell_far (p := ⟨bm, 0, none⟩) (v := .int .i64 N) ln5 (Nat.ne_of_lt qln5)) (Nat.ne_of_lt qln5)
  clear qln5
  replace pn0 := cell_far (p := ⟨bm, 1, none⟩) (v := .int .i64 Q) (cell_far (p := ⟨bm, 0, none⟩) (v := .int .i64 N) pn0 (Nat.ne_of_lt qpn0)) (Nat.ne_of_lt qpn0)
  clear qpn0
  replace pn1 := cell_far (p := ⟨bm, 1, none⟩) (v := .int .i64 Q) (cell_far (p := ⟨bm, 0, none⟩) (v := .int .i64 N) pn1 (Nat.ne_of_lt qpn1)) (Nat.ne_of_lt qpn1)
  clear qpn1
  replace pn2 := cell_far (p := ⟨bm, 1, none⟩) (v := .int .i64 Q) (cell_far (p := ⟨bm, 0, none⟩) (v := .int .i64 N) pn2 (Nat.ne_of_lt qpn2)) (Nat.ne_of_lt qpn2)
  clear qpn2
  replace pn3 := cell_far (p := ⟨bm, 1, none⟩) (v := .int .i64 Q) (cell_far (p := ⟨bm, 0, none⟩) (v := .int .i64 N) pn3 (Nat.ne_of_lt qpn3)) (Nat.ne_of_lt qpn3)
  clear qpn3
  replace pn4 := cell_far (p := ⟨bm, 1, none⟩) (v := .int .i64 Q) (cell_far (p := ⟨bm, 0, none⟩) (v := .int .i64 N) pn4 (Nat.ne_of_lt qpn4)) (Nat.ne_of_lt qpn4)
  clear qpn4
  replace pn5 := cell_far (p := ⟨bm, 1, none⟩) (v := .int .i64 Q) (cell_far (p := ⟨bm, 0, none⟩) (v := .int .i64 N) pn5 (Nat.ne_of_lt qpn5)) (Nat.ne_of_lt qpn5)
  clear qpn5
  replace kn2 := cell_far (p := ⟨bm, 1, none⟩) (v := .int .i64 Q) (cell_far (p := ⟨bm, 0, none⟩) (v := .int .i64 N) kn2 (Nat.ne_of_lt qkn2)) (Nat.ne_of_lt qkn2)
  clear qkn2
  replace kn3 := cell_far (p := ⟨bm, 1, none⟩) (v := .int .i64 Q) (cell_far (p := ⟨bm, 0, none⟩) (v := .int .i64 N) kn3 (Nat.ne_of_lt qkn3)) (Nat.ne_of_lt qkn3)
  clear qkn3
  replace kn4 := cell_far (p := ⟨bm, 1, none⟩) (v := .int .i64 Q) (cell_far (p := ⟨bm, 0, none⟩) (v := .int .i64 N) kn4 (Nat.ne_of_lt qkn4)) (Nat.ne_of_lt qkn4)
  clear qkn4
  replace ko0 := cell_far (p := ⟨bm, 1, none⟩) (v := .int .i64 Q) (cell_far (p := ⟨bm, 0, none⟩) (v := .int .i64 N) ko0 (Nat.ne_of_lt qko0)) (Nat.ne_of_lt qko0)
  clear qko0
  replace ko1 := cell_far (p := ⟨bm, 1, none⟩) (v := .int .i64 Q) (cell_far (p := ⟨bm, 0, none⟩) (v := .int .i64 N) ko1 (Nat.ne_of_lt qko1)) (Nat.ne_of_lt qko1)
  clear qko1
  replace ko4 := cell_far (p := ⟨bm, 1, none⟩) (v := .int .i64 Q) (cell_far (p := ⟨bm, 0, none⟩) (v := .int .i64 N) ko4 (Nat.ne_of_lt qko4)) (Nat.ne_of_lt qko4)
  clear qko4
  replace cn0 := cell_far (p := ⟨bm, 1, none⟩) (v := .int .i64 Q) (cell_far (p := ⟨bm, 0, none⟩) (v := .int .i64 N) cn0 (Nat.ne_of_lt qcn0)) (Nat.ne_of_lt qcn0)
  clear qcn0
  replace cn1 := cell_far (p := ⟨bm, 1, none⟩) (v := .int .i64 Q) (cell_far (p := ⟨bm, 0, none⟩) (v := .int .i64 N) cn1 (Nat.ne_of_lt qcn1)) (Nat.ne_of_lt qcn1)
  clear qcn1
  replace cn2 := cell_far (p := ⟨bm, 1, none⟩) (v := .int .i64 Q) (cell_far (p := ⟨bm, 0, none⟩) (v := .int .i64 N) cn2 (Nat.ne_of_lt qcn2)) (Nat.ne_of_lt qcn2)
  clear qcn2
  replace cn3 := cell_far (p := ⟨bm, 1, none⟩) (v := .int .i64 Q) (cell_far (p := ⟨bm, 0, none⟩) (v := .int .i64 N) cn3 (Nat.ne_of_lt qcn3)) (Nat.ne_of_lt qcn3)
  clear qcn3
  replace cn4 := cell_far (p := ⟨bm, 1, none⟩) (v := .int .i64 Q) (cell_far (p := ⟨bm, 0, none⟩) (v := .int .i64 N) cn4 (Nat.ne_of_lt qcn4)) (Nat.ne_of_lt qcn4)
  clear qcn4
  replace cn5 := cell_far (p := ⟨bm, 1, none⟩) (v := .int .i64 Q) (cell_far (p := ⟨bm, 0, none⟩) (v := .int .i64 N) cn5 (Nat.ne_of_lt qcn5)) (Nat.ne_of_lt qcn5)
  clear qcn5
  have D8 := Lib.hid ((D7.out.setCell (p := ⟨bm, 0, none⟩) gem (.int .i64 N)).setCell (p := ⟨bm, 1, none⟩) gem (.int .i64 Q))
  have km2 := blk_set (blk_set km 0 (.int .i64 N)) 1 (.int .i64 Q)
  clear mn0 mn1 mf0 mf1 km Lc gem
  generalize ((w5.setCell ⟨bm, 0, none⟩ (.int .i64 N)).setCell ⟨bm, 1, none⟩ (.int .i64 Q)) = Xs at *
  have mn0 : Xs.cell? ⟨bm, 0, none⟩ = some (.int .i64 N) := blk_cell km2 0
  have mn1 : Xs.cell? ⟨bm, 1, none⟩ = some (.int .i64 Q) := blk_cell km2 1
  clear km2
  go_upto_region 21 with (fail)
  have hA := below_alloc (Below.refl Xs.heap.size Xs) (.cells #[.int .i64 2, .string ty, .int .i64 0, .int .i64 0, .int .i64 ay, .slice (some ⟨Gk, 0, none⟩) 2 qk] 26)
  replace ln5 := pw_cell_below hA ln5
  replace pn0 := pw_cell_below hA pn0
  replace pn1 := pw_cell_below hA pn1
  replace pn2 := pw_cell_below hA pn2
  replace pn3 := pw_cell_below hA pn3
  replace pn4 := pw_cell_below hA pn4
  replace pn5 := pw_cell_below hA pn5
  replace kn2 := pw_cell_below hA kn2
  replace kn3 := pw_cell_below hA kn3
  replace kn4 := pw_cell_below hA kn4
  replace ko0 := pw_cell_below hA ko0
  replace ko1 := pw_cell_below hA ko1
  replace ko4 := pw_cell_below hA ko4
  replace cn0 := pw_cell_below hA cn0
  replace cn1 := pw_cell_below hA cn1
  replace cn2 := pw_cell_below hA cn2
  replace cn3 := pw_cell_below hA cn3
  replace cn4 := pw_cell_below hA cn4
  replace cn5 := pw_cell_below hA cn5
  replace mn0 := pw_cell_below hA mn0
  replace mn1 := pw_cell_below hA mn1
  have D9 := Lib.hid (below_step D8.out hA)
  clear hA hcc
  have kp := blk_new Xs (.cells #[.int .i64 2, .string ty, .int .i64 0, .int .i64 0, .int .i64 ay, .slice (some ⟨Gk, 0, none⟩) 2 qk] 26)
  generalize Xs.alloc (.cells #[.int .i64 2, .string ty, .int .i64 0, .int .i64 0, .int .i64 ay, .slice (some ⟨Gk, 0, none⟩) 2 qk] 26) = Xp at *
  generalize Xs.heap.size = bp at *
  have pb5 : Xp.cell? ⟨bp, 5, none⟩ = some (.slice (some ⟨Gk, 0, none⟩) 2 qk) := blk_cell kp 5
  clear kp
  go_quiet (fail)
  go_wp2
  go_ret
  exact ⟨rfl, pw_below_drewN D9.out _⟩
end Go.Proofs.YtahjkibjcibpgaaGreatDoor.L
end
section
namespace Go.Proofs.YtahjkibjcibpgaaGreatDoor.L
open Go.RowKit Go.Proofs.YtahjkibjcibpgaaGreatDoor.U Go.Proofs.YtahjkibjcibpgaaGreatDoorW.PrintWords Go.Proofs.YtahjkibjcibpgaaGreatDoor.PTr
theorem amtOf_err (W F k dim nu de : Nat) : (amtOf W F k dim nu de).2.2 = 0 ∨ (amtOf W F k dim nu de).2.2 = 7 := by
  unfold amtOf
  split
  · exact .inl rfl
  · exact .inr rfl
theorem known_iff (m : ByteArray) : knownP m = true ↔ unitOf m.data.toList ≠ none := by
  unfold knownP
  have h := amt_dec 0 (by omega) m.data.toList
  rw [Lib.decDigits_one (by omega)] at h
  rw [show ([48] : List UInt8) = [UInt8.ofNat (48 + 0)] from rfl, h]
  cases hu : unitOf m.data.toList with
  | none => simp
  | some u =>
    obtain ⟨dim, nu, de⟩ := u
    simp only
    have := amtOf_err 0 0 0 dim nu de
    simp
    omega
theorem amt_cases (n m : List UInt8) : (amt n m = (0, 0, 2) ∧ amt n [] = (0, 0, 2)) ∨ (unitOf m = none ∧ amt n m = (0, 0, 6)) ∨ (unitOf m ≠ none ∧ (amt n m).2.2 ≠ 6) := by
  unfold amt
  simp only
  split
  · exact .inl ⟨rfl, rfl⟩
  · right
    cases hu : unitOf m with
    | none => exact .inl ⟨rfl, rfl⟩
    | some u =>
      obtain ⟨dim, nu, de⟩ := u
      right
      refine ⟨by simp, ?_⟩
      simp only
      rcases amtOf_err (val (Lib.cut n [46]).1) (val (Lib.cut n [46]).2.1) (Lib.cut n [46]).2.1.length dim nu de with h | h <;> rw [h] <;> decide
def pcsU (n m : List UInt8) : Pcs := [(0, [120], [32]), (3, [123], [32]), (0, [121], [32]), (1, n, [32]), (0, m, []), (3, [59], [32]), (3, [125], [])]
theorem cat_pcsU (n m : ByteArray) : cat (pcsU n.data.toList m.data.toList) = (srcU n m).data.toList := by
  unfold pcsU srcU
  simp [cat]
theorem gx : gtok 0 [120] := by unfold gtok; decide +kernel
theorem gy : gtok 0 [121] := by unfold gtok; decide +kernel
theorem okP_pcsU {n m : List UInt8} (hn : gtok 1 n) (hm : gtok 0 m) : okP (pcsU n m) := by
  unfold pcsU
  refine ⟨gx.1, gx.2, sp32, safe_bnd (safe_cons _ _ (by decide)) 0, g123.1, g123.2, sp32, bnd3 (by unfold noeq; simp), gy.1, gy.2, sp32, safe_bnd (safe_cons _ _ (by decide)) 0, hn.1, hn.2, sp32, safe_bnd (safe_cons _ _ (by decide)) 1,
    hm.1, hm.2, sp0, safe_bnd (safe_cons _ _ (by decide)) 0, g59.1, g59.2, sp32, bnd3 (by unfold noeq; simp), g125.1, g125.2, sp0, bnd3 (by unfold noeq; simp [cat]), trivial⟩
def tokU (n m : ByteArray) : List S41 := [⟨0, ⟨#[120]⟩, 0⟩, ⟨3, ⟨#[123]⟩, 2⟩, ⟨0, ⟨#[121]⟩, 4⟩, ⟨1, n, 6⟩, ⟨0, m, 7 + (n.size : Int)⟩, ⟨3, ⟨#[59]⟩, 7 + (n.size : Int) + (m.size : Int)⟩, ⟨3, ⟨#[125]⟩, 9 + (n.size : Int) + (m.size : Int)⟩, ⟨4, ⟨#[]⟩, 10 + (n.size : Int) + (m.size : Int)⟩]
theorem src_size (n m : ByteArray) : (srcU n m).data.toList.length = 10 + n.size + m.size := by
  unfold srcU
  have h1 := Lib.size_eq n
  have h2 := Lib.size_eq m
  simp at h1 h2 ⊢
  omega
theorem scanU {n m : ByteArray} (hn : gtok 1 n.data.toList) (hm : gtok 0 m.data.toList) (hl : n.size ≤ 24 ∧ m.size ≤ 24) :
    (scanL (srcU n m).data.toList).1.map toS = tokU n m ∧ (scanL (srcU n m).data.toList).2.1 = 0 ∧ (scanL (srcU n m).data.toList).2.2 = 0 := by
  have hs := src_size n m
  have h := scanL_cat _ (okP_pcsU hn hm) (by rw [cat_pcsU, hs]; omega)
  rw [cat_pcsU] at h
  rw [h]
  refine ⟨?_, rfl, rfl⟩
  have h1 := Lib.size_eq n
  have h2 := Lib.size_eq m
  unfold pcsU
  simp only [toks, tokOf, toS, List.cons_append, List.nil_append, List.map_cons, List.map_nil, List.length_cons, List.length_nil, hs]
  unfold tokU
  simp only [← h1, ← h2]
  simp
  omega
section
variable {n m : ByteArray}
theorem tU0 : tokAt (tokU n m) 0 = ⟨0, ⟨#[120]⟩, 0⟩ := rfl
theorem tU1 : tokAt (tokU n m) 1 = ⟨3, ⟨#[123]⟩, 2⟩ := rfl
theorem tU2 : tokAt (tokU n m) 2 = ⟨0, ⟨#[121]⟩, 4⟩ := rfl
theorem tU3 : tokAt (tokU n m) 3 = ⟨1, n, 6⟩ := rfl
theorem tU4 : tokAt (tokU n m) 4 = ⟨0, m, 7 + (n.size : Int)⟩ := rfl
theorem tU7 : tokAt (tokU n m) 7 = ⟨4, ⟨#[]⟩, 10 + (n.size : Int) + (m.size : Int)⟩ := rfl
theorem rl_of_pl (r : PR (List S26)) (h : PL (tokU n m) 3 [] r) :
    (∀ e, r = .error e → RL (tokU n m) 0 [] (.error e)) ∧ (∀ ks, r = .ok (ks, 6) → RL (tokU n m) 0 [] (.ok ([⟨1, ⟨#[120]⟩, ⟨0, 0⟩, 0, [⟨2, ⟨#[121]⟩, ⟨0, 0⟩, 4, ks⟩]⟩], 7))) := by
  have c0 : ((tokAt (tokU n m) 0).f0 == 0) = true := by rw [tU0]; rfl
  have c2 : ((tokAt (tokU n m) 2).f0 == 0) = true := by rw [tU2]; rfl
  have s1 : ((!((tokAt (tokU n m) 1).f0 == 0)) && !((tokAt (tokU n m) 1).f0 == 2)) = true := by rw [tU1]; rfl
  have b1 : isP (tokU n m) 1 ⟨#[123]⟩ = true := isP_of (x := [123]) rfl rfl
  have b2 : isP (tokU n m) 2 ⟨#[125]⟩ = false := by unfold isP; rw [tU2]; rfl
  have b6 : isP (tokU n m) 6 ⟨#[125]⟩ = true := isP_of (x := [125]) rfl rfl
  have r0 : ((tokAt (tokU n m) 0).f0 == 4) = false := by rw [tU0]; rfl
  have r7 : ((tokAt (tokU n m) 7).f0 == 4) = true := by rw [tU7]; rfl
  have hDA : DA (tokU n m) 1 [] (.ok ([], 1)) := .done 1 [] s1
  constructor
  · rintro e rfl
    exact .err 0 [] e r0 (.inr ⟨c0, [], 1, hDA, .inr ⟨b1, .inl ⟨e, .err 2 [] e b2 (.inr ⟨c2, .inl ⟨e, h, rfl⟩⟩), rfl⟩⟩⟩)
  · rintro ks rfl
    have hPP : PP (tokU n m) 2 (.ok (⟨2, ⟨#[121]⟩, ⟨0, 0⟩, 4, ks⟩, 6)) := .inr ⟨c2, .inr ⟨ks, 6, h, rfl⟩⟩
    have hDB : DB (tokU n m) 2 [] (.ok ([⟨2, ⟨#[121]⟩, ⟨0, 0⟩, 4, ks⟩], 7)) := .more 2 [] _ 6 _ b2 hPP (.done 6 _ b6)
    have hDP : DP (tokU n m) 0 (.ok (⟨1, ⟨#[120]⟩, ⟨0, 0⟩, 0, [⟨2, ⟨#[121]⟩, ⟨0, 0⟩, 4, ks⟩]⟩, 7)) := .inr ⟨c0, [], 1, hDA, .inr ⟨b1, .inr ⟨_, _, hDB, rfl⟩⟩⟩
    exact .more 0 [] _ 7 _ r0 hDP (.done 7 _ r7)
theorem v3 : V (tokU n m) 3 0 (amountP (tokU n m) 3) :=
  V.amount (by unfold isP; rw [tU3]; rfl) (by rw [tU3]; rfl) (by rw [tU3]; rfl)
theorem s3 : isP (tokU n m) 3 ⟨#[59]⟩ = false := by unfold isP; rw [tU3]; rfl
theorem s4 : isP (tokU n m) 4 ⟨#[59]⟩ = false := by unfold isP; rw [tU4]; rfl
theorem s5 : isP (tokU n m) 5 ⟨#[59]⟩ = true := isP_of (x := [59]) rfl rfl
theorem unit4 : unitP (tokU n m) 4 = if knownP m = true then (m, 5) else (⟨#[]⟩, 4) := by
  unfold unitP
  rw [tU4]
  simp
theorem am3 : amountP (tokU n m) 3 = match amt n.data.toList (unitP (tokU n m) 4).1.data.toList with
    | (a, d, e) => if e = 0 then .ok (⟨5, ⟨#[]⟩, ⟨a, d⟩, 6, []⟩, (unitP (tokU n m) 4).2) else .error (7, 6) := by
  unfold amountP
  rw [tU3]
  rfl
end
theorem sizes {n : ByteArray} (h : ¬ 24 < (n.size : Int)) : n.size ≤ 24 := by omega
theorem toList7 {α : Type} (l : List α) (h : l.length = 7) : ∃ a b c d e f g, l = [a, b, c, d, e, f, g] := by
  rcases l with _ | ⟨a, _ | ⟨b, _ | ⟨c, _ | ⟨d, _ | ⟨e, _ | ⟨f, _ | ⟨g, _ | ⟨i, r⟩⟩⟩⟩⟩⟩⟩⟩ <;> simp at h
  exact ⟨_, _, _, _, _, _, _, rfl⟩
theorem bne_of {a b : ByteArray} (h : a ≠ b) : (a.toList == b.toList) = false := by
  rw [Lib.toList_data, Lib.toList_data]
  simpa using fun e => h (bytes_ext e)
theorem units_calls (n m : ByteArray) (w : World) (hg : UW w) : Calls Tryz.prog 6 #[.string n, .string m] w fun e w' => e = .returned (.bool true) ∧ Below w.heap.size w w' := by
  by_cases h1 : 24 < (n.size : Int)
  · exact units_long1 n m (decide_eq_true h1) w (Lib.hid hg)
  · have b1 := decide_eq_false h1
    by_cases h2 : 24 < (m.size : Int)
    · exact units_long2 n m b1 (decide_eq_true h2) w (Lib.hid hg)
    · have b2 := decide_eq_false h2
      have hn := sizes h1
      have hm := sizes h2
      have hss := src_size n m
      by_cases hs : (scanL (srcU n m).data.toList).2.1 = 0
      · obtain ⟨ts, hc, hl, hsc⟩ := ch_of_scanL hs
        have hT : Ex.lex_Scan.f (srcU n m) = some (endT ts (srcU n m).data.toList.length, 0, 0) := by
          unfold Ex.lex_Scan.f
          rw [hsc]
          rfl
        by_cases h7 : ts.length = 7
        · obtain ⟨t0, t1, t2, t3, t4, t5, t6, rfl⟩ := toList7 ts h7
          have hg3 := Ch.good hc t3 (by simp)
          have hg4 := Ch.good hc t4 (by simp)
          have hT2 : Ex.lex_Scan.f (srcU n m) = some ([toS t0, toS t1, toS t2, toS t3, toS t4, toS t5, toS t6, toS ⟨4, [], (srcU n m).data.toList.length⟩], 0, 0) := hT
          by_cases k3 : t3.kind = 1
          · have e3 : toS t3 = ⟨1, ⟨t3.text.toArray⟩, (t3.at_ : Nat)⟩ := by unfold toS; rw [k3]; rfl
            rw [e3] at hT2
            by_cases x3 : (⟨t3.text.toArray⟩ : ByteArray) = n
            · rw [x3] at hT2
              by_cases k4 : t4.kind = 0
              · have e4 : toS t4 = ⟨0, ⟨t4.text.toArray⟩, (t4.at_ : Nat)⟩ := by unfold toS; rw [k4]; rfl
                rw [e4] at hT2
                by_cases x4 : (⟨t4.text.toArray⟩ : ByteArray) = m
                · clear hT hT2 e3 e4
                  have hgn : gtok 1 n.data.toList := by
                    have h := hg3
                    have hr : rawT t3 = n.data.toList := by unfold rawT; rw [if_neg (by omega), ← x3]
                    unfold good at h
                    rw [k3, hr] at h
                    exact h
                  have hgm : gtok 0 m.data.toList := by
                    have h := hg4
                    have hr : rawT t4 = m.data.toList := by unfold rawT; rw [if_neg (by omega), ← x4]
                    unfold good at h
                    rw [k4, hr] at h
                    exact h
                  clear hsc hc x3 x4
                  obtain ⟨z1, z2, z3⟩ := scanU hgn hgm ⟨hn, hm⟩
                  have hT3 : Ex.lex_Scan.f (srcU n m) = some (tokU n m, 0, 0) := by
                    unfold Ex.lex_Scan.f
                    rw [z1, z2, z3]
                    rfl
                  have hsr : srcT (srcU n m) = tokU n m := z1
                  have ha : Ex.unit_Amount.f n m = some (amt n.data.toList m.data.toList) := by unfold Ex.unit_Amount.f; rw [if_pos (by omega)]
                  have ha2 : Ex.unit_Amount.f n ⟨#[]⟩ = some (amt n.data.toList []) := by unfold Ex.unit_Amount.f; rw [if_pos (by omega)]
                  have hv := @v3 n m
                  have hfault : ∀ e, RL (tokU n m) 0 [] (.error e) → Ex.tree_Parse.f (srcU n m) = some (0, ⟨#[]⟩, 0, 0, 0, [], e.1, e.2) := fun e h => Ex.tree_Parse.f_fault z2 (by rw [hsr]; exact h)
                  have hok : ∀ l j, RL (tokU n m) 0 [] (.ok (l, j)) → Ex.tree_Parse.f (srcU n m) = some (0, ⟨#[]⟩, 0, 0, 0, l, 0, 0) := fun l j h => Ex.tree_Parse.f_ok z2 (by rw [hsr]; exact h)
                  by_cases hk : knownP m = true
                  · have hu := (known_iff m).1 hk
                    rw [am3, unit4, if_pos hk] at hv
                    generalize hx : amt n.data.toList m.data.toList = x at hv ha
                    obtain ⟨N, Q, g⟩ := x
                    simp only at hv
                    have g6 : g ≠ 6 := by
                      rcases amt_cases n.data.toList m.data.toList with ⟨h, _⟩ | ⟨h, _⟩ | ⟨_, h⟩
                      · rw [hx] at h; injection h with _ h; injection h with _ h; omega
                      · exact absurd h hu
                      · rw [hx] at h; exact h
                    by_cases hg0 : g = 0
                    · subst hg0
                      rw [if_pos rfl] at hv
                      have hPL : PL (tokU n m) 3 [] (.ok ([⟨5, ⟨#[]⟩, ⟨N, Q⟩, 6, []⟩], 6)) := .more 3 [] _ 5 _ s3 hv (.done 5 _ s5)
                      have hp := hok _ _ ((rl_of_pl _ hPL).2 _ rfl)
                      exact units_ok1 n m hn hm b1 b2 _ _ _ _ _ _ _ _ ⟨#[120]⟩ ⟨#[121]⟩ 0 4 N Q (Lib.hid ha) 0 (Lib.hid hT3) (Lib.hid hp) w (Lib.hid hg)
                    · rw [if_neg hg0] at hv
                      have hp := hfault _ ((rl_of_pl _ (.err 3 [] _ s3 hv)).1 _ rfl)
                      exact units_err1 n m hn hm b1 b2 _ _ _ _ _ _ _ _ N Q g (by simpa using g6) (by simpa using hg0) (Lib.hid ha) 0 (Lib.hid hT3) (Lib.hid hp) w (Lib.hid hg)
                  · have hu : unitOf m.data.toList = none := by
                      cases hq : unitOf m.data.toList with
                      | none => rfl
                      | some u => exact absurd ((known_iff m).2 (by rw [hq]; simp)) hk
                    rw [am3, unit4, if_neg hk] at hv
                    simp only at hv
                    rcases amt_cases n.data.toList m.data.toList with ⟨ha1, hb1⟩ | ⟨_, ha1⟩ | ⟨h, _⟩
                    · rw [hb1] at hv
                      simp only at hv
                      rw [if_neg (by decide)] at hv
                      have hp := hfault _ ((rl_of_pl _ (.err 3 [] _ s3 hv)).1 _ rfl)
                      rw [ha1] at ha
                      exact units_err1 n m hn hm b1 b2 _ _ _ _ _ _ _ _ 0 0 2 rfl rfl (Lib.hid ha) 0 (Lib.hid hT3) (Lib.hid hp) w (Lib.hid hg)
                    · rw [ha1] at ha
                      generalize amt n.data.toList [] = x at hv ha2
                      obtain ⟨N, Q, g⟩ := x
                      simp only at hv
                      by_cases hg0 : g = 0
                      · subst hg0
                        rw [if_pos rfl] at hv
                        have hw : V (tokU n m) 4 0 (.ok (leafN 3 (tokAt (tokU n m) 4), 5)) := V.word (by unfold isP; rw [tU4]; rfl) (by rw [tU4]; rfl)
                        have hPL : PL (tokU n m) 3 [] (.ok ([⟨5, ⟨#[]⟩, ⟨N, Q⟩, 6, []⟩, ⟨3, m, ⟨0, 0⟩, 7 + (n.size : Int), []⟩], 6)) := .more 3 [] _ 4 _ s3 hv (.more 4 _ _ 5 _ s4 hw (.done 5 _ s5))
                        have hp := hok _ _ ((rl_of_pl _ hPL).2 _ rfl)
                        exact units_ok2 n m hn hm b1 b2 _ _ _ _ _ _ _ _ ⟨#[120]⟩ ⟨#[121]⟩ 0 4 N Q (7 + (n.size : Int)) (by simp) 0 0 (Lib.hid ha) (Lib.hid ha2) 0 (Lib.hid hT3) (Lib.hid hp) w (Lib.hid hg)
                      · rw [if_neg hg0] at hv
                        have hp := hfault _ ((rl_of_pl _ (.err 3 [] _ s3 hv)).1 _ rfl)
                        exact units_err2 n m hn hm b1 b2 _ _ _ _ _ _ _ _ 0 0 N Q g (by simpa using hg0) (Lib.hid ha) (Lib.hid ha2) 0 (Lib.hid hT3) (Lib.hid hp) w (Lib.hid hg)
                    · exact absurd hu h
                · exact units_tok4 n m hn hm b1 b2 _ _ _ _ _ _ _ _ _ (bne_of x4) 0 (Lib.hid hT2) w (Lib.hid hg)
              · exact units_tok3 n m hn hm b1 b2 _ _ _ _ _ _ _ _ (by unfold toS; simp; omega) 0 (Lib.hid hT2) w (Lib.hid hg)
            · exact units_tok2 n m hn hm b1 b2 _ _ _ _ _ _ _ _ _ (bne_of x3) 0 (Lib.hid hT2) w (Lib.hid hg)
          · exact units_tok1 n m hn hm b1 b2 _ _ _ _ _ _ _ _ (by unfold toS; simp; omega) 0 (Lib.hid hT2) w (Lib.hid hg)
        · exact units_scan2 n m hn hm b1 b2 _ (by rw [endT_len]; simp; omega) _ (Lib.hid hT) w (Lib.hid hg)
      · exact units_scan1 n m hn hm b1 b2 _ _ _ (by simpa using hs) (Lib.hid rfl) w (Lib.hid hg)
end Go.Proofs.YtahjkibjcibpgaaGreatDoor.L
end
