/- What this claim's texts prove on the way, joined by program (wip/tools/merge.py), without what no text of the claim names. -/
import Derived.Test.YtahjkibjcibpgaaGreatDoorMB4
section
namespace Go.Proofs.YtahjkibjcibpgaaGreatDoor.L
open Go.RowKit Go.Shelf Go.Lib Go.Proofs.YtahjkibjcibpgaaGreatDoor.U
open Go.Proofs.YtahjkibjcibpgaaGreatDoorW Go.Proofs.YtahjkibjcibpgaaGreatDoorW.PrintWords Go.Proofs.YtahjkibjcibpgaaGreatDoorW.PrintLast
attribute [local go_sem] Oper.semAt_some
set_option maxRecDepth 100000 in
set_option maxHeartbeats 4000000 in
theorem back_long (k : Nat) (k0 : Int) (t : ByteArray) (a b x : Int) (Aa : Option Addr) (ca : Nat) (l : List PTr.S26) (z : Int) (hz : Hid (PTr.bournelaw15_size.f k k0 t a b x l 0 = some z)) (hz2 : 300 < z) (w : World) (hL : Hid (Kd.C PTr.k26 w Aa l.length l)) (hca : Hid (l.length ≤ ca)) (HG : Hid (UW w)) : Calls Tryz.prog 3 #[.agg #[.int .i64 k0, .string t, .int .i64 a, .int .i64 b, .int .i64 x, .slice Aa l.length ca]] w fun e w' => e = .returned (.bool true) ∧ Below w.heap.size w w' := by
  go_enter Tryz.func3, Tryz.ntmps3
  go_upto_region 1 with (fail)
  have hA := below_alloc (Below.refl w.heap.size w) (.cells #[.int .i64 k0, .string t, .int .i64 a, .int .i64 b, .int .i64 x, .slice Aa l.length ca] 26)
  have D1 := Lib.hid hA
  have La := Lib.hid (Kd.C_below hL.out hA)
  have ka := blk_new w (.cells #[.int .i64 k0, .string t, .int .i64 a, .int .i64 b, .int .i64 x, .slice Aa l.length ca] 26)
  clear hA
  generalize w.alloc (.cells #[.int .i64 k0, .string t, .int .i64 a, .int .i64 b, .int .i64 x, .slice Aa l.length ca] 26) = Xa at *
  have an0 : Xa.cell? ⟨w.heap.size, 0, none⟩ = some (.int .i64 k0) := blk_cell ka 0
  have an1 : Xa.cell? ⟨w.heap.size, 1, none⟩ = some (.string t) := blk_cell ka 1
  have an2 : Xa.cell? ⟨w.heap.size, 2, none⟩ = some (.int .i64 a) := blk_cell ka 2
  have an3 : Xa.cell? ⟨w.heap.size, 3, none⟩ = some (.int .i64 b) := blk_cell ka 3
  have an4 : Xa.cell? ⟨w.heap.size, 4, none⟩ = some (.int .i64 x) := blk_cell ka 4
  have an5 : Xa.cell? ⟨w.heap.size, 5, none⟩ = some (.slice Aa l.length ca) := blk_cell ka 5
  clear ka
  go_upto_region 2 with ((go_at_call 8; go_loud (refine (Ex.small15.calls true _ (HG.out.step D1.out) rfl).mono ?_; rintro e w1 ⟨rfl, hb⟩; have D2 := Lib.hid (below_step D1.out hb); replace an0 := pw_cell_below hb an0; replace an1 := pw_cell_below hb an1; replace an2 := pw_cell_below hb an2; replace an3 := pw_cell_below hb an3; replace an4 := pw_cell_below hb an4; replace an5 := pw_cell_below hb an5; replace La := Lib.hid (Kd.C_below La.out hb); clear hb)))
  go_wp2_with ((go_at_call 9; go_loud (refine (PTr.bournelaw15_size.calls k k0 t a b x Aa ca l 0 z _ La.out hca.out hz.out).mono ?_; rintro e w2 ⟨rfl, hb⟩; have D3 := Lib.hid (below_step D2.out hb); replace an0 := pw_cell_below hb an0; replace an1 := pw_cell_below hb an1; replace an2 := pw_cell_below hb an2; replace an3 := pw_cell_below hb an3; replace an4 := pw_cell_below hb an4; replace an5 := pw_cell_below hb an5; replace La := Lib.hid (Kd.C_below La.out hb); clear hb)))
  go_ret
  exact ⟨rfl, D3.out⟩
set_option maxRecDepth 100000 in
set_option maxHeartbeats 4000000 in
theorem back_no (k : Nat) (k0 : Int) (t : ByteArray) (a b x : Int) (Aa : Option Addr) (ca : Nat) (l : List PTr.S26) (z : Int) (hz : Hid (PTr.bournelaw15_size.f k k0 t a b x l 0 = some z)) (hz2 : ¬ 300 < z) (hwf : Hid (Ex.tree_Write.f k0 t a b x l = some ⟨#[]⟩)) (hr : Hid (PTr.tree_Right.f k k0 t a b x l = some false)) (w : World) (hL : Hid (Kd.C PTr.k26 w Aa l.length l)) (hca : Hid (l.length ≤ ca)) (HG : Hid (UW w)) : Calls Tryz.prog 3 #[.agg #[.int .i64 k0, .string t, .int .i64 a, .int .i64 b, .int .i64 x, .slice Aa l.length ca]] w fun e w' => e = .returned (.bool true) ∧ Below w.heap.size w w' := by
  go_enter Tryz.func3, Tryz.ntmps3
  go_upto_region 1 with (fail)
  have hA := below_alloc (Below.refl w.heap.size w) (.cells #[.int .i64 k0, .string t, .int .i64 a, .int .i64 b, .int .i64 x, .slice Aa l.length ca] 26)
  have D1 := Lib.hid hA
  have La := Lib.hid (Kd.C_below hL.out hA)
  have ka := blk_new w (.cells #[.int .i64 k0, .string t, .int .i64 a, .int .i64 b, .int .i64 x, .slice Aa l.length ca] 26)
  clear hA
  generalize w.alloc (.cells #[.int .i64 k0, .string t, .int .i64 a, .int .i64 b, .int .i64 x, .slice Aa l.length ca] 26) = Xa at *
  have an0 : Xa.cell? ⟨w.heap.size, 0, none⟩ = some (.int .i64 k0) := blk_cell ka 0
  have an1 : Xa.cell? ⟨w.heap.size, 1, none⟩ = some (.string t) := blk_cell ka 1
  have an2 : Xa.cell? ⟨w.heap.size, 2, none⟩ = some (.int .i64 a) := blk_cell ka 2
  have an3 : Xa.cell? ⟨w.heap.size, 3, none⟩ = some (.int .i64 b) := blk_cell ka 3
  have an4 : Xa.cell? ⟨w.heap.size, 4, none⟩ = some (.int .i64 x) := blk_cell ka 4
  have an5 : Xa.cell? ⟨w.heap.size, 5, none⟩ = some (.slice Aa l.length ca) := blk_cell ka 5
  clear ka
  go_upto_region 2 with ((go_at_call 8; go_loud (refine (Ex.small15.calls true _ (HG.out.step D1.out) rfl).mono ?_; rintro e w1 ⟨rfl, hb⟩; have D2 := Lib.hid (below_step D1.out hb); replace an0 := pw_cell_below hb an0; replace an1 := pw_cell_below hb an1; replace an2 := pw_cell_below hb an2; replace an3 := pw_cell_below hb an3; replace an4 := pw_cell_below hb an4; replace an5 := pw_cell_below hb an5; replace La := Lib.hid (Kd.C_below La.out hb); clear hb)))
  go_upto_region 4 with ((go_at_call 9; go_loud (refine (PTr.bournelaw15_size.calls k k0 t a b x Aa ca l 0 z _ La.out hca.out hz.out).mono ?_; rintro e w2 ⟨rfl, hb⟩; have D3 := Lib.hid (below_step D2.out hb); replace an0 := pw_cell_below hb an0; replace an1 := pw_cell_below hb an1; replace an2 := pw_cell_below hb an2; replace an3 := pw_cell_below hb an3; replace an4 := pw_cell_below hb an4; replace an5 := pw_cell_below hb an5; replace La := Lib.hid (Kd.C_below La.out hb); clear hb)))
  go_upto_region 5 with ((go_at_call 10; go_loud (refine (Ex.tree_Write.calls k0 t a b x Aa ca l ⟨#[]⟩ _ (HG.out.step D3.out) La.out hca.out hwf.out).mono ?_; rintro e w3 ⟨rfl, hb⟩; have D4 := Lib.hid (below_step D3.out hb); replace an0 := pw_cell_below hb an0; replace an1 := pw_cell_below hb an1; replace an2 := pw_cell_below hb an2; replace an3 := pw_cell_below hb an3; replace an4 := pw_cell_below hb an4; replace an5 := pw_cell_below hb an5; replace La := Lib.hid (Kd.C_below La.out hb); clear hb)))
  go_wp2_with ((go_at_call 11; go_loud (refine (PTr.tree_Right.calls k k0 t a b x Aa ca l false _ (HG.out.step D4.out) La.out hca.out hr.out).mono ?_; rintro e w4 ⟨rfl, hb⟩; have D5 := Lib.hid (below_step D4.out hb); replace an0 := pw_cell_below hb an0; replace an1 := pw_cell_below hb an1; replace an2 := pw_cell_below hb an2; replace an3 := pw_cell_below hb an3; replace an4 := pw_cell_below hb an4; replace an5 := pw_cell_below hb an5; replace La := Lib.hid (Kd.C_below La.out hb); clear hb)))
  go_ret
  exact ⟨by kernel_rfl, D5.out⟩
set_option maxRecDepth 100000 in
set_option maxHeartbeats 4000000 in
theorem back_big (k : Nat) (x : Int) (Aa : Option Addr) (ca : Nat) (l : List PTr.S26) (z : Int) (hz : Hid (PTr.bournelaw15_size.f k 0 ⟨#[]⟩ 0 0 x l 0 = some z)) (hz2 : ¬ 300 < z) (y : ByteArray) (hwf : Hid (Ex.tree_Write.f 0 ⟨#[]⟩ 0 0 x l = some y)) (hr : Hid (PTr.tree_Right.f k 0 ⟨#[]⟩ 0 0 x l = some true)) (hy : decide (65536 < (y.size : Int)) = true) (hp : Hid (Ex.tree_Parse.f y = some (0, ⟨#[]⟩, 0, 0, 0, [], 8, 0))) (w : World) (hL : Hid (Kd.C PTr.k26 w Aa l.length l)) (hca : Hid (l.length ≤ ca)) (HG : Hid (UW w)) : Calls Tryz.prog 3 #[.agg #[.int .i64 0, .string (⟨#[]⟩ : ByteArray), .int .i64 0, .int .i64 0, .int .i64 x, .slice Aa l.length ca]] w fun e w' => e = .returned (.bool true) ∧ Below w.heap.size w w' := by
  go_enter Tryz.func3, Tryz.ntmps3
  go_upto_region 1 with (fail)
  have hA := below_alloc (Below.refl w.heap.size w) (.cells #[.int .i64 0, .string (⟨#[]⟩ : ByteArray), .int .i64 0, .int .i64 0, .int .i64 x, .slice Aa l.length ca] 26)
  have D1 := Lib.hid hA
  have La := Lib.hid (Kd.C_below hL.out hA)
  have ka := blk_new w (.cells #[.int .i64 0, .string (⟨#[]⟩ : ByteArray), .int .i64 0, .int .i64 0, .int .i64 x, .slice Aa l.length ca] 26)
  clear hA
  generalize w.alloc (.cells #[.int .i64 0, .string (⟨#[]⟩ : ByteArray), .int .i64 0, .int .i64 0, .int .i64 x, .slice Aa l.length ca] 26) = Xa at *
  have an0 : Xa.cell? ⟨w.heap.size, 0, none⟩ = some (.int .i64 0) := blk_cell ka 0
  have an1 : Xa.cell? ⟨w.heap.size, 1, none⟩ = some (.string (⟨#[]⟩ : ByteArray)) := blk_cell ka 1
  have an2 : Xa.cell? ⟨w.heap.size, 2, none⟩ = some (.int .i64 0) := blk_cell ka 2
  have an3 : Xa.cell? ⟨w.heap.size, 3, none⟩ = some (.int .i64 0) := blk_cell ka 3
  have an4 : Xa.cell? ⟨w.heap.size, 4, none⟩ = some (.int .i64 x) := blk_cell ka 4
  have an5 : Xa.cell? ⟨w.heap.size, 5, none⟩ = some (.slice Aa l.length ca) := blk_cell ka 5
  clear ka
  go_upto_region 2 with ((go_at_call 8; go_loud (refine (Ex.small15.calls true _ (HG.out.step D1.out) rfl).mono ?_; rintro e w1 ⟨rfl, hb⟩; have D2 := Lib.hid (below_step D1.out hb); replace an0 := pw_cell_below hb an0; replace an1 := pw_cell_below hb an1; replace an2 := pw_cell_below hb an2; replace an3 := pw_cell_below hb an3; replace an4 := pw_cell_below hb an4; replace an5 := pw_cell_below hb an5; replace La := Lib.hid (Kd.C_below La.out hb); clear hb)))
  go_upto_region 4 with ((go_at_call 9; go_loud (refine (PTr.bournelaw15_size.calls k 0 ⟨#[]⟩ 0 0 x Aa ca l 0 z _ La.out hca.out hz.out).mono ?_; rintro e w2 ⟨rfl, hb⟩; have D3 := Lib.hid (below_step D2.out hb); replace an0 := pw_cell_below hb an0; replace an1 := pw_cell_below hb an1; replace an2 := pw_cell_below hb an2; replace an3 := pw_cell_below hb an3; replace an4 := pw_cell_below hb an4; replace an5 := pw_cell_below hb an5; replace La := Lib.hid (Kd.C_below La.out hb); clear hb)))
  go_upto_region 5 with ((go_at_call 10; go_loud (refine (Ex.tree_Write.calls 0 ⟨#[]⟩ 0 0 x Aa ca l y _ (HG.out.step D3.out) La.out hca.out hwf.out).mono ?_; rintro e w3 ⟨rfl, hb⟩; have D4 := Lib.hid (below_step D3.out hb); replace an0 := pw_cell_below hb an0; replace an1 := pw_cell_below hb an1; replace an2 := pw_cell_below hb an2; replace an3 := pw_cell_below hb an3; replace an4 := pw_cell_below hb an4; replace an5 := pw_cell_below hb an5; replace La := Lib.hid (Kd.C_below La.out hb); clear hb)))
  go_upto_region 7 with ((go_at_call 11; go_loud (refine (PTr.tree_Right.calls k 0 ⟨#[]⟩ 0 0 x Aa ca l true _ (HG.out.step D4.out) La.out hca.out hr.out).mono ?_; rintro e w4 ⟨rfl, hb⟩; have D5 := Lib.hid (below_step D4.out hb); replace an0 := pw_cell_below hb an0; replace an1 := pw_cell_below hb an1; replace an2 := pw_cell_below hb an2; replace an3 := pw_cell_below hb an3; replace an4 := pw_cell_below hb an4; replace an5 := pw_cell_below hb an5; replace La := Lib.hid (Kd.C_below La.out hb); clear hb)))
  go_upto_region 8 with ((go_at_call 12; go_loud (refine (Ex.tree_Parse.calls y 0 ⟨#[]⟩ 0 0 0 ([] : List PTr.S26) 8 0 _ (HG.out.step D5.out) hp.out).mono ?_; rintro e w5 ⟨v0, rfl, hR, hb⟩; have D6 := Lib.hid (below_step D5.out hb); replace an0 := pw_cell_below hb an0; replace an1 := pw_cell_below hb an1; replace an2 := pw_cell_below hb an2; replace an3 := pw_cell_below hb an3; replace an4 := pw_cell_below hb an4; replace an5 := pw_cell_below hb an5; replace La := Lib.hid (Kd.C_below La.out hb); have Rc := Lib.hid hR; obtain ⟨Ac, cc, ev⟩ := Kd.R_slice hR; subst ev; have Kc := Lib.hid (blk_new w5 (.cells #[.int .i64 0, .string (⟨#[]⟩ : ByteArray), .int .i64 0, .int .i64 0, .int .i64 0, .slice Ac ([] : List PTr.S26).length cc] 26)); clear hR; clear hb)))
  have hA := below_alloc (Below.refl w5.heap.size w5) (.cells #[.int .i64 0, .string (⟨#[]⟩ : ByteArray), .int .i64 0, .int .i64 0, .int .i64 0, .slice Ac ([] : List PTr.S26).length cc] 26)
  replace an0 := pw_cell_below hA an0
  replace an1 := pw_cell_below hA an1
  replace an2 := pw_cell_below hA an2
  replace an3 := pw_cell_below hA an3
  replace an4 := pw_cell_below hA an4
  replace an5 := pw_cell_below hA an5
  replace La := Lib.hid (Kd.C_below La.out hA)
  have D7 := Lib.hid (below_step D6.out hA)
  have Lc := Lib.hid (Kd.C_below (Kd.R_reads' Rc.out).2.2 hA)
  have hcc := Lib.hid (Kd.R_reads' Rc.out).2.1
  clear hA Rc
  have kc := Kc.out
  clear Kc
  generalize w5.alloc (.cells #[.int .i64 0, .string (⟨#[]⟩ : ByteArray), .int .i64 0, .int .i64 0, .int .i64 0, .slice Ac ([] : List PTr.S26).length cc] 26) = Xc at *
  generalize w5.heap.size = bc at *
  have cn0 : Xc.cell? ⟨bc, 0, none⟩ = some (.int .i64 0) := blk_cell kc 0
  have cn1 : Xc.cell? ⟨bc, 1, none⟩ = some (.string ⟨#[]⟩) := blk_cell kc 1
  have cn2 : Xc.cell? ⟨bc, 2, none⟩ = some (.int .i64 0) := blk_cell kc 2
  have cn3 : Xc.cell? ⟨bc, 3, none⟩ = some (.int .i64 0) := blk_cell kc 3
  have cn4 : Xc.cell? ⟨bc, 4, none⟩ = some (.int .i64 0) := blk_cell kc 4
  have cn5 : Xc.cell? ⟨bc, 5, none⟩ = some (.slice Ac ([] : List PTr.S26).length cc) := blk_cell kc 5
  clear kc
  go_wp2
  go_ret
  exact ⟨rfl, D7.out⟩
set_option maxRecDepth 100000 in
set_option maxHeartbeats 4000000 in
theorem back_all (k : Nat) (x : Int) (Aa : Option Addr) (ca : Nat) (l : List PTr.S26) (z : Int) (hz : Hid (PTr.bournelaw15_size.f k 0 ⟨#[]⟩ 0 0 x l 0 = some z)) (hz2 : ¬ 300 < z) (y : ByteArray) (hwf : Hid (Ex.tree_Write.f 0 ⟨#[]⟩ 0 0 x l = some y)) (hr : Hid (PTr.tree_Right.f k 0 ⟨#[]⟩ 0 0 x l = some true)) (hy : decide (65536 < (y.size : Int)) = false) (l3 : List PTr.S26) (hp : Hid (Ex.tree_Parse.f y = some (0, ⟨#[]⟩, 0, 0, 0, l3, 0, 0))) (hs : Hid (PTr.bournelaw15_same.f k 0 ⟨#[]⟩ 0 0 x l 0 ⟨#[]⟩ 0 0 0 l3 = some true)) (hw3 : Hid (Ex.tree_Write.f 0 ⟨#[]⟩ 0 0 0 l3 = some y)) (w : World) (hL : Hid (Kd.C PTr.k26 w Aa l.length l)) (hca : Hid (l.length ≤ ca)) (HG : Hid (UW w)) : Calls Tryz.prog 3 #[.agg #[.int .i64 0, .string (⟨#[]⟩ : ByteArray), .int .i64 0, .int .i64 0, .int .i64 x, .slice Aa l.length ca]] w fun e w' => e = .returned (.bool true) ∧ Below w.heap.size w w' := by
  go_enter Tryz.func3, Tryz.ntmps3
  go_upto_region 1 with (fail)
  have hA := below_alloc (Below.refl w.heap.size w) (.cells #[.int .i64 0, .string (⟨#[]⟩ : ByteArray), .int .i64 0, .int .i64 0, .int .i64 x, .slice Aa l.length ca] 26)
  have D1 := Lib.hid hA
  have La := Lib.hid (Kd.C_below hL.out hA)
  have ka := blk_new w (.cells #[.int .i64 0, .string (⟨#[]⟩ : ByteArray), .int .i64 0, .int .i64 0, .int .i64 x, .slice Aa l.length ca] 26)
  clear hA
  generalize w.alloc (.cells #[.int .i64 0, .string (⟨#[]⟩ : ByteArray), .int .i64 0, .int .i64 0, .int .i64 x, .slice Aa l.length ca] 26) = Xa at *
  have an0 : Xa.cell? ⟨w.heap.size, 0, none⟩ = some (.int .i64 0) := blk_cell ka 0
  have an1 : Xa.cell? ⟨w.heap.size, 1, none⟩ = some (.string (⟨#[]⟩ : ByteArray)) := blk_cell ka 1
  have an2 : Xa.cell? ⟨w.heap.size, 2, none⟩ = some (.int .i64 0) := blk_cell ka 2
  have an3 : Xa.cell? ⟨w.heap.size, 3, none⟩ = some (.int .i64 0) := blk_cell ka 3
  have an4 : Xa.cell? ⟨w.heap.size, 4, none⟩ = some (.int .i64 x) := blk_cell ka 4
  have an5 : Xa.cell? ⟨w.heap.size, 5, none⟩ = some (.slice Aa l.length ca) := blk_cell ka 5
  clear ka
  go_upto_region 2 with ((go_at_call 8; go_loud (refine (Ex.small15.calls true _ (HG.out.step D1.out) rfl).mono ?_; rintro e w1 ⟨rfl, hb⟩; have D2 := Lib.hid (below_step D1.out hb); replace an0 := pw_cell_below hb an0; replace an1 := pw_cell_below hb an1; replace an2 := pw_cell_below hb an2; replace an3 := pw_cell_below hb an3; replace an4 := pw_cell_below hb an4; replace an5 := pw_cell_below hb an5; replace La := Lib.hid (Kd.C_below La.out hb); clear hb)))
  go_upto_region 4 with ((go_at_call 9; go_loud (refine (PTr.bournelaw15_size.calls k 0 ⟨#[]⟩ 0 0 x Aa ca l 0 z _ La.out hca.out hz.out).mono ?_; rintro e w2 ⟨rfl, hb⟩; have D3 := Lib.hid (below_step D2.out hb); replace an0 := pw_cell_below hb an0; replace an1 := pw_cell_below hb an1; replace an2 := pw_cell_below hb an2; replace an3 := pw_cell_below hb an3; replace an4 := pw_cell_below hb an4; replace an5 := pw_cell_below hb an5; replace La := Lib.hid (Kd.C_below La.out hb); clear hb)))
  go_upto_region 5 with ((go_at_call 10; go_loud (refine (Ex.tree_Write.calls 0 ⟨#[]⟩ 0 0 x Aa ca l y _ (HG.out.step D3.out) La.out hca.out hwf.out).mono ?_; rintro e w3 ⟨rfl, hb⟩; have D4 := Lib.hid (below_step D3.out hb); replace an0 := pw_cell_below hb an0; replace an1 := pw_cell_below hb an1; replace an2 := pw_cell_below hb an2; replace an3 := pw_cell_below hb an3; replace an4 := pw_cell_below hb an4; replace an5 := pw_cell_below hb an5; replace La := Lib.hid (Kd.C_below La.out hb); clear hb)))
  go_upto_region 7 with ((go_at_call 11; go_loud (refine (PTr.tree_Right.calls k 0 ⟨#[]⟩ 0 0 x Aa ca l true _ (HG.out.step D4.out) La.out hca.out hr.out).mono ?_; rintro e w4 ⟨rfl, hb⟩; have D5 := Lib.hid (below_step D4.out hb); replace an0 := pw_cell_below hb an0; replace an1 := pw_cell_below hb an1; replace an2 := pw_cell_below hb an2; replace an3 := pw_cell_below hb an3; replace an4 := pw_cell_below hb an4; replace an5 := pw_cell_below hb an5; replace La := Lib.hid (Kd.C_below La.out hb); clear hb)))
  go_upto_region 8 with ((go_at_call 12; go_loud (refine (Ex.tree_Parse.calls y 0 ⟨#[]⟩ 0 0 0 l3 0 0 _ (HG.out.step D5.out) hp.out).mono ?_; rintro e w5 ⟨v0, rfl, hR, hb⟩; have D6 := Lib.hid (below_step D5.out hb); replace an0 := pw_cell_below hb an0; replace an1 := pw_cell_below hb an1; replace an2 := pw_cell_below hb an2; replace an3 := pw_cell_below hb an3; replace an4 := pw_cell_below hb an4; replace an5 := pw_cell_below hb an5; replace La := Lib.hid (Kd.C_below La.out hb); have Rc := Lib.hid hR; obtain ⟨Ac, cc, ev⟩ := Kd.R_slice hR; subst ev; have Kc := Lib.hid (blk_new w5 (.cells #[.int .i64 0, .string (⟨#[]⟩ : ByteArray), .int .i64 0, .int .i64 0, .int .i64 0, .slice Ac l3.length cc] 26)); clear hR; clear hb)))
  have hA := below_alloc (Below.refl w5.heap.size w5) (.cells #[.int .i64 0, .string (⟨#[]⟩ : ByteArray), .int .i64 0, .int .i64 0, .int .i64 0, .slice Ac l3.length cc] 26)
  replace an0 := pw_cell_below hA an0
  replace an1 := pw_cell_below hA an1
  replace an2 := pw_cell_below hA an2
  replace an3 := pw_cell_below hA an3
  replace an4 := pw_cell_below hA an4
  replace an5 := pw_cell_below hA an5
  replace La := Lib.hid (Kd.C_below La.out hA)
  have D7 := Lib.hid (below_step D6.out hA)
  have Lc := Lib.hid (Kd.C_below (Kd.R_reads' Rc.out).2.2 hA)
  have hcc := Lib.hid (Kd.R_reads' Rc.out).2.1
  clear hA Rc
  have kc := Kc.out
  clear Kc
  generalize w5.alloc (.cells #[.int .i64 0, .string (⟨#[]⟩ : ByteArray), .int .i64 0, .int .i64 0, .int .i64 0, .slice Ac l3.length cc] 26) = Xc at *
  generalize w5.heap.size = bc at *
  have cn0 : Xc.cell? ⟨bc, 0, none⟩ = some (.int .i64 0) := blk_cell kc 0
  have cn1 : Xc.cell? ⟨bc, 1, none⟩ = some (.string ⟨#[]⟩) := blk_cell kc 1
  have cn2 : Xc.cell? ⟨bc, 2, none⟩ = some (.int .i64 0) := blk_cell kc 2
  have cn3 : Xc.cell? ⟨bc, 3, none⟩ = some (.int .i64 0) := blk_cell kc 3
  have cn4 : Xc.cell? ⟨bc, 4, none⟩ = some (.int .i64 0) := blk_cell kc 4
  have cn5 : Xc.cell? ⟨bc, 5, none⟩ = some (.slice Ac l3.length cc) := blk_cell kc 5
  clear kc
  go_wp2_with (first | (go_at_call 13; go_loud (refine (PTr.bournelaw15_same.calls k 0 ⟨#[]⟩ 0 0 x Aa ca l 0 ⟨#[]⟩ 0 0 0 Ac cc l3 true _ La.out hca.out Lc.out hcc.out hs.out).mono ?_; rintro e w6 ⟨rfl, hb⟩; have D8 := Lib.hid (below_step D7.out hb); replace an0 := pw_cell_below hb an0; replace an1 := pw_cell_below hb an1; replace an2 := pw_cell_below hb an2; replace an3 := pw_cell_below hb an3; replace an4 := pw_cell_below hb an4; replace an5 := pw_cell_below hb an5; replace cn0 := pw_cell_below hb cn0; replace cn1 := pw_cell_below hb cn1; replace cn2 := pw_cell_below hb cn2; replace cn3 := pw_cell_below hb cn3; replace cn4 := pw_cell_below hb cn4; replace cn5 := pw_cell_below hb cn5; replace La := Lib.hid (Kd.C_below La.out hb); replace Lc := Lib.hid (Kd.C_below Lc.out hb); clear hb)) | (go_at_call 10; go_loud (refine (Ex.tree_Write.calls 0 ⟨#[]⟩ 0 0 0 Ac cc l3 y _ (HG.out.step D8.out) Lc.out hcc.out hw3.out).mono ?_; rintro e w7 ⟨rfl, hb⟩; have D9 := Lib.hid (below_step D8.out hb); replace an0 := pw_cell_below hb an0; replace an1 := pw_cell_below hb an1; replace an2 := pw_cell_below hb an2; replace an3 := pw_cell_below hb an3; replace an4 := pw_cell_below hb an4; replace an5 := pw_cell_below hb an5; replace cn0 := pw_cell_below hb cn0; replace cn1 := pw_cell_below hb cn1; replace cn2 := pw_cell_below hb cn2; replace cn3 := pw_cell_below hb cn3; replace cn4 := pw_cell_below hb cn4; replace cn5 := pw_cell_below hb cn5; replace La := Lib.hid (Kd.C_below La.out hb); replace Lc := Lib.hid (Kd.C_below Lc.out hb); clear hb)))
  go_ret
  exact ⟨by simp, D9.out⟩
end Go.Proofs.YtahjkibjcibpgaaGreatDoor.L
end
section
namespace Go.Proofs.YtahjkibjcibpgaaGreatDoor.L
open Go.RowKit Go.Proofs.YtahjkibjcibpgaaGreatDoor.U Go.Proofs.YtahjkibjcibpgaaGreatDoorW.PrintWords Go.Proofs.YtahjkibjcibpgaaGreatDoor.PTr
mutual
def szV : PTr.S26 → Nat → Nat
  | ⟨_, t, _, _, ks⟩, d => if 60 < d ∨ 300 < ks.length ∨ 600 < t.size then 301 else szL ks (d + 1) 1
def szL : List PTr.S26 → Nat → Nat → Nat
  | [], _, s => s
  | v :: r, d, s => if s ≤ 300 then szL r d (s + szV v d) else s
end
mutual
theorem szV_le (v : PTr.S26) (d : Nat) : szV v d ≤ 301 + 300 * (61 - d) := by
  match v with
  | ⟨_, t, _, _, ks⟩ =>
    rw [szV]
    split
    · omega
    · have := szL_le ks (d + 1) 1 (by omega)
      omega
termination_by structural v
theorem szL_le (l : List PTr.S26) (d s : Nat) (hs : s ≤ 601 + 300 * (61 - d)) : szL l d s ≤ 601 + 300 * (61 - d) := by
  match l with
  | [] => rw [szL]; exact hs
  | v :: r =>
    rw [szL]
    split
    · have h1 := szV_le v d
      exact szL_le r d _ (by omega)
    · exact hs
termination_by structural l
end
mutual
theorem szV_wr (v : PTr.S26) (d : Nat) (h : szV v d ≤ 300) : wrV v ≤ 700 * szV v d := by
  match v, h with
  | ⟨_, t, _, _, ks⟩, h =>
    rw [szV] at h ⊢
    rw [wrV]
    split at h
    · omega
    · rename_i c
      rw [if_neg c]
      have := szL_wr ks (d + 1) 1 h
      omega
termination_by structural v
theorem szL_wr (l : List PTr.S26) (d s : Nat) (h : szL l d s ≤ 300) : s ≤ szL l d s ∧ wrVs l ≤ 700 * (szL l d s - s) := by
  match l, h with
  | [], h => rw [szL, wrVs]; omega
  | v :: r, h =>
    rw [szL] at h ⊢
    rw [wrVs]
    split at h
    · rename_i c
      rw [if_pos c]
      have h1 := szL_wr r d _ h
      have h2 := szV_wr v d (by omega)
      omega
    · omega
termination_by structural l
end
mutual
theorem size_f (v : PTr.S26) (d : Nat) (hd : d ≤ 1000) : Ev (fun k => bournelaw15_size.f k v.f0 v.f1 v.f2.f0 v.f2.f1 v.f3 v.f4 (d : Int)) ((szV v d : Nat) : Int) := by
  match v with
  | ⟨k0, t, a, x, ks⟩ =>
    simp only
    by_cases c : 60 < d ∨ 300 < ks.length ∨ 600 < t.size
    · refine Ev.step (f := fun n => bournelaw15_size.j0 n (d : Int) 1 true k0 t a.f0 a.f1 x ks) (fun n => ?_) (Ev.step (f := fun _ => some 301) (fun n => by simp only [bournelaw15_size.j0, if_true]) ?_)
      · simp only [bournelaw15_size.f]
        by_cases c1 : 60 < d
        · rw [if_pos (by omega)]
        · rw [if_neg (by omega)]
          by_cases c2 : 300 < ks.length
          · rw [if_pos (by omega)]
          · rw [if_neg (by omega), decide_eq_true (by omega)]
      · rw [szV, if_pos c]
        exact Ev.now _
    · have hl := size_l0 ks (d + 1) 1 [] k0 t a.f0 a.f1 x (by omega) (by rw [List.nil_append]; omega) (by omega)
      rw [List.nil_append] at hl
      refine Ev.step (f := fun n => bournelaw15_size.j0 n (d : Int) 1 false k0 t a.f0 a.f1 x ks) (fun n => ?_) (Ev.step (fun n => ?_) (show Ev _ ((szV ⟨k0, t, a, x, ks⟩ d : Nat) : Int) from by rw [szV, if_neg c]; exact hl))
      · simp only [bournelaw15_size.f]
        rw [if_neg (by omega), if_neg (by omega), decide_eq_false (by omega)]
      · simp only [bournelaw15_size.j0, Bool.false_eq_true, if_false]
        rw [show (((d + 1 : Nat) : Int) - 1) = (d : Int) by omega]
        rfl
termination_by structural v
theorem size_l0 (l : List PTr.S26) (d s : Nat) (pre : List PTr.S26) (x0 : Int) (x1 : ByteArray) (x2 x3 x4 : Int) (hd : d ≤ 1001) (hl : (pre ++ l).length ≤ 300) (hs : s ≤ 100000) :
    Ev (fun k => bournelaw15_size.l0 k ((d : Int) - 1) (s : Int) (pre.length : Int) x0 x1 x2 x3 x4 (pre ++ l)) ((szL l d s : Nat) : Int) := by
  match l, hl with
  | [], hl =>
    rw [szL]
    refine Ev.step (f := fun _ => some (s : Int)) (fun k => ?_) (Ev.now _)
    simp only [bournelaw15_size.l0]
    rw [if_neg (by simp)]
  | v :: r, hl =>
    have hl2 : (pre ++ v :: r).length = pre.length + 1 + r.length := by simp; omega
    have hrd := rd_at pre v r
    rw [szL]
    by_cases c : s ≤ 300
    · rw [if_pos c]
      by_cases hd2 : d ≤ 1000
      · have hv := size_f v d hd2
        have hb := szV_le v d
        have hr := size_l0 r d (s + szV v d) (pre ++ [v]) x0 x1 x2 x3 x4 hd (by rw [List.append_assoc]; exact hl) (by omega)
        rw [List.append_assoc, List.singleton_append, show (pre ++ [v]).length = pre.length + 1 by simp] at hr
        refine Ev.step (f := fun k => (bournelaw15_size.f k v.f0 v.f1 v.f2.f0 v.f2.f1 v.f3 v.f4 (d : Int)).bind fun t103 => bournelaw15_size.l0 k ((d : Int) - 1) (wrap64 ((s : Int) + t103)) ((pre.length + 1 : Nat) : Int) x0 x1 x2 x3 x4 (pre ++ v :: r)) (fun k => ?_) (Ev.bind hv ?_)
        · simp only [bournelaw15_size.l0, hrd]
          rw [if_pos (by omega), if_pos (by omega), if_pos (by omega), wrap_nat _ (by omega), show wrap64 ((d : Int) - 1 + 1) = (d : Int) by unfold wrap64; omega]
        · rw [show wrap64 ((s : Int) + ((szV v d : Nat) : Int)) = ((s + szV v d : Nat) : Int) by unfold wrap64; omega]
          exact hr
      · have hd3 : d = 1001 := by omega
        subst hd3
        have hb : szV v 1001 = 301 := by cases v; rw [szV, if_pos (by omega)]
        have hv : Ev (fun k => bournelaw15_size.f k v.f0 v.f1 v.f2.f0 v.f2.f1 v.f3 v.f4 ((1001 : Nat) : Int)) ((301 : Nat) : Int) := by
          refine Ev.step (f := fun n => bournelaw15_size.j0 n ((1001 : Nat) : Int) 1 true v.f0 v.f1 v.f2.f0 v.f2.f1 v.f3 v.f4) (fun n => ?_) (Ev.step (f := fun _ => some 301) (fun n => by simp only [bournelaw15_size.j0, if_true]) (Ev.now _))
          simp only [bournelaw15_size.f]
          rw [if_pos (by omega)]
        have hr := size_l0 r 1001 (s + 301) (pre ++ [v]) x0 x1 x2 x3 x4 hd (by rw [List.append_assoc]; exact hl) (by omega)
        rw [List.append_assoc, List.singleton_append, show (pre ++ [v]).length = pre.length + 1 by simp] at hr
        rw [hb]
        refine Ev.step (f := fun k => (bournelaw15_size.f k v.f0 v.f1 v.f2.f0 v.f2.f1 v.f3 v.f4 ((1001 : Nat) : Int)).bind fun t103 => bournelaw15_size.l0 k (((1001 : Nat) : Int) - 1) (wrap64 ((s : Int) + t103)) ((pre.length + 1 : Nat) : Int) x0 x1 x2 x3 x4 (pre ++ v :: r)) (fun k => ?_) (Ev.bind hv ?_)
        · simp only [bournelaw15_size.l0, hrd]
          rw [if_pos (by omega), if_pos (by omega), if_pos (by omega), wrap_nat _ (by omega), show wrap64 (((1001 : Nat) : Int) - 1 + 1) = ((1001 : Nat) : Int) by unfold wrap64; omega]
        · rw [show wrap64 ((s : Int) + ((301 : Nat) : Int)) = ((s + 301 : Nat) : Int) by unfold wrap64; omega]
          exact hr
    · rw [if_neg c]
      refine Ev.step (f := fun _ => some (s : Int)) (fun k => ?_) (Ev.now _)
      simp only [bournelaw15_size.l0]
      rw [if_pos (by omega), if_neg (by omega)]
termination_by structural l
end
theorem SameL.cons_inv {a b : PTr.S26} {r r2 : List PTr.S26} (h : SameL (a :: r) (b :: r2)) : b.f0 = a.f0 ∧ b.f1 = a.f1 ∧ b.f2 = a.f2 ∧ SameL a.f4 b.f4 ∧ SameL r r2 := by
  cases h with
  | cons _ _ _ _ h0 h1 h2 hk hr => exact ⟨h0, h1, h2, hk, hr⟩
theorem SameL.rd {a b : List PTr.S26} (h : SameL a b) : ∀ i : Nat, SameL [PTr.rd_T26 a (i : Int)] [PTr.rd_T26 b (i : Int)] := by
  induction h with
  | nil => intro i; exact .cons _ _ _ _ rfl rfl rfl .nil .nil
  | cons k k2 r r2 h0 h1 h2 hk hr _ ih =>
    intro i
    cases i with
    | zero => exact .cons _ _ _ _ h0 h1 h2 hk .nil
    | succ i => exact ih i
theorem write_same (k : Nat) : (∀ (v v2 : PTr.S26), SameL [v] [v2] → tree_write.f k v.f0 v.f1 v.f2.f0 v.f2.f1 v.f3 v.f4 = tree_write.f k v2.f0 v2.f1 v2.f2.f0 v2.f2.f1 v2.f3 v2.f4) ∧
    (∀ (a b : List PTr.S26) (x3 : List ByteArray) (x23 x24 : Int), SameL a b → tree_write.l0 k x3 a x23 x24 = tree_write.l0 k x3 b x23 x24) := by
  induction k with
  | zero => exact ⟨fun _ _ _ => by simp only [tree_write.f], fun _ _ _ _ _ _ => by simp only [tree_write.l0]⟩
  | succ k ih =>
    obtain ⟨ihf, ihl⟩ := ih
    constructor
    · intro v v2 h
      obtain ⟨h0, h1, h2, hk, _⟩ := h.cons_inv
      simp only [tree_write.f, h0, h1, h2]
      rw [ihl _ _ _ _ _ hk, hk.len]
    · intro a b x3 x23 x24 h
      simp only [tree_write.l0]
      rw [h.len]
      by_cases c1 : x24 < x23
      · rw [if_pos c1, if_pos c1]
        by_cases c2 : 0 ≤ x24
        · rw [if_pos c2, if_pos c2]
          obtain ⟨i, rfl⟩ : ∃ i : Nat, x24 = (i : Int) := ⟨x24.toNat, by omega⟩
          rw [ihf _ _ (h.rd i)]
          by_cases c3 : (i : Int) < (b.length : Int)
          · rw [if_pos c3, if_pos c3]
            refine congrArg _ (funext fun t => ?_)
            by_cases c4 : x3.length < 8796093022208
            · rw [if_pos c4, if_pos c4]; exact ihl _ _ _ _ _ h
            · rw [if_neg c4, if_neg c4]
          · rw [if_neg c3, if_neg c3]
        · rw [if_neg c2, if_neg c2]
      · rw [if_neg c1, if_neg c1]
theorem wv_same (k : Nat) {v v2 : PTr.S26} (h : SameL [v] [v2]) : wv k v = wv k v2 := (write_same k).1 v v2 h
theorem strsW_same (k : Nat) {a b : List PTr.S26} (h : SameL a b) : strsW k a = strsW k b := by
  induction h with
  | nil => rfl
  | cons v v2 r r2 h0 h1 h2 hk hr _ ih =>
    unfold strsW
    rw [wv_same k (.cons v v2 _ _ h0 h1 h2 hk .nil), ih]
theorem propsW_same (k : Nat) {a b : List PTr.S26} (h : SameL a b) : propsW k a = propsW k b := by
  induction h with
  | nil => rfl
  | cons v v2 r r2 h0 h1 h2 hk hr _ ih =>
    unfold propsW propW
    rw [strsW_same k hk, h1, ih]
theorem wordsW_same (k : Nat) {a b : List PTr.S26} (h : SameL a b) : (∀ x, wordsW k a = some x → ∃ y, wordsW k b = some y ∧ y.1 = x.1 ∧ SameL x.2 y.2) := by
  induction h with
  | nil => intro x h; exact ⟨x, h, rfl, by injection h with h; subst h; exact .nil⟩
  | cons v v2 r r2 h0 h1 h2 hk hr _ ih =>
    intro x h
    unfold wordsW at h ⊢
    by_cases c : v.f0 = 2
    · rw [if_pos c] at h
      rw [if_pos (by rw [h0]; exact c)]
      injection h with h
      subst h
      exact ⟨_, rfl, rfl, .cons _ _ _ _ h0 h1 h2 hk hr⟩
    · rw [if_neg c] at h
      rw [if_neg (by rw [h0]; exact c), ← wv_same k (.cons v v2 _ _ h0 h1 h2 hk .nil)]
      obtain ⟨t, ht, h⟩ := Option.bind_eq_some_iff.1 h
      obtain ⟨u, hu, h⟩ := Option.bind_eq_some_iff.1 h
      obtain ⟨y, hy, e1, e2⟩ := ih u hu
      injection h with h
      subst h
      rw [ht]
      refine ⟨((32 :: t.data.toList) ++ y.1, y.2), ?_, by rw [e1], e2⟩
      show (wordsW k r2).bind _ = _
      rw [hy]
      rfl
theorem declW_same (k : Nat) {v v2 : PTr.S26} (h : SameL [v] [v2]) {t : List UInt8} (ht : declW k v = some t) : declW k v2 = some t := by
  obtain ⟨h0, h1, h2, hk, _⟩ := h.cons_inv
  unfold declW at ht ⊢
  obtain ⟨x, hx, ht⟩ := Option.bind_eq_some_iff.1 ht
  obtain ⟨u, hu, ht⟩ := Option.bind_eq_some_iff.1 ht
  obtain ⟨y, hy, e1, e2⟩ := wordsW_same k hk x hx
  rw [hy]
  show (propsW k y.2).bind _ = _
  rw [← propsW_same k e2, hu, h1, e1]
  exact ht
theorem declsW_same (k : Nat) {a b : List PTr.S26} (h : SameL a b) : ∀ t, declsW k a = some t → declsW k b = some t := by
  induction h with
  | nil => intro t h; exact h
  | cons v v2 r r2 h0 h1 h2 hk hr _ ih =>
    intro t h
    unfold declsW at h ⊢
    obtain ⟨x, hx, h⟩ := Option.bind_eq_some_iff.1 h
    obtain ⟨u, hu, h⟩ := Option.bind_eq_some_iff.1 h
    rw [declW_same k (.cons v v2 _ _ h0 h1 h2 hk .nil) hx]
    show (declsW k r2).bind _ = _
    rw [ih u hu]
    exact h
theorem same_any {a b : List PTr.S26} (x : Int) (h : SameL a b) (hw : wtVs a < 1000000000) : Ev (fun k => bournelaw15_same.f k 0 ⟨#[]⟩ 0 0 x a 0 ⟨#[]⟩ 0 0 0 b) true := by
  have h5 := same_l0 h [] [] 0 ⟨#[]⟩ 0 0 x 0 ⟨#[]⟩ 0 0 0 rfl (by rw [List.nil_append]; exact hw)
  rw [List.nil_append, List.nil_append] at h5
  refine Ev.step (f := fun n => bournelaw15_same.j0 n false 0 ⟨#[]⟩ 0 0 x a 0 ⟨#[]⟩ 0 0 0 b) (fun n => ?_) (Ev.step (fun n => ?_) h5)
  · simp only [bournelaw15_same.f]
    rw [if_pos trivial, if_pos trivial, if_neg (by simp), show ((a.length : Int) != (b.length : Int)) = false by rw [h.len]; simp]
  · simp only [bournelaw15_same.j0, Bool.false_eq_true, if_false]
    rfl
open Classical in
theorem back_calls (n : PTr.S26) (A : Option Addr) (c : Nat) (w : World) (hg : UW w) (hL : Kd.C PTr.k26 w A n.f4.length n.f4) (hc : n.f4.length ≤ c) :
    Calls Tryz.prog 3 #[.agg #[.int .i64 n.f0, .string n.f1, .int .i64 n.f2.f0, .int .i64 n.f2.f1, .int .i64 n.f3, .slice A n.f4.length c]] w fun e w' => e = .returned (.bool true) ∧ Below w.heap.size w w' := by
  obtain ⟨K0, h0⟩ := size_f n 0 (by decide)
  by_cases hz : szV n 0 ≤ 300
  · have hwr := szV_wr n 0 hz
    have hwt := wtV_le n
    have hwrK := wrV_eq n
    have hwtK := wtV_eq n
    have hz2 : ¬ 300 < ((szV n 0 : Nat) : Int) := by omega
    by_cases hok : okRoot n
    · obtain ⟨q, hq, hd⟩ := parts_of n.f4 hok.2.2.2
      have hlq := lenF q hd
      rw [hq] at hlq
      obtain ⟨kw, hkw⟩ := rootW_f n q hq hd hok (by omega)
      have hwf := Ex.tree_Write.f_of hkw (by omega)
      have hx : (⟨(cat (pF q)).toArray⟩ : ByteArray).data.toList = cat (pF q) := rfl
      have hsz : (⟨(cat (pF q)).toArray⟩ : ByteArray).size = (cat (pF q)).length := by rw [Lib.size_eq]
      have hr := right_f n (by omega)
      rw [decide_eq_true hok] at hr
      obtain ⟨K1, h1⟩ := hr
      obtain ⟨e0, e1, e2, hkids⟩ := hok
      obtain ⟨k0, t, am, x, l⟩ := n
      simp only at e0 e1 e2
      subst e0 e1 e2
      by_cases hbig : 65536 < (cat (pF q)).length
      · have hsc : scanL (⟨(cat (pF q)).toArray⟩ : ByteArray).data.toList = ([], 8, 0) := by rw [hx]; unfold scanL; rw [if_pos hbig]
        have hp := Ex.tree_Parse.f_scan (s := ⟨(cat (pF q)).toArray⟩) (by rw [hsc]; decide)
        rw [hsc] at hp
        exact back_big (max K0 K1) x A c l _ (Lib.hid (h0 _ (by omega))) hz2 _ (Lib.hid hwf) (Lib.hid (h1 _ (by omega))) (decide_eq_true (by rw [hsz]; omega)) (Lib.hid hp) w (Lib.hid hL) (Lib.hid hc) (Lib.hid hg)
      · obtain ⟨T3, hsc3, l3, n3, hr3, hS3⟩ := back_F q hd (by omega)
        rw [hq] at hS3
        have hp : Ex.tree_Parse.f ⟨(cat (pF q)).toArray⟩ = some (0, ⟨#[]⟩, 0, 0, 0, l3, 0, 0) := by
          refine Ex.tree_Parse.f_ok (n := n3) (by rw [hx, hsc3]) ?_
          unfold srcT
          rw [hx, hsc3]
          exact hr3
        simp only at hS3 hq hwtK hwrK
        obtain ⟨K2, h2⟩ := same_any x hS3 (by omega)
        -- the tree that was read, written again
        obtain ⟨ts, hcc, hl, hsc4⟩ := ch_of_scanL (s := cat (pF q)) (by rw [hsc3])
        have hT3 : T3.map toS = endT ts (cat (pF q)).length := by
          rw [hsc3] at hsc4
          have := congrArg Prod.fst hsc4
          simp only at this
          unfold endT
          rw [this]
        rw [hT3] at hr3
        have hroot := root_of hcc hl hr3
        have hcost := rl_cost (src_of hcc hl).hE hr3
        have hce := cs_endT hcc
        have hw3 : Ex.tree_Write.f 0 ⟨#[]⟩ 0 0 0 l3 = some ⟨(cat (pF q)).toArray⟩ := by
          have h1 := right_f ⟨0, ⟨#[]⟩, ⟨0, 0⟩, 0, l3⟩ (by have := wtVs_le l3; rw [wtV_eq]; simp only; have : (⟨#[]⟩ : ByteArray).size = 0 := rfl; omega)
          rw [decide_eq_true hroot] at h1
          have h2 := declsW_f q hd (by rw [hq]; omega)
          rw [hq] at h2
          obtain ⟨K1, h1⟩ := h1
          obtain ⟨K2, h2⟩ := h2
          refine Ex.tree_Write.f_of (n := ⟨0, ⟨#[]⟩, ⟨0, 0⟩, 0, l3⟩) (k := max K1 K2) ?_ (by omega)
          unfold rootW
          have h3 : tree_Right.f (max K1 K2) 0 ⟨#[]⟩ 0 0 0 l3 = some true := h1 _ (Nat.le_max_left _ _)
          show (tree_Right.f (max K1 K2) 0 ⟨#[]⟩ 0 0 0 l3).bind _ = _
          rw [h3]
          exact declsW_same _ hS3 _ (h2 _ (Nat.le_max_right _ _))
        exact back_all (max (max K0 K1) K2) x A c l _ (Lib.hid (h0 _ (by omega))) hz2 _ (Lib.hid hwf) (Lib.hid (h1 _ (by omega))) (decide_eq_false (by rw [hsz]; omega)) l3 (Lib.hid hp) (Lib.hid (h2 _ (by omega))) (Lib.hid hw3) w (Lib.hid hL) (Lib.hid hc) (Lib.hid hg)
    · obtain ⟨kw, hkw⟩ := rootW_no n hok (by omega)
      have hwf := Ex.tree_Write.f_of hkw (by simp)
      have hr := right_f n (by omega)
      rw [decide_eq_false hok] at hr
      obtain ⟨K1, h1⟩ := hr
      exact back_no (max K0 K1) _ _ _ _ _ A c n.f4 _ (Lib.hid (h0 _ (by omega))) hz2 (Lib.hid hwf) (Lib.hid (h1 _ (by omega))) w (Lib.hid hL) (Lib.hid hc) (Lib.hid hg)
  · exact back_long K0 _ _ _ _ _ A c n.f4 _ (Lib.hid (h0 _ (Nat.le_refl _))) (by omega) w (Lib.hid hL) (Lib.hid hc) (Lib.hid hg)
end Go.Proofs.YtahjkibjcibpgaaGreatDoor.L
end
section
namespace Go.Proofs.YtahjkibjcibpgaaGreatDoor.L
open Go.ChangeShapes Go.WideShapes Go.ChangeAt Go.RowKit Go.Joins
open Go.Proofs.YtahjkibjcibpgaaGreatDoor.U Go.Proofs.YtahjkibjcibpgaaGreatDoorW.PrintWords
theorem cells26 : Tryz.prog.cellsOf 26 = 6 := by kernel_rfl
theorem cells23 : Tryz.prog.cellsOf 23 = 2 := by kernel_rfl
theorem cells24 : Tryz.prog.cellsOf 24 = 1 := by kernel_rfl
theorem cellsI : Tryz.prog.cellsOf 3 = 1 := by kernel_rfl
theorem cellsS : Tryz.prog.cellsOf 9 = 1 := by kernel_rfl
theorem len6 {α : Type} (l : List α) (h : l.length = 6) : ∃ a b c d e f, l = [a, b, c, d, e, f] := by
  rcases l with _ | ⟨a, _ | ⟨b, _ | ⟨c, _ | ⟨d, _ | ⟨e, _ | ⟨f, _ | ⟨g, r⟩⟩⟩⟩⟩⟩⟩ <;> simp at h
  exact ⟨_, _, _, _, _, _, rfl⟩
theorem len5 {α : Type} (l : List α) (h : l.length = 5) : ∃ a b c d e, l = [a, b, c, d, e] := by
  rcases l with _ | ⟨a, _ | ⟨b, _ | ⟨c, _ | ⟨d, _ | ⟨e, _ | ⟨f, r⟩⟩⟩⟩⟩⟩ <;> simp at h
  exact ⟨_, _, _, _, _, rfl⟩
theorem len2 {α : Type} (l : List α) (h : l.length = 2) : ∃ a b, l = [a, b] := by
  rcases l with _ | ⟨a, _ | ⟨b, _ | ⟨c, r⟩⟩⟩ <;> simp at h
  exact ⟨_, _, rfl⟩
section
variable {H : Type} {enc : TypeId × Value → H} {W : World}
theorem node_open : ∀ (F fuel : Nat), fuel ≤ F → ∀ (cs : List Value) (x : DataW H × List MemPlace), DataW.trod enc Tryz.prog W 0 (fun _ => true) true fuel 26 cs = some x →
    ∃ (n : PTr.S26) (A : Option Addr) (c : Nat), cs = [.int .i64 n.f0, .string n.f1, .int .i64 n.f2.f0, .int .i64 n.f2.f1, .int .i64 n.f3, .slice A n.f4.length c] ∧ n.f4.length ≤ c ∧ Kd.C PTr.k26 W A n.f4.length n.f4 := by
  intro F
  induction F with
  | zero => intro fuel hf cs x h; obtain rfl : fuel = 0 := by omega
            simp [DataW.trod] at h
  | succ F ih =>
    intro fuel hf cs x h
    obtain ⟨xs, m, rfl, rfl, hl, hxl, hall⟩ := DataW.trod_struct Tryz.underlying26 h
    rw [cells26] at hl
    obtain ⟨v0, v1, v2, v3, v4, v5, rfl⟩ := len6 cs hl
    obtain ⟨x0, x1, x2, x3, x4, rfl⟩ := len5 xs hxl
    have g0 : DataW.trod enc Tryz.prog W 0 (fun _ => true) true m 3 (([v0, v1, v2, v3, v4, v5].drop 0).take (Tryz.prog.cellsOf 3)) = some x0 := hall 0 _ rfl
    have g1 : DataW.trod enc Tryz.prog W 0 (fun _ => true) true m 9 (([v0, v1, v2, v3, v4, v5].drop 1).take (Tryz.prog.cellsOf 9)) = some x1 := hall 1 _ rfl
    have g2 : DataW.trod enc Tryz.prog W 0 (fun _ => true) true m 23 (([v0, v1, v2, v3, v4, v5].drop 2).take (Tryz.prog.cellsOf 23)) = some x2 := hall 2 _ rfl
    have g3 : DataW.trod enc Tryz.prog W 0 (fun _ => true) true m 3 (([v0, v1, v2, v3, v4, v5].drop 4).take (Tryz.prog.cellsOf 3)) = some x3 := hall 3 _ rfl
    have g4 : DataW.trod enc Tryz.prog W 0 (fun _ => true) true m 24 (([v0, v1, v2, v3, v4, v5].drop 5).take (Tryz.prog.cellsOf 24)) = some x4 := hall 4 _ rfl
    rw [cellsI] at g0 g3
    rw [cellsS] at g1
    rw [cells23] at g2
    rw [cells24] at g4
    obtain ⟨k, e0, _, _⟩ := DataW.trod_int (k := .i64) Tryz.underlying3 g0
    obtain ⟨t, e1, _, _⟩ := DataW.trod_string Tryz.underlying9 g1
    obtain ⟨at_, e3, _, _⟩ := DataW.trod_int (k := .i64) Tryz.underlying3 g3
    obtain ⟨ys, m2, _, _, _, hyl, hall2⟩ := DataW.trod_struct Tryz.underlying23 g2
    obtain ⟨y0, y1, rfl⟩ := len2 ys hyl
    have q0 : DataW.trod enc Tryz.prog W 0 (fun _ => true) true m2 3 ((((([v0, v1, v2, v3, v4, v5] : List Value).drop 2).take 2).drop 0).take (Tryz.prog.cellsOf 3)) = some y0 := hall2 0 _ rfl
    have q1 : DataW.trod enc Tryz.prog W 0 (fun _ => true) true m2 3 ((((([v0, v1, v2, v3, v4, v5] : List Value).drop 2).take 2).drop 1).take (Tryz.prog.cellsOf 3)) = some y1 := hall2 1 _ rfl
    rw [cellsI] at q0 q1
    obtain ⟨an, e2, _, _⟩ := DataW.trod_int (k := .i64) Tryz.underlying3 q0
    obtain ⟨ad, e2', _, _⟩ := DataW.trod_int (k := .i64) Tryz.underlying3 q1
    simp at e0 e1 e2 e2' e3
    subst e0 e1 e2 e2' e3
    rcases DataW.trod_slice (e := 26) Tryz.underlying24 g4 with ⟨e4, _⟩ | ⟨a, len, cap, elems, rest, m3, rfl, e4, _, _, hlc, hcm, hel, hi, _, _⟩
    · simp at e4
      subst e4
      exact ⟨⟨k, t, ⟨an, ad⟩, at_, []⟩, none, 0, rfl, Nat.le_refl _, rfl, by simp, fun h => absurd h (by simp)⟩
    · simp at e4
      subst e4
      have key : ∀ i, i < len → ∃ n : PTr.S26, ∃ cs', cs'.length = 6 ∧ PTr.k26.K W n cs' ∧ ∀ j u, cs'[j]? = some u → W.cell? (a.add (i * 6 + j)) = some u := by
        intro i hlt
        have h1 := hi i hlt
        have h2 : ∃ y, elems[i]? = some y := ⟨_, List.getElem?_eq_getElem (by omega)⟩
        obtain ⟨y, hy⟩ := h2
        rw [hy] at h1
        obtain ⟨cs', hc, ht⟩ := Option.bind_eq_some_iff.1 h1
        rw [cells26] at hc
        obtain ⟨_, hcl, hat⟩ := World.cells?_some hc
        obtain ⟨n, A, c, rfl, hle, hC⟩ := ih m3 (by omega) cs' y ht
        refine ⟨n, _, rfl, PTr.k26_mk W n hle hC, fun j u hu => ?_⟩
        have hj : j < 6 := by
          have := (List.getElem?_eq_some_iff.1 hu).1
          simpa using this
        rw [← Go.Deep.add_add, hat j hj, hu]
      classical
      let f : Nat → PTr.S26 := fun i => if h : i < len then (key i h).choose else PTr.z26
      refine ⟨⟨k, t, ⟨an, ad⟩, at_, (List.range len).map f⟩, some a, cap, by simp, by simpa using hlc, by simp, ?_, fun _ => ⟨a, rfl, fun i p hp => ?_⟩⟩
      · unfold maxLen at hcm
        simp only [List.length_map, List.length_range]
        omega
      · have hlt : i < len := by
          have := (List.getElem?_eq_some_iff.1 hp).1
          simpa using this
        have hpf : p = f i := by
          simp [hlt] at hp
          exact hp.symm
        have hfi : f i = (key i hlt).choose := dif_pos hlt
        rw [hpf, hfi]
        exact (key i hlt).choose_spec
end
end Go.Proofs.YtahjkibjcibpgaaGreatDoor.L
end
