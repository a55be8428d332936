/- What this claim's texts prove on the way, joined by program (wip/tools/merge.py), without what no text of the claim names. -/
import Derived.Test.YtahjkibjcibpgaaGreatDoorMU2
import Derived.Deep.RegionHeld3
import Derived.Deep.LoopGhost
import Derived.Deep.DrawnRows
import Derived.Defers
import Derived.Recover
import Derived.Shelf.Strings.BuilderK
section
namespace Go.Proofs.YtahjkibjcibpgaaGreatDoor.L
open Go.RowKit Go.Shelf Go.Lib Go.Proofs.YtahjkibjcibpgaaGreatDoor.U
open Go.Proofs.YtahjkibjcibpgaaGreatDoorW.PrintWords
attribute [local go_sem] Oper.semAt_some
def nodeV (n : PTr.S26) (v5 : Value) : Value := .agg #[.int .i64 n.f0, .string n.f1, .int .i64 n.f2.f0, .int .i64 n.f2.f1, .int .i64 n.f3, v5]
theorem results38 {W : World} {tmps : Array Value} {b : Nat} {n0 : Int} {n1 : ByteArray} {n2 n3 n4 : Int} {v5 : Value} {ok : Bool} (h2 : tmps.getD 2 undef = .pointer (some ⟨b, 0, none⟩)) (h3 : tmps.getD 3 undef = .bool ok)
    (hb : W.heap[b]? = some (.cells #[.int .i64 n0, .string n1, .int .i64 n2, .int .i64 n3, .int .i64 n4, v5] 26 (0, 0))) :
    (results Tryz.f38 tmps).run Tryz.prog W = .ok (.tuple #[.agg #[.int .i64 n0, .string n1, .int .i64 n2, .int .i64 n3, .int .i64 n4, v5], .bool ok]) W := by
  have c0 : W.cell? ⟨b, 0, none⟩ = some (.int .i64 n0) := blk_cell hb 0
  have c1 : W.cell? ⟨b, 0 + 1, none⟩ = some (.string n1) := blk_cell hb 1
  have c2 : W.cell? ⟨b, 0 + 1 + 1, none⟩ = some (.int .i64 n2) := blk_cell hb 2
  have c3 : W.cell? ⟨b, 0 + 1 + 1 + 1, none⟩ = some (.int .i64 n3) := blk_cell hb 3
  have c4 : W.cell? ⟨b, 0 + 1 + 1 + 1 + 1, none⟩ = some (.int .i64 n4) := blk_cell hb 4
  have c5 : W.cell? ⟨b, 0 + 1 + 1 + 1 + 1 + 1, none⟩ = some v5 := blk_cell hb 5
  simp only [Array.getD_eq_getD_getElem?] at h2 h3
  simp [results, Tryz.f38, go_sem, h2, h3, c0, c1, c2, c3, c4, c5]
theorem leaf_name (T : List PTr.S41) (tv : Value) (B base i d : Nat) (w : World) (hp : PW T tv B base i d w) (h : ((tokAt T i).f0 == 0) = true) (hi : i + 1 < T.length) (hl : T.length ≤ 140737488355328) :
    Calls Tryz.prog 38 #[.pointer (some ⟨B, 0, none⟩)] w fun e w' => e = .returned (.tuple #[nodeV (leafN 3 (tokAt T i)) (.slice none 0 0), .bool true]) ∧ PW T tv B base (i + 1) d w' ∧ w.grownBy w' (some B) := by
  have hp' := Lib.hid hp
  have hp2 := hp.below ((Below.refl w.heap.size w).alloc (Nat.le_refl _) (.cells #[.int .i64 0, .string ⟨#[]⟩, .int .i64 0, .int .i64 0, .int .i64 0, .slice none 0 0] 26))
  have hB := blk_lt hp.blk
  clear hp
  have hP2 := Lib.hid hp2
  clear hp2
  have hn0 := World.alloc_heap_new w (.cells #[.int .i64 0, .string ⟨#[]⟩, .int .i64 0, .int .i64 0, .int .i64 0, .slice none 0 0] 26)
  obtain ⟨W0, hW0⟩ : ∃ W0, w.alloc (.cells #[.int .i64 0, .string ⟨#[]⟩, .int .i64 0, .int .i64 0, .int .i64 0, .slice none 0 0] 26) = W0 := ⟨_, rfl⟩
  have hz0 : W0.heap.size = w.heap.size + 1 := by rw [← hW0, World.size_alloc]
  have hb0 : Below w.heap.size w W0 := by rw [← hW0]; exact (Below.refl _ _).alloc (Nat.le_refl _) _
  rw [hW0] at hP2 hn0
  go_enter Tryz.func38, Tryz.ntmps38
  go_wp2_with (first | (go_at_call 24; go_loud (refine (now_any T tv B base i d _ hP2.out).mono ?_; rintro e w1 ⟨rfl, hb⟩; generalize hx : tokAt T i = x at h ⊢; obtain ⟨k, t, a⟩ := x; simp only at h ⊢; have hb1 : Below W0.heap.size W0 (w1.alloc (.cells #[.int .i64 k, .string t, .int .i64 a] 41)) := hb.alloc hb.size _; have hn1 := World.alloc_heap_new w1 (.cells #[.int .i64 k, .string t, .int .i64 a] 41); have s1 := hb.size; have hP3 := Lib.hid (hP2.out.below hb1); have b1 : (w1.alloc (.cells #[.int .i64 k, .string t, .int .i64 a] 41)).cell? ⟨B, 1, none⟩ = some (.int .i64 (i : Int)) := blk_cell hP3.out.blk 1; have z1 : (w1.alloc (.cells #[.int .i64 k, .string t, .int .i64 a] 41)).frozen? ⟨B, 1, none⟩ = false := blk_frozen hP3.out.blk 1; have hm : ((w1.alloc (.cells #[.int .i64 k, .string t, .int .i64 a] 41)).heap[w.heap.size]?) = some (.cells #[.int .i64 0, .string ⟨#[]⟩, .int .i64 0, .int .i64 0, .int .i64 0, .slice none 0 0] 26 (0, 0)) := (hb1.block _ (by omega)).trans hn0; have m0 : (w1.alloc (.cells #[.int .i64 k, .string t, .int .i64 a] 41)).cell? ⟨w.heap.size, 0, none⟩ = some (.int .i64 0) := blk_cell hm 0; have y0 : (w1.alloc (.cells #[.int .i64 k, .string t, .int .i64 a] 41)).frozen? ⟨w.heap.size, 0, none⟩ = false := blk_frozen hm 0; have m1 : (w1.alloc (.cells #[.int .i64 k, .string t, .int .i64 a] 41)).cell? ⟨w.heap.size, 1, none⟩ = some (.string ⟨#[]⟩) := blk_cell hm 1; have y1 : (w1.alloc (.cells #[.int .i64 k, .string t, .int .i64 a] 41)).frozen? ⟨w.heap.size, 1, none⟩ = false := blk_frozen hm 1; have m2 : (w1.alloc (.cells #[.int .i64 k, .string t, .int .i64 a] 41)).cell? ⟨w.heap.size, 2, none⟩ = some (.int .i64 0) := blk_cell hm 2; have y2 : (w1.alloc (.cells #[.int .i64 k, .string t, .int .i64 a] 41)).frozen? ⟨w.heap.size, 2, none⟩ = false := blk_frozen hm 2; have m3 : (w1.alloc (.cells #[.int .i64 k, .string t, .int .i64 a] 41)).cell? ⟨w.heap.size, 3, none⟩ = some (.int .i64 0) := blk_cell hm 3; have y3 : (w1.alloc (.cells #[.int .i64 k, .string t, .int .i64 a] 41)).frozen? ⟨w.heap.size, 3, none⟩ = false := blk_frozen hm 3; have m4 : (w1.alloc (.cells #[.int .i64 k, .string t, .int .i64 a] 41)).cell? ⟨w.heap.size, 4, none⟩ = some (.int .i64 0) := blk_cell hm 4; have y4 : (w1.alloc (.cells #[.int .i64 k, .string t, .int .i64 a] 41)).frozen? ⟨w.heap.size, 4, none⟩ = false := blk_frozen hm 4; have m5 : (w1.alloc (.cells #[.int .i64 k, .string t, .int .i64 a] 41)).cell? ⟨w.heap.size, 5, none⟩ = some (.slice none 0 0) := blk_cell hm 5; have y5 : (w1.alloc (.cells #[.int .i64 k, .string t, .int .i64 a] 41)).frozen? ⟨w.heap.size, 5, none⟩ = false := blk_frozen hm 5; have hBn : w.heap.size ≠ B := (by omega); have hw : wrap64 ((i : Int) + 1) = (i : Int) + 1 := (by unfold wrap64; omega))))
  rw [hx]
  have hgb : w.grownBy ((((((((w1.alloc (.cells #[.int .i64 k, .string t, .int .i64 a] 41)).setCell ⟨B, 1, none⟩ (.int .i64 ((i : Int) + 1))).setCell ⟨w.heap.size, 0, none⟩ (.int .i64 3)).setCell ⟨w.heap.size, 1, none⟩ (.string t)).setCell ⟨w.heap.size, 2, none⟩ (.int .i64 0)).setCell ⟨w.heap.size, 3, none⟩ (.int .i64 0)).setCell ⟨w.heap.size, 4, none⟩ (.int .i64 a)).setCell ⟨w.heap.size, 5, none⟩ (.slice none 0 0)) (some B) := gb_new (gb_new (gb_new (gb_new (gb_new (gb_new (gb_set (gb_below (below_step hb0 hb1)) 1 _) (Nat.le_refl _) 0 _) (Nat.le_refl _) 1 _) (Nat.le_refl _) 2 _) (Nat.le_refl _) 3 _) (Nat.le_refl _) 4 _) (Nat.le_refl _) 5 _
  refine bodyPost_ret (results38 (b := w.heap.size) rfl rfl (blk_set (blk_set (blk_set (blk_set (blk_set (blk_set (blk_far hm (p := ⟨B, 1, none⟩) hBn _) 0 (.int .i64 3)) 1 (.string t)) 2 (.int .i64 0)) 3 (.int .i64 0)) 4 (.int .i64 a)) 5 (.slice none 0 0))) rfl ⟨rfl, hp'.out.of hgb ?_ hi, hgb⟩
  exact blk_far (blk_far (blk_far (blk_far (blk_far (blk_far (blk_set hP3.out.blk 1 _) (Ne.symm hBn) _) (Ne.symm hBn) _) (Ne.symm hBn) _) (Ne.symm hBn) _) (Ne.symm hBn) _) (Ne.symm hBn) _
theorem leaf_text (T : List PTr.S41) (tv : Value) (B base i d : Nat) (w : World) (hp : PW T tv B base i d w) (h0 : ((tokAt T i).f0 == 0) = false) (h : ((tokAt T i).f0 == 2) = true) (hi : i + 1 < T.length) (hl : T.length ≤ 140737488355328) :
    Calls Tryz.prog 38 #[.pointer (some ⟨B, 0, none⟩)] w fun e w' => e = .returned (.tuple #[nodeV (leafN 4 (tokAt T i)) (.slice none 0 0), .bool true]) ∧ PW T tv B base (i + 1) d w' ∧ w.grownBy w' (some B) := by
  have hp' := Lib.hid hp
  have hp2 := hp.below ((Below.refl w.heap.size w).alloc (Nat.le_refl _) (.cells #[.int .i64 0, .string ⟨#[]⟩, .int .i64 0, .int .i64 0, .int .i64 0, .slice none 0 0] 26))
  have hB := blk_lt hp.blk
  clear hp
  have hP2 := Lib.hid hp2
  clear hp2
  have hn0 := World.alloc_heap_new w (.cells #[.int .i64 0, .string ⟨#[]⟩, .int .i64 0, .int .i64 0, .int .i64 0, .slice none 0 0] 26)
  obtain ⟨W0, hW0⟩ : ∃ W0, w.alloc (.cells #[.int .i64 0, .string ⟨#[]⟩, .int .i64 0, .int .i64 0, .int .i64 0, .slice none 0 0] 26) = W0 := ⟨_, rfl⟩
  have hz0 : W0.heap.size = w.heap.size + 1 := by rw [← hW0, World.size_alloc]
  have hb0 : Below w.heap.size w W0 := by rw [← hW0]; exact (Below.refl _ _).alloc (Nat.le_refl _) _
  rw [hW0] at hP2 hn0
  go_enter Tryz.func38, Tryz.ntmps38
  go_wp2_with (first | (go_at_call 24; go_loud (refine (now_any T tv B base i d _ hP2.out).mono ?_; rintro e w1 ⟨rfl, hb⟩; generalize hx : tokAt T i = x at h0 h ⊢; obtain ⟨k, t, a⟩ := x; simp only at h0 h ⊢; have hb1 : Below W0.heap.size W0 (w1.alloc (.cells #[.int .i64 k, .string t, .int .i64 a] 41)) := hb.alloc hb.size _; have hn1 := World.alloc_heap_new w1 (.cells #[.int .i64 k, .string t, .int .i64 a] 41); have s1 := hb.size; have hP3 := Lib.hid (hP2.out.below hb1); have b1 : (w1.alloc (.cells #[.int .i64 k, .string t, .int .i64 a] 41)).cell? ⟨B, 1, none⟩ = some (.int .i64 (i : Int)) := blk_cell hP3.out.blk 1; have z1 : (w1.alloc (.cells #[.int .i64 k, .string t, .int .i64 a] 41)).frozen? ⟨B, 1, none⟩ = false := blk_frozen hP3.out.blk 1; have hm : ((w1.alloc (.cells #[.int .i64 k, .string t, .int .i64 a] 41)).heap[w.heap.size]?) = some (.cells #[.int .i64 0, .string ⟨#[]⟩, .int .i64 0, .int .i64 0, .int .i64 0, .slice none 0 0] 26 (0, 0)) := (hb1.block _ (by omega)).trans hn0; have m0 : (w1.alloc (.cells #[.int .i64 k, .string t, .int .i64 a] 41)).cell? ⟨w.heap.size, 0, none⟩ = some (.int .i64 0) := blk_cell hm 0; have y0 : (w1.alloc (.cells #[.int .i64 k, .string t, .int .i64 a] 41)).frozen? ⟨w.heap.size, 0, none⟩ = false := blk_frozen hm 0; have m1 : (w1.alloc (.cells #[.int .i64 k, .string t, .int .i64 a] 41)).cell? ⟨w.heap.size, 1, none⟩ = some (.string ⟨#[]⟩) := blk_cell hm 1; have y1 : (w1.alloc (.cells #[.int .i64 k, .string t, .int .i64 a] 41)).frozen? ⟨w.heap.size, 1, none⟩ = false := blk_frozen hm 1; have m2 : (w1.alloc (.cells #[.int .i64 k, .string t, .int .i64 a] 41)).cell? ⟨w.heap.size, 2, none⟩ = some (.int .i64 0) := blk_cell hm 2; have y2 : (w1.alloc (.cells #[.int .i64 k, .string t, .int .i64 a] 41)).frozen? ⟨w.heap.size, 2, none⟩ = false := blk_frozen hm 2; have m3 : (w1.alloc (.cells #[.int .i64 k, .string t, .int .i64 a] 41)).cell? ⟨w.heap.size, 3, none⟩ = some (.int .i64 0) := blk_cell hm 3; have y3 : (w1.alloc (.cells #[.int .i64 k, .string t, .int .i64 a] 41)).frozen? ⟨w.heap.size, 3, none⟩ = false := blk_frozen hm 3; have m4 : (w1.alloc (.cells #[.int .i64 k, .string t, .int .i64 a] 41)).cell? ⟨w.heap.size, 4, none⟩ = some (.int .i64 0) := blk_cell hm 4; have y4 : (w1.alloc (.cells #[.int .i64 k, .string t, .int .i64 a] 41)).frozen? ⟨w.heap.size, 4, none⟩ = false := blk_frozen hm 4; have m5 : (w1.alloc (.cells #[.int .i64 k, .string t, .int .i64 a] 41)).cell? ⟨w.heap.size, 5, none⟩ = some (.slice none 0 0) := blk_cell hm 5; have y5 : (w1.alloc (.cells #[.int .i64 k, .string t, .int .i64 a] 41)).frozen? ⟨w.heap.size, 5, none⟩ = false := blk_frozen hm 5; have hBn : w.heap.size ≠ B := (by omega); have hw : wrap64 ((i : Int) + 1) = (i : Int) + 1 := (by unfold wrap64; omega))))
  rw [hx]
  have hgb : w.grownBy ((((((((w1.alloc (.cells #[.int .i64 k, .string t, .int .i64 a] 41)).setCell ⟨B, 1, none⟩ (.int .i64 ((i : Int) + 1))).setCell ⟨w.heap.size, 0, none⟩ (.int .i64 4)).setCell ⟨w.heap.size, 1, none⟩ (.string t)).setCell ⟨w.heap.size, 2, none⟩ (.int .i64 0)).setCell ⟨w.heap.size, 3, none⟩ (.int .i64 0)).setCell ⟨w.heap.size, 4, none⟩ (.int .i64 a)).setCell ⟨w.heap.size, 5, none⟩ (.slice none 0 0)) (some B) := gb_new (gb_new (gb_new (gb_new (gb_new (gb_new (gb_set (gb_below (below_step hb0 hb1)) 1 _) (Nat.le_refl _) 0 _) (Nat.le_refl _) 1 _) (Nat.le_refl _) 2 _) (Nat.le_refl _) 3 _) (Nat.le_refl _) 4 _) (Nat.le_refl _) 5 _
  refine bodyPost_ret (results38 (b := w.heap.size) rfl rfl (blk_set (blk_set (blk_set (blk_set (blk_set (blk_set (blk_far hm (p := ⟨B, 1, none⟩) hBn _) 0 (.int .i64 4)) 1 (.string t)) 2 (.int .i64 0)) 3 (.int .i64 0)) 4 (.int .i64 a)) 5 (.slice none 0 0))) rfl ⟨rfl, hp'.out.of hgb ?_ hi, hgb⟩
  exact blk_far (blk_far (blk_far (blk_far (blk_far (blk_far (blk_set hP3.out.blk 1 _) (Ne.symm hBn) _) (Ne.symm hBn) _) (Ne.symm hBn) _) (Ne.symm hBn) _) (Ne.symm hBn) _) (Ne.symm hBn) _
theorem leaf_none (T : List PTr.S41) (tv : Value) (B base i d : Nat) (w : World) (hp : PW T tv B base i d w) (h0 : ((tokAt T i).f0 == 0) = false) (h : ((tokAt T i).f0 == 2) = false)  :
    Calls Tryz.prog 38 #[.pointer (some ⟨B, 0, none⟩)] w fun e w' => e = .returned (.tuple #[nodeV PTr.z26 (.slice none 0 0), .bool false]) ∧ PW T tv B base i d w' ∧ w.grownBy w' (some B) := by
  have hp' := Lib.hid hp
  have hp2 := hp.below ((Below.refl w.heap.size w).alloc (Nat.le_refl _) (.cells #[.int .i64 0, .string ⟨#[]⟩, .int .i64 0, .int .i64 0, .int .i64 0, .slice none 0 0] 26))
  have hB := blk_lt hp.blk
  clear hp
  have hP2 := Lib.hid hp2
  clear hp2
  have hn0 := World.alloc_heap_new w (.cells #[.int .i64 0, .string ⟨#[]⟩, .int .i64 0, .int .i64 0, .int .i64 0, .slice none 0 0] 26)
  obtain ⟨W0, hW0⟩ : ∃ W0, w.alloc (.cells #[.int .i64 0, .string ⟨#[]⟩, .int .i64 0, .int .i64 0, .int .i64 0, .slice none 0 0] 26) = W0 := ⟨_, rfl⟩
  have hz0 : W0.heap.size = w.heap.size + 1 := by rw [← hW0, World.size_alloc]
  have hb0 : Below w.heap.size w W0 := by rw [← hW0]; exact (Below.refl _ _).alloc (Nat.le_refl _) _
  rw [hW0] at hP2 hn0
  go_enter Tryz.func38, Tryz.ntmps38
  go_wp2_with (first | (go_at_call 24; go_loud (refine (now_any T tv B base i d _ hP2.out).mono ?_; rintro e w1 ⟨rfl, hb⟩; generalize hx : tokAt T i = x at h0 h ⊢; obtain ⟨k, t, a⟩ := x; simp only at h0 h ⊢; have hb1 : Below W0.heap.size W0 (w1.alloc (.cells #[.int .i64 k, .string t, .int .i64 a] 41)) := hb.alloc hb.size _; have hn1 := World.alloc_heap_new w1 (.cells #[.int .i64 k, .string t, .int .i64 a] 41); have s1 := hb.size; have hP3 := Lib.hid (hP2.out.below hb1); have b1 : (w1.alloc (.cells #[.int .i64 k, .string t, .int .i64 a] 41)).cell? ⟨B, 1, none⟩ = some (.int .i64 (i : Int)) := blk_cell hP3.out.blk 1; have z1 : (w1.alloc (.cells #[.int .i64 k, .string t, .int .i64 a] 41)).frozen? ⟨B, 1, none⟩ = false := blk_frozen hP3.out.blk 1; have hm : ((w1.alloc (.cells #[.int .i64 k, .string t, .int .i64 a] 41)).heap[w.heap.size]?) = some (.cells #[.int .i64 0, .string ⟨#[]⟩, .int .i64 0, .int .i64 0, .int .i64 0, .slice none 0 0] 26 (0, 0)) := (hb1.block _ (by omega)).trans hn0; have m0 : (w1.alloc (.cells #[.int .i64 k, .string t, .int .i64 a] 41)).cell? ⟨w.heap.size, 0, none⟩ = some (.int .i64 0) := blk_cell hm 0; have y0 : (w1.alloc (.cells #[.int .i64 k, .string t, .int .i64 a] 41)).frozen? ⟨w.heap.size, 0, none⟩ = false := blk_frozen hm 0; have m1 : (w1.alloc (.cells #[.int .i64 k, .string t, .int .i64 a] 41)).cell? ⟨w.heap.size, 1, none⟩ = some (.string ⟨#[]⟩) := blk_cell hm 1; have y1 : (w1.alloc (.cells #[.int .i64 k, .string t, .int .i64 a] 41)).frozen? ⟨w.heap.size, 1, none⟩ = false := blk_frozen hm 1; have m2 : (w1.alloc (.cells #[.int .i64 k, .string t, .int .i64 a] 41)).cell? ⟨w.heap.size, 2, none⟩ = some (.int .i64 0) := blk_cell hm 2; have y2 : (w1.alloc (.cells #[.int .i64 k, .string t, .int .i64 a] 41)).frozen? ⟨w.heap.size, 2, none⟩ = false := blk_frozen hm 2; have m3 : (w1.alloc (.cells #[.int .i64 k, .string t, .int .i64 a] 41)).cell? ⟨w.heap.size, 3, none⟩ = some (.int .i64 0) := blk_cell hm 3; have y3 : (w1.alloc (.cells #[.int .i64 k, .string t, .int .i64 a] 41)).frozen? ⟨w.heap.size, 3, none⟩ = false := blk_frozen hm 3; have m4 : (w1.alloc (.cells #[.int .i64 k, .string t, .int .i64 a] 41)).cell? ⟨w.heap.size, 4, none⟩ = some (.int .i64 0) := blk_cell hm 4; have y4 : (w1.alloc (.cells #[.int .i64 k, .string t, .int .i64 a] 41)).frozen? ⟨w.heap.size, 4, none⟩ = false := blk_frozen hm 4; have m5 : (w1.alloc (.cells #[.int .i64 k, .string t, .int .i64 a] 41)).cell? ⟨w.heap.size, 5, none⟩ = some (.slice none 0 0) := blk_cell hm 5; have y5 : (w1.alloc (.cells #[.int .i64 k, .string t, .int .i64 a] 41)).frozen? ⟨w.heap.size, 5, none⟩ = false := blk_frozen hm 5; have hBn : w.heap.size ≠ B := (by omega))))
  have hgb : w.grownBy (((((((w1.alloc (.cells #[.int .i64 k, .string t, .int .i64 a] 41)).setCell ⟨w.heap.size, 0, none⟩ (.int .i64 0)).setCell ⟨w.heap.size, 1, none⟩ (.string ⟨#[]⟩)).setCell ⟨w.heap.size, 2, none⟩ (.int .i64 0)).setCell ⟨w.heap.size, 3, none⟩ (.int .i64 0)).setCell ⟨w.heap.size, 4, none⟩ (.int .i64 0)).setCell ⟨w.heap.size, 5, none⟩ (.slice none 0 0)) (some B) := gb_new (gb_new (gb_new (gb_new (gb_new (gb_new (gb_below (below_step hb0 hb1)) (Nat.le_refl _) 0 _) (Nat.le_refl _) 1 _) (Nat.le_refl _) 2 _) (Nat.le_refl _) 3 _) (Nat.le_refl _) 4 _) (Nat.le_refl _) 5 _
  refine bodyPost_ret (results38 (b := w.heap.size) rfl rfl (blk_set (blk_set (blk_set (blk_set (blk_set (blk_set (hm) 0 (.int .i64 0)) 1 (.string ⟨#[]⟩)) 2 (.int .i64 0)) 3 (.int .i64 0)) 4 (.int .i64 0)) 5 (.slice none 0 0))) rfl ⟨rfl, hp'.out.of hgb ?_ hp'.out.lt, hgb⟩
  exact blk_far (blk_far (blk_far (blk_far (blk_far (blk_far (hP3.out.blk) (Ne.symm hBn) _) (Ne.symm hBn) _) (Ne.symm hBn) _) (Ne.symm hBn) _) (Ne.symm hBn) _) (Ne.symm hBn) _
end Go.Proofs.YtahjkibjcibpgaaGreatDoor.L
end
section
namespace Go.Proofs.YtahjkibjcibpgaaGreatDoor.L
open Go.RowKit Go.Shelf Go.Lib Go.Proofs.YtahjkibjcibpgaaGreatDoor.U
open Go.Proofs.YtahjkibjcibpgaaGreatDoorW.PrintWords
attribute [local go_sem] Oper.semAt_some
theorem known_any (s : ByteArray) (w : World) (hg : UW w) :
    Calls Tryz.prog 55 #[.string s] w fun e w' => e = .returned (.bool (knownP s)) ∧ Below w.heap.size w w' := by
  have hA := fun r1 r2 r3 h => Ex.unit_Amount.calls ⟨#[48]⟩ s r1 r2 r3 w hg h
  have hA2 := hA _ _ _ (show Ex.unit_Amount.f ⟨#[48]⟩ s = some ((amt [48] s.data.toList).1, (amt [48] s.data.toList).2.1, (amt [48] s.data.toList).2.2) from rfl)
  clear hA
  unfold knownP
  generalize amt [48] s.data.toList = x at hA2 ⊢
  obtain ⟨n, d, e⟩ := x
  have hA3 := Lib.hid hA2
  clear hA2 hg
  go_enter Tryz.func55, Tryz.ntmps55
  go_wp2_with (first | (go_at_call 16; refine hA3.out.mono ?_; rintro e w1 ⟨rfl, hb⟩))
  refine bodyPost_ret (results_tmp rfl _ _ _) rfl ⟨rfl, hb.alloc hb.size _⟩
theorem amount_no (T : List PTr.S41) (tv : Value) (B base i d : Nat) (w : World) (hp : PW T tv B base i d w) (h : ((tokAt T i).f0 == 1) = false) :
    Calls Tryz.prog 81 #[.pointer (some ⟨B, 0, none⟩)] w fun e w' => e = flt 2 (tokAt T i).f2 ∧ Below w.heap.size w w' := by
  have hp2 := Lib.hid (hp.below ((Below.refl w.heap.size w).alloc (Nat.le_refl _) (.cells #[.int .i64 0, .string ⟨#[]⟩, .int .i64 0, .int .i64 0, .int .i64 0, .slice none 0 0] 26)))
  clear hp
  have hH := Lib.hid h
  clear h
  go_enter Tryz.func81, Tryz.ntmps81
  go_wp2_with (first | (go_at_call 37; refine (take_no T tv B base i d 1 _ hp2.out hH.out).mono ?_; rintro e w1 ⟨rfl, hb⟩; unfold flt))
  exact ⟨rfl, rfl, below_step ((Below.refl w.heap.size w).alloc (Nat.le_refl _) (.cells #[.int .i64 0, .string ⟨#[]⟩, .int .i64 0, .int .i64 0, .int .i64 0, .slice none 0 0] 26)) hb⟩
end Go.Proofs.YtahjkibjcibpgaaGreatDoor.L
end
section
namespace Go.Proofs.YtahjkibjcibpgaaGreatDoor.L
open Go.RowKit Go.Shelf Go.Lib Go.Proofs.YtahjkibjcibpgaaGreatDoor.U
open Go.Proofs.YtahjkibjcibpgaaGreatDoorW.PrintWords
def UB (B : Nat) (w : World) : Prop := ∃ w0, UW w0 ∧ w0.heap.size ≤ B ∧ Below w0.heap.size w0 w
theorem UB.uw {B : Nat} {w : World} (h : UB B w) : UW w := let ⟨_, h1, _, h3⟩ := h; h1.step h3
theorem UB.grown {B : Nat} {w w' : World} (h : UB B w) (hg : w.grownBy w' (some B)) : UB B w' := let ⟨_, h1, h2, h3⟩ := h; ⟨_, h1, h2, h3.grown hg h3.size (fun k e => by cases e; exact h2)⟩
theorem UB.below {B : Nat} {w w' : World} (h : UB B w) (hb : Below w.heap.size w w') : UB B w' := h.grown (gb_below hb)
theorem gb_trans {a b c : World} {row : Option Nat} (h : a.grownBy b row) (k : b.grownBy c row) : a.grownBy c row :=
  ⟨k.os.trans h.os, k.tape.trans h.tape, k.output.trans h.output, Nat.le_trans h.size k.size, fun i hi hn => (k.block i (Nat.lt_of_lt_of_le hi h.size) hn).trans (h.block i hi hn)⟩
abbrev Bx := Nat × Array Value × TypeId
structure St (T : List PTr.S41) (tv : Value) (B base i d : Nat) (w0 : World) (bl : List Bx) (W : World) : Prop where
  row0 : PTr.k41.R 41 w0 base (fun k => k ≠ B) tv T
  ub0 : UB B w0
  hB : B < w0.heap.size
  gb : w0.grownBy W (some B)
  lt : i < T.length
  bB : W.heap[B]? = some (.cells #[tv, .int .i64 (i : Int), .int .i64 (d : Int)] 60 (0, 0))
  blk : ∀ x ∈ bl, W.heap[x.1]? = some (.cells x.2.1 x.2.2 (0, 0)) ∧ w0.heap.size ≤ x.1
  ne : bl.Pairwise (fun x y => y.1 < x.1)
section
variable {T : List PTr.S41} {tv : Value} {B base i d : Nat} {w0 : World} {bl : List Bx} {W : World}
theorem St.pw (h : St T tv B base i d w0 bl W) : PW T tv B base i d W := ⟨h.bB, Kd.R_grown h.row0 h.gb (fun k hk e => hk (by injection e)), h.lt⟩
theorem St.ub (h : St T tv B base i d w0 bl W) : UB B W := h.ub0.grown h.gb
theorem St.start {w : World} (hp : PW T tv B base i d w) (hu : UB B w) : St T tv B base i d w [] w :=
  ⟨hp.row, hu, blk_lt hp.blk, gb_below (Below.refl _ _), hp.lt, hp.blk, fun _ h => by simp at h, List.Pairwise.nil⟩
theorem St.call (h : St T tv B base i d w0 bl W) {W' : World} {i' d' : Nat} (hq : PW T tv B base i' d' W') (hg : W.grownBy W' (some B)) : St T tv B base i' d' w0 bl W' :=
  ⟨h.row0, h.ub0, h.hB, gb_trans h.gb hg, hq.lt, hq.blk, fun x hx => ⟨blk_grown (h.blk x hx).1 hg (by have := (h.blk x hx).2; have := h.hB; intro e; injection e with e; omega), (h.blk x hx).2⟩, h.ne⟩
theorem St.below (h : St T tv B base i d w0 bl W) {W' : World} (hb : Below W.heap.size W W') : St T tv B base i d w0 bl W' := h.call (h.pw.below hb) (gb_below hb)
theorem St.alloc (h : St T tv B base i d w0 bl W) (cs : Array Value) (t : TypeId) : St T tv B base i d w0 ((W.heap.size, cs, t) :: bl) (W.alloc (.cells cs t)) := by
  have h2 := h.below ((Below.refl W.heap.size W).alloc (Nat.le_refl _) (.cells cs t))
  refine ⟨h2.row0, h2.ub0, h2.hB, h2.gb, h2.lt, h2.bB, fun x hx => ?_, List.Pairwise.cons (fun x hx => blk_lt (h.blk x hx).1) h2.ne⟩
  rcases List.mem_cons.1 hx with rfl | hx
  · exact ⟨World.alloc_heap_new W _, h.gb.size⟩
  · exact h2.blk x hx
theorem St.allocAt (h : St T tv B base i d w0 bl W) (b : Nat) (hb : W.heap.size = b) (cs : Array Value) (t : TypeId) : St T tv B base i d w0 ((b, cs, t) :: bl) (W.alloc (.cells cs t)) := by subst hb; exact h.alloc cs t
theorem St.forget {x : Bx} (h : St T tv B base i d w0 (x :: bl) W) : St T tv B base i d w0 bl W :=
  ⟨h.row0, h.ub0, h.hB, h.gb, h.lt, h.bB, fun y hy => h.blk y (List.mem_cons_of_mem _ hy), (List.pairwise_cons.1 h.ne).2⟩
theorem St.drop2 {x y : Bx} (h : St T tv B base i d w0 (x :: y :: bl) W) : St T tv B base i d w0 (x :: bl) W :=
  ⟨h.row0, h.ub0, h.hB, h.gb, h.lt, h.bB, fun z hz => h.blk z (by rcases List.mem_cons.1 hz with rfl | hz <;> simp [*]), List.Pairwise.cons (fun z hz => (List.pairwise_cons.1 h.ne).1 z (List.mem_cons_of_mem _ hz)) (List.pairwise_cons.1 (List.pairwise_cons.1 h.ne).2).2⟩
theorem St.get (h : St T tv B base i d w0 bl W) (k : Nat) {b : Nat} {cs : Array Value} {t : TypeId} (hk : bl[k]? = some (b, cs, t)) : W.heap[b]? = some (.cells cs t (0, 0)) := (h.blk _ (List.mem_of_getElem? hk)).1
theorem St.ge (h : St T tv B base i d w0 bl W) (k : Nat) {b : Nat} {cs : Array Value} {t : TypeId} (hk : bl[k]? = some (b, cs, t)) : w0.heap.size ≤ b := (h.blk _ (List.mem_of_getElem? hk)).2
theorem St.neB (h : St T tv B base i d w0 bl W) (k : Nat) {b : Nat} {cs : Array Value} {t : TypeId} (hk : bl[k]? = some (b, cs, t)) : b ≠ B ∧ B ≠ b := by
  have := h.ge k hk; have := h.hB; omega
theorem St.apart (h : St T tv B base i d w0 bl W) (k k' : Nat) (hl : k < k') {b b' : Nat} {cs cs' : Array Value} {t t' : TypeId} (hk : bl[k]? = some (b, cs, t)) (hk' : bl[k']? = some (b', cs', t')) : b ≠ b' ∧ b' ≠ b := by
  obtain ⟨h1, e1⟩ := List.getElem?_eq_some_iff.1 hk
  obtain ⟨h2, e2⟩ := List.getElem?_eq_some_iff.1 hk'
  have := List.pairwise_iff_getElem.1 h.ne k k' h1 h2 hl
  rw [e1, e2] at this
  simp only at this
  omega
theorem St.lt2 (h : St T tv B base i d w0 bl W) (k k' : Nat) (hl : k < k') {b b' : Nat} {cs cs' : Array Value} {t t' : TypeId} (hk : bl[k]? = some (b, cs, t)) (hk' : bl[k']? = some (b', cs', t')) : b' < b + 1 := by
  obtain ⟨h1, e1⟩ := List.getElem?_eq_some_iff.1 hk
  obtain ⟨h2, e2⟩ := List.getElem?_eq_some_iff.1 hk'
  have := List.pairwise_iff_getElem.1 h.ne k k' h1 h2 hl
  rw [e1, e2] at this
  simp only at this
  omega
theorem St.setB (h : St T tv B base i d w0 bl W) {j : Nat} {v : Value} {i' d' : Nat} (hq : PW T tv B base i' d' (W.setCell ⟨B, j, none⟩ v)) : St T tv B base i' d' w0 bl (W.setCell ⟨B, j, none⟩ v) :=
  h.call hq (gb_set (gb_below (Below.refl _ _)) j v)
theorem St.next (h : St T tv B base i d w0 bl W) (hi : i + 1 < T.length) : St T tv B base (i + 1) d w0 bl (W.setCell ⟨B, 1, none⟩ (.int .i64 ((i : Int) + 1))) := h.setB (h.pw.step hi)
theorem St.nextx (h : St T tv B base i d w0 bl W) (hi : i + 1 < T.length) (x : Int) (hx : x = (i : Int) + 1) : St T tv B base (i + 1) d w0 bl (W.setCell ⟨B, 1, none⟩ (.int .i64 x)) := by subst hx; exact h.next hi
theorem St.nest (h : St T tv B base i d w0 bl W) (d' : Nat) : St T tv B base i d' w0 bl (W.setCell ⟨B, 2, none⟩ (.int .i64 (d' : Int))) := h.setB h.pw.deep
theorem pairwise_set {l : List Bx} (h : l.Pairwise (fun x y => y.1 < x.1)) (k : Nat) {b : Nat} {cs cs' : Array Value} {t : TypeId} (hk : l[k]? = some (b, cs, t)) : (l.set k (b, cs', t)).Pairwise (fun x y => y.1 < x.1) := by
  rw [List.pairwise_iff_getElem] at h ⊢
  have key : ∀ (m : Nat) (hm : m < (l.set k (b, cs', t)).length), ((l.set k (b, cs', t))[m]).1 = (l[m]'(by simpa using hm)).1 := by
    intro m hm
    rw [List.getElem_set]
    split
    · rename_i e
      subst e
      obtain ⟨h1, h2⟩ := List.getElem?_eq_some_iff.1 hk
      rw [h2]
    · rfl
  intro m m' hm hm' hlt
  rw [key, key]
  exact h m m' _ _ hlt
theorem St.set (h : St T tv B base i d w0 bl W) (k : Nat) {b : Nat} {cs : Array Value} {t : TypeId} (hk : bl[k]? = some (b, cs, t)) (j : Nat) (v : Value) : St T tv B base i d w0 (bl.set k (b, cs.setIfInBounds j v, t)) (W.setCell ⟨b, j, none⟩ v) := by
  have hnb := h.neB k hk
  have hge := h.ge k hk
  refine ⟨h.row0, h.ub0, h.hB, gb_new h.gb hge j v, h.lt, blk_far h.bB (p := ⟨b, j, none⟩) hnb.2 v, fun x hx => ?_, pairwise_set h.ne k hk⟩
  obtain ⟨m, hm, hx⟩ := List.mem_iff_getElem.1 hx
  rw [List.getElem_set] at hx
  split at hx
  · subst hx
    exact ⟨blk_set (h.get k hk) j v, hge⟩
  · rename_i hne
    have hm' : bl[m]? = some x := by rw [← hx]; exact List.getElem?_eq_getElem (by simpa using hm)
    obtain ⟨bx, cx, tx⟩ := x
    refine ⟨blk_far (h.get m hm') (p := ⟨b, j, none⟩) ?_ v, h.ge m hm'⟩
    rcases Nat.lt_or_gt_of_ne hne with hl | hl
    · exact (h.apart k m hl hk hm').2
    · exact (h.apart m k hl hm' hk).1
theorem St.app (h : St T tv B base i d w0 bl W) {W' : World} {row : Option Nat} (hg : W.grownBy W' row) (hv : ∀ k, row = some k → w0.heap.size ≤ k ∧ ∀ x ∈ bl, x.1 ≠ k) : St T tv B base i d w0 bl W' := by
  refine ⟨h.row0, h.ub0, h.hB, ⟨hg.os.trans h.gb.os, hg.tape.trans h.gb.tape, hg.output.trans h.gb.output, Nat.le_trans h.gb.size hg.size, fun i hi hn => ?_⟩, h.lt, ?_, fun x hx => ⟨?_, (h.blk x hx).2⟩, h.ne⟩
  · exact (hg.block i (Nat.lt_of_lt_of_le hi h.gb.size) (fun e => by have := (hv i e.symm).1; omega)).trans (h.gb.block i hi hn)
  · exact blk_grown h.bB hg (fun e => by have := (hv B e.symm).1; have := h.hB; omega)
  · exact blk_grown (h.blk x hx).1 hg (fun e => (hv x.1 e.symm).2 x hx rfl)
theorem St.appH {b : Nat} {cs : Array Value} {t : TypeId} (h : St T tv B base i d w0 ((b, cs, t) :: bl) W) {W' : World} {row : Option Nat} (hg : W.grownBy W' row) (hv : ∀ k, row = some k → b + 1 ≤ k) : St T tv B base i d w0 ((b, cs, t) :: bl) W' :=
  h.app hg (fun k e => ⟨by have := hv k e; have := h.ge 0 rfl; omega, fun x hx => by
    have h1 := hv k e
    rcases List.mem_cons.1 hx with rfl | hx
    · simp only; omega
    · have := (List.pairwise_cons.1 h.ne).1 x hx
      simp only at this
      omega⟩)
theorem St.appW {b b2 : Nat} {cs cs2 : Array Value} {t t2 : TypeId} (h : St T tv B base i d w0 ((b, cs, t) :: (b2, cs2, t2) :: bl) W) {W' : World} {row : Option Nat} (hg : W.grownBy W' row) (hv : ∀ k, row = some k → b2 + 1 ≤ k) (hn : ∀ k, row = some k → k ≠ b) : St T tv B base i d w0 ((b, cs, t) :: (b2, cs2, t2) :: bl) W' :=
  h.app hg (fun k e => ⟨by have := hv k e; have := h.ge 1 rfl; omega, fun x hx => by
    have h1 := hv k e
    rcases List.mem_cons.1 hx with rfl | hx
    · exact Ne.symm (hn k e)
    · rcases List.mem_cons.1 hx with rfl | hx
      · simp only; omega
      · have := (List.pairwise_cons.1 (List.pairwise_cons.1 h.ne).2).1 x hx
        simp only at this
        omega⟩)
theorem kidsR {m : Nat} {v5 : Value} {ks : List PTr.S26} {W W' : World} (h : PTr.k26.R 26 W m (fun _ => True) v5 ks) (hm : B < m) (hg : W.grownBy W' (some B)) : PTr.k26.R 26 W' m (fun _ => True) v5 ks :=
  Kd.R_mono (Kd.R_grown (Kd.R_bound h) hg (fun k hk e => by injection e with e; have := hk.2.1; omega)) (fun _ _ => trivial)
theorem kidsSet {m : Nat} {v5 : Value} {ks : List PTr.S26} {W : World} (h : PTr.k26.R 26 W m (fun _ => True) v5 ks) {b : Nat} (hb : b < m) (j : Nat) (v : Value) : PTr.k26.R 26 (W.setCell ⟨b, j, none⟩ v) m (fun _ => True) v5 ks :=
  Kd.R_mono (Kd.R_far (p := ⟨b, j, none⟩) (Kd.R_bound h) (fun k hk e => by have := hk.2.1; have e : k = b := e; omega) v) (fun _ _ => trivial)
theorem kidsRo {m : Nat} {ok : Nat → Prop} {v5 : Value} {ks : List PTr.S26} {W W' : World} (h : PTr.k26.R 26 W m ok v5 ks) (hm : B < m) (hg : W.grownBy W' (some B)) : PTr.k26.R 26 W' m ok v5 ks :=
  Kd.R_mono (Kd.R_grown (Kd.R_bound h) hg (fun k hk e => by injection e with e; have := hk.2.1; omega)) (fun _ h => h.1)
theorem kidsNew {m : Nat} {ok : Nat → Prop} {v5 : Value} {ks : List PTr.S26} {W : World} (h : PTr.k26.R 26 W m ok v5 ks) {b : Nat} (hb : b < m) (j : Nat) (v : Value) (o : Obj) : PTr.k26.R 26 ((W.setCell ⟨b, j, none⟩ v).alloc o) m (fun k => k < W.heap.size) v5 ks :=
  Kd.R_mono (Kd.R_alloc (Kd.R_far (p := ⟨b, j, none⟩) (Kd.R_bound h) (fun k hk e => by have := hk.2.1; have e : k = b := e; omega) v) o) (fun _ h => h.2.2.1)
theorem kidsFar {m H : Nat} {v5 : Value} {ks : List PTr.S26} {W : World} (h : PTr.k26.R 26 W m (fun k => k < H) v5 ks) (j : Nat) (v : Value) : PTr.k26.R 26 (W.setCell ⟨H, j, none⟩ v) m (fun k => k < H) v5 ks :=
  Kd.R_far (p := ⟨H, j, none⟩) h (fun k hk e => by have e : k = H := e; omega) v
theorem St.c2 (h : St T tv B base i d w0 bl W) (k : Nat) {b : Nat} {v0 v1 : Value} {t : TypeId} (hk : bl[k]? = some (b, #[v0, v1], t)) :
    W.cell? ⟨b, 0, none⟩ = some v0 ∧ W.cell? ⟨b, 1, none⟩ = some v1 ∧ (∀ j, W.frozen? ⟨b, j, none⟩ = false) ∧ b < W.heap.size ∧ b ≠ B ∧ B ≠ b :=
  ⟨blk_cell (h.get k hk) 0, blk_cell (h.get k hk) 1, blk_frozen (h.get k hk), blk_lt (h.get k hk), h.neB k hk⟩
theorem St.c3 (h : St T tv B base i d w0 bl W) (k : Nat) {b : Nat} {v0 v1 v2 : Value} {t : TypeId} (hk : bl[k]? = some (b, #[v0, v1, v2], t)) :
    W.cell? ⟨b, 0, none⟩ = some v0 ∧ W.cell? ⟨b, 1, none⟩ = some v1 ∧ W.cell? ⟨b, 2, none⟩ = some v2 ∧ (∀ j, W.frozen? ⟨b, j, none⟩ = false) ∧ b < W.heap.size ∧ b ≠ B ∧ B ≠ b :=
  ⟨blk_cell (h.get k hk) 0, blk_cell (h.get k hk) 1, blk_cell (h.get k hk) 2, blk_frozen (h.get k hk), blk_lt (h.get k hk), h.neB k hk⟩
theorem St.c6 (h : St T tv B base i d w0 bl W) (k : Nat) {b : Nat} {v0 v1 v2 v3 v4 v5 : Value} {t : TypeId} (hk : bl[k]? = some (b, #[v0, v1, v2, v3, v4, v5], t)) :
    W.cell? ⟨b, 0, none⟩ = some v0 ∧ W.cell? ⟨b, 1, none⟩ = some v1 ∧ W.cell? ⟨b, 2, none⟩ = some v2 ∧ W.cell? ⟨b, 3, none⟩ = some v3 ∧ W.cell? ⟨b, 4, none⟩ = some v4 ∧ W.cell? ⟨b, 5, none⟩ = some v5 ∧ (∀ j, W.frozen? ⟨b, j, none⟩ = false) ∧ b < W.heap.size ∧ b ≠ B ∧ B ≠ b :=
  ⟨blk_cell (h.get k hk) 0, blk_cell (h.get k hk) 1, blk_cell (h.get k hk) 2, blk_cell (h.get k hk) 3, blk_cell (h.get k hk) 4, blk_cell (h.get k hk) 5, blk_frozen (h.get k hk), blk_lt (h.get k hk), h.neB k hk⟩
theorem St.cB (h : St T tv B base i d w0 bl W) : W.cell? ⟨B, 0, none⟩ = some tv ∧ W.cell? ⟨B, 1, none⟩ = some (.int .i64 (i : Int)) ∧ W.cell? ⟨B, 2, none⟩ = some (.int .i64 (d : Int)) ∧ (∀ j, W.frozen? ⟨B, j, none⟩ = false) ∧ B < W.heap.size :=
  ⟨blk_cell h.bB 0, blk_cell h.bB 1, blk_cell h.bB 2, blk_frozen h.bB, blk_lt h.bB⟩
end
abbrev zero26 : Array Value := #[.int .i64 0, .string ⟨#[]⟩, .int .i64 0, .int .i64 0, .int .i64 0, .slice none 0 0]
end Go.Proofs.YtahjkibjcibpgaaGreatDoor.L
end
section
namespace Go.Proofs.YtahjkibjcibpgaaGreatDoor.L
open Go.RowKit Go.Shelf Go.Lib Go.Proofs.YtahjkibjcibpgaaGreatDoor.U
open Go.Proofs.YtahjkibjcibpgaaGreatDoorW.PrintWords
attribute [local go_sem] Oper.semAt_some
def PEnd (T : List PTr.S41) (tv : Value) (B base d : Nat) (w : World) (r : PR PTr.S26) (e : Ending) (w' : World) : Prop :=
  match r with
  | .ok (v, j) => ∃ v5, e = .returned (nodeV v v5) ∧ PTr.k26.R 26 w' w.heap.size (fun _ => True) v5 v.f4 ∧ PW T tv B base j d w' ∧ w.grownBy w' (some B)
  | .error x => e = flt x.1 x.2 ∧ w.grownBy w' (some B)
theorem info26 : (Tryz.prog.info? 26).map (·.size) = some 6 := by kernel_rfl
theorem results26 {fn : Func} {p : Tmp} (h : fn.results = #[.cell p 26]) {tmps : Array Value} {W : World} {b : Nat} {cs : Array Value} (hs : cs.size = 6) (hp : tmps.getD p undef = .pointer (some ⟨b, 0, none⟩)) (hb : W.heap[b]? = some (.cells cs 26 (0, 0))) :
    (results fn tmps).run Tryz.prog W = .ok (.agg cs) W :=
  results_single h (.cell b 26 cs (0, 0) _ hp hb Tryz.underlying26 rfl (by rw [hs]; exact info26) .nil)
theorem amount_a (T : List PTr.S41) (tv : Value) (B base i d : Nat) (w : World) (hp : PW T tv B base i d w) (hu : UB B w) (h : ((tokAt T i).f0 == 1) = true) (h2 : ((tokAt T (i + 1)).f0 == 0) = false) (hi : i + 1 < T.length) (hl : T.length ≤ 140737488355328) (n dn : Int)
    (ha : Ex.unit_Amount.f (tokAt T i).f1 ⟨#[]⟩ = some (n, dn, 0)) :
    Calls Tryz.prog 81 #[.pointer (some ⟨B, 0, none⟩)] w fun e w' => PEnd T tv B base d w (.ok (⟨5, ⟨#[]⟩, ⟨n, dn⟩, (tokAt T i).f2, []⟩, i + 1)) e w' := by
  have S0 := Lib.hid (St.start hp hu)
  clear hp hu
  obtain ⟨k, t, a, hx⟩ : ∃ k t a, tokAt T i = ⟨k, t, a⟩ := ⟨_, _, _, rfl⟩
  obtain ⟨k2, t2, a2, hx2⟩ : ∃ k t a, tokAt T (i + 1) = ⟨k, t, a⟩ := ⟨_, _, _, rfl⟩
  have S1 := Lib.hid (S0.out.alloc zero26 26)
  have hT := take_ok T tv B base i d 1 _ S1.out.pw h hi hl
  have hN : ∀ W, PW T tv B base (i + 1) d W → Calls Tryz.prog 24 #[.pointer (some ⟨B, 0, none⟩)] W fun e w' => e = .returned (.agg #[.int .i64 k2, .string t2, .int .i64 a2]) ∧ Below W.heap.size W w' := fun W h => by
    have := now_any T tv B base (i + 1) d W h
    rw [hx2] at this
    exact this
  rw [hx] at hT ha h ⊢
  rw [hx2] at h2
  simp only at hT ha h h2 ⊢
  have hw : wrap64 ((i : Int) + 1 + 1) = (i : Int) + 1 + 1 := (by unfold wrap64; omega)
  have hT' := Lib.hid hT
  have hN' := Lib.hid hN
  have hA' := Lib.hid ha
  have hI := Lib.hid hi
  clear hT hN ha hi hx hx2 hl h
  go_enter Tryz.func81, Tryz.ntmps81
  go_wp2_with (first
    | (go_at_call 37; go_loud (refine hT'.out.mono ?_; rintro e w1 ⟨rfl, hq, hgb⟩; have S2 := Lib.hid (S1.out.call hq hgb); clear hq hgb))
    | (go_at_call 24; go_loud (have S3 := Lib.hid (S2.out.alloc #[.int .i64 k, .string t, .int .i64 a] 41); refine (hN'.out _ S3.out.pw).mono ?_; rintro e w2 ⟨rfl, hb⟩; have S4 := Lib.hid (S3.out.below hb); clear hb; have S5 := Lib.hid (S4.out.alloc #[.int .i64 k2, .string t2, .int .i64 a2] 41); obtain ⟨p0, p1, p2, pz, pl, pb⟩ := S5.out.c3 1 rfl))
    | (go_at_call 16; go_loud (refine (Ex.unit_Amount.calls _ _ _ _ _ _ S5.out.ub.uw hA'.out).mono ?_; rintro e w4 ⟨rfl, hb⟩; have S8 := Lib.hid (S5.out.below hb); clear hb; have S9 := Lib.hid (S8.out.alloc #[.int .i64 n, .int .i64 dn] 23); obtain ⟨p0, p1, p2, pz, pl, pb⟩ := S9.out.c3 2 rfl; obtain ⟨r0, r1, r2, r3, r4, r5, rz, rl, rb⟩ := S9.out.c6 3 rfl))
    | (go_at_call 56; refine (fail_any _ _ _).mono ?_; rintro e w5 ⟨rfl, rfl⟩))
  have SF := ((((((S9.out.set 3 rfl 0 (.int .i64 5)).set 3 rfl 1 (.string ⟨#[]⟩)).set 3 rfl 2 (.int .i64 n)).set 3 rfl 3 (.int .i64 dn)).set 3 rfl 4 (.int .i64 a)).set 3 rfl 5 (.slice none 0 0))
  refine bodyPost_ret (results26 rfl rfl rfl (SF.get 3 rfl)) rfl ⟨_, rfl, Kd.R_nil _ _ _ _ _, SF.pw, SF.gb⟩
theorem amount_ae (T : List PTr.S41) (tv : Value) (B base i d : Nat) (w : World) (hp : PW T tv B base i d w) (hu : UB B w) (h : ((tokAt T i).f0 == 1) = true) (h2 : ((tokAt T (i + 1)).f0 == 0) = false) (hi : i + 1 < T.length) (hl : T.length ≤ 140737488355328) (n dn er : Int)
    (ha : Ex.unit_Amount.f (tokAt T i).f1 ⟨#[]⟩ = some (n, dn, er)) (he : (er == 0) = false) :
    Calls Tryz.prog 81 #[.pointer (some ⟨B, 0, none⟩)] w fun e w' => PEnd T tv B base d w (.error (7, (tokAt T i).f2)) e w' := by
  have S0 := Lib.hid (St.start hp hu)
  clear hp hu
  obtain ⟨k, t, a, hx⟩ : ∃ k t a, tokAt T i = ⟨k, t, a⟩ := ⟨_, _, _, rfl⟩
  obtain ⟨k2, t2, a2, hx2⟩ : ∃ k t a, tokAt T (i + 1) = ⟨k, t, a⟩ := ⟨_, _, _, rfl⟩
  have S1 := Lib.hid (S0.out.alloc zero26 26)
  have hT := take_ok T tv B base i d 1 _ S1.out.pw h hi hl
  have hN : ∀ W, PW T tv B base (i + 1) d W → Calls Tryz.prog 24 #[.pointer (some ⟨B, 0, none⟩)] W fun e w' => e = .returned (.agg #[.int .i64 k2, .string t2, .int .i64 a2]) ∧ Below W.heap.size W w' := fun W h => by
    have := now_any T tv B base (i + 1) d W h
    rw [hx2] at this
    exact this
  rw [hx] at hT ha h ⊢
  rw [hx2] at h2
  simp only at hT ha h h2 ⊢
  have hw : wrap64 ((i : Int) + 1 + 1) = (i : Int) + 1 + 1 := (by unfold wrap64; omega)
  have hT' := Lib.hid hT
  have hN' := Lib.hid hN
  have hA' := Lib.hid ha
  have hI := Lib.hid hi
  clear hT hN ha hi hx hx2 hl h
  go_enter Tryz.func81, Tryz.ntmps81
  go_wp2_with (first
    | (go_at_call 37; go_loud (refine hT'.out.mono ?_; rintro e w1 ⟨rfl, hq, hgb⟩; have S2 := Lib.hid (S1.out.call hq hgb); clear hq hgb))
    | (go_at_call 24; go_loud (have S3 := Lib.hid (S2.out.alloc #[.int .i64 k, .string t, .int .i64 a] 41); refine (hN'.out _ S3.out.pw).mono ?_; rintro e w2 ⟨rfl, hb⟩; have S4 := Lib.hid (S3.out.below hb); clear hb; have S5 := Lib.hid (S4.out.alloc #[.int .i64 k2, .string t2, .int .i64 a2] 41); obtain ⟨p0, p1, p2, pz, pl, pb⟩ := S5.out.c3 1 rfl))
    | (go_at_call 16; go_loud (refine (Ex.unit_Amount.calls _ _ _ _ _ _ S5.out.ub.uw hA'.out).mono ?_; rintro e w4 ⟨rfl, hb⟩; have S8 := Lib.hid (S5.out.below hb); clear hb; have S9 := Lib.hid (S8.out.alloc #[.int .i64 n, .int .i64 dn] 23); obtain ⟨p0, p1, p2, pz, pl, pb⟩ := S9.out.c3 2 rfl; obtain ⟨r0, r1, r2, r3, r4, r5, rz, rl, rb⟩ := S9.out.c6 3 rfl))
    | (go_at_call 56; refine (fail_any _ _ _).mono ?_; rintro e w5 ⟨rfl, rfl⟩))
  exact ⟨rfl, rfl, S9.out.gb⟩
theorem amount_b (T : List PTr.S41) (tv : Value) (B base i d : Nat) (w : World) (hp : PW T tv B base i d w) (hu : UB B w) (h : ((tokAt T i).f0 == 1) = true) (h2 : ((tokAt T (i + 1)).f0 == 0) = true) (h3 : knownP (tokAt T (i + 1)).f1 = false) (hi : i + 1 < T.length) (hl : T.length ≤ 140737488355328) (n dn : Int)
    (ha : Ex.unit_Amount.f (tokAt T i).f1 ⟨#[]⟩ = some (n, dn, 0)) :
    Calls Tryz.prog 81 #[.pointer (some ⟨B, 0, none⟩)] w fun e w' => PEnd T tv B base d w (.ok (⟨5, ⟨#[]⟩, ⟨n, dn⟩, (tokAt T i).f2, []⟩, i + 1)) e w' := by
  have S0 := Lib.hid (St.start hp hu)
  clear hp hu
  obtain ⟨k, t, a, hx⟩ : ∃ k t a, tokAt T i = ⟨k, t, a⟩ := ⟨_, _, _, rfl⟩
  obtain ⟨k2, t2, a2, hx2⟩ : ∃ k t a, tokAt T (i + 1) = ⟨k, t, a⟩ := ⟨_, _, _, rfl⟩
  have S1 := Lib.hid (S0.out.alloc zero26 26)
  have hT := take_ok T tv B base i d 1 _ S1.out.pw h hi hl
  have hN : ∀ W, PW T tv B base (i + 1) d W → Calls Tryz.prog 24 #[.pointer (some ⟨B, 0, none⟩)] W fun e w' => e = .returned (.agg #[.int .i64 k2, .string t2, .int .i64 a2]) ∧ Below W.heap.size W w' := fun W h => by
    have := now_any T tv B base (i + 1) d W h
    rw [hx2] at this
    exact this
  rw [hx] at hT ha h ⊢
  rw [hx2] at h2 h3
  simp only at hT ha h h2 h3 ⊢
  have hw : wrap64 ((i : Int) + 1 + 1) = (i : Int) + 1 + 1 := (by unfold wrap64; omega)
  have hT' := Lib.hid hT
  have hN' := Lib.hid hN
  have hA' := Lib.hid ha
  have hI := Lib.hid hi
  clear hT hN ha hi hx hx2 hl h
  go_enter Tryz.func81, Tryz.ntmps81
  go_wp2_with (first
    | (go_at_call 37; go_loud (refine hT'.out.mono ?_; rintro e w1 ⟨rfl, hq, hgb⟩; have S2 := Lib.hid (S1.out.call hq hgb); clear hq hgb))
    | (go_at_call 24; go_loud (have S3 := Lib.hid (S2.out.alloc #[.int .i64 k, .string t, .int .i64 a] 41); refine (hN'.out _ S3.out.pw).mono ?_; rintro e w2 ⟨rfl, hb⟩; have S4 := Lib.hid (S3.out.below hb); clear hb; have S5 := Lib.hid (S4.out.alloc #[.int .i64 k2, .string t2, .int .i64 a2] 41); obtain ⟨p0, p1, p2, pz, pl, pb⟩ := S5.out.c3 1 rfl))
    | (go_at_call 55; go_loud (refine (known_any t2 _ (S5.out.ub.uw)).mono ?_; rintro e w3 ⟨rfl, hb⟩; rw [h3]; have S6 := Lib.hid (S5.out.below hb); clear hb; obtain ⟨p0, p1, p2, pz, pl, pb⟩ := S6.out.c3 1 rfl; obtain ⟨q0, q1, q2, qz, ql, qb⟩ := S6.out.c3 0 rfl; obtain ⟨B0, B1, B2, Bz, Bl⟩ := S6.out.cB))
    | (go_at_call 16; go_loud (refine (Ex.unit_Amount.calls _ _ _ _ _ _ S6.out.ub.uw hA'.out).mono ?_; rintro e w4 ⟨rfl, hb⟩; have S8 := Lib.hid (S6.out.below hb); clear hb; have S9 := Lib.hid (S8.out.alloc #[.int .i64 n, .int .i64 dn] 23); obtain ⟨p0, p1, p2, pz, pl, pb⟩ := S9.out.c3 2 rfl; obtain ⟨r0, r1, r2, r3, r4, r5, rz, rl, rb⟩ := S9.out.c6 3 rfl))
    | (go_at_call 56; refine (fail_any _ _ _).mono ?_; rintro e w5 ⟨rfl, rfl⟩))
  have SF := ((((((S9.out.set 3 rfl 0 (.int .i64 5)).set 3 rfl 1 (.string ⟨#[]⟩)).set 3 rfl 2 (.int .i64 n)).set 3 rfl 3 (.int .i64 dn)).set 3 rfl 4 (.int .i64 a)).set 3 rfl 5 (.slice none 0 0))
  refine bodyPost_ret (results26 rfl rfl rfl (SF.get 3 rfl)) rfl ⟨_, rfl, Kd.R_nil _ _ _ _ _, SF.pw, SF.gb⟩
theorem amount_be (T : List PTr.S41) (tv : Value) (B base i d : Nat) (w : World) (hp : PW T tv B base i d w) (hu : UB B w) (h : ((tokAt T i).f0 == 1) = true) (h2 : ((tokAt T (i + 1)).f0 == 0) = true) (h3 : knownP (tokAt T (i + 1)).f1 = false) (hi : i + 1 < T.length) (hl : T.length ≤ 140737488355328) (n dn er : Int)
    (ha : Ex.unit_Amount.f (tokAt T i).f1 ⟨#[]⟩ = some (n, dn, er)) (he : (er == 0) = false) :
    Calls Tryz.prog 81 #[.pointer (some ⟨B, 0, none⟩)] w fun e w' => PEnd T tv B base d w (.error (7, (tokAt T i).f2)) e w' := by
  have S0 := Lib.hid (St.start hp hu)
  clear hp hu
  obtain ⟨k, t, a, hx⟩ : ∃ k t a, tokAt T i = ⟨k, t, a⟩ := ⟨_, _, _, rfl⟩
  obtain ⟨k2, t2, a2, hx2⟩ : ∃ k t a, tokAt T (i + 1) = ⟨k, t, a⟩ := ⟨_, _, _, rfl⟩
  have S1 := Lib.hid (S0.out.alloc zero26 26)
  have hT := take_ok T tv B base i d 1 _ S1.out.pw h hi hl
  have hN : ∀ W, PW T tv B base (i + 1) d W → Calls Tryz.prog 24 #[.pointer (some ⟨B, 0, none⟩)] W fun e w' => e = .returned (.agg #[.int .i64 k2, .string t2, .int .i64 a2]) ∧ Below W.heap.size W w' := fun W h => by
    have := now_any T tv B base (i + 1) d W h
    rw [hx2] at this
    exact this
  rw [hx] at hT ha h ⊢
  rw [hx2] at h2 h3
  simp only at hT ha h h2 h3 ⊢
  have hw : wrap64 ((i : Int) + 1 + 1) = (i : Int) + 1 + 1 := (by unfold wrap64; omega)
  have hT' := Lib.hid hT
  have hN' := Lib.hid hN
  have hA' := Lib.hid ha
  have hI := Lib.hid hi
  clear hT hN ha hi hx hx2 hl h
  go_enter Tryz.func81, Tryz.ntmps81
  go_wp2_with (first
    | (go_at_call 37; go_loud (refine hT'.out.mono ?_; rintro e w1 ⟨rfl, hq, hgb⟩; have S2 := Lib.hid (S1.out.call hq hgb); clear hq hgb))
    | (go_at_call 24; go_loud (have S3 := Lib.hid (S2.out.alloc #[.int .i64 k, .string t, .int .i64 a] 41); refine (hN'.out _ S3.out.pw).mono ?_; rintro e w2 ⟨rfl, hb⟩; have S4 := Lib.hid (S3.out.below hb); clear hb; have S5 := Lib.hid (S4.out.alloc #[.int .i64 k2, .string t2, .int .i64 a2] 41); obtain ⟨p0, p1, p2, pz, pl, pb⟩ := S5.out.c3 1 rfl))
    | (go_at_call 55; go_loud (refine (known_any t2 _ (S5.out.ub.uw)).mono ?_; rintro e w3 ⟨rfl, hb⟩; rw [h3]; have S6 := Lib.hid (S5.out.below hb); clear hb; obtain ⟨p0, p1, p2, pz, pl, pb⟩ := S6.out.c3 1 rfl; obtain ⟨q0, q1, q2, qz, ql, qb⟩ := S6.out.c3 0 rfl; obtain ⟨B0, B1, B2, Bz, Bl⟩ := S6.out.cB))
    | (go_at_call 16; go_loud (refine (Ex.unit_Amount.calls _ _ _ _ _ _ S6.out.ub.uw hA'.out).mono ?_; rintro e w4 ⟨rfl, hb⟩; have S8 := Lib.hid (S6.out.below hb); clear hb; have S9 := Lib.hid (S8.out.alloc #[.int .i64 n, .int .i64 dn] 23); obtain ⟨p0, p1, p2, pz, pl, pb⟩ := S9.out.c3 2 rfl; obtain ⟨r0, r1, r2, r3, r4, r5, rz, rl, rb⟩ := S9.out.c6 3 rfl))
    | (go_at_call 56; refine (fail_any _ _ _).mono ?_; rintro e w5 ⟨rfl, rfl⟩))
  exact ⟨rfl, rfl, S9.out.gb⟩
theorem amount_c (T : List PTr.S41) (tv : Value) (B base i d : Nat) (w : World) (hp : PW T tv B base i d w) (hu : UB B w) (h : ((tokAt T i).f0 == 1) = true) (h2 : ((tokAt T (i + 1)).f0 == 0) = true) (h3 : knownP (tokAt T (i + 1)).f1 = true) (hi2 : i + 1 + 1 < T.length) (hi : i + 1 < T.length) (hl : T.length ≤ 140737488355328) (n dn : Int)
    (ha : Ex.unit_Amount.f (tokAt T i).f1 (tokAt T (i + 1)).f1 = some (n, dn, 0)) :
    Calls Tryz.prog 81 #[.pointer (some ⟨B, 0, none⟩)] w fun e w' => PEnd T tv B base d w (.ok (⟨5, ⟨#[]⟩, ⟨n, dn⟩, (tokAt T i).f2, []⟩, i + 1 + 1)) e w' := by
  have S0 := Lib.hid (St.start hp hu)
  clear hp hu
  obtain ⟨k, t, a, hx⟩ : ∃ k t a, tokAt T i = ⟨k, t, a⟩ := ⟨_, _, _, rfl⟩
  obtain ⟨k2, t2, a2, hx2⟩ : ∃ k t a, tokAt T (i + 1) = ⟨k, t, a⟩ := ⟨_, _, _, rfl⟩
  have S1 := Lib.hid (S0.out.alloc zero26 26)
  have hT := take_ok T tv B base i d 1 _ S1.out.pw h hi hl
  have hN : ∀ W, PW T tv B base (i + 1) d W → Calls Tryz.prog 24 #[.pointer (some ⟨B, 0, none⟩)] W fun e w' => e = .returned (.agg #[.int .i64 k2, .string t2, .int .i64 a2]) ∧ Below W.heap.size W w' := fun W h => by
    have := now_any T tv B base (i + 1) d W h
    rw [hx2] at this
    exact this
  rw [hx] at hT ha h ⊢
  rw [hx2] at h2 h3 ha
  simp only at hT ha h h2 h3 ⊢
  have hw : wrap64 ((i : Int) + 1 + 1) = (i : Int) + 1 + 1 := (by unfold wrap64; omega)
  have hT' := Lib.hid hT
  have hN' := Lib.hid hN
  have hA' := Lib.hid ha
  have hI := Lib.hid hi
  clear hT hN ha hi hx hx2 hl h
  go_enter Tryz.func81, Tryz.ntmps81
  go_wp2_with (first
    | (go_at_call 37; go_loud (refine hT'.out.mono ?_; rintro e w1 ⟨rfl, hq, hgb⟩; have S2 := Lib.hid (S1.out.call hq hgb); clear hq hgb))
    | (go_at_call 24; go_loud (have S3 := Lib.hid (S2.out.alloc #[.int .i64 k, .string t, .int .i64 a] 41); refine (hN'.out _ S3.out.pw).mono ?_; rintro e w2 ⟨rfl, hb⟩; have S4 := Lib.hid (S3.out.below hb); clear hb; have S5 := Lib.hid (S4.out.alloc #[.int .i64 k2, .string t2, .int .i64 a2] 41); obtain ⟨p0, p1, p2, pz, pl, pb⟩ := S5.out.c3 1 rfl))
    | (go_at_call 55; go_loud (refine (known_any t2 _ (S5.out.ub.uw)).mono ?_; rintro e w3 ⟨rfl, hb⟩; rw [h3]; have S6 := Lib.hid (S5.out.below hb); clear hb; obtain ⟨p0, p1, p2, pz, pl, pb⟩ := S6.out.c3 1 rfl; obtain ⟨q0, q1, q2, qz, ql, qb⟩ := S6.out.c3 0 rfl; obtain ⟨B0, B1, B2, Bz, Bl⟩ := S6.out.cB))
    | (go_at_call 16; go_loud (have S7 := Lib.hid (S6.out.nextx hi2 ((i : Int) + 1 + 1) (by omega)); refine (Ex.unit_Amount.calls _ _ _ _ _ _ S7.out.ub.uw hA'.out).mono ?_; rintro e w4 ⟨rfl, hb⟩; have S8 := Lib.hid (S7.out.below hb); clear hb; have S9 := Lib.hid (S8.out.alloc #[.int .i64 n, .int .i64 dn] 23); obtain ⟨p0, p1, p2, pz, pl, pb⟩ := S9.out.c3 2 rfl; obtain ⟨r0, r1, r2, r3, r4, r5, rz, rl, rb⟩ := S9.out.c6 3 rfl))
    | (go_at_call 56; refine (fail_any _ _ _).mono ?_; rintro e w5 ⟨rfl, rfl⟩))
  have SF := ((((((S9.out.set 3 rfl 0 (.int .i64 5)).set 3 rfl 1 (.string ⟨#[]⟩)).set 3 rfl 2 (.int .i64 n)).set 3 rfl 3 (.int .i64 dn)).set 3 rfl 4 (.int .i64 a)).set 3 rfl 5 (.slice none 0 0))
  refine bodyPost_ret (results26 rfl rfl rfl (SF.get 3 rfl)) rfl ⟨_, rfl, Kd.R_nil _ _ _ _ _, SF.pw, SF.gb⟩
theorem amount_ce (T : List PTr.S41) (tv : Value) (B base i d : Nat) (w : World) (hp : PW T tv B base i d w) (hu : UB B w) (h : ((tokAt T i).f0 == 1) = true) (h2 : ((tokAt T (i + 1)).f0 == 0) = true) (h3 : knownP (tokAt T (i + 1)).f1 = true) (hi2 : i + 1 + 1 < T.length) (hi : i + 1 < T.length) (hl : T.length ≤ 140737488355328) (n dn er : Int)
    (ha : Ex.unit_Amount.f (tokAt T i).f1 (tokAt T (i + 1)).f1 = some (n, dn, er)) (he : (er == 0) = false) :
    Calls Tryz.prog 81 #[.pointer (some ⟨B, 0, none⟩)] w fun e w' => PEnd T tv B base d w (.error (7, (tokAt T i).f2)) e w' := by
  have S0 := Lib.hid (St.start hp hu)
  clear hp hu
  obtain ⟨k, t, a, hx⟩ : ∃ k t a, tokAt T i = ⟨k, t, a⟩ := ⟨_, _, _, rfl⟩
  obtain ⟨k2, t2, a2, hx2⟩ : ∃ k t a, tokAt T (i + 1) = ⟨k, t, a⟩ := ⟨_, _, _, rfl⟩
  have S1 := Lib.hid (S0.out.alloc zero26 26)
  have hT := take_ok T tv B base i d 1 _ S1.out.pw h hi hl
  have hN : ∀ W, PW T tv B base (i + 1) d W → Calls Tryz.prog 24 #[.pointer (some ⟨B, 0, none⟩)] W fun e w' => e = .returned (.agg #[.int .i64 k2, .string t2, .int .i64 a2]) ∧ Below W.heap.size W w' := fun W h => by
    have := now_any T tv B base (i + 1) d W h
    rw [hx2] at this
    exact this
  rw [hx] at hT ha h ⊢
  rw [hx2] at h2 h3 ha
  simp only at hT ha h h2 h3 ⊢
  have hw : wrap64 ((i : Int) + 1 + 1) = (i : Int) + 1 + 1 := (by unfold wrap64; omega)
  have hT' := Lib.hid hT
  have hN' := Lib.hid hN
  have hA' := Lib.hid ha
  have hI := Lib.hid hi
  clear hT hN ha hi hx hx2 hl h
  go_enter Tryz.func81, Tryz.ntmps81
  go_wp2_with (first
    | (go_at_call 37; go_loud (refine hT'.out.mono ?_; rintro e w1 ⟨rfl, hq, hgb⟩; have S2 := Lib.hid (S1.out.call hq hgb); clear hq hgb))
    | (go_at_call 24; go_loud (have S3 := Lib.hid (S2.out.alloc #[.int .i64 k, .string t, .int .i64 a] 41); refine (hN'.out _ S3.out.pw).mono ?_; rintro e w2 ⟨rfl, hb⟩; have S4 := Lib.hid (S3.out.below hb); clear hb; have S5 := Lib.hid (S4.out.alloc #[.int .i64 k2, .string t2, .int .i64 a2] 41); obtain ⟨p0, p1, p2, pz, pl, pb⟩ := S5.out.c3 1 rfl))
    | (go_at_call 55; go_loud (refine (known_any t2 _ (S5.out.ub.uw)).mono ?_; rintro e w3 ⟨rfl, hb⟩; rw [h3]; have S6 := Lib.hid (S5.out.below hb); clear hb; obtain ⟨p0, p1, p2, pz, pl, pb⟩ := S6.out.c3 1 rfl; obtain ⟨q0, q1, q2, qz, ql, qb⟩ := S6.out.c3 0 rfl; obtain ⟨B0, B1, B2, Bz, Bl⟩ := S6.out.cB))
    | (go_at_call 16; go_loud (have S7 := Lib.hid (S6.out.nextx hi2 ((i : Int) + 1 + 1) (by omega)); refine (Ex.unit_Amount.calls _ _ _ _ _ _ S7.out.ub.uw hA'.out).mono ?_; rintro e w4 ⟨rfl, hb⟩; have S8 := Lib.hid (S7.out.below hb); clear hb; have S9 := Lib.hid (S8.out.alloc #[.int .i64 n, .int .i64 dn] 23); obtain ⟨p0, p1, p2, pz, pl, pb⟩ := S9.out.c3 2 rfl; obtain ⟨r0, r1, r2, r3, r4, r5, rz, rl, rb⟩ := S9.out.c6 3 rfl))
    | (go_at_call 56; refine (fail_any _ _ _).mono ?_; rintro e w5 ⟨rfl, rfl⟩))
  exact ⟨rfl, rfl, S9.out.gb⟩
end Go.Proofs.YtahjkibjcibpgaaGreatDoor.L
end
section
namespace Go.Proofs.YtahjkibjcibpgaaGreatDoor.L
open Go.RowKit Go.Shelf Go.Lib Go.Proofs.YtahjkibjcibpgaaGreatDoor.U
open Go.Proofs.YtahjkibjcibpgaaGreatDoorW Go.Proofs.YtahjkibjcibpgaaGreatDoorW.PrintWords Go.Proofs.YtahjkibjcibpgaaGreatDoorW.PrintLast
attribute [local go_sem] Oper.semAt_some
attribute [local go_sem ↓] Go.wp_at_zero Go.wp_at_succ
theorem und24 : Tryz.prog.underlying 24 = some (.slice 26) := by kernel_rfl
theorem info26b : (Tryz.prog.info? 26).map (fun i => (i.zero, i.size, i.bytes)) = some (some (.agg #[.int .i64 0, .string ⟨#[]⟩, .int .i64 0, .int .i64 0, .int .i64 0, .slice none 0 0]), 6, 72) := by kernel_rfl
structure Tk (T : List PTr.S41) (n : Nat) : Prop where
  hE : EndT T n
  hl : T.length ≤ 65537
  sz : ∀ i, (tokAt T i).f1.size ≤ 65536
def VC (T : List PTr.S41) (tv : Value) (B base f : Nat) : Prop := ∀ (i d : Nat) (r : PR PTr.S26) (w : World), PW T tv B base i d w → UB B w → d ≤ 40 → valueP f T i d = some r →
  Calls Tryz.prog 57 #[.pointer (some ⟨B, 0, none⟩)] w (PEnd T tv B base d w r)
abbrev node6 (k : Int) (t : ByteArray) (at_ : Int) (v5 : Value) : Array Value := #[.int .i64 k, .string t, .int .i64 0, .int .i64 0, .int .i64 at_, v5]
def GR (T : List PTr.S41) (tv : Value) (B base d : Nat) (w : World) (r n : Nat) (at_ : Int) (g : PR (List PTr.S26)) (kq : Nat) (s : ByteArray) (W : World) : Prop :=
  ∃ ks j v5, ((s = ⟨#[41]⟩ ∧ g = .ok (ks, j) ∧ isP T j ⟨#[41]⟩ = true) ∨ ((s = ⟨#[40]⟩ ∨ s = ⟨#[44]⟩) ∧ groupP kq T j (d + 1) s ks = some g)) ∧
    St T tv B base j (d + 1) w [(n, node6 6 ⟨#[]⟩ at_ v5, 26), (r, zero26, 26)] W ∧ PTr.k26.R 26 W (n + 1) (fun _ => True) v5 ks ∧ ks.length ≤ j
theorem groupP_cases {T : List PTr.S41} {kq j d : Nat} {s : ByteArray} {ks : List PTr.S26} {g : PR (List PTr.S26)} (h : groupP kq T j d s ks = some g) :
    ∃ q, kq = q + 1 ∧ ((isP T j s = false ∧ g = .error (2, (tokAt T j).f2)) ∨ (isP T j s = true ∧ ((∃ e, valueP q T (j + 1) d = some (.error e) ∧ g = .error e) ∨
      (∃ v j', valueP q T (j + 1) d = some (.ok (v, j')) ∧ ((isP T j' ⟨#[41]⟩ = true ∧ g = .ok (ks ++ [v], j')) ∨ (isP T j' ⟨#[41]⟩ = false ∧ groupP q T j' d ⟨#[44]⟩ (ks ++ [v]) = some g)))))) := by
  cases kq with
  | zero => simp [groupP] at h
  | succ q =>
    refine ⟨q, rfl, ?_⟩
    rw [groupP] at h
    by_cases c1 : isP T j s = true
    · rw [if_pos c1] at h
      refine .inr ⟨c1, ?_⟩
      cases hq : valueP q T (j + 1) d with
      | none => rw [hq] at h; simp at h
      | some x =>
        rw [hq] at h
        match x, h with
        | .error e, h => simp only at h; injection h with h; exact .inl ⟨e, rfl, h.symm⟩
        | .ok (v, j'), h =>
          simp only at h
          refine .inr ⟨v, j', rfl, ?_⟩
          by_cases c2 : isP T j' ⟨#[41]⟩ = true
          · rw [if_pos c2] at h; injection h with h; exact .inl ⟨c2, h.symm⟩
          · rw [if_neg c2] at h; exact .inr ⟨by simpa using c2, h⟩
    · rw [if_neg c1] at h; injection h with h
      exact .inl ⟨by simpa using c1, h.symm⟩
theorem goesE_ {P : Program} {ops : Array Oper} {Q : Exit → Act → World → Prop} {oi : Oper} {N : Option Tmp} {a : Act} {w : World} {K : Act → World → Prop} {f : FuncId} {fn : Func} {ars : Array Operand} {ts : Array TypeId} (hf : P.funcs[f]? = some fn) (hname : (fn.name == "runtime.NumGoroutine") = false) (hb : fn.body.isSome = true) (args : Array Value)
    (hw : Region.wanted oi (yielded ops a.tmps) = true) (hop : oi.op = .call { callee := .value (.func f), args := ars, argTypes := ts }) (hargs : ars.map a.eval = args)
    (h : Calls P f args w fun e w' => ∃ c, e = .panicked c ∧ Q (.panic c) a w') : if Region.wanted oi (yielded ops a.tmps) = true then Oper.wp P oi a w K Q else K (a.put N undef) w := by
  rw [if_pos hw]
  have he := PrintLast.enters_ hf hname hb args w
  have hrun : (execOp a.eval oi).run P w = .ok (.enter f args) w := by
    unfold execOp
    simp [hop, resolve, Deferred.ofValue, invoke, Act.eval, hargs, he]
  unfold Oper.wp
  rw [hrun, Oper.upon_enter]
  refine h.mono fun e w'' hh => ?_
  obtain ⟨c, rfl, hk⟩ := hh
  exact hk
def grpE (at_ : Int) : PR (List PTr.S26) → PR PTr.S26
  | .error e => .error e
  | .ok (ks, j) => .ok (⟨6, ⟨#[]⟩, ⟨0, 0⟩, at_, ks⟩, j + 1)
set_option maxRecDepth 100000 in
theorem group_full (T : List PTr.S41) (tv : Value) (B base i : Nat) (w : World) (hp : PW T tv B base i 40 w) (hu : UB B w) :
    Calls Tryz.prog 80 #[.pointer (some ⟨B, 0, none⟩)] w (PEnd T tv B base 40 w (.error (8, (tokAt T i).f2))) := by
  have S0 := Lib.hid (St.start hp hu)
  clear hp hu
  have S1 := Lib.hid (S0.out.alloc zero26 26)
  have hN := Lib.hid (now_any T tv B base i 40 _ S1.out.pw)
  obtain ⟨k, t, a, hx⟩ : ∃ k t a, tokAt T i = ⟨k, t, a⟩ := ⟨_, _, _, rfl⟩
  rw [hx] at hN ⊢
  simp only at hN ⊢
  clear hx
  have f2 := tokf2 k t a
  go_enter Tryz.func80, Tryz.ntmps80
  go_wp2_with (first
    | (go_at_call 24; go_loud (refine hN.out.mono ?_; rintro e w1 ⟨rfl, hb⟩; have S2 := Lib.hid (S1.out.below hb); clear hb; have S3 := Lib.hid (S2.out.alloc (node6 6 ⟨#[]⟩ a (.slice none 0 0)) 26); obtain ⟨B0, B1, B2, Bz, Bl⟩ := S3.out.cB))
    | (go_at_call 56; refine (fail_any _ _ _).mono ?_; rintro e w5 ⟨rfl, rfl⟩))
  exact ⟨rfl, rfl, S3.out.gb⟩
set_option maxRecDepth 100000 in
theorem group_calls (T : List PTr.S41) (n0 : Nat) (hT : Tk T n0) (tv : Value) (B base f : Nat) (HV : ∀ f', f' ≤ f → VC T tv B base f') (i d : Nat) (w : World) (hp : PW T tv B base i d w) (hu : UB B w) (hd : d < 40) (g : PR (List PTr.S26))
    (hg : groupP f T i (d + 1) ⟨#[40]⟩ [] = some g) :
    Calls Tryz.prog 80 #[.pointer (some ⟨B, 0, none⟩)] w (PEnd T tv B base d w (grpE (tokAt T i).f2 g)) := by
  have S0 := Lib.hid (St.start hp hu)
  clear hp hu
  have S1 := Lib.hid (S0.out.alloc zero26 26)
  have hN := Lib.hid (now_any T tv B base i d _ S1.out.pw)
  obtain ⟨k, t, a, hx⟩ : ∃ k t a, tokAt T i = ⟨k, t, a⟩ := ⟨_, _, _, rfl⟩
  rw [hx] at hN ⊢
  simp only at hN ⊢
  have f2 := tokf2 k t a
  have hG := Lib.hid hg
  have hHV := Lib.hid HV
  have hTT := Lib.hid hT
  have h40 : ((d : Int) == 40) = false := by simpa using (by omega : ¬ (d : Int) = 40)
  have hw : wrap64 ((d : Int) + 1) = (d : Int) + 1 := (by unfold wrap64; omega)
  have hw2 : wrap64 ((d : Int) + 1 - 1) = (d : Int) := (by unfold wrap64; omega)
  clear hx hg HV hT
  go_enter Tryz.func80, Tryz.ntmps80
  go_wp2_with (first
    | (go_at_call 24; go_loud (refine hN.out.mono ?_; rintro e w1 ⟨rfl, hb⟩; have S2 := Lib.hid (S1.out.below hb); clear hb; have S3 := Lib.hid (S2.out.alloc (node6 6 ⟨#[]⟩ a (.slice none 0 0)) 26); obtain ⟨B0, B1, B2, Bz, Bl⟩ := S3.out.cB)))
  have S4 := Lib.hid (S3.out.nest (d + 1))
  go_loopg [4] f (fun kq s4 W => ∃ s : ByteArray, s4 = .string s ∧ Hid (kq ≤ f) ∧ Hid (GR T tv B base d w w.heap.size w1.heap.size a g kq s W))
  case atStart => exact ⟨_, rfl, Lib.hid (Nat.le_refl _), Lib.hid ⟨[], i, _, .inr ⟨.inl rfl, hG.out⟩, S4.out, Kd.R_nil _ _ _ _ _, by simp⟩⟩
  case round =>
    obtain ⟨s, rfl, HK, HGR⟩ := hrel
    obtain ⟨ks, j, v5, hcase, hS, hR5, hle⟩ := HGR.out
    clear HGR
    have SS := Lib.hid hS
    have RR := Lib.hid hR5
    clear hS hR5
    rcases hcase with ⟨rfl, hg, hc⟩ | ⟨hs, hgp⟩
    · have C1 := Lib.hid hc
      have G1 := Lib.hid hg
      clear hc hg
      have hj1 : j + 1 < T.length := by
        have h1 := hTT.out.hE.next (i := j) (by have := SS.out.lt; have := hTT.out.hE.1; omega) (by rw [isP_kind C1.out]; decide)
        have := hTT.out.hE.1; omega
      obtain ⟨A5, c5, e5⟩ := Kd.R_slice RR.out
      generalize ks.length = m5 at e5
      subst e5
      have hw3 : wrap64 (d : Int) = (d : Int) := (by unfold wrap64; omega)
      go_wp2_with (first
        | (go_at_call 39; go_loud (refine (skip_ok T tv B base j (d + 1) _ _ SS.out.pw C1.out hj1 (by have := hTT.out.hl; omega)).mono ?_; rintro e w2 ⟨rfl, hq, hgb⟩; have SS2 := Lib.hid (SS.out.call hq hgb); have RR2 := Lib.hid (kidsR RR.out (by have := SS.out.hB; have := SS.out.ge 0 rfl; omega) hgb); clear hq hgb; obtain ⟨n0, n1, n2, n3, n4, n5, nz, nl, nb⟩ := SS2.out.c6 0 rfl; obtain ⟨r0, r1, r2, r3, r4, r5, rz, rl, rb⟩ := SS2.out.c6 1 rfl; obtain ⟨B0, B1, B2, Bz, Bl⟩ := SS2.out.cB; have rn := SS2.out.apart 0 1 (by decide) rfl rfl)))
      have SS4 := ((((((((SS2.out.nest d).set 1 rfl 0 (.int .i64 6)).set 1 rfl 1 (.string ⟨#[]⟩)).set 1 rfl 2 (.int .i64 0)).set 1 rfl 3 (.int .i64 0)).set 1 rfl 4 (.int .i64 a)).set 1 rfl 5 (.slice A5 m5 c5)))
      rw [G1.out]
      have hlt := rn.2
      have hge := SS2.out.ge 1 rfl
      refine bodyPost_ret (results26 rfl rfl rfl (SS4.get 1 rfl)) rfl ⟨_, rfl, ?_, SS4.pw, SS4.gb⟩
      have hBn : B < w1.heap.size + 1 := (by have := SS.out.hB; have := SS.out.ge 0 rfl; omega)
      have hrn : w.heap.size < w1.heap.size + 1 := SS.out.lt2 0 1 (by decide) rfl rfl
      exact Kd.R_lower (kidsSet (kidsSet (kidsSet (kidsSet (kidsSet (kidsSet (kidsSet RR2.out hBn 2 _) hrn 0 _) hrn 1 _) hrn 2 _) hrn 3 _) hrn 4 _) hrn 5 _) (by omega)
    · obtain ⟨q, hq, hh⟩ := groupP_cases hgp
      subst hq
      clear hgp
      rcases hh with ⟨c1, rfl⟩ | ⟨c1, ⟨e, hv, rfl⟩ | ⟨v, j', hv, hrest⟩⟩
      · have C1 := Lib.hid c1
        clear c1
        rcases hs with rfl | rfl
        · go_wp2_with (first
            | (go_at_call 39; go_loud (refine (skip_no T tv B base j (d + 1) _ _ SS.out.pw C1.out).mono ?_; rintro e w2 ⟨rfl, hb⟩; have SS2 := Lib.hid (SS.out.below hb); clear hb; unfold flt)))
          exact ⟨rfl, rfl, SS2.out.gb⟩
        · go_wp2_with (first
            | (go_at_call 39; go_loud (refine (skip_no T tv B base j (d + 1) _ _ SS.out.pw C1.out).mono ?_; rintro e w2 ⟨rfl, hb⟩; have SS2 := Lib.hid (SS.out.below hb); clear hb; unfold flt)))
          exact ⟨rfl, rfl, SS2.out.gb⟩
      · have hj1 : j + 1 < T.length := by
          have h1 := hTT.out.hE.next (i := j) (by have := SS.out.lt; have := hTT.out.hE.1; omega) (by rw [isP_kind c1]; decide)
          have := hTT.out.hE.1; omega
        have C1 := Lib.hid c1
        have HV1 := Lib.hid hv
        clear c1 hv
        rcases hs with rfl | rfl
        · go_wp2_with (first
            | (go_at_call 39; go_loud (refine (skip_ok T tv B base j (d + 1) _ _ SS.out.pw C1.out hj1 (by have := hTT.out.hl; omega)).mono ?_; rintro e w2 ⟨rfl, hq, hgb⟩; have SS2 := Lib.hid (SS.out.call hq hgb); have RR2 := Lib.hid (kidsR RR.out (by have := SS.out.hB; have := SS.out.ge 0 rfl; omega) hgb); clear hq hgb; obtain ⟨n0, n1, n2, n3, n4, n5, nz, nl, nb⟩ := SS2.out.c6 0 rfl)))
          refine start_ (n := 8) (S := fun w' => w'.cell? ⟨w1.heap.size, 5, none⟩ = some v5) (ds := [7]) #[false, false, false, false, false, false, false, false] (by kernel_rfl) rfl rfl (by simpa using n5) ?_
          intro hHeld
          refine pure_ (i := 0) (N := some 29) (v := ?_) (a' := ?_) #[true, false, false, false, false, false, false, false] rfl rfl (by kernel_rfl) (fun _ _ _ h => h) (Or.inl ⟨by rfl, ?_⟩) ?_ ?_
          rotate_left
          · intro w'
            go_simp
            with_reducible rfl
          rotate_left
          · simp only [Act.put, List.setIfInBounds_toArray, List.set_cons_zero, List.set_cons_succ]
            rfl
          refine pure_ (i := 2) (N := some 31) (v := ?_) (a' := ?_) #[true, false, true, false, false, false, false, false] rfl rfl (by kernel_rfl) (fun _ _ _ h => h) (Or.inl ⟨by rfl, ?_⟩) ?_ ?_
          rotate_left
          · intro w'
            go_simp
            with_reducible rfl
          rotate_left
          · simp only [Act.put, List.setIfInBounds_toArray, List.set_cons_zero, List.set_cons_succ]
            rfl
          refine take_ (i := 1) (N := some 30) (v := ?_) (a' := ?_) #[true, true, true, false, false, false, false, false] rfl rfl (by kernel_rfl) (fun _ _ _ h => h) (Or.inl ⟨by rfl, ?_⟩) hHeld ?_ ?_
          rotate_left
          · intro w' s0
            go_simp
            with_reducible rfl
          rotate_left
          · simp only [Act.put, List.setIfInBounds_toArray, List.set_cons_zero, List.set_cons_succ]
            rfl
          refine one_ (i := 3) (N := some 32) #[true, true, true, true, false, false, false, false] rfl rfl (by kernel_rfl) (by decide) (fun K hK => ?_)
          refine goesE_ Tryz.func57 (by kernel_rfl) rfl #[.pointer (some ⟨B, 0, none⟩)] (by rfl) rfl (by (try simp only [List.map_toArray, List.map_cons, List.map_nil]); first | done | rfl) ?_
          have SS3 := Lib.hid (SS2.out.below (below_drew (Below.refl _ _)))
          refine (hHV.out q (by have := HK.out; omega) (j + 1) (d + 1) _ _ SS3.out.pw SS3.out.ub (by omega) HV1.out).mono ?_
          rintro e' w3 ⟨rfl, hgb⟩
          exact ⟨_, rfl, rfl, rfl, gb_trans SS3.out.gb hgb⟩
        · go_wp2_with (first
            | (go_at_call 39; go_loud (refine (skip_ok T tv B base j (d + 1) _ _ SS.out.pw C1.out hj1 (by have := hTT.out.hl; omega)).mono ?_; rintro e w2 ⟨rfl, hq, hgb⟩; have SS2 := Lib.hid (SS.out.call hq hgb); have RR2 := Lib.hid (kidsR RR.out (by have := SS.out.hB; have := SS.out.ge 0 rfl; omega) hgb); clear hq hgb; obtain ⟨n0, n1, n2, n3, n4, n5, nz, nl, nb⟩ := SS2.out.c6 0 rfl)))
          refine start_ (n := 8) (S := fun w' => w'.cell? ⟨w1.heap.size, 5, none⟩ = some v5) (ds := [7]) #[false, false, false, false, false, false, false, false] (by kernel_rfl) rfl rfl (by simpa using n5) ?_
          intro hHeld
          refine pure_ (i := 0) (N := some 29) (v := ?_) (a' := ?_) #[true, false, false, false, false, false, false, false] rfl rfl (by kernel_rfl) (fun _ _ _ h => h) (Or.inl ⟨by rfl, ?_⟩) ?_ ?_
          rotate_left
          · intro w'
            go_simp
            with_reducible rfl
          rotate_left
          · simp only [Act.put, List.setIfInBounds_toArray, List.set_cons_zero, List.set_cons_succ]
            rfl
          refine pure_ (i := 2) (N := some 31) (v := ?_) (a' := ?_) #[true, false, true, false, false, false, false, false] rfl rfl (by kernel_rfl) (fun _ _ _ h => h) (Or.inl ⟨by rfl, ?_⟩) ?_ ?_
          rotate_left
          · intro w'
            go_simp
            with_reducible rfl
          rotate_left
          · simp only [Act.put, List.setIfInBounds_toArray, List.set_cons_zero, List.set_cons_succ]
            rfl
          refine take_ (i := 1) (N := some 30) (v := ?_) (a' := ?_) #[true, true, true, false, false, false, false, false] rfl rfl (by kernel_rfl) (fun _ _ _ h => h) (Or.inl ⟨by rfl, ?_⟩) hHeld ?_ ?_
          rotate_left
          · intro w' s0
            go_simp
            with_reducible rfl
          rotate_left
          · simp only [Act.put, List.setIfInBounds_toArray, List.set_cons_zero, List.set_cons_succ]
            rfl
          refine one_ (i := 3) (N := some 32) #[true, true, true, true, false, false, false, false] rfl rfl (by kernel_rfl) (by decide) (fun K hK => ?_)
          refine goesE_ Tryz.func57 (by kernel_rfl) rfl #[.pointer (some ⟨B, 0, none⟩)] (by rfl) rfl (by (try simp only [List.map_toArray, List.map_cons, List.map_nil]); first | done | rfl) ?_
          have SS3 := Lib.hid (SS2.out.below (below_drew (Below.refl _ _)))
          refine (hHV.out q (by have := HK.out; omega) (j + 1) (d + 1) _ _ SS3.out.pw SS3.out.ub (by omega) HV1.out).mono ?_
          rintro e' w3 ⟨rfl, hgb⟩
          exact ⟨_, rfl, rfl, rfl, gb_trans SS3.out.gb hgb⟩
      · have hj1 : j + 1 < T.length := by
          have h1 := hTT.out.hE.next (i := j) (by have := SS.out.lt; have := hTT.out.hE.1; omega) (by rw [isP_kind c1]; decide)
          have := hTT.out.hE.1; omega
        have hjj : j + 1 < j' := ((vg_goes hTT.out.hE).1 _ _ _ ⟨q, hv⟩ (by have := hTT.out.hE.1; omega)).1 _ _ rfl |>.1
        have C1 := Lib.hid c1
        have HV1 := Lib.hid hv
        have HRe := Lib.hid hrest
        clear c1 hv hrest
        rcases hs with rfl | rfl
        · go_wp2_with (first
            | (go_at_call 39; go_loud (refine (skip_ok T tv B base j (d + 1) _ _ SS.out.pw C1.out hj1 (by have := hTT.out.hl; omega)).mono ?_; rintro e w2 ⟨rfl, hq, hgb⟩; have SS2 := Lib.hid (SS.out.call hq hgb); have RR2 := Lib.hid (kidsR RR.out (by have := SS.out.hB; have := SS.out.ge 0 rfl; omega) hgb); clear hq hgb; obtain ⟨n0, n1, n2, n3, n4, n5, nz, nl, nb⟩ := SS2.out.c6 0 rfl)))
          refine start_ (n := 8) (S := fun w' => w'.cell? ⟨w1.heap.size, 5, none⟩ = some v5) (ds := [7]) #[false, false, false, false, false, false, false, false] (by kernel_rfl) rfl rfl (by simpa using n5) ?_
          intro hHeld
          refine pure_ (i := 0) (N := some 29) (v := ?_) (a' := ?_) #[true, false, false, false, false, false, false, false] rfl rfl (by kernel_rfl) (fun _ _ _ h => h) (Or.inl ⟨by rfl, ?_⟩) ?_ ?_
          rotate_left
          · intro w'
            go_simp
            with_reducible rfl
          rotate_left
          · simp only [Act.put, List.setIfInBounds_toArray, List.set_cons_zero, List.set_cons_succ]
            rfl
          refine pure_ (i := 2) (N := some 31) (v := ?_) (a' := ?_) #[true, false, true, false, false, false, false, false] rfl rfl (by kernel_rfl) (fun _ _ _ h => h) (Or.inl ⟨by rfl, ?_⟩) ?_ ?_
          rotate_left
          · intro w'
            go_simp
            with_reducible rfl
          rotate_left
          · simp only [Act.put, List.setIfInBounds_toArray, List.set_cons_zero, List.set_cons_succ]
            rfl
          refine take_ (i := 1) (N := some 30) (v := ?_) (a' := ?_) #[true, true, true, false, false, false, false, false] rfl rfl (by kernel_rfl) (fun _ _ _ h => h) (Or.inl ⟨by rfl, ?_⟩) hHeld ?_ ?_
          rotate_left
          · intro w' s0
            go_simp
            with_reducible rfl
          rotate_left
          · simp only [Act.put, List.setIfInBounds_toArray, List.set_cons_zero, List.set_cons_succ]
            rfl
          refine one_ (i := 3) (N := some 32) #[true, true, true, true, false, false, false, false] rfl rfl (by kernel_rfl) (by decide) (fun K hK => ?_)
          refine goes_ Tryz.func57 (by kernel_rfl) rfl #[.pointer (some ⟨B, 0, none⟩)] (by rfl) rfl rfl (by (try simp only [List.map_toArray, List.map_cons, List.map_nil]); first | done | rfl) ?_
          have SS3 := Lib.hid (SS2.out.below (below_drew (Below.refl _ _)))
          refine (hHV.out q (by have := HK.out; omega) (j + 1) (d + 1) _ _ SS3.out.pw SS3.out.ub (by omega) HV1.out).mono ?_
          rintro e w3 ⟨v6, rfl, hR6, hP, hgb⟩
          have SS4 := Lib.hid (SS3.out.call hP hgb)
          have RR4 := Lib.hid (kidsR (Kd.R_drew RR2.out) (by have := SS.out.hB; have := SS.out.ge 0 rfl; omega) hgb)
          have H6 := Lib.hid hR6
          have nl2 := nl
          obtain ⟨n0, n1, n2, n3, n4, n5, nz, nl, nb⟩ := SS4.out.c6 0 rfl
          refine ⟨_, rfl, hK _ _ n5 (fun hHeld => ?_)⟩
          unfold nodeV
          clear hK K
          refine one_ (i := 4) (N := some 33) #[true, true, true, true, true, false, false, false] rfl rfl (by kernel_rfl) (by decide) (fun K hK => ?_)
          refine value_ (by rfl) rfl (w1 := w3.alloc (.cells #[.int .i64 v.f0, .string v.f1, .int .i64 v.f2.f0, .int .i64 v.f2.f1, .int .i64 v.f3, v6] 26)) (v := .slice (some ⟨w3.heap.size, 0, none⟩) 1 1) ?_ ?_
          · go_simp
            try rfl
          refine hK _ _ (by go_keep) (fun hHeld => ?_)
          clear hK K
          refine one_ (i := 5) (N := some 34) #[true, true, true, true, true, true, false, false] rfl rfl (by kernel_rfl) (by decide) (fun K hK => ?_)
          refine Kd.R_append_step PTr.k26 (w0 := w3) (w1.heap.size + 1) (by rfl) (.tmp 30) (.tmp 33) 24 26 (.agg #[.int .i64 0, .string ⟨#[]⟩, .int .i64 0, .int .i64 0, .int .i64 0, .slice none 0 0]) 72 (by rfl) und24 info26b rfl (by decide) (by decide) v5 ks v [.int .i64 v.f0, .string v.f1, .int .i64 v.f2.f0, .int .i64 v.f2.f1, .int .i64 v.f3, v6] (fun _ => True) (fun k => w2.heap.size ≤ k) (by rfl) (by rfl) (PTr.k26_mkM _ _ _ _ (Kd.R_lower (Kd.R_mono (Kd.R_bound H6.out) (fun k hk => hk.2.1)) (by show w1.heap.size + 1 ≤ w2.heap.size; omega))) (fun k hk => ⟨trivial, fun e => by have := Kd.R_lt RR2.out k e.symm; omega⟩) (fun _ _ => trivial) RR4.out (Below.refl _ _) nl (by have := hTT.out.hl; omega) ?_
          intro v7 w4 h7 h8 h9 h10
          obtain ⟨A7, c7, e7⟩ := Kd.R_slice h7
          generalize (ks ++ [v]).length = m7 at e7
          subst e7
          have SS5 := Lib.hid (SS4.out.appH h9 (fun k e => Kd.R_base RR4.out k e))
          have H7 := Lib.hid h7
          clear h7 h8 h9 h10
          obtain ⟨n0, n1, n2, n3, n4, n5, nz, nl, nb⟩ := SS5.out.c6 0 rfl
          refine hK _ _ n5 (fun hHeld => ?_)
          clear hK K
          refine norm_ (a' := ?_) ?_ ?_
          rotate_left
          · show Act.put _ (some 34) _ = _
            simp only [Act.put, List.setIfInBounds_toArray, List.set_cons_zero, List.set_cons_succ]
            rfl
          refine pure_ (i := 6) (N := some 35) (v := ?_) (a' := ?_) #[true, true, true, true, true, true, true, false] rfl rfl (by kernel_rfl) (fun _ _ _ h => h) (Or.inl ⟨by rfl, ?_⟩) ?_ ?_
          rotate_left
          · intro w'
            go_simp
            with_reducible rfl
          rotate_left
          · simp only [Act.put, List.setIfInBounds_toArray, List.set_cons_zero, List.set_cons_succ]
            rfl
          refine last_ (i := 7) (N := none) #[true, true, true, true, true, true, true, true] rfl rfl (by kernel_rfl) (by decide) (fun K hK => ?_)
          refine skip_ (by rfl) rfl (w1 := w4.setCell ⟨w1.heap.size, 5, none⟩ (.slice A7 m7 c7)) ?_ ?_
          · go_simp
            try rfl
          refine hK _ _ (done_ (by kernel_rfl) ?_)
          clear hK K
          have SS6 := Lib.hid (SS5.out.set 0 rfl 5 (.slice A7 m7 c7))
          have RR6 := Lib.hid (kidsSet H7.out (b := w1.heap.size) (Nat.lt_succ_self _) 5 (.slice A7 m7 c7))
          rcases HRe.out with ⟨c2, hg2⟩ | ⟨c2, hg2⟩
          · have C2 := Lib.hid c2
            have G2 := Lib.hid hg2
            clear c2 hg2
            go_wp2_with (first
              | (go_at_call 40; go_loud (refine (is_any T tv B base j' (d + 1) _ _ SS6.out.pw).mono ?_; rintro e w5 ⟨rfl, hb⟩; rw [C2.out]; have SS7 := Lib.hid (SS6.out.below hb); have RR7 := Lib.hid (Kd.R_below RR6.out hb); clear hb)))
            go_roundg q
            case rel => exact ⟨_, rfl, Lib.hid (by have := HK.out; omega), Lib.hid ⟨ks ++ [v], j', _, .inl ⟨rfl, G2.out, C2.out⟩, SS7.out, RR7.out, by simp; omega⟩⟩
            case measure => omega
          · have C2 := Lib.hid c2
            have G2 := Lib.hid hg2
            clear c2 hg2
            go_wp2_with (first
              | (go_at_call 40; go_loud (refine (is_any T tv B base j' (d + 1) _ _ SS6.out.pw).mono ?_; rintro e w5 ⟨rfl, hb⟩; rw [C2.out]; have SS7 := Lib.hid (SS6.out.below hb); have RR7 := Lib.hid (Kd.R_below RR6.out hb); clear hb)))
            go_roundg q
            case rel => exact ⟨_, rfl, Lib.hid (by have := HK.out; omega), Lib.hid ⟨ks ++ [v], j', _, .inr ⟨.inr rfl, G2.out⟩, SS7.out, RR7.out, by simp; omega⟩⟩
            case measure => omega
        · go_wp2_with (first
            | (go_at_call 39; go_loud (refine (skip_ok T tv B base j (d + 1) _ _ SS.out.pw C1.out hj1 (by have := hTT.out.hl; omega)).mono ?_; rintro e w2 ⟨rfl, hq, hgb⟩; have SS2 := Lib.hid (SS.out.call hq hgb); have RR2 := Lib.hid (kidsR RR.out (by have := SS.out.hB; have := SS.out.ge 0 rfl; omega) hgb); clear hq hgb; obtain ⟨n0, n1, n2, n3, n4, n5, nz, nl, nb⟩ := SS2.out.c6 0 rfl)))
          refine start_ (n := 8) (S := fun w' => w'.cell? ⟨w1.heap.size, 5, none⟩ = some v5) (ds := [7]) #[false, false, false, false, false, false, false, false] (by kernel_rfl) rfl rfl (by simpa using n5) ?_
          intro hHeld
          refine pure_ (i := 0) (N := some 29) (v := ?_) (a' := ?_) #[true, false, false, false, false, false, false, false] rfl rfl (by kernel_rfl) (fun _ _ _ h => h) (Or.inl ⟨by rfl, ?_⟩) ?_ ?_
          rotate_left
          · intro w'
            go_simp
            with_reducible rfl
          rotate_left
          · simp only [Act.put, List.setIfInBounds_toArray, List.set_cons_zero, List.set_cons_succ]
            rfl
          refine pure_ (i := 2) (N := some 31) (v := ?_) (a' := ?_) #[true, false, true, false, false, false, false, false] rfl rfl (by kernel_rfl) (fun _ _ _ h => h) (Or.inl ⟨by rfl, ?_⟩) ?_ ?_
          rotate_left
          · intro w'
            go_simp
            with_reducible rfl
          rotate_left
          · simp only [Act.put, List.setIfInBounds_toArray, List.set_cons_zero, List.set_cons_succ]
            rfl
          refine take_ (i := 1) (N := some 30) (v := ?_) (a' := ?_) #[true, true, true, false, false, false, false, false] rfl rfl (by kernel_rfl) (fun _ _ _ h => h) (Or.inl ⟨by rfl, ?_⟩) hHeld ?_ ?_
          rotate_left
          · intro w' s0
            go_simp
            with_reducible rfl
          rotate_left
          · simp only [Act.put, List.setIfInBounds_toArray, List.set_cons_zero, List.set_cons_succ]
            rfl
          refine one_ (i := 3) (N := some 32) #[true, true, true, true, false, false, false, false] rfl rfl (by kernel_rfl) (by decide) (fun K hK => ?_)
          refine goes_ Tryz.func57 (by kernel_rfl) rfl #[.pointer (some ⟨B, 0, none⟩)] (by rfl) rfl rfl (by (try simp only [List.map_toArray, List.map_cons, List.map_nil]); first | done | rfl) ?_
          have SS3 := Lib.hid (SS2.out.below (below_drew (Below.refl _ _)))
          refine (hHV.out q (by have := HK.out; omega) (j + 1) (d + 1) _ _ SS3.out.pw SS3.out.ub (by omega) HV1.out).mono ?_
          rintro e w3 ⟨v6, rfl, hR6, hP, hgb⟩
          have SS4 := Lib.hid (SS3.out.call hP hgb)
          have RR4 := Lib.hid (kidsR (Kd.R_drew RR2.out) (by have := SS.out.hB; have := SS.out.ge 0 rfl; omega) hgb)
          have H6 := Lib.hid hR6
          have nl2 := nl
          obtain ⟨n0, n1, n2, n3, n4, n5, nz, nl, nb⟩ := SS4.out.c6 0 rfl
          refine ⟨_, rfl, hK _ _ n5 (fun hHeld => ?_)⟩
          unfold nodeV
          clear hK K
          refine one_ (i := 4) (N := some 33) #[true, true, true, true, true, false, false, false] rfl rfl (by kernel_rfl) (by decide) (fun K hK => ?_)
          refine value_ (by rfl) rfl (w1 := w3.alloc (.cells #[.int .i64 v.f0, .string v.f1, .int .i64 v.f2.f0, .int .i64 v.f2.f1, .int .i64 v.f3, v6] 26)) (v := .slice (some ⟨w3.heap.size, 0, none⟩) 1 1) ?_ ?_
          · go_simp
            try rfl
          refine hK _ _ (by go_keep) (fun hHeld => ?_)
          clear hK K
          refine one_ (i := 5) (N := some 34) #[true, true, true, true, true, true, false, false] rfl rfl (by kernel_rfl) (by decide) (fun K hK => ?_)
          refine Kd.R_append_step PTr.k26 (w0 := w3) (w1.heap.size + 1) (by rfl) (.tmp 30) (.tmp 33) 24 26 (.agg #[.int .i64 0, .string ⟨#[]⟩, .int .i64 0, .int .i64 0, .int .i64 0, .slice none 0 0]) 72 (by rfl) und24 info26b rfl (by decide) (by decide) v5 ks v [.int .i64 v.f0, .string v.f1, .int .i64 v.f2.f0, .int .i64 v.f2.f1, .int .i64 v.f3, v6] (fun _ => True) (fun k => w2.heap.size ≤ k) (by rfl) (by rfl) (PTr.k26_mkM _ _ _ _ (Kd.R_lower (Kd.R_mono (Kd.R_bound H6.out) (fun k hk => hk.2.1)) (by show w1.heap.size + 1 ≤ w2.heap.size; omega))) (fun k hk => ⟨trivial, fun e => by have := Kd.R_lt RR2.out k e.symm; omega⟩) (fun _ _ => trivial) RR4.out (Below.refl _ _) nl (by have := hTT.out.hl; omega) ?_
          intro v7 w4 h7 h8 h9 h10
          obtain ⟨A7, c7, e7⟩ := Kd.R_slice h7
          generalize (ks ++ [v]).length = m7 at e7
          subst e7
          have SS5 := Lib.hid (SS4.out.appH h9 (fun k e => Kd.R_base RR4.out k e))
          have H7 := Lib.hid h7
          clear h7 h8 h9 h10
          obtain ⟨n0, n1, n2, n3, n4, n5, nz, nl, nb⟩ := SS5.out.c6 0 rfl
          refine hK _ _ n5 (fun hHeld => ?_)
          clear hK K
          refine norm_ (a' := ?_) ?_ ?_
          rotate_left
          · show Act.put _ (some 34) _ = _
            simp only [Act.put, List.setIfInBounds_toArray, List.set_cons_zero, List.set_cons_succ]
            rfl
          refine pure_ (i := 6) (N := some 35) (v := ?_) (a' := ?_) #[true, true, true, true, true, true, true, false] rfl rfl (by kernel_rfl) (fun _ _ _ h => h) (Or.inl ⟨by rfl, ?_⟩) ?_ ?_
          rotate_left
          · intro w'
            go_simp
            with_reducible rfl
          rotate_left
          · simp only [Act.put, List.setIfInBounds_toArray, List.set_cons_zero, List.set_cons_succ]
            rfl
          refine last_ (i := 7) (N := none) #[true, true, true, true, true, true, true, true] rfl rfl (by kernel_rfl) (by decide) (fun K hK => ?_)
          refine skip_ (by rfl) rfl (w1 := w4.setCell ⟨w1.heap.size, 5, none⟩ (.slice A7 m7 c7)) ?_ ?_
          · go_simp
            try rfl
          refine hK _ _ (done_ (by kernel_rfl) ?_)
          clear hK K
          have SS6 := Lib.hid (SS5.out.set 0 rfl 5 (.slice A7 m7 c7))
          have RR6 := Lib.hid (kidsSet H7.out (b := w1.heap.size) (Nat.lt_succ_self _) 5 (.slice A7 m7 c7))
          rcases HRe.out with ⟨c2, hg2⟩ | ⟨c2, hg2⟩
          · have C2 := Lib.hid c2
            have G2 := Lib.hid hg2
            clear c2 hg2
            go_wp2_with (first
              | (go_at_call 40; go_loud (refine (is_any T tv B base j' (d + 1) _ _ SS6.out.pw).mono ?_; rintro e w5 ⟨rfl, hb⟩; rw [C2.out]; have SS7 := Lib.hid (SS6.out.below hb); have RR7 := Lib.hid (Kd.R_below RR6.out hb); clear hb)))
            go_roundg q
            case rel => exact ⟨_, rfl, Lib.hid (by have := HK.out; omega), Lib.hid ⟨ks ++ [v], j', _, .inl ⟨rfl, G2.out, C2.out⟩, SS7.out, RR7.out, by simp; omega⟩⟩
            case measure => omega
          · have C2 := Lib.hid c2
            have G2 := Lib.hid hg2
            clear c2 hg2
            go_wp2_with (first
              | (go_at_call 40; go_loud (refine (is_any T tv B base j' (d + 1) _ _ SS6.out.pw).mono ?_; rintro e w5 ⟨rfl, hb⟩; rw [C2.out]; have SS7 := Lib.hid (SS6.out.below hb); have RR7 := Lib.hid (Kd.R_below RR6.out hb); clear hb)))
            go_roundg q
            case rel => exact ⟨_, rfl, Lib.hid (by have := HK.out; omega), Lib.hid ⟨ks ++ [v], j', _, .inr ⟨.inr rfl, G2.out⟩, SS7.out, RR7.out, by simp; omega⟩⟩
            case measure => omega
end Go.Proofs.YtahjkibjcibpgaaGreatDoor.L
end
section
namespace Go.Proofs.YtahjkibjcibpgaaGreatDoor.L
open Go.RowKit Go.Shelf Go.Lib Go.Proofs.YtahjkibjcibpgaaGreatDoor.U
open Go.Proofs.YtahjkibjcibpgaaGreatDoorW Go.Proofs.YtahjkibjcibpgaaGreatDoorW.PrintWords Go.Proofs.YtahjkibjcibpgaaGreatDoorW.PrintLast
attribute [local go_sem] Oper.semAt_some
theorem Tk.nxt {T : List PTr.S41} {n i : Nat} (h : Tk T n) (hi : i < T.length) (hk : (tokAt T i).f0 ≠ 4) : i + 1 < T.length := by
  have h1 := h.hE.next (i := i) (by have := h.hE.1; omega) hk
  have := h.hE.1
  omega
theorem amount_all (T : List PTr.S41) (n0 : Nat) (hT : Tk T n0) (tv : Value) (B base i d : Nat) (w : World) (hp : PW T tv B base i d w) (hu : UB B w) :
    Calls Tryz.prog 81 #[.pointer (some ⟨B, 0, none⟩)] w (PEnd T tv B base d w (amountP T i)) := by
  unfold amountP
  cases c : ((tokAt T i).f0 == 1) with
  | false =>
    rw [if_neg (by simp)]
    refine (amount_no T tv B base i d w hp c).mono ?_
    rintro e w' ⟨rfl, hb⟩
    exact ⟨rfl, gb_below hb⟩
  | true =>
    rw [if_pos rfl]
    have hi := hT.nxt hp.lt (by rw [show (tokAt T i).f0 = 1 by simpa using c]; decide)
    have hl : T.length ≤ 140737488355328 := by have := hT.hl; omega
    have hsz := hT.sz i
    have ua : ∀ x : ByteArray, Ex.unit_Amount.f (tokAt T i).f1 x = some (amt (tokAt T i).f1.data.toList x.data.toList) := fun x => by
      unfold Ex.unit_Amount.f
      rw [if_pos (by omega)]
    have fin : ∀ (x : ByteArray) (j : Nat), (∀ n dn, Ex.unit_Amount.f (tokAt T i).f1 x = some (n, dn, 0) → Calls Tryz.prog 81 #[.pointer (some ⟨B, 0, none⟩)] w (PEnd T tv B base d w (.ok (⟨5, ⟨#[]⟩, ⟨n, dn⟩, (tokAt T i).f2, []⟩, j)))) →
        (∀ n dn er, Ex.unit_Amount.f (tokAt T i).f1 x = some (n, dn, er) → (er == 0) = false → Calls Tryz.prog 81 #[.pointer (some ⟨B, 0, none⟩)] w (PEnd T tv B base d w (.error (7, (tokAt T i).f2)))) → unitP T (i + 1) = (x, j) →
        Calls Tryz.prog 81 #[.pointer (some ⟨B, 0, none⟩)] w (PEnd T tv B base d w (match amt (tokAt T i).f1.data.toList (unitP T (i + 1)).1.data.toList with
          | (n, d, e) => if e = 0 then .ok (⟨5, ⟨#[]⟩, ⟨n, d⟩, (tokAt T i).f2, []⟩, (unitP T (i + 1)).2) else .error (7, (tokAt T i).f2))) := by
      intro x j h1 h2 h3
      rw [h3]
      have h4 := ua x
      generalize amt (tokAt T i).f1.data.toList x.data.toList = y at h4 ⊢
      obtain ⟨n, dn, er⟩ := y
      simp only
      by_cases he : er = 0
      · subst he; rw [if_pos rfl]; exact h1 n dn h4
      · rw [if_neg he]; exact h2 n dn er h4 (by simpa using he)
    cases c2 : ((tokAt T (i + 1)).f0 == 0) with
    | false =>
      refine fin ⟨#[]⟩ (i + 1) (fun n dn h => amount_a T tv B base i d w hp hu c c2 hi hl n dn h) (fun n dn er h he => amount_ae T tv B base i d w hp hu c c2 hi hl n dn er h he) ?_
      unfold unitP
      rw [c2]; rfl
    | true =>
      cases c3 : knownP (tokAt T (i + 1)).f1 with
      | false =>
        refine fin ⟨#[]⟩ (i + 1) (fun n dn h => amount_b T tv B base i d w hp hu c c2 c3 hi hl n dn h) (fun n dn er h he => amount_be T tv B base i d w hp hu c c2 c3 hi hl n dn er h he) ?_
        unfold unitP
        rw [c2, c3]; rfl
      | true =>
        have hi2 := hT.nxt hi (by rw [show (tokAt T (i + 1)).f0 = 0 by simpa using c2]; decide)
        refine fin (tokAt T (i + 1)).f1 (i + 1 + 1) (fun n dn h => amount_c T tv B base i d w hp hu c c2 c3 hi2 hi hl n dn h) (fun n dn er h he => amount_ce T tv B base i d w hp hu c c2 c3 hi2 hi hl n dn er h he) ?_
        unfold unitP
        rw [c2, c3]; rfl
theorem value_group (T : List PTr.S41) (tv : Value) (B base i d : Nat) (w : World) (hp : PW T tv B base i d w) (hu : UB B w) (c : isP T i ⟨#[40]⟩ = true) (r : PR PTr.S26)
    (HG : ∀ W, PW T tv B base i d W → UB B W → Calls Tryz.prog 80 #[.pointer (some ⟨B, 0, none⟩)] W (PEnd T tv B base d W r)) :
    Calls Tryz.prog 57 #[.pointer (some ⟨B, 0, none⟩)] w (PEnd T tv B base d w r) := by
  have S0 := Lib.hid (St.start hp hu)
  have S1 := Lib.hid (S0.out.alloc zero26 26)
  have HG' := Lib.hid HG
  have C := Lib.hid c
  clear hp hu HG c
  match r with
  | .error x =>
    go_enter Tryz.func57, Tryz.ntmps57
    go_wp2_with (first
      | (go_at_call 40; go_loud (refine (is_any T tv B base i d _ _ S1.out.pw).mono ?_; rintro e w1 ⟨rfl, hb⟩; rw [C.out]; have S2 := Lib.hid (S1.out.below hb); clear hb))
      | (go_at_call 80; go_loud (refine (HG'.out _ S2.out.pw S2.out.ub).mono ?_; rintro e w2 ⟨rfl, hgb⟩; have GB := Lib.hid (gb_trans S2.out.gb hgb); clear hgb; unfold flt)))
    exact ⟨rfl, rfl, GB.out⟩
  | .ok (v, j) =>
    go_enter Tryz.func57, Tryz.ntmps57
    go_wp2_with (first
      | (go_at_call 40; go_loud (refine (is_any T tv B base i d _ _ S1.out.pw).mono ?_; rintro e w1 ⟨rfl, hb⟩; rw [C.out]; have S2 := Lib.hid (S1.out.below hb); clear hb))
      | (go_at_call 80; go_loud (refine (HG'.out _ S2.out.pw S2.out.ub).mono ?_; rintro e w2 ⟨v5, rfl, hR, hq, hgb⟩; unfold nodeV; have hsz := S2.out.gb.size; have hwn := S2.out.get 0 rfl; have hBw := S2.out.hB; have hlt := blk_lt hwn; have R2 := Lib.hid (Kd.R_bound hR); have S3 := Lib.hid (S2.out.call hq hgb); obtain ⟨A5, c5, e5⟩ := Kd.R_slice hR; generalize v.f4.length = m5 at e5; subst e5; clear hR hq hgb hwn; obtain ⟨r0, r1, r2, r3, r4, r5, rz, rl, rb⟩ := S3.out.c6 0 rfl)))
    have SF := ((((((S3.out.set 0 rfl 0 (.int .i64 v.f0)).set 0 rfl 1 (.string v.f1)).set 0 rfl 2 (.int .i64 v.f2.f0)).set 0 rfl 3 (.int .i64 v.f2.f1)).set 0 rfl 4 (.int .i64 v.f3)).set 0 rfl 5 (.slice A5 m5 c5))
    refine bodyPost_ret (results26 rfl rfl rfl (SF.get 0 rfl)) rfl ⟨_, rfl, ?_, SF.pw, SF.gb⟩
    have hrn : w.heap.size < w1.heap.size := hlt
    have R3 := Kd.R_mono R2.out (ok' := fun _ => True) (fun _ _ => trivial)
    exact Kd.R_lower (kidsSet (kidsSet (kidsSet (kidsSet (kidsSet (kidsSet R3 hrn 0 _) hrn 1 _) hrn 2 _) hrn 3 _) hrn 4 _) hrn 5 _) (by omega)
theorem value_leaf (T : List PTr.S41) (tv : Value) (B base i d : Nat) (w : World) (hp : PW T tv B base i d w) (hu : UB B w) (c : isP T i ⟨#[40]⟩ = false) (k : Int)
    (HL : ∀ W, PW T tv B base i d W → Calls Tryz.prog 38 #[.pointer (some ⟨B, 0, none⟩)] W fun e w' => e = .returned (.tuple #[nodeV (leafN k (tokAt T i)) (.slice none 0 0), .bool true]) ∧ PW T tv B base (i + 1) d w' ∧ W.grownBy w' (some B)) :
    Calls Tryz.prog 57 #[.pointer (some ⟨B, 0, none⟩)] w (PEnd T tv B base d w (.ok (leafN k (tokAt T i), i + 1))) := by
  have S0 := Lib.hid (St.start hp hu)
  have S1 := Lib.hid (S0.out.alloc zero26 26)
  have HL' := Lib.hid HL
  have C := Lib.hid c
  clear hp hu HL c
  obtain ⟨k0, t, a, hx⟩ : ∃ k t a, tokAt T i = ⟨k, t, a⟩ := ⟨_, _, _, rfl⟩
  rw [hx] at HL' ⊢
  unfold leafN nodeV at HL'
  simp only at HL'
  clear hx
  go_enter Tryz.func57, Tryz.ntmps57
  go_wp2_with (first
    | (go_at_call 40; go_loud (refine (is_any T tv B base i d _ _ S1.out.pw).mono ?_; rintro e w1 ⟨rfl, hb⟩; rw [C.out]; have S2 := Lib.hid (S1.out.below hb); clear hb))
    | (go_at_call 38; go_loud (refine (HL'.out _ S2.out.pw).mono ?_; rintro e w2 ⟨rfl, hq, hgb⟩; have S3 := Lib.hid (S2.out.call hq hgb); have S4 := Lib.hid (S3.out.alloc #[.int .i64 k, .string t, .int .i64 0, .int .i64 0, .int .i64 a, .slice none 0 0] 26); clear hq hgb; obtain ⟨r0, r1, r2, r3, r4, r5, rz, rl, rb⟩ := S4.out.c6 1 rfl)))
  have SF := ((((((S4.out.set 1 rfl 0 (.int .i64 k)).set 1 rfl 1 (.string t)).set 1 rfl 2 (.int .i64 0)).set 1 rfl 3 (.int .i64 0)).set 1 rfl 4 (.int .i64 a)).set 1 rfl 5 (.slice none 0 0))
  exact bodyPost_ret (results26 rfl rfl rfl (SF.get 1 rfl)) rfl ⟨_, rfl, Kd.R_nil _ _ _ _ _, SF.pw, SF.gb⟩
theorem value_amount (T : List PTr.S41) (tv : Value) (B base i d : Nat) (w : World) (hp : PW T tv B base i d w) (hu : UB B w) (c : isP T i ⟨#[40]⟩ = false) (h0 : ((tokAt T i).f0 == 0) = false) (h2 : ((tokAt T i).f0 == 2) = false) (r : PR PTr.S26)
    (HG : ∀ W, PW T tv B base i d W → UB B W → Calls Tryz.prog 81 #[.pointer (some ⟨B, 0, none⟩)] W (PEnd T tv B base d W r)) :
    Calls Tryz.prog 57 #[.pointer (some ⟨B, 0, none⟩)] w (PEnd T tv B base d w r) := by
  have S0 := Lib.hid (St.start hp hu)
  have S1 := Lib.hid (S0.out.alloc zero26 26)
  have HG' := Lib.hid HG
  have C := Lib.hid c
  have HL := Lib.hid (fun W h => leaf_none T tv B base i d W h h0 h2)
  unfold nodeV at HL
  clear hp hu HG c h0 h2
  match r with
  | .error x =>
    go_enter Tryz.func57, Tryz.ntmps57
    go_wp2_with (first
      | (go_at_call 40; go_loud (refine (is_any T tv B base i d _ _ S1.out.pw).mono ?_; rintro e w1 ⟨rfl, hb⟩; rw [C.out]; have S2 := Lib.hid (S1.out.below hb); clear hb))
      | (go_at_call 38; go_loud (refine (HL.out _ S2.out.pw).mono ?_; rintro e w2 ⟨rfl, hq, hgb⟩; have S3 := Lib.hid (S2.out.call hq hgb); have S4 := Lib.hid (S3.out.alloc zero26 26); clear hq hgb))
      | (go_at_call 81; go_loud (refine (HG'.out _ S4.out.pw S4.out.ub).mono ?_; rintro e w3 ⟨rfl, hgb⟩; have GB := Lib.hid (gb_trans S4.out.gb hgb); clear hgb; unfold flt)))
    exact ⟨rfl, rfl, GB.out⟩
  | .ok (v, j) =>
    go_enter Tryz.func57, Tryz.ntmps57
    go_wp2_with (first
      | (go_at_call 40; go_loud (refine (is_any T tv B base i d _ _ S1.out.pw).mono ?_; rintro e w1 ⟨rfl, hb⟩; rw [C.out]; have S2 := Lib.hid (S1.out.below hb); clear hb))
      | (go_at_call 38; go_loud (refine (HL.out _ S2.out.pw).mono ?_; rintro e w2 ⟨rfl, hq, hgb⟩; have S3 := Lib.hid (S2.out.call hq hgb); have S4 := Lib.hid (S3.out.alloc zero26 26); clear hq hgb))
      | (go_at_call 81; go_loud (refine (HG'.out _ S4.out.pw S4.out.ub).mono ?_; rintro e w3 ⟨v5, rfl, hR, hq, hgb⟩; unfold nodeV; have hsz := S4.out.gb.size; have hlt := blk_lt (S4.out.get 1 rfl); have R2 := Lib.hid (Kd.R_bound hR); have S5 := Lib.hid (S4.out.call hq hgb); obtain ⟨A5, c5, e5⟩ := Kd.R_slice hR; generalize v.f4.length = m5 at e5; subst e5; clear hR hq hgb; obtain ⟨r0, r1, r2, r3, r4, r5, rz, rl, rb⟩ := S5.out.c6 1 rfl)))
    have SF := ((((((S5.out.set 1 rfl 0 (.int .i64 v.f0)).set 1 rfl 1 (.string v.f1)).set 1 rfl 2 (.int .i64 v.f2.f0)).set 1 rfl 3 (.int .i64 v.f2.f1)).set 1 rfl 4 (.int .i64 v.f3)).set 1 rfl 5 (.slice A5 m5 c5))
    refine bodyPost_ret (results26 rfl rfl rfl (SF.get 1 rfl)) rfl ⟨_, rfl, ?_, SF.pw, SF.gb⟩
    have R3 := Kd.R_mono R2.out (ok' := fun _ => True) (fun _ _ => trivial)
    exact Kd.R_lower (kidsSet (kidsSet (kidsSet (kidsSet (kidsSet (kidsSet R3 hlt 0 _) hlt 1 _) hlt 2 _) hlt 3 _) hlt 4 _) hlt 5 _) (by omega)
theorem value_all (T : List PTr.S41) (n0 : Nat) (hT : Tk T n0) (tv : Value) (B base : Nat) : ∀ f, VC T tv B base f := by
  intro f
  induction f using Nat.strongRecOn with
  | _ f ih =>
  intro i d r w hp hu hd h
  cases f with
  | zero => simp [valueP] at h
  | succ f =>
    have hl : T.length ≤ 140737488355328 := by have := hT.hl; omega
    rw [valueP] at h
    cases c : isP T i ⟨#[40]⟩ with
    | true =>
      rw [if_pos c] at h
      by_cases h40 : d = 40
      · subst h40
        rw [if_pos rfl] at h
        have e := Option.some.inj h
        subst e
        exact value_group T tv B base i 40 w hp hu c _ (fun W h1 h2 => group_full T tv B base i W h1 h2)
      · rw [if_neg h40] at h
        cases hg : groupP f T i (d + 1) ⟨#[40]⟩ [] with
        | none => rw [hg] at h; simp at h
        | some g =>
          have hr : r = grpE (tokAt T i).f2 g := by
            rw [hg] at h
            match g, hg, h with
            | .error e, _, h => simp only at h; injection h with h; rw [← h]; rfl
            | .ok (ks, j), hg, h =>
              simp only at h
              have hj : isP T j ⟨#[41]⟩ = true := (vg_ind T (fun _ _ _ => True) (fun _ _ _ _ r => ∀ ks j, r = .ok (ks, j) → isP T j ⟨#[41]⟩ = true)
                (fun _ _ => trivial) (fun _ _ _ _ _ _ _ => trivial) (fun _ _ _ _ _ _ _ _ _ => trivial) (fun _ _ _ _ => trivial) (fun _ _ _ _ _ => trivial) (fun _ _ _ _ _ => trivial)
                (fun _ _ _ _ _ _ _ e => by cases e) (fun _ _ _ _ _ _ _ _ _ _ e => by cases e) (fun _ _ _ _ _ _ _ _ _ c _ _ e => by injection e with e; injection e with _ e; rw [← e]; exact c)
                (fun _ _ _ _ _ _ _ _ _ _ _ _ h => h)).2 _ _ _ _ _ ⟨f, hg⟩ ks j rfl
              rw [if_pos hj] at h
              injection h with h; rw [← h]; rfl
          subst hr
          exact value_group T tv B base i d w hp hu c _ (fun W h1 h2 => group_calls T n0 hT tv B base f (fun f' hf => ih f' (by omega)) i d W h1 h2 (by omega) g hg)
    | false =>
      rw [if_neg (by rw [c]; simp)] at h
      cases h0 : ((tokAt T i).f0 == 0) with
      | true =>
        rw [if_pos h0] at h
        have e := Option.some.inj h
        subst e
        have hi := hT.nxt hp.lt (by rw [show (tokAt T i).f0 = 0 by simpa using h0]; decide)
        exact value_leaf T tv B base i d w hp hu c 3 (fun W h1 => leaf_name T tv B base i d W h1 h0 hi hl)
      | false =>
        rw [if_neg (by rw [h0]; simp)] at h
        cases h2 : ((tokAt T i).f0 == 2) with
        | true =>
          rw [if_pos h2] at h
          have e := Option.some.inj h
          subst e
          have hi := hT.nxt hp.lt (by rw [show (tokAt T i).f0 = 2 by simpa using h2]; decide)
          exact value_leaf T tv B base i d w hp hu c 4 (fun W h1 => leaf_text T tv B base i d W h1 h0 h2 hi hl)
        | false =>
          rw [if_neg (by rw [h2]; simp)] at h
          have e := Option.some.inj h
          subst e
          exact value_amount T tv B base i d w hp hu c h0 h2 _ (fun W h1 h2 => amount_all T n0 hT tv B base i d W h1 h2)
end Go.Proofs.YtahjkibjcibpgaaGreatDoor.L
end
section
namespace Go.Proofs.YtahjkibjcibpgaaGreatDoor.L
open Go.RowKit Go.Shelf Go.Lib Go.Proofs.YtahjkibjcibpgaaGreatDoor.U
open Go.Proofs.YtahjkibjcibpgaaGreatDoorW Go.Proofs.YtahjkibjcibpgaaGreatDoorW.PrintWords Go.Proofs.YtahjkibjcibpgaaGreatDoorW.PrintLast
attribute [local go_sem] Oper.semAt_some
attribute [local go_sem ↓] Go.wp_at_zero Go.wp_at_succ
theorem value_V (T : List PTr.S41) (n0 : Nat) (hT : Tk T n0) (tv : Value) (B base i d : Nat) (r : PR PTr.S26) (w : World) (hp : PW T tv B base i d w) (hu : UB B w) (hd : d ≤ 40) (h : V T i d r) :
    Calls Tryz.prog 57 #[.pointer (some ⟨B, 0, none⟩)] w (PEnd T tv B base d w r) := by
  obtain ⟨f, h⟩ := h
  exact value_all T n0 hT tv B base f i d r w hp hu hd h
theorem prop_no (T : List PTr.S41) (tv : Value) (B base i : Nat) (w : World) (hp : PW T tv B base i 0 w) (hu : UB B w) (c : ((tokAt T i).f0 == 0) = false) :
    Calls Tryz.prog 41 #[.pointer (some ⟨B, 0, none⟩)] w (PEnd T tv B base 0 w (.error (2, (tokAt T i).f2))) := by
  have S0 := Lib.hid (St.start hp hu)
  have S1 := Lib.hid (S0.out.alloc zero26 26)
  have C := Lib.hid c
  clear hp hu c
  go_enter Tryz.func41, Tryz.ntmps41
  go_wp2_with (first
    | (go_at_call 37; go_loud (refine (take_no T tv B base i 0 0 _ S1.out.pw C.out).mono ?_; rintro e w1 ⟨rfl, hb⟩; have S2 := Lib.hid (S1.out.below hb); clear hb; unfold flt)))
  exact ⟨rfl, rfl, S2.out.gb⟩
def PRel (T : List PTr.S41) (tv : Value) (B base : Nat) (w : World) (r t n : Nat) (tc : Array Value) (tx : ByteArray) (at_ : Int) (g : PR (List PTr.S26)) (kq : Nat) (W : World) : Prop :=
  ∃ ks j v5, PL T j ks g ∧ St T tv B base j 0 w [(n, node6 2 tx at_ v5, 26), (t, tc, 41), (r, zero26, 26)] W ∧ PTr.k26.R 26 W (n + 1) (fun _ => True) v5 ks ∧ ks.length ≤ j ∧ T.length ≤ j + kq
def propE (tx : ByteArray) (at_ : Int) : PR (List PTr.S26) → PR PTr.S26
  | .error e => .error e
  | .ok (ks, j) => .ok (⟨2, tx, ⟨0, 0⟩, at_, ks⟩, j)
set_option maxRecDepth 100000 in
theorem prop_yes (T : List PTr.S41) (n0 : Nat) (hT : Tk T n0) (tv : Value) (B base i : Nat) (w : World) (hp : PW T tv B base i 0 w) (hu : UB B w) (c : ((tokAt T i).f0 == 0) = true) (g : PR (List PTr.S26)) (hg : PL T (i + 1) [] g) :
    Calls Tryz.prog 41 #[.pointer (some ⟨B, 0, none⟩)] w (PEnd T tv B base 0 w (propE (tokAt T i).f1 (tokAt T i).f2 g)) := by
  have S0 := Lib.hid (St.start hp hu)
  have S1 := Lib.hid (S0.out.alloc zero26 26)
  have hi := hT.nxt hp.lt (by rw [show (tokAt T i).f0 = 0 by simpa using c]; decide)
  have hTk := take_ok T tv B base i 0 0 _ S1.out.pw c hi (by have := hT.hl; omega)
  obtain ⟨k, t, a, hx⟩ : ∃ k t a, tokAt T i = ⟨k, t, a⟩ := ⟨_, _, _, rfl⟩
  rw [hx] at hTk ⊢
  simp only at hTk ⊢
  have HT := Lib.hid hTk
  have hG := Lib.hid hg
  have hTT := Lib.hid hT
  clear hp hu c hTk hx hg hT hi
  go_enter Tryz.func41, Tryz.ntmps41
  go_wp2_with (first
    | (go_at_call 37; go_loud (refine HT.out.mono ?_; rintro e w1 ⟨rfl, hq, hgb⟩; have S2 := Lib.hid (S1.out.call hq hgb); clear hq hgb)))
  have S3 := Lib.hid ((S2.out.alloc #[.int .i64 k, .string t, .int .i64 a] 41).allocAt (w1.heap.size + 1) (by simp) (node6 2 t a (.slice none 0 0)) 26)
  go_loopg [] T.length (fun kq W => Hid (PRel T tv B base w w.heap.size w1.heap.size (w1.heap.size + 1) #[.int .i64 k, .string t, .int .i64 a] t a g kq W))
  case atStart => exact Lib.hid ⟨[], i + 1, _, hG.out, S3.out, Kd.R_nil _ _ _ _ _, by simp, by omega⟩
  case round =>
    obtain ⟨ks, j, v5, hpl, hS, hR5, hle, hms⟩ := hrel.out
    clear hrel
    have SS := Lib.hid hS
    have RR := Lib.hid hR5
    clear hS hR5
    rcases hpl.inv with ⟨c1, rfl⟩ | ⟨c1, ⟨e, hv, rfl⟩ | ⟨v, j', hv, hrest⟩⟩
    · have C1 := Lib.hid c1
      have hj1 : j + 1 < T.length := hTT.out.nxt SS.out.lt (by rw [isP_kind c1]; decide)
      clear hpl c1
      obtain ⟨A5, c5, e5⟩ := Kd.R_slice RR.out
      generalize ks.length = m5 at e5
      subst e5
      go_wp2_with (first
        | (go_at_call 40; go_loud (refine (is_any T tv B base j 0 _ _ SS.out.pw).mono ?_; rintro e w2 ⟨rfl, hb⟩; rw [C1.out]; have SS2 := Lib.hid (SS.out.below hb); have RR2 := Lib.hid (Kd.R_below RR.out hb); clear hb; obtain ⟨n0, n1, n2, n3, n4, n5, nz, nl, nb⟩ := SS2.out.c6 0 rfl))
        | (go_at_call 39; go_loud (refine (skip_ok T tv B base j 0 _ _ SS2.out.pw C1.out hj1 (by have := hTT.out.hl; omega)).mono ?_; rintro e w3 ⟨rfl, hq, hgb⟩; have SS3 := Lib.hid (SS2.out.call hq hgb); have RR3 := Lib.hid (kidsR RR2.out (by have := SS.out.hB; have := SS.out.ge 0 rfl; omega) hgb); clear hq hgb; obtain ⟨n0, n1, n2, n3, n4, n5, nz, nl, nb⟩ := SS3.out.c6 0 rfl; obtain ⟨r0, r1, r2, r3, r4, r5, rz, rl, rb⟩ := SS3.out.c6 2 rfl; have rn := SS3.out.apart 0 2 (by decide) rfl rfl)))
      have SS4 := (((((((SS3.out).set 2 rfl 0 (.int .i64 2)).set 2 rfl 1 (.string t)).set 2 rfl 2 (.int .i64 0)).set 2 rfl 3 (.int .i64 0)).set 2 rfl 4 (.int .i64 a)).set 2 rfl 5 (.slice A5 m5 c5))
      have hge := SS3.out.ge 0 rfl
      refine bodyPost_ret (results26 rfl rfl rfl (SS4.get 2 rfl)) rfl ⟨_, rfl, ?_, SS4.pw, SS4.gb⟩
      have hrn : w.heap.size < w1.heap.size + 1 + 1 := SS.out.lt2 0 2 (by decide) rfl rfl
      exact Kd.R_lower (kidsSet (kidsSet (kidsSet (kidsSet (kidsSet (kidsSet RR3.out hrn 0 _) hrn 1 _) hrn 2 _) hrn 3 _) hrn 4 _) hrn 5 _) (by omega)
    · have C1 := Lib.hid c1
      have HV1 := Lib.hid hv
      clear hpl c1 hv
      go_wp2_with (first
        | (go_at_call 40; go_loud (refine (is_any T tv B base j 0 _ _ SS.out.pw).mono ?_; rintro e w2 ⟨rfl, hb⟩; rw [C1.out]; have SS2 := Lib.hid (SS.out.below hb); have RR2 := Lib.hid (Kd.R_below RR.out hb); clear hb; obtain ⟨n0, n1, n2, n3, n4, n5, nz, nl, nb⟩ := SS2.out.c6 0 rfl)))
      refine start_ (n := 8) (S := fun w' => w'.cell? ⟨(w1.heap.size + 1), 5, none⟩ = some v5) (ds := [7]) #[false, false, false, false, false, false, false, false] (by kernel_rfl) rfl rfl (by simpa using n5) ?_
      intro hHeld
      refine pure_ (i := 0) (N := some 15) (v := ?_) (a' := ?_) #[true, false, false, false, false, false, false, false] rfl rfl (by kernel_rfl) (fun _ _ _ h => h) (Or.inl ⟨by rfl, ?_⟩) ?_ ?_
      rotate_left
      · intro w'
        go_simp
        with_reducible rfl
      rotate_left
      · simp only [Act.put, List.setIfInBounds_toArray, List.set_cons_zero, List.set_cons_succ]
        rfl
      refine pure_ (i := 2) (N := some 17) (v := ?_) (a' := ?_) #[true, false, true, false, false, false, false, false] rfl rfl (by kernel_rfl) (fun _ _ _ h => h) (Or.inl ⟨by rfl, ?_⟩) ?_ ?_
      rotate_left
      · intro w'
        go_simp
        with_reducible rfl
      rotate_left
      · simp only [Act.put, List.setIfInBounds_toArray, List.set_cons_zero, List.set_cons_succ]
        rfl
      refine take_ (i := 1) (N := some 16) (v := ?_) (a' := ?_) #[true, true, true, false, false, false, false, false] rfl rfl (by kernel_rfl) (fun _ _ _ h => h) (Or.inl ⟨by rfl, ?_⟩) hHeld ?_ ?_
      rotate_left
      · intro w' s0
        go_simp
        with_reducible rfl
      rotate_left
      · simp only [Act.put, List.setIfInBounds_toArray, List.set_cons_zero, List.set_cons_succ]
        rfl
      refine one_ (i := 3) (N := some 18) #[true, true, true, true, false, false, false, false] rfl rfl (by kernel_rfl) (by decide) (fun K hK => ?_)
      refine goesE_ Tryz.func57 (by kernel_rfl) rfl #[.pointer (some ⟨B, 0, none⟩)] (by rfl) rfl (by (try simp only [List.map_toArray, List.map_cons, List.map_nil]); first | done | rfl) ?_
      have SS3 := Lib.hid (SS2.out.below (below_drew (Below.refl _ _)))
      refine (value_V T _ hTT.out tv B base j 0 _ _ SS3.out.pw SS3.out.ub (by omega) HV1.out).mono ?_
      rintro e' w3 ⟨rfl, hgb⟩
      exact ⟨_, rfl, rfl, rfl, gb_trans SS3.out.gb hgb⟩
    · have hjj : j < j' := ((vg_goes hTT.out.hE).1 _ _ _ hv (by have := hTT.out.hE.1; have := SS.out.lt; omega)).1 _ _ rfl |>.1
      have C1 := Lib.hid c1
      have HV1 := Lib.hid hv
      have HRe := Lib.hid hrest
      clear hpl c1 hv hrest
      go_wp2_with (first
        | (go_at_call 40; go_loud (refine (is_any T tv B base j 0 _ _ SS.out.pw).mono ?_; rintro e w2 ⟨rfl, hb⟩; rw [C1.out]; have SS2 := Lib.hid (SS.out.below hb); have RR2 := Lib.hid (Kd.R_below RR.out hb); clear hb; obtain ⟨n0, n1, n2, n3, n4, n5, nz, nl, nb⟩ := SS2.out.c6 0 rfl)))
      refine start_ (n := 8) (S := fun w' => w'.cell? ⟨(w1.heap.size + 1), 5, none⟩ = some v5) (ds := [7]) #[false, false, false, false, false, false, false, false] (by kernel_rfl) rfl rfl (by simpa using n5) ?_
      intro hHeld
      refine pure_ (i := 0) (N := some 15) (v := ?_) (a' := ?_) #[true, false, false, false, false, false, false, false] rfl rfl (by kernel_rfl) (fun _ _ _ h => h) (Or.inl ⟨by rfl, ?_⟩) ?_ ?_
      rotate_left
      · intro w'
        go_simp
        with_reducible rfl
      rotate_left
      · simp only [Act.put, List.setIfInBounds_toArray, List.set_cons_zero, List.set_cons_succ]
        rfl
      refine pure_ (i := 2) (N := some 17) (v := ?_) (a' := ?_) #[true, false, true, false, false, false, false, false] rfl rfl (by kernel_rfl) (fun _ _ _ h => h) (Or.inl ⟨by rfl, ?_⟩) ?_ ?_
      rotate_left
      · intro w'
        go_simp
        with_reducible rfl
      rotate_left
      · simp only [Act.put, List.setIfInBounds_toArray, List.set_cons_zero, List.set_cons_succ]
        rfl
      refine take_ (i := 1) (N := some 16) (v := ?_) (a' := ?_) #[true, true, true, false, false, false, false, false] rfl rfl (by kernel_rfl) (fun _ _ _ h => h) (Or.inl ⟨by rfl, ?_⟩) hHeld ?_ ?_
      rotate_left
      · intro w' s0
        go_simp
        with_reducible rfl
      rotate_left
      · simp only [Act.put, List.setIfInBounds_toArray, List.set_cons_zero, List.set_cons_succ]
        rfl
      refine one_ (i := 3) (N := some 18) #[true, true, true, true, false, false, false, false] rfl rfl (by kernel_rfl) (by decide) (fun K hK => ?_)
      refine goes_ Tryz.func57 (by kernel_rfl) rfl #[.pointer (some ⟨B, 0, none⟩)] (by rfl) rfl rfl (by (try simp only [List.map_toArray, List.map_cons, List.map_nil]); first | done | rfl) ?_
      have SS3 := Lib.hid (SS2.out.below (below_drew (Below.refl _ _)))
      refine (value_V T _ hTT.out tv B base j 0 _ _ SS3.out.pw SS3.out.ub (by omega) HV1.out).mono ?_
      rintro e w3 ⟨v6, rfl, hR6, hP, hgb⟩
      have SS4 := Lib.hid (SS3.out.call hP hgb)
      have RR4 := Lib.hid (kidsR (Kd.R_drew RR2.out) (by have := SS.out.hB; have := SS.out.ge 0 rfl; omega) hgb)
      have H6 := Lib.hid hR6
      have nl2 := nl
      obtain ⟨n0, n1, n2, n3, n4, n5, nz, nl, nb⟩ := SS4.out.c6 0 rfl
      refine ⟨_, rfl, hK _ _ n5 (fun hHeld => ?_)⟩
      unfold nodeV
      clear hK K
      refine one_ (i := 4) (N := some 19) #[true, true, true, true, true, false, false, false] rfl rfl (by kernel_rfl) (by decide) (fun K hK => ?_)
      refine value_ (by rfl) rfl (w1 := w3.alloc (.cells #[.int .i64 v.f0, .string v.f1, .int .i64 v.f2.f0, .int .i64 v.f2.f1, .int .i64 v.f3, v6] 26)) (v := .slice (some ⟨w3.heap.size, 0, none⟩) 1 1) ?_ ?_
      · go_simp
        try rfl
      refine hK _ _ (by go_keep) (fun hHeld => ?_)
      clear hK K
      refine one_ (i := 5) (N := some 20) #[true, true, true, true, true, true, false, false] rfl rfl (by kernel_rfl) (by decide) (fun K hK => ?_)
      refine Kd.R_append_step PTr.k26 (w0 := w3) ((w1.heap.size + 1) + 1) (by rfl) (.tmp 16) (.tmp 19) 24 26 (.agg #[.int .i64 0, .string ⟨#[]⟩, .int .i64 0, .int .i64 0, .int .i64 0, .slice none 0 0]) 72 (by rfl) und24 info26b rfl (by decide) (by decide) v5 ks v [.int .i64 v.f0, .string v.f1, .int .i64 v.f2.f0, .int .i64 v.f2.f1, .int .i64 v.f3, v6] (fun _ => True) (fun k => w2.heap.size ≤ k) (by rfl) (by rfl) (PTr.k26_mkM _ _ _ _ (Kd.R_lower (Kd.R_mono (Kd.R_bound H6.out) (fun k hk => hk.2.1)) (by show (w1.heap.size + 1) + 1 ≤ w2.heap.size; omega))) (fun k hk => ⟨trivial, fun e => by have := Kd.R_lt RR2.out k e.symm; omega⟩) (fun _ _ => trivial) RR4.out (Below.refl _ _) nl (by have := hTT.out.hl; have := SS.out.lt; omega) ?_
      intro v7 w4 h7 h8 h9 h10
      obtain ⟨A7, c7, e7⟩ := Kd.R_slice h7
      generalize (ks ++ [v]).length = m7 at e7
      subst e7
      have SS5 := Lib.hid (SS4.out.appH h9 (fun k e => Kd.R_base RR4.out k e))
      have H7 := Lib.hid h7
      clear h7 h8 h9 h10
      obtain ⟨n0, n1, n2, n3, n4, n5, nz, nl, nb⟩ := SS5.out.c6 0 rfl
      refine hK _ _ n5 (fun hHeld => ?_)
      clear hK K
      refine norm_ (a' := ?_) ?_ ?_
      rotate_left
      · show Act.put _ (some 20) _ = _
        simp only [Act.put, List.setIfInBounds_toArray, List.set_cons_zero, List.set_cons_succ]
        rfl
      refine pure_ (i := 6) (N := some 21) (v := ?_) (a' := ?_) #[true, true, true, true, true, true, true, false] rfl rfl (by kernel_rfl) (fun _ _ _ h => h) (Or.inl ⟨by rfl, ?_⟩) ?_ ?_
      rotate_left
      · intro w'
        go_simp
        with_reducible rfl
      rotate_left
      · simp only [Act.put, List.setIfInBounds_toArray, List.set_cons_zero, List.set_cons_succ]
        rfl
      refine last_ (i := 7) (N := none) #[true, true, true, true, true, true, true, true] rfl rfl (by kernel_rfl) (by decide) (fun K hK => ?_)
      refine skip_ (by rfl) rfl (w1 := w4.setCell ⟨(w1.heap.size + 1), 5, none⟩ (.slice A7 m7 c7)) ?_ ?_
      · go_simp
        try rfl
      refine hK _ _ (done_ (by kernel_rfl) ?_)
      clear hK K
      have SS6 := Lib.hid (SS5.out.set 0 rfl 5 (.slice A7 m7 c7))
      have RR6 := Lib.hid (kidsSet H7.out (b := w1.heap.size + 1) (Nat.lt_succ_self _) 5 (.slice A7 m7 c7))
      go_wp2_with fail
      obtain ⟨q, hq⟩ : ∃ q, gk = q + 1 := ⟨gk - 1, by have := SS.out.lt; omega⟩
      subst hq
      go_roundg q
      case rel => exact Lib.hid ⟨ks ++ [v], j', _, HRe.out, SS6.out, RR6.out, by simp; omega, by omega⟩
      case measure => omega
theorem prop_all (T : List PTr.S41) (n0 : Nat) (hT : Tk T n0) (tv : Value) (B base i : Nat) (r : PR PTr.S26) (w : World) (hp : PW T tv B base i 0 w) (hu : UB B w) (h : PP T i r) :
    Calls Tryz.prog 41 #[.pointer (some ⟨B, 0, none⟩)] w (PEnd T tv B base 0 w r) := by
  rcases h with ⟨c, rfl⟩ | ⟨c, ⟨e, h, rfl⟩ | ⟨ks, j, h, rfl⟩⟩
  · exact prop_no T tv B base i w hp hu c
  · exact prop_yes T n0 hT tv B base i w hp hu c _ h
  · exact prop_yes T n0 hT tv B base i w hp hu c _ h
end Go.Proofs.YtahjkibjcibpgaaGreatDoor.L
end
section
namespace Go.Proofs.YtahjkibjcibpgaaGreatDoor.L
open Go.RowKit Go.Shelf Go.Lib Go.Proofs.YtahjkibjcibpgaaGreatDoor.U
open Go.Proofs.YtahjkibjcibpgaaGreatDoorW Go.Proofs.YtahjkibjcibpgaaGreatDoorW.PrintWords Go.Proofs.YtahjkibjcibpgaaGreatDoorW.PrintLast
attribute [local go_sem] Oper.semAt_some
attribute [local go_sem ↓] Go.wp_at_zero Go.wp_at_succ
theorem decl_no (T : List PTr.S41) (tv : Value) (B base i : Nat) (w : World) (hp : PW T tv B base i 0 w) (hu : UB B w) (c : ((tokAt T i).f0 == 0) = false) :
    Calls Tryz.prog 25 #[.pointer (some ⟨B, 0, none⟩)] w (PEnd T tv B base 0 w (.error (2, (tokAt T i).f2))) := by
  have S0 := Lib.hid (St.start hp hu)
  have S1 := Lib.hid (S0.out.alloc zero26 26)
  have C := Lib.hid c
  clear hp hu c
  go_enter Tryz.func25, Tryz.ntmps25
  go_wp2_with (first
    | (go_at_call 37; go_loud (refine (take_no T tv B base i 0 0 _ S1.out.pw C.out).mono ?_; rintro e w1 ⟨rfl, hb⟩; have S2 := Lib.hid (S1.out.below hb); clear hb; unfold flt)))
  exact ⟨rfl, rfl, S2.out.gb⟩
def WL (T : List PTr.S41) (l ks : List PTr.S26) (jf j : Nat) (ok : Bool) (v : PTr.S26) : Prop :=
  (ok = false ∧ l = ks ∧ jf = j) ∨ (ok = true ∧ ks.length + 1 ≤ j ∧ DA T j (ks ++ [v]) (.ok (l, jf)))
theorem leaf_any (T : List PTr.S41) (n0 : Nat) (hT : Tk T n0) (tv : Value) (B base j : Nat) (l ks : List PTr.S26) (jf : Nat) (w : World) (hp : PW T tv B base j 0 w) (h : DA T j ks (.ok (l, jf))) (hk : ks.length ≤ j) :
    Calls Tryz.prog 38 #[.pointer (some ⟨B, 0, none⟩)] w fun e w' => ∃ v ok j', e = .returned (.tuple #[nodeV v (.slice none 0 0), .bool ok]) ∧ PW T tv B base j' 0 w' ∧ w.grownBy w' (some B) ∧ j ≤ j' ∧ (ok = true → j < j') ∧ v.f4 = [] ∧ WL T l ks jf j' ok v := by
  have hl : T.length ≤ 140737488355328 := by have := hT.hl; omega
  rcases h.inv with ⟨c, e⟩ | ⟨c, ⟨e, h1, _⟩ | ⟨v, j', h1, h2⟩⟩
  · injection e with e; injection e with e1 e2
    have e2 : jf = j := e2
    simp only [Bool.and_eq_true, Bool.not_eq_true'] at c
    refine (leaf_none T tv B base j 0 w hp c.1 c.2).mono ?_
    rintro e w' ⟨rfl, h3, h4⟩
    exact ⟨PTr.z26, false, j, rfl, h3, h4, Nat.le_refl _, (fun h => by cases h), rfl, .inl ⟨rfl, e1, e2⟩⟩
  · rcases h1 with ⟨_, h1⟩ | ⟨_, _, h1⟩ <;> cases h1
  · rcases h1 with ⟨c0, e⟩ | ⟨c0, c2, e⟩
    · injection e with e; injection e with e1 e2
      subst e1 e2
      refine (leaf_name T tv B base j 0 w hp c0 (hT.nxt hp.lt (by rw [show (tokAt T j).f0 = 0 by simpa using c0]; decide)) hl).mono ?_
      rintro e w' ⟨rfl, h3, h4⟩
      exact ⟨_, true, j + 1, rfl, h3, h4, Nat.le_succ _, fun _ => Nat.lt_succ_self _, rfl, .inr ⟨rfl, by omega, h2⟩⟩
    · injection e with e; injection e with e1 e2
      subst e1 e2
      refine (leaf_text T tv B base j 0 w hp c0 c2 (hT.nxt hp.lt (by rw [show (tokAt T j).f0 = 2 by simpa using c2]; decide)) hl).mono ?_
      rintro e w' ⟨rfl, h3, h4⟩
      exact ⟨_, true, j + 1, rfl, h3, h4, Nat.le_succ _, fun _ => Nat.lt_succ_self _, rfl, .inr ⟨rfl, by omega, h2⟩⟩
def WRel (T : List PTr.S41) (tv : Value) (B base : Nat) (w : World) (r tb n : Nat) (tc : Array Value) (tx : ByteArray) (at_ : Int) (l : List PTr.S26) (jf kq wb : Nat) (ok : Bool) (W : World) : Prop :=
  ∃ ks j v5 v, WL T l ks jf j ok v ∧ St T tv B base j 0 w [(wb, #[.int .i64 v.f0, .string v.f1, .int .i64 v.f2.f0, .int .i64 v.f2.f1, .int .i64 v.f3, .slice none 0 0], 26), (n, node6 1 tx at_ v5, 26), (tb, tc, 41), (r, zero26, 26)] W ∧ PTr.k26.R 26 W (n + 1) (fun k => k ≠ wb) v5 ks ∧ ks.length ≤ j ∧ (ok = true → T.length ≤ j + kq) ∧ v.f4 = []
def QRel (T : List PTr.S41) (tv : Value) (B base : Nat) (w : World) (r t n : Nat) (tc : Array Value) (tx : ByteArray) (at_ : Int) (g : PR (List PTr.S26)) (kq : Nat) (W : World) : Prop :=
  ∃ ks j v5, DB T j ks g ∧ St T tv B base j 0 w [(n, node6 1 tx at_ v5, 26), (t, tc, 41), (r, zero26, 26)] W ∧ PTr.k26.R 26 W (n + 1) (fun _ => True) v5 ks ∧ ks.length ≤ j ∧ T.length ≤ j + kq
def declE (tx : ByteArray) (at_ : Int) : PR (List PTr.S26) → PR PTr.S26
  | .error e => .error e
  | .ok (ks, j) => .ok (⟨1, tx, ⟨0, 0⟩, at_, ks⟩, j)
set_option maxRecDepth 100000 in
theorem decl_yes (T : List PTr.S41) (n0 : Nat) (hT : Tk T n0) (tv : Value) (B base i : Nat) (w : World) (hp : PW T tv B base i 0 w) (hu : UB B w) (c : ((tokAt T i).f0 == 0) = true) (l : List PTr.S26) (jf : Nat) (hl : DA T (i + 1) [] (.ok (l, jf))) (r : PR PTr.S26)
    (hr : (isP T jf ⟨#[123]⟩ = false ∧ r = .error (2, (tokAt T jf).f2)) ∨ (isP T jf ⟨#[123]⟩ = true ∧ ∃ g, DB T (jf + 1) l g ∧ r = declE (tokAt T i).f1 (tokAt T i).f2 g)) :
    Calls Tryz.prog 25 #[.pointer (some ⟨B, 0, none⟩)] w (PEnd T tv B base 0 w r) := by
  have S0 := Lib.hid (St.start hp hu)
  have S1 := Lib.hid (S0.out.alloc zero26 26)
  have hi := hT.nxt hp.lt (by rw [show (tokAt T i).f0 = 0 by simpa using c]; decide)
  have hTk := take_ok T tv B base i 0 0 _ S1.out.pw c hi (by have := hT.hl; omega)
  obtain ⟨k, t, a, hx⟩ : ∃ k t a, tokAt T i = ⟨k, t, a⟩ := ⟨_, _, _, rfl⟩
  rw [hx] at hTk hr
  simp only at hTk hr
  have HT := Lib.hid hTk
  have hL := Lib.hid hl
  have hR := Lib.hid hr
  have hTT := Lib.hid hT
  clear hp hu c hTk hx hl hr hT hi
  go_enter Tryz.func25, Tryz.ntmps25
  go_wp2_with (first
    | (go_at_call 37; go_loud (refine HT.out.mono ?_; rintro e w1 ⟨rfl, hq, hgb⟩; have S2 := Lib.hid (S1.out.call hq hgb); clear hq hgb))
    | (go_at_call 38; go_loud (have S3 := Lib.hid ((S2.out.alloc #[.int .i64 k, .string t, .int .i64 a] 41).allocAt (w1.heap.size + 1) (by simp) (node6 1 t a (.slice none 0 0)) 26); refine (leaf_any T _ hTT.out tv B base (i + 1) l [] jf _ S3.out.pw hL.out (by simp)).mono ?_; rintro e w2 ⟨v, ok, j', rfl, hq, hgb, hj, _, hv4, hwl⟩; unfold nodeV; have S4 := Lib.hid ((S3.out.call hq hgb).alloc #[.int .i64 v.f0, .string v.f1, .int .i64 v.f2.f0, .int .i64 v.f2.f1, .int .i64 v.f3, .slice none 0 0] 26); have HWL := Lib.hid hwl; have HV4 := Lib.hid hv4; clear hq hgb hwl hv4)))
  go_loopg [5, 6] T.length (fun kq s5 s6 W => ∃ (wb : Nat) (ok : Bool), s5 = .pointer (some ⟨wb, 0, none⟩) ∧ s6 = .bool ok ∧ Hid (WRel T tv B base w w.heap.size w1.heap.size (w1.heap.size + 1) #[.int .i64 k, .string t, .int .i64 a] t a l jf kq wb ok W))
  case atStart => exact ⟨_, _, rfl, rfl, Lib.hid ⟨[], j', _, v, HWL.out, S4.out, Kd.R_nil _ _ _ _ _, by simp, fun _ => by omega, HV4.out⟩⟩
  case round =>
    clear HWL HV4
    obtain ⟨wb, ok, rfl, rfl, HW⟩ := hrel
    obtain ⟨ks, j, v5, v, hwl, hS, hR5, hle, hms, hv4⟩ := HW.out
    clear HW
    cases ok with
    | true =>
      rcases hwl with ⟨hh, _⟩ | ⟨_, hlk, hda⟩
      · cases hh
      have SS := Lib.hid hS
      have RR := Lib.hid hR5
      have HDA := Lib.hid hda
      have HV4 := Lib.hid hv4
      clear hS hR5 hda hv4
      obtain ⟨n0, n1, n2, n3, n4, n5, nz, nl, nb⟩ := SS.out.c6 1 rfl
      obtain ⟨r0, r1, r2, r3, r4, r5, rz, rl, rb⟩ := SS.out.c6 0 rfl
      have rn := SS.out.apart 0 1 (by decide) rfl rfl
      obtain ⟨q, hq⟩ : ∃ q, gk = q + 1 := ⟨gk - 1, by have := SS.out.lt; have := hms (by simp); omega⟩
      subst hq
      go_wp2_with (first
        | (at_builtin; go_loud (refine Kd.R_append PTr.k26 (w0 := wr) (w1.heap.size + 1 + 1) rfl (.tmp 26) (.tmp 28) 24 26 (.agg #[.int .i64 0, .string ⟨#[]⟩, .int .i64 0, .int .i64 0, .int .i64 0, .slice none 0 0]) 72 rfl und24 info26b rfl (by decide) (by decide) v5 ks v [.int .i64 v.f0, .string v.f1, .int .i64 v.f2.f0, .int .i64 v.f2.f1, .int .i64 v.f3, .slice none 0 0] (fun k => k ≠ wb) (fun _ => False) rfl (by rfl) (PTr.k26_mkM _ _ _ _ (by rw [HV4.out]; exact Kd.R_nil _ _ _ _ _)) (fun _ hk => hk.elim) (fun k hk => by omega) RR.out (Below.refl _ _) (by omega) (by have := hTT.out.hl; have := SS.out.lt; omega) ?_; intro v7 w4 h7 h8 h9 h10; obtain ⟨A7, c7, e7⟩ := Kd.R_slice h7; generalize (ks ++ [v]).length = m7 at e7; subst e7; have SS5 := Lib.hid (SS.out.appW h9 (fun k e => Kd.R_base RR.out k e) (fun k e => RR.out.1 k e)); have H7 := Lib.hid h7; clear h7 h8 h9 h10; obtain ⟨n0, n1, n2, n3, n4, n5, nz, nl, nb⟩ := SS5.out.c6 1 rfl; obtain ⟨r0, r1, r2, r3, r4, r5, rz, rl, rb⟩ := SS5.out.c6 0 rfl))
        | (go_at_call 38; go_loud (have SS6 := SS5.out.set 1 rfl 5 (.slice A7 m7 c7); have SS7 := Lib.hid ((SS6.allocAt w4.heap.size (by simp) #[.int .i64 v.f0, .string v.f1, .int .i64 v.f2.f0, .int .i64 v.f2.f1, .int .i64 v.f3, .slice none 0 0] 26).drop2); have RR7 := Lib.hid (kidsNew H7.out (b := w1.heap.size + 1) (Nat.lt_succ_self _) 5 (.slice A7 m7 c7) (.cells #[.int .i64 v.f0, .string v.f1, .int .i64 v.f2.f0, .int .i64 v.f2.f1, .int .i64 v.f3, .slice none 0 0] 26)); refine (leaf_any T _ hTT.out tv B base j l (ks ++ [v]) jf _ SS7.out.pw HDA.out (by simp; omega)).mono ?_; rintro e w5 ⟨v', ok', j', rfl, hq, hgb, hj, hjt, hv4, hwl⟩; unfold nodeV; have SS8 := Lib.hid (SS7.out.call hq hgb); have RR8 := Lib.hid (kidsRo RR7.out (by have := SS7.out.hB; have := SS7.out.ge 1 rfl; omega) hgb); have HWL := Lib.hid hwl; have HV4' := Lib.hid hv4; clear hq hgb hwl hv4; obtain ⟨r0, r1, r2, r3, r4, r5, rz, rl, rb⟩ := SS8.out.c6 0 rfl)))
      have SS9 := ((((((SS8.out.set 0 rfl 0 (.int .i64 v'.f0)).set 0 rfl 1 (.string v'.f1)).set 0 rfl 2 (.int .i64 v'.f2.f0)).set 0 rfl 3 (.int .i64 v'.f2.f1)).set 0 rfl 4 (.int .i64 v'.f3)).set 0 rfl 5 (.slice none 0 0))
      have RR9 := kidsFar (kidsFar (kidsFar (kidsFar (kidsFar (kidsFar RR8.out 0 (.int .i64 v'.f0)) 1 (.string v'.f1)) 2 (.int .i64 v'.f2.f0)) 3 (.int .i64 v'.f2.f1)) 4 (.int .i64 v'.f3)) 5 (.slice none 0 0)
      go_roundg q
      case rel => exact ⟨_, _, rfl, rfl, Lib.hid ⟨ks ++ [v], j', _, v', HWL.out, SS9, Kd.R_mono RR9 (fun k hk => Nat.ne_of_lt hk), by simp; omega, fun h => by have := hjt h; have := hms (by simp); omega, HV4'.out⟩⟩
      case measure => omega
    | false =>
      rcases hwl with ⟨_, rfl, rfl⟩ | ⟨hh, _⟩
      case inr => cases hh
      have SS := Lib.hid hS.forget
      have RR := Lib.hid (Kd.R_mono hR5 (ok' := fun _ => True) (fun _ _ => trivial))
      clear hS hR5 hv4 hms
      rcases hR.out with ⟨c1, rfl⟩ | ⟨c1, g, hdb, rfl⟩
      · have C1 := Lib.hid c1
        clear c1
        go_wp2_with (first
          | (go_at_call 39; go_loud (refine (skip_no T tv B base jf 0 _ _ SS.out.pw C1.out).mono ?_; rintro e w2 ⟨rfl, hb⟩; have SS2 := Lib.hid (SS.out.below hb); clear hb; unfold flt)))
        exact ⟨rfl, rfl, SS2.out.gb⟩
      · have C1 := Lib.hid c1
        have HDB := Lib.hid hdb
        have hj1 : jf + 1 < T.length := hTT.out.nxt SS.out.lt (by rw [isP_kind C1.out]; decide)
        clear c1 hdb hR
        go_wp2_with (first
          | (go_at_call 39; go_loud (refine (skip_ok T tv B base jf 0 _ _ SS.out.pw C1.out hj1 (by have := hTT.out.hl; omega)).mono ?_; rintro e w3 ⟨rfl, hq, hgb⟩; have SSa := Lib.hid (SS.out.call hq hgb); have RRa := Lib.hid (kidsR RR.out (by have := SS.out.hB; have := SS.out.ge 0 rfl; omega) hgb); clear hq hgb)))
        go_loopg [] T.length (fun kq W => Hid (QRel T tv B base w w.heap.size w1.heap.size (w1.heap.size + 1) #[.int .i64 k, .string t, .int .i64 a] t a g kq W))
        case atStart => exact Lib.hid ⟨l, jf + 1, v5, HDB.out, SSa.out, RRa.out, by omega, by omega⟩
        case round =>
          clear SS RR C1 SSa RRa HDB hj1 hle
          obtain ⟨ks, j, v5, hpl, hS, hR5, hle, hms⟩ := hrel.out
          clear hrel
          have SS := Lib.hid hS
          have RR := Lib.hid hR5
          clear hS hR5
          rcases hpl.inv with ⟨c1, rfl⟩ | ⟨c1, ⟨e, hv, rfl⟩ | ⟨v, j', hv, hrest⟩⟩
          · have C1 := Lib.hid c1
            have hj1 : j + 1 < T.length := hTT.out.nxt SS.out.lt (by rw [isP_kind c1]; decide)
            clear hpl c1
            obtain ⟨A5, c5, e5⟩ := Kd.R_slice RR.out
            generalize ks.length = m5 at e5
            subst e5
            go_wp2_with (first
              | (go_at_call 40; go_loud (refine (is_any T tv B base j 0 _ _ SS.out.pw).mono ?_; rintro e w2 ⟨rfl, hb⟩; rw [C1.out]; have SS2 := Lib.hid (SS.out.below hb); have RR2 := Lib.hid (Kd.R_below RR.out hb); clear hb; obtain ⟨n0, n1, n2, n3, n4, n5, nz, nl, nb⟩ := SS2.out.c6 0 rfl))
              | (go_at_call 39; go_loud (refine (skip_ok T tv B base j 0 _ _ SS2.out.pw C1.out hj1 (by have := hTT.out.hl; omega)).mono ?_; rintro e w3 ⟨rfl, hq, hgb⟩; have SS3 := Lib.hid (SS2.out.call hq hgb); have RR3 := Lib.hid (kidsR RR2.out (by have := SS.out.hB; have := SS.out.ge 0 rfl; omega) hgb); clear hq hgb; obtain ⟨n0, n1, n2, n3, n4, n5, nz, nl, nb⟩ := SS3.out.c6 0 rfl; obtain ⟨r0, r1, r2, r3, r4, r5, rz, rl, rb⟩ := SS3.out.c6 2 rfl; have rn := SS3.out.apart 0 2 (by decide) rfl rfl)))
            have SS4 := (((((((SS3.out).set 2 rfl 0 (.int .i64 1)).set 2 rfl 1 (.string t)).set 2 rfl 2 (.int .i64 0)).set 2 rfl 3 (.int .i64 0)).set 2 rfl 4 (.int .i64 a)).set 2 rfl 5 (.slice A5 m5 c5))
            have hge := SS3.out.ge 0 rfl
            refine bodyPost_ret (results26 rfl rfl rfl (SS4.get 2 rfl)) rfl ⟨_, rfl, ?_, SS4.pw, SS4.gb⟩
            have hrn : w.heap.size < w1.heap.size + 1 + 1 := SS.out.lt2 0 2 (by decide) rfl rfl
            exact Kd.R_lower (kidsSet (kidsSet (kidsSet (kidsSet (kidsSet (kidsSet RR3.out hrn 0 _) hrn 1 _) hrn 2 _) hrn 3 _) hrn 4 _) hrn 5 _) (by omega)
          · have C1 := Lib.hid c1
            have HV1 := Lib.hid hv
            clear hpl c1 hv
            go_wp2_with (first
              | (go_at_call 40; go_loud (refine (is_any T tv B base j 0 _ _ SS.out.pw).mono ?_; rintro e w2 ⟨rfl, hb⟩; rw [C1.out]; have SS2 := Lib.hid (SS.out.below hb); have RR2 := Lib.hid (Kd.R_below RR.out hb); clear hb; obtain ⟨n0, n1, n2, n3, n4, n5, nz, nl, nb⟩ := SS2.out.c6 0 rfl)))
            refine start_ (n := 8) (S := fun w' => w'.cell? ⟨(w1.heap.size + 1), 5, none⟩ = some v5) (ds := [7]) #[false, false, false, false, false, false, false, false] (by kernel_rfl) rfl rfl (by simpa using n5) ?_
            intro hHeld
            refine pure_ (i := 0) (N := some 37) (v := ?_) (a' := ?_) #[true, false, false, false, false, false, false, false] rfl rfl (by kernel_rfl) (fun _ _ _ h => h) (Or.inl ⟨by rfl, ?_⟩) ?_ ?_
            rotate_left
            · intro w'
              go_simp
              with_reducible rfl
            rotate_left
            · simp only [Act.put, List.setIfInBounds_toArray, List.set_cons_zero, List.set_cons_succ]
              rfl
            refine pure_ (i := 2) (N := some 39) (v := ?_) (a' := ?_) #[true, false, true, false, false, false, false, false] rfl rfl (by kernel_rfl) (fun _ _ _ h => h) (Or.inl ⟨by rfl, ?_⟩) ?_ ?_
            rotate_left
            · intro w'
              go_simp
              with_reducible rfl
            rotate_left
            · simp only [Act.put, List.setIfInBounds_toArray, List.set_cons_zero, List.set_cons_succ]
              rfl
            refine take_ (i := 1) (N := some 38) (v := ?_) (a' := ?_) #[true, true, true, false, false, false, false, false] rfl rfl (by kernel_rfl) (fun _ _ _ h => h) (Or.inl ⟨by rfl, ?_⟩) hHeld ?_ ?_
            rotate_left
            · intro w' s0
              go_simp
              with_reducible rfl
            rotate_left
            · simp only [Act.put, List.setIfInBounds_toArray, List.set_cons_zero, List.set_cons_succ]
              rfl
            refine one_ (i := 3) (N := some 40) #[true, true, true, true, false, false, false, false] rfl rfl (by kernel_rfl) (by decide) (fun K hK => ?_)
            refine goesE_ Tryz.func41 (by kernel_rfl) rfl #[.pointer (some ⟨B, 0, none⟩)] (by rfl) rfl (by (try simp only [List.map_toArray, List.map_cons, List.map_nil]); first | done | rfl) ?_
            have SS3 := Lib.hid (SS2.out.below (below_drew (Below.refl _ _)))
            refine (prop_all T _ hTT.out tv B base j _ _ SS3.out.pw SS3.out.ub HV1.out).mono ?_
            rintro e' w3 ⟨rfl, hgb⟩
            exact ⟨_, rfl, rfl, rfl, gb_trans SS3.out.gb hgb⟩
          · have hjj : j < j' := ((PP.goes hTT.out.hE hv (by have := hTT.out.hE.1; have := SS.out.lt; omega)).1 _ _ rfl).1
            have C1 := Lib.hid c1
            have HV1 := Lib.hid hv
            have HRe := Lib.hid hrest
            clear hpl c1 hv hrest
            go_wp2_with (first
              | (go_at_call 40; go_loud (refine (is_any T tv B base j 0 _ _ SS.out.pw).mono ?_; rintro e w2 ⟨rfl, hb⟩; rw [C1.out]; have SS2 := Lib.hid (SS.out.below hb); have RR2 := Lib.hid (Kd.R_below RR.out hb); clear hb; obtain ⟨n0, n1, n2, n3, n4, n5, nz, nl, nb⟩ := SS2.out.c6 0 rfl)))
            refine start_ (n := 8) (S := fun w' => w'.cell? ⟨(w1.heap.size + 1), 5, none⟩ = some v5) (ds := [7]) #[false, false, false, false, false, false, false, false] (by kernel_rfl) rfl rfl (by simpa using n5) ?_
            intro hHeld
            refine pure_ (i := 0) (N := some 37) (v := ?_) (a' := ?_) #[true, false, false, false, false, false, false, false] rfl rfl (by kernel_rfl) (fun _ _ _ h => h) (Or.inl ⟨by rfl, ?_⟩) ?_ ?_
            rotate_left
            · intro w'
              go_simp
              with_reducible rfl
            rotate_left
            · simp only [Act.put, List.setIfInBounds_toArray, List.set_cons_zero, List.set_cons_succ]
              rfl
            refine pure_ (i := 2) (N := some 39) (v := ?_) (a' := ?_) #[true, false, true, false, false, false, false, false] rfl rfl (by kernel_rfl) (fun _ _ _ h => h) (Or.inl ⟨by rfl, ?_⟩) ?_ ?_
            rotate_left
            · intro w'
              go_simp
              with_reducible rfl
            rotate_left
            · simp only [Act.put, List.setIfInBounds_toArray, List.set_cons_zero, List.set_cons_succ]
              rfl
            refine take_ (i := 1) (N := some 38) (v := ?_) (a' := ?_) #[true, true, true, false, false, false, false, false] rfl rfl (by kernel_rfl) (fun _ _ _ h => h) (Or.inl ⟨by rfl, ?_⟩) hHeld ?_ ?_
            rotate_left
            · intro w' s0
              go_simp
              with_reducible rfl
            rotate_left
            · simp only [Act.put, List.setIfInBounds_toArray, List.set_cons_zero, List.set_cons_succ]
              rfl
            refine one_ (i := 3) (N := some 40) #[true, true, true, true, false, false, false, false] rfl rfl (by kernel_rfl) (by decide) (fun K hK => ?_)
            refine goes_ Tryz.func41 (by kernel_rfl) rfl #[.pointer (some ⟨B, 0, none⟩)] (by rfl) rfl rfl (by (try simp only [List.map_toArray, List.map_cons, List.map_nil]); first | done | rfl) ?_
            have SS3 := Lib.hid (SS2.out.below (below_drew (Below.refl _ _)))
            refine (prop_all T _ hTT.out tv B base j _ _ SS3.out.pw SS3.out.ub HV1.out).mono ?_
            rintro e w3 ⟨v6, rfl, hR6, hP, hgb⟩
            have SS4 := Lib.hid (SS3.out.call hP hgb)
            have RR4 := Lib.hid (kidsR (Kd.R_drew RR2.out) (by have := SS.out.hB; have := SS.out.ge 0 rfl; omega) hgb)
            have H6 := Lib.hid hR6
            have nl2 := nl
            obtain ⟨n0, n1, n2, n3, n4, n5, nz, nl, nb⟩ := SS4.out.c6 0 rfl
            refine ⟨_, rfl, hK _ _ n5 (fun hHeld => ?_)⟩
            unfold nodeV
            clear hK K
            refine one_ (i := 4) (N := some 41) #[true, true, true, true, true, false, false, false] rfl rfl (by kernel_rfl) (by decide) (fun K hK => ?_)
            refine value_ (by rfl) rfl (w1 := w3.alloc (.cells #[.int .i64 v.f0, .string v.f1, .int .i64 v.f2.f0, .int .i64 v.f2.f1, .int .i64 v.f3, v6] 26)) (v := .slice (some ⟨w3.heap.size, 0, none⟩) 1 1) ?_ ?_
            · go_simp
              try rfl
            refine hK _ _ (by go_keep) (fun hHeld => ?_)
            clear hK K
            refine one_ (i := 5) (N := some 42) #[true, true, true, true, true, true, false, false] rfl rfl (by kernel_rfl) (by decide) (fun K hK => ?_)
            refine Kd.R_append_step PTr.k26 (w0 := w3) ((w1.heap.size + 1) + 1) (by rfl) (.tmp 38) (.tmp 41) 24 26 (.agg #[.int .i64 0, .string ⟨#[]⟩, .int .i64 0, .int .i64 0, .int .i64 0, .slice none 0 0]) 72 (by rfl) und24 info26b rfl (by decide) (by decide) v5 ks v [.int .i64 v.f0, .string v.f1, .int .i64 v.f2.f0, .int .i64 v.f2.f1, .int .i64 v.f3, v6] (fun _ => True) (fun k => w2.heap.size ≤ k) (by rfl) (by rfl) (PTr.k26_mkM _ _ _ _ (Kd.R_lower (Kd.R_mono (Kd.R_bound H6.out) (fun k hk => hk.2.1)) (by show (w1.heap.size + 1) + 1 ≤ w2.heap.size; omega))) (fun k hk => ⟨trivial, fun e => by have := Kd.R_lt RR2.out k e.symm; omega⟩) (fun _ _ => trivial) RR4.out (Below.refl _ _) nl (by have := hTT.out.hl; have := SS.out.lt; omega) ?_
            intro v7 w4 h7 h8 h9 h10
            obtain ⟨A7, c7, e7⟩ := Kd.R_slice h7
            generalize (ks ++ [v]).length = m7 at e7
            subst e7
            have SS5 := Lib.hid (SS4.out.appH h9 (fun k e => Kd.R_base RR4.out k e))
            have H7 := Lib.hid h7
            clear h7 h8 h9 h10
            obtain ⟨n0, n1, n2, n3, n4, n5, nz, nl, nb⟩ := SS5.out.c6 0 rfl
            refine hK _ _ n5 (fun hHeld => ?_)
            clear hK K
            refine norm_ (a' := ?_) ?_ ?_
            rotate_left
            · show Act.put _ (some 42) _ = _
              simp only [Act.put, List.setIfInBounds_toArray, List.set_cons_zero, List.set_cons_succ]
              rfl
            refine pure_ (i := 6) (N := some 43) (v := ?_) (a' := ?_) #[true, true, true, true, true, true, true, false] rfl rfl (by kernel_rfl) (fun _ _ _ h => h) (Or.inl ⟨by rfl, ?_⟩) ?_ ?_
            rotate_left
            · intro w'
              go_simp
              with_reducible rfl
            rotate_left
            · simp only [Act.put, List.setIfInBounds_toArray, List.set_cons_zero, List.set_cons_succ]
              rfl
            refine last_ (i := 7) (N := none) #[true, true, true, true, true, true, true, true] rfl rfl (by kernel_rfl) (by decide) (fun K hK => ?_)
            refine skip_ (by rfl) rfl (w1 := w4.setCell ⟨(w1.heap.size + 1), 5, none⟩ (.slice A7 m7 c7)) ?_ ?_
            · go_simp
              try rfl
            refine hK _ _ (done_ (by kernel_rfl) ?_)
            clear hK K
            have SS6 := Lib.hid (SS5.out.set 0 rfl 5 (.slice A7 m7 c7))
            have RR6 := Lib.hid (kidsSet H7.out (b := w1.heap.size + 1) (Nat.lt_succ_self _) 5 (.slice A7 m7 c7))
            go_wp2_with fail
            obtain ⟨q, hq⟩ : ∃ q, gk = q + 1 := ⟨gk - 1, by have := SS.out.lt; omega⟩
            subst hq
            go_roundg q
            case rel => exact Lib.hid ⟨ks ++ [v], j', _, HRe.out, SS6.out, RR6.out, by simp; omega, by omega⟩
            case measure => omega
theorem decl_all (T : List PTr.S41) (n0 : Nat) (hT : Tk T n0) (tv : Value) (B base i : Nat) (r : PR PTr.S26) (w : World) (hp : PW T tv B base i 0 w) (hu : UB B w) (h : DP T i r) :
    Calls Tryz.prog 25 #[.pointer (some ⟨B, 0, none⟩)] w (PEnd T tv B base 0 w r) := by
  rcases h with ⟨c, rfl⟩ | ⟨c, ks, j, ha, ⟨c2, rfl⟩ | ⟨c2, ⟨e, h, rfl⟩ | ⟨ks', j', h, rfl⟩⟩⟩
  · exact decl_no T tv B base i w hp hu c
  · exact decl_yes T n0 hT tv B base i w hp hu c ks j ha _ (.inl ⟨c2, rfl⟩)
  · exact decl_yes T n0 hT tv B base i w hp hu c ks j ha _ (.inr ⟨c2, _, h, rfl⟩)
  · exact decl_yes T n0 hT tv B base i w hp hu c ks j ha _ (.inr ⟨c2, _, h, rfl⟩)
end Go.Proofs.YtahjkibjcibpgaaGreatDoor.L
end
section
namespace Go.Proofs.YtahjkibjcibpgaaGreatDoor.L
open Go.RowKit Go.Shelf Go.Lib Go.Proofs.YtahjkibjcibpgaaGreatDoor.U
open Go.Proofs.YtahjkibjcibpgaaGreatDoorW Go.Proofs.YtahjkibjcibpgaaGreatDoorW.PrintWords Go.Proofs.YtahjkibjcibpgaaGreatDoorW.PrintLast
attribute [local go_sem] Oper.semAt_some
theorem rec_neq (v : Value) (w : World) : (binOp BinOp.neq 20 (.iface 57 v) .nilIface).run Tryz.prog w = .ok (.bool true) w := by kernel_rfl
theorem rec_neq0 (w : World) : (binOp BinOp.neq 20 .nilIface .nilIface).run Tryz.prog w = .ok (.bool false) w := by kernel_rfl
theorem rec_assert (er a : Int) (w : World) : (Instr.typeAssert (.iface 57 (.agg #[.int .i64 er, .int .i64 a])) 20 57 true).run Tryz.prog w = .ok (.tuple #[.agg #[.int .i64 er, .int .i64 a], .bool true]) w := by kernel_rfl
theorem catch_idle (p q r : Addr) (w : World) :
    CallsD Tryz.prog 23 #[.pointer (some p), .pointer (some q), .pointer (some r)] .returning w fun e u' w' => e = .returned (.tuple #[]) ∧ u' = .returning ∧ w' = w := by
  refine callsD_of_wpS Tryz.func23 rfl fun c₀ cs hu => ?_
  apply wpS_seq
  apply wpS_region
  simp [wpOpsS, go_sem, recoverD, hu, Tryz.ntmps23, Exit.thenS]
  refine wpS_of_wp ?_
  simp only [Array.replicate_succ, Array.replicate_zero, List.push_toArray, List.setIfInBounds_toArray, List.append_toArray, List.nil_append, List.cons_append, List.set_cons_zero, List.set_cons_succ]
  generalize hQ : (fun (e : Exit) (a' : Act) (w' : World) => _) = Q
  have h0 := rec_neq0
  go_wp2
  rw [← hQ]
  refine ⟨rfl, .returning, ?_, .tuple #[], ?_, rfl, rfl, rfl⟩
  · cases c₀
    simp_all
  · simp [results, Tryz.results23]
set_option maxRecDepth 100000 in
theorem catch_panicking (n e a : Nat) (er at_ : Int) (cn : Array Value) (ce ca : Value) (w : World) (hn : w.heap[n]? = some (.cells cn 26 (0, 0))) (hc : cn.size = 6) (he : w.heap[e]? = some (.cells #[ce] 31 (0, 0))) (ha : w.heap[a]? = some (.cells #[ca] 3 (0, 0))) (hne : n ≠ e) (hna : n ≠ a) (hea : e ≠ a) :
    CallsD Tryz.prog 23 #[.pointer (some ⟨n, 0, none⟩), .pointer (some ⟨e, 0, none⟩), .pointer (some ⟨a, 0, none⟩)] (.panicking [{ v := .iface 57 (.agg #[.int .i64 er, .int .i64 at_]), recovered := false }]) w fun x u' w' =>
      x = .returned (.tuple #[]) ∧ u' = .panicking [{ v := .iface 57 (.agg #[.int .i64 er, .int .i64 at_]), recovered := true }] ∧
      w'.heap[n]? = some (.cells zero26 26 (0, 0)) ∧ w'.heap[e]? = some (.cells #[.int .i64 er] 31 (0, 0)) ∧ w'.heap[a]? = some (.cells #[.int .i64 at_] 3 (0, 0)) ∧ (∀ M, M ≤ n → M ≤ e → M ≤ a → M ≤ w.heap.size → Below M w w') := by
  obtain ⟨c0, c1, c2, c3, c4, c5, rfl⟩ : ∃ c0 c1 c2 c3 c4 c5, cn = #[c0, c1, c2, c3, c4, c5] := by
    match cn, hc with
    | ⟨[c0, c1, c2, c3, c4, c5]⟩, _ => exact ⟨c0, c1, c2, c3, c4, c5, rfl⟩
  refine callsD_of_wpS Tryz.func23 rfl fun c₀ cs hu => ?_
  apply wpS_seq
  apply wpS_region
  simp [wpOpsS, go_sem, recoverD, hu, Tryz.ntmps23, Exit.thenS]
  refine wpS_of_wp ?_
  simp only [Array.replicate_succ, Array.replicate_zero, List.push_toArray, List.setIfInBounds_toArray, List.append_toArray, List.nil_append, List.cons_append, List.set_cons_zero, List.set_cons_succ]
  generalize hQ : (fun (e : Exit) (a' : Act) (w' : World) => _) = Q
  have h0 := rec_neq
  have h1 := rec_assert er at_
  go_wp2
  have nl := blk_lt hn
  have el := blk_lt he
  have al := blk_lt ha
  obtain ⟨W, hW⟩ : ∃ W, w.alloc (.cells #[.int .i64 er, .int .i64 at_] 57) = W := ⟨_, rfl⟩
  have hbW : Below w.heap.size w W := by rw [← hW]; exact (Below.refl _ _).alloc (Nat.le_refl _) _
  have hf : W.heap[w.heap.size]? = some (.cells #[.int .i64 er, .int .i64 at_] 57 (0, 0)) := by rw [← hW]; exact World.alloc_heap_new w _
  have hn' := blk_below hn hbW
  have he' := blk_below he hbW
  have ha' := blk_below ha hbW
  rw [hW]
  clear hW
  have HB := Lib.hid hbW
  clear hbW
  generalize w.heap.size = F at *
  have f1 : ¬ n = F := by omega
  have f2 : ¬ e = F := by omega
  have f3 : ¬ a = F := by omega
  have f4 : ¬ F = n := by omega
  have f5 : ¬ F = e := by omega
  have f6 : ¬ F = a := by omega
  have f7 : ¬ e = n := Ne.symm hne
  have f8 : ¬ a = n := Ne.symm hna
  have f9 : ¬ a = e := Ne.symm hea
  have n0 : W.cell? ⟨n, 0, none⟩ = some c0 := blk_cell hn' 0
  have n1 : W.cell? ⟨n, 1, none⟩ = some c1 := blk_cell hn' 1
  have n2 : W.cell? ⟨n, 2, none⟩ = some c2 := blk_cell hn' 2
  have n3 : W.cell? ⟨n, 3, none⟩ = some c3 := blk_cell hn' 3
  have n4 : W.cell? ⟨n, 4, none⟩ = some c4 := blk_cell hn' 4
  have n5 : W.cell? ⟨n, 5, none⟩ = some c5 := blk_cell hn' 5
  have nz := blk_frozen hn'
  have e0 : W.cell? ⟨e, 0, none⟩ = some ce := blk_cell he' 0
  have ez := blk_frozen he'
  have a0 : W.cell? ⟨a, 0, none⟩ = some ca := blk_cell ha' 0
  have az := blk_frozen ha'
  have g0 : W.cell? ⟨F, 0, none⟩ = some (.int .i64 er) := blk_cell hf 0
  have g1 : W.cell? ⟨F, 1, none⟩ = some (.int .i64 at_) := blk_cell hf 1
  go_region_held3 (fun w' => w'.cell? ⟨F, 0, none⟩ = some (.int .i64 er) ∧ w'.cell? ⟨F, 1, none⟩ = some (.int .i64 at_)) (go_keep) (fail)
  rw [← hQ]
  have hN := blk_set (blk_set (blk_set (blk_set (blk_set (blk_set hn' 0 (.int .i64 0)) 1 (.string ⟨#[]⟩)) 2 (.int .i64 0)) 3 (.int .i64 0)) 4 (.int .i64 0)) 5 (.slice none 0 0)
  refine ⟨rfl, _, rfl, .tuple #[], ?_, rfl, rfl, ?_, ?_, ?_, fun M h1 h2 h3 h4 => ?_⟩
  · simp [results, Tryz.results23]
  · exact blk_drew (blk_far (blk_far hN (p := ⟨e, 0, none⟩) hne _) (p := ⟨a, 0, none⟩) hna _)
  · exact blk_drew (blk_far (blk_set (blk_far (blk_far (blk_far (blk_far (blk_far (blk_far he' (p := ⟨n, 0, none⟩) f7 _) (p := ⟨n, 1, none⟩) f7 _) (p := ⟨n, 2, none⟩) f7 _) (p := ⟨n, 3, none⟩) f7 _) (p := ⟨n, 4, none⟩) f7 _) (p := ⟨n, 5, none⟩) f7 _) 0 (.int .i64 er)) (p := ⟨a, 0, none⟩) hea _)
  · exact blk_drew (blk_set (blk_far (blk_far (blk_far (blk_far (blk_far (blk_far (blk_far ha' (p := ⟨n, 0, none⟩) f8 _) (p := ⟨n, 1, none⟩) f8 _) (p := ⟨n, 2, none⟩) f8 _) (p := ⟨n, 3, none⟩) f8 _) (p := ⟨n, 4, none⟩) f8 _) (p := ⟨n, 5, none⟩) f8 _) (p := ⟨e, 0, none⟩) f9 _) 0 (.int .i64 at_))
  · exact (((((((((HB.out.mono h4).setCell (p := ⟨n, 0, none⟩) h1 _).setCell (p := ⟨n, 1, none⟩) h1 _).setCell (p := ⟨n, 2, none⟩) h1 _).setCell (p := ⟨n, 3, none⟩) h1 _).setCell (p := ⟨n, 4, none⟩) h1 _).setCell (p := ⟨n, 5, none⟩) h1 _).setCell (p := ⟨e, 0, none⟩) h2 _).setCell (p := ⟨a, 0, none⟩) h3 _).drew
end Go.Proofs.YtahjkibjcibpgaaGreatDoor.L
end
section
namespace Go.Proofs.YtahjkibjcibpgaaGreatDoor.L
open Go.RowKit Go.Shelf Go.Lib Go.Proofs.YtahjkibjcibpgaaGreatDoor.U
open Go.Proofs.YtahjkibjcibpgaaGreatDoorW Go.Proofs.YtahjkibjcibpgaaGreatDoorW.PrintWords Go.Proofs.YtahjkibjcibpgaaGreatDoorW.PrintLast
attribute [local go_sem] Oper.semAt_some
attribute [local go_sem ↓] Go.wp_at_zero Go.wp_at_succ
theorem firstL_kind (s : List UInt8) : (firstL s).1 ≤ 3 := by
  unfold firstL
  split
  · exact Nat.le_refl _
  · split
    · exact Nat.zero_le _
    · split
      · show 1 ≤ 3; decide
      · split
        · show 2 ≤ 3; decide
        · exact Nat.le_refl _
theorem Ch.len {s : List UInt8} {ts : List Tok} : ∀ {at_ : Nat}, Ch s at_ ts → at_ ≤ s.length → ts.length + at_ ≤ s.length := by
  induction ts with
  | nil => intro at_ h h2; simpa using h2
  | cons t ts ih =>
    intro at_ h _
    have hn := Ch.next h
    obtain ⟨h1, h2, h3, h4⟩ := h
    have hp := List.length_pos_iff.2 (okTok_ne h2)
    have hs := spaceL_le (s.drop (at_ + (firstL (s.drop at_)).2.length))
    rw [List.length_drop] at hs
    have := ih h4 (by omega)
    simp only [List.length_cons]
    omega
theorem Ch.small {s : List UInt8} {ts : List Tok} : ∀ {at_ : Nat}, Ch s at_ ts → ∀ t ∈ ts, t.kind ≤ 3 ∧ t.text.length ≤ 502 := by
  induction ts with
  | nil => intro _ _ t h; simp at h
  | cons a ts ih =>
    intro at_ h t ht
    obtain ⟨_, h2, h3, h4⟩ := h
    rcases List.mem_cons.1 ht with rfl | ht
    · rw [h3]
      refine ⟨firstL_kind _, ?_⟩
      have hl : (firstL (s.drop at_)).2.length ≤ 502 := by
        unfold okTok at h2
        simp only [Bool.and_eq_true, decide_eq_true_eq] at h2
        have := h2.2
        split at this <;> omega
      show (if (firstL (s.drop at_)).1 = 2 ∧ (firstL (s.drop at_)).2 ≠ [] then ((firstL (s.drop at_)).2.take ((firstL (s.drop at_)).2.length - 1)).drop 1 else (firstL (s.drop at_)).2).length ≤ 502
      split
      · rw [List.length_drop, List.length_take]; omega
      · exact hl
    · exact ih h4 t ht
theorem tokAt_of {T : List PTr.S41} {i : Nat} (h : i < T.length) : tokAt T i = T[i] := by
  unfold tokAt PTr.rd_T41
  rw [Int.toNat_natCast, List.getD_eq_getElem?_getD, List.getElem?_eq_getElem h]; rfl
theorem tokAt_out {T : List PTr.S41} {i : Nat} (h : T.length ≤ i) : tokAt T i = PTr.z41 := by
  unfold tokAt PTr.rd_T41
  rw [Int.toNat_natCast, List.getD_eq_getElem?_getD, List.getElem?_eq_none h]; rfl
theorem tk_of {s : List UInt8} {ts : List Tok} (h : Ch s (spaceL s) ts) (hl : s.length ≤ 65536) : Tk ((ts ++ [(⟨4, [], s.length⟩ : Tok)]).map toS) ts.length := by
  have hlen := Ch.len h (spaceL_le s)
  have hi : ∀ i (hi : i < ts.length), tokAt ((ts ++ [(⟨4, [], s.length⟩ : Tok)]).map toS) i = toS ts[i] := fun i hi => by
    rw [tokAt_of (by simp; omega)]
    simp [hi]
  have he : tokAt ((ts ++ [(⟨4, [], s.length⟩ : Tok)]).map toS) ts.length = toS ⟨4, [], s.length⟩ := by
    rw [tokAt_of (by simp)]
    simp
  refine ⟨⟨by simp, by rw [he]; rfl, fun i h1 => ?_⟩, by simp; omega, fun i => ?_⟩
  · rw [hi i h1]
    have := (Ch.small h ts[i] (List.getElem_mem _)).1
    show ((ts[i].kind : Nat) : Int) ≠ 4
    omega
  · rcases Nat.lt_trichotomy i ts.length with h1 | h1 | h1
    · rw [hi i h1]
      have := (Ch.small h ts[i] (List.getElem_mem _)).2
      show (⟨ts[i].text.toArray⟩ : ByteArray).size ≤ 65536
      rw [show (⟨ts[i].text.toArray⟩ : ByteArray).size = ts[i].text.length by simp [ByteArray.size]]
      omega
    · subst h1
      rw [he]; show (⟨([] : List UInt8).toArray⟩ : ByteArray).size ≤ 65536; decide
    · rw [tokAt_out (by simp; omega)]; decide
def PRes : PR (List PTr.S26) → PTr.S26 × Int × Int
  | .ok (l, _) => (⟨0, ⟨#[]⟩, ⟨0, 0⟩, 0, l⟩, 0, 0)
  | .error (e, a) => (PTr.z26, e, a)
def PFin (w : World) (x : PTr.S26 × Int × Int) (e : Ending) (w' : World) : Prop :=
  ∃ v5, e = .returned (.tuple #[nodeV x.1 v5, .int .i64 x.2.1, .int .i64 x.2.2]) ∧ PTr.k26.R 26 w' w.heap.size (fun _ => True) v5 x.1.f4 ∧ Below w.heap.size w w'
theorem results12 {W : World} {tmps : Array Value} {n e a : Nat} {cn : Array Value} {x y : Int} (hs : cn.size = 6) (h2 : tmps.getD 2 undef = .pointer (some ⟨n, 0, none⟩)) (h3 : tmps.getD 3 undef = .pointer (some ⟨e, 0, none⟩)) (h4 : tmps.getD 4 undef = .pointer (some ⟨a, 0, none⟩))
    (hn : W.heap[n]? = some (.cells cn 26 (0, 0))) (he : W.heap[e]? = some (.cells #[.int .i64 x] 31 (0, 0))) (ha : W.heap[a]? = some (.cells #[.int .i64 y] 3 (0, 0))) :
    (results Tryz.f12 tmps).run Tryz.prog W = .ok (.tuple #[.agg cn, .int .i64 x, .int .i64 y]) W := by
  obtain ⟨c0, c1, c2, c3, c4, c5, rfl⟩ : ∃ c0 c1 c2 c3 c4 c5, cn = #[c0, c1, c2, c3, c4, c5] := by
    match cn, hs with
    | ⟨[c0, c1, c2, c3, c4, c5]⟩, _ => exact ⟨c0, c1, c2, c3, c4, c5, rfl⟩
  have n0 : W.cell? ⟨n, 0, none⟩ = some c0 := blk_cell hn 0
  have n1 : W.cell? ⟨n, 0 + 1, none⟩ = some c1 := blk_cell hn 1
  have n2 : W.cell? ⟨n, 0 + 1 + 1, none⟩ = some c2 := blk_cell hn 2
  have n3 : W.cell? ⟨n, 0 + 1 + 1 + 1, none⟩ = some c3 := blk_cell hn 3
  have n4 : W.cell? ⟨n, 0 + 1 + 1 + 1 + 1, none⟩ = some c4 := blk_cell hn 4
  have n5 : W.cell? ⟨n, 0 + 1 + 1 + 1 + 1 + 1, none⟩ = some c5 := blk_cell hn 5
  have e0 : W.cell? ⟨e, 0, none⟩ = some (.int .i64 x) := blk_cell he 0
  have a0 : W.cell? ⟨a, 0, none⟩ = some (.int .i64 y) := blk_cell ha 0
  simp only [Array.getD_eq_getD_getElem?] at h2 h3 h4
  simp [results, Tryz.f12, go_sem, h2, h3, h4, n0, n1, n2, n3, n4, n5, e0, a0]
abbrev W3 (w : World) : World := ((w.alloc (.cells zero26 26)).alloc (.cells #[.int .i64 0] 31)).alloc (.cells #[.int .i64 0] 3)
theorem boxes3 (w : World) : Below w.heap.size w (W3 w) ∧ (W3 w).heap[w.heap.size]? = some (.cells zero26 26 (0, 0)) ∧ (W3 w).heap[w.heap.size + 1]? = some (.cells #[.int .i64 0] 31 (0, 0)) ∧ (W3 w).heap[w.heap.size + 1 + 1]? = some (.cells #[.int .i64 0] 3 (0, 0)) ∧ (W3 w).heap.size = w.heap.size + 1 + 1 + 1 := by
  refine ⟨below_alloc (below_alloc (below_alloc (Below.refl _ _) _) _) _, blk_alloc (blk_alloc (blk_new w _) _) _, ?_, ?_, by simp⟩
  · have := blk_alloc (blk_new (w.alloc (.cells zero26 26)) (.cells #[.int .i64 0] 31)) (.cells #[.int .i64 0] 3)
    rw [World.size_alloc] at this
    exact this
  · have := blk_new ((w.alloc (.cells zero26 26)).alloc (.cells #[.int .i64 0] 31)) (.cells #[.int .i64 0] 3)
    rw [World.size_alloc, World.size_alloc] at this
    exact this
set_option maxRecDepth 100000 in
set_option maxHeartbeats 400000 in
theorem parse_scan (s : ByteArray) (er at_ : Nat) (hs : (scanL s.data.toList).2 = (er, at_)) (h1 : (scanL s.data.toList).1 = []) (he : er ≠ 0) (w : World) (hg : UW w) :
    Calls Tryz.prog 12 #[.string s] w (PFin w (PTr.z26, (er : Nat), (at_ : Nat))) := by
  have hmf : ∀ (fn : Fn) (first cap : Array Value) (w : World), (Instr.makeFunc fn first cap).run Tryz.prog w = .ok (.func fn first cap) w := fun _ _ _ _ => rfl
  have hsc : Ex.lex_Scan.f s = some (([] : List PTr.S41), ((er : Nat) : Int), ((at_ : Nat) : Int)) := by
    unfold Ex.lex_Scan.f
    rw [h1, hs]; rfl
  have HS := Lib.hid hsc
  have hne2 : (((er : Nat) : Int) != 0) = true := by simpa using he
  have HG := Lib.hid hg
  clear hsc hs h1 he hg
  have H3 := Lib.hid (boxes3 w)
  go_enter_defers Tryz.func12, Tryz.ntmps12
  go_wp2_with (first
    | (go_at_call 14; go_loud (refine (Ex.lex_Scan.calls s _ _ _ (W3 w) (HG.out.step H3.out.1) HS.out).mono ?_; rintro e w1 ⟨v0, rfl, hR, hb⟩; have hn := blk_below H3.out.2.1 hb; have he := blk_below H3.out.2.2.1 hb; have ha := blk_below H3.out.2.2.2.1 hb; have HN := Lib.hid hn; have HE := Lib.hid he; have HA := Lib.hid ha; have HB := Lib.hid (below_step H3.out.1 hb); have n0 : w1.cell? ⟨w.heap.size, 0, none⟩ = some (.int .i64 0) := blk_cell hn 0; have n1 : w1.cell? ⟨w.heap.size, 1, none⟩ = some (.string ⟨#[]⟩) := blk_cell hn 1; have n2 : w1.cell? ⟨w.heap.size, 2, none⟩ = some (.int .i64 0) := blk_cell hn 2; have n3 : w1.cell? ⟨w.heap.size, 3, none⟩ = some (.int .i64 0) := blk_cell hn 3; have n4 : w1.cell? ⟨w.heap.size, 4, none⟩ = some (.int .i64 0) := blk_cell hn 4; have n5 : w1.cell? ⟨w.heap.size, 5, none⟩ = some (.slice none 0 0) := blk_cell hn 5; have nz := blk_frozen hn; have e0 : w1.cell? ⟨w.heap.size + 1, 0, none⟩ = some (.int .i64 0) := blk_cell he 0; have ez := blk_frozen he; have a0 : w1.cell? ⟨w.heap.size + 1 + 1, 0, none⟩ = some (.int .i64 0) := blk_cell ha 0; have az := blk_frozen ha; clear hn he ha hR hb)))
  have HB2 : Below w.heap.size w ((w1.setCell ⟨w.heap.size + 1, 0, none⟩ (.int .i64 (er : Int))).setCell ⟨w.heap.size + 1 + 1, 0, none⟩ (.int .i64 (at_ : Int))) := (HB.out.setCell (p := ⟨w.heap.size + 1, 0, none⟩) (by simp) _).setCell (p := ⟨w.heap.size + 1 + 1, 0, none⟩) (by simp; omega) _
  have hN2 := blk_far (blk_far HN.out (p := ⟨w.heap.size + 1, 0, none⟩) (by simp) (.int .i64 (er : Int))) (p := ⟨w.heap.size + 1 + 1, 0, none⟩) (by simp; omega) (.int .i64 (at_ : Int))
  have hE2 := blk_far (blk_set HE.out 0 (.int .i64 (er : Int))) (p := ⟨w.heap.size + 1 + 1, 0, none⟩) (by simp) (.int .i64 (at_ : Int))
  have hA2 := blk_set (blk_far HA.out (p := ⟨w.heap.size + 1, 0, none⟩) (by simp) (.int .i64 (er : Int))) 0 (.int .i64 (at_ : Int))
  generalize (w1.setCell ⟨w.heap.size + 1, 0, none⟩ (.int .i64 (er : Int))).setCell ⟨w.heap.size + 1 + 1, 0, none⟩ (.int .i64 (at_ : Int)) = W at *
  clear n0 n1 n2 n3 n4 n5 nz e0 ez a0 az HN HE HA HB
  have n0 : W.cell? ⟨w.heap.size, 0, none⟩ = some (.int .i64 0) := blk_cell hN2 0
  have n1 : W.cell? ⟨w.heap.size, 1, none⟩ = some (.string ⟨#[]⟩) := blk_cell hN2 1
  have n2 : W.cell? ⟨w.heap.size, 2, none⟩ = some (.int .i64 0) := blk_cell hN2 2
  have n3 : W.cell? ⟨w.heap.size, 3, none⟩ = some (.int .i64 0) := blk_cell hN2 3
  have n4 : W.cell? ⟨w.heap.size, 4, none⟩ = some (.int .i64 0) := blk_cell hN2 4
  have n5 : W.cell? ⟨w.heap.size, 5, none⟩ = some (.slice none 0 0) := blk_cell hN2 5
  have nz := blk_frozen hN2
  have e0 : W.cell? ⟨w.heap.size + 1, 0, none⟩ = some (.int .i64 (er : Int)) := blk_cell hE2 0
  have ez := blk_frozen hE2
  have a0 : W.cell? ⟨w.heap.size + 1 + 1, 0, none⟩ = some (.int .i64 (at_ : Int)) := blk_cell hA2 0
  have az := blk_frozen hA2
  have f1 : ¬ w.heap.size = w.heap.size + 1 := by omega
  have f2 : ¬ w.heap.size = w.heap.size + 1 + 1 := by omega
  have HB3 := Lib.hid HB2
  clear HB2
  have hE3 : ((((((W.drew.setCell ⟨w.heap.size, 0, none⟩ (.int .i64 0)).setCell ⟨w.heap.size, 1, none⟩ (.string ⟨#[]⟩)).setCell ⟨w.heap.size, 2, none⟩ (.int .i64 0)).setCell ⟨w.heap.size, 3, none⟩ (.int .i64 0)).setCell ⟨w.heap.size, 4, none⟩ (.int .i64 0)).setCell ⟨w.heap.size, 5, none⟩ (.slice none 0 0)).heap[w.heap.size + 1]? = some (.cells #[.int .i64 (er : Int)] 31 (0, 0)) := (blk_far (blk_far (blk_far (blk_far (blk_far (blk_far (blk_drew hE2) (p := ⟨w.heap.size, 0, none⟩) (by simp) _) (p := ⟨w.heap.size, 1, none⟩) (by simp) _) (p := ⟨w.heap.size, 2, none⟩) (by simp) _) (p := ⟨w.heap.size, 3, none⟩) (by simp) _) (p := ⟨w.heap.size, 4, none⟩) (by simp) _) (p := ⟨w.heap.size, 5, none⟩) (by simp) _)
  have hA3 : ((((((W.drew.setCell ⟨w.heap.size, 0, none⟩ (.int .i64 0)).setCell ⟨w.heap.size, 1, none⟩ (.string ⟨#[]⟩)).setCell ⟨w.heap.size, 2, none⟩ (.int .i64 0)).setCell ⟨w.heap.size, 3, none⟩ (.int .i64 0)).setCell ⟨w.heap.size, 4, none⟩ (.int .i64 0)).setCell ⟨w.heap.size, 5, none⟩ (.slice none 0 0)).heap[w.heap.size + 1 + 1]? = some (.cells #[.int .i64 (at_ : Int)] 3 (0, 0)) := (blk_far (blk_far (blk_far (blk_far (blk_far (blk_far (blk_drew hA2) (p := ⟨w.heap.size, 0, none⟩) (by simp; omega) _) (p := ⟨w.heap.size, 1, none⟩) (by simp; omega) _) (p := ⟨w.heap.size, 2, none⟩) (by simp; omega) _) (p := ⟨w.heap.size, 3, none⟩) (by simp; omega) _) (p := ⟨w.heap.size, 4, none⟩) (by simp; omega) _) (p := ⟨w.heap.size, 5, none⟩) (by simp; omega) _)
  have hN3 : ((((((W.drew.setCell ⟨w.heap.size, 0, none⟩ (.int .i64 0)).setCell ⟨w.heap.size, 1, none⟩ (.string ⟨#[]⟩)).setCell ⟨w.heap.size, 2, none⟩ (.int .i64 0)).setCell ⟨w.heap.size, 3, none⟩ (.int .i64 0)).setCell ⟨w.heap.size, 4, none⟩ (.int .i64 0)).setCell ⟨w.heap.size, 5, none⟩ (.slice none 0 0)).heap[w.heap.size]? = some (.cells zero26 26 (0, 0)) := (blk_set (blk_set (blk_set (blk_set (blk_set (blk_set (blk_drew hN2) 0 _) 1 _) 2 _) 3 _) 4 _) 5 _)
  have hE4 : (((((((W.drew.setCell ⟨w.heap.size, 0, none⟩ (.int .i64 0)).setCell ⟨w.heap.size, 1, none⟩ (.string ⟨#[]⟩)).setCell ⟨w.heap.size, 2, none⟩ (.int .i64 0)).setCell ⟨w.heap.size, 3, none⟩ (.int .i64 0)).setCell ⟨w.heap.size, 4, none⟩ (.int .i64 0)).setCell ⟨w.heap.size, 5, none⟩ (.slice none 0 0)).setCell ⟨w.heap.size + 1, 0, none⟩ (.int .i64 (er : Int))).heap[w.heap.size + 1]? = some (.cells #[.int .i64 (er : Int)] 31 (0, 0)) := blk_set hE3 0 _
  have hA4 : (((((((W.drew.setCell ⟨w.heap.size, 0, none⟩ (.int .i64 0)).setCell ⟨w.heap.size, 1, none⟩ (.string ⟨#[]⟩)).setCell ⟨w.heap.size, 2, none⟩ (.int .i64 0)).setCell ⟨w.heap.size, 3, none⟩ (.int .i64 0)).setCell ⟨w.heap.size, 4, none⟩ (.int .i64 0)).setCell ⟨w.heap.size, 5, none⟩ (.slice none 0 0)).setCell ⟨w.heap.size + 1, 0, none⟩ (.int .i64 (er : Int))).heap[w.heap.size + 1 + 1]? = some (.cells #[.int .i64 (at_ : Int)] 3 (0, 0)) := blk_far hA3 (p := ⟨w.heap.size + 1, 0, none⟩) (by simp) _
  have hN4 : (((((((W.drew.setCell ⟨w.heap.size, 0, none⟩ (.int .i64 0)).setCell ⟨w.heap.size, 1, none⟩ (.string ⟨#[]⟩)).setCell ⟨w.heap.size, 2, none⟩ (.int .i64 0)).setCell ⟨w.heap.size, 3, none⟩ (.int .i64 0)).setCell ⟨w.heap.size, 4, none⟩ (.int .i64 0)).setCell ⟨w.heap.size, 5, none⟩ (.slice none 0 0)).setCell ⟨w.heap.size + 1, 0, none⟩ (.int .i64 (er : Int))).heap[w.heap.size]? = some (.cells zero26 26 (0, 0)) := blk_far hN3 (p := ⟨w.heap.size + 1, 0, none⟩) (by simp) _
  have hE5 : ((((((((W.drew.setCell ⟨w.heap.size, 0, none⟩ (.int .i64 0)).setCell ⟨w.heap.size, 1, none⟩ (.string ⟨#[]⟩)).setCell ⟨w.heap.size, 2, none⟩ (.int .i64 0)).setCell ⟨w.heap.size, 3, none⟩ (.int .i64 0)).setCell ⟨w.heap.size, 4, none⟩ (.int .i64 0)).setCell ⟨w.heap.size, 5, none⟩ (.slice none 0 0)).setCell ⟨w.heap.size + 1, 0, none⟩ (.int .i64 (er : Int))).setCell ⟨w.heap.size + 1 + 1, 0, none⟩ (.int .i64 (at_ : Int))).heap[w.heap.size + 1]? = some (.cells #[.int .i64 (er : Int)] 31 (0, 0)) := blk_far hE4 (p := ⟨w.heap.size + 1 + 1, 0, none⟩) (by simp) _
  have hA5 : ((((((((W.drew.setCell ⟨w.heap.size, 0, none⟩ (.int .i64 0)).setCell ⟨w.heap.size, 1, none⟩ (.string ⟨#[]⟩)).setCell ⟨w.heap.size, 2, none⟩ (.int .i64 0)).setCell ⟨w.heap.size, 3, none⟩ (.int .i64 0)).setCell ⟨w.heap.size, 4, none⟩ (.int .i64 0)).setCell ⟨w.heap.size, 5, none⟩ (.slice none 0 0)).setCell ⟨w.heap.size + 1, 0, none⟩ (.int .i64 (er : Int))).setCell ⟨w.heap.size + 1 + 1, 0, none⟩ (.int .i64 (at_ : Int))).heap[w.heap.size + 1 + 1]? = some (.cells #[.int .i64 (at_ : Int)] 3 (0, 0)) := blk_set hA4 0 _
  have hN5 : ((((((((W.drew.setCell ⟨w.heap.size, 0, none⟩ (.int .i64 0)).setCell ⟨w.heap.size, 1, none⟩ (.string ⟨#[]⟩)).setCell ⟨w.heap.size, 2, none⟩ (.int .i64 0)).setCell ⟨w.heap.size, 3, none⟩ (.int .i64 0)).setCell ⟨w.heap.size, 4, none⟩ (.int .i64 0)).setCell ⟨w.heap.size, 5, none⟩ (.slice none 0 0)).setCell ⟨w.heap.size + 1, 0, none⟩ (.int .i64 (er : Int))).setCell ⟨w.heap.size + 1 + 1, 0, none⟩ (.int .i64 (at_ : Int))).heap[w.heap.size]? = some (.cells zero26 26 (0, 0)) := blk_far hN4 (p := ⟨w.heap.size + 1 + 1, 0, none⟩) (by simp; omega) _
  have hS3 : ((((((W.drew.setCell ⟨w.heap.size, 0, none⟩ (.int .i64 0)).setCell ⟨w.heap.size, 1, none⟩ (.string ⟨#[]⟩)).setCell ⟨w.heap.size, 2, none⟩ (.int .i64 0)).setCell ⟨w.heap.size, 3, none⟩ (.int .i64 0)).setCell ⟨w.heap.size, 4, none⟩ (.int .i64 0)).setCell ⟨w.heap.size, 5, none⟩ (.slice none 0 0)).cell? ⟨w.heap.size + 1, 0, none⟩ = some (.int .i64 (er : Int)) ∧ ((((((W.drew.setCell ⟨w.heap.size, 0, none⟩ (.int .i64 0)).setCell ⟨w.heap.size, 1, none⟩ (.string ⟨#[]⟩)).setCell ⟨w.heap.size, 2, none⟩ (.int .i64 0)).setCell ⟨w.heap.size, 3, none⟩ (.int .i64 0)).setCell ⟨w.heap.size, 4, none⟩ (.int .i64 0)).setCell ⟨w.heap.size, 5, none⟩ (.slice none 0 0)).cell? ⟨w.heap.size + 1 + 1, 0, none⟩ = some (.int .i64 (at_ : Int)) := ⟨blk_cell hE3 0, blk_cell hA3 0⟩
  have hS4 : (((((((W.drew.setCell ⟨w.heap.size, 0, none⟩ (.int .i64 0)).setCell ⟨w.heap.size, 1, none⟩ (.string ⟨#[]⟩)).setCell ⟨w.heap.size, 2, none⟩ (.int .i64 0)).setCell ⟨w.heap.size, 3, none⟩ (.int .i64 0)).setCell ⟨w.heap.size, 4, none⟩ (.int .i64 0)).setCell ⟨w.heap.size, 5, none⟩ (.slice none 0 0)).setCell ⟨w.heap.size + 1, 0, none⟩ (.int .i64 (er : Int))).cell? ⟨w.heap.size + 1, 0, none⟩ = some (.int .i64 (er : Int)) ∧ (((((((W.drew.setCell ⟨w.heap.size, 0, none⟩ (.int .i64 0)).setCell ⟨w.heap.size, 1, none⟩ (.string ⟨#[]⟩)).setCell ⟨w.heap.size, 2, none⟩ (.int .i64 0)).setCell ⟨w.heap.size, 3, none⟩ (.int .i64 0)).setCell ⟨w.heap.size, 4, none⟩ (.int .i64 0)).setCell ⟨w.heap.size, 5, none⟩ (.slice none 0 0)).setCell ⟨w.heap.size + 1, 0, none⟩ (.int .i64 (er : Int))).cell? ⟨w.heap.size + 1 + 1, 0, none⟩ = some (.int .i64 (at_ : Int)) := ⟨blk_cell hE4 0, blk_cell hA4 0⟩
  have HF3 := Lib.hid (blk_frozen hE3)
  have HF4 := Lib.hid (blk_frozen hA4)
  have HE5 := Lib.hid hE5
  have HA5 := Lib.hid hA5
  have HN5 := Lib.hid hN5
  have HS3 := Lib.hid hS3
  have HS4 := Lib.hid hS4
  clear hN2 hE2 hA2 hE3 hA3 hN3 hE4 hA4 hN4 hE5 hA5 hN5 hS3 hS4
  have HB4 : Below w.heap.size w (((((((W.drew.setCell ⟨w.heap.size, 0, none⟩ (.int .i64 0)).setCell ⟨w.heap.size, 1, none⟩ (.string ⟨#[]⟩)).setCell ⟨w.heap.size, 2, none⟩ (.int .i64 0)).setCell ⟨w.heap.size, 3, none⟩ (.int .i64 0)).setCell ⟨w.heap.size, 4, none⟩ (.int .i64 0)).setCell ⟨w.heap.size, 5, none⟩ (.slice none 0 0)).setCell ⟨w.heap.size + 1, 0, none⟩ (.int .i64 (er : Int))) := ((((((HB3.out.drew.setCell (p := ⟨w.heap.size, 0, none⟩) (by simp) _).setCell (p := ⟨w.heap.size, 1, none⟩) (by simp) _).setCell (p := ⟨w.heap.size, 2, none⟩) (by simp) _).setCell (p := ⟨w.heap.size, 3, none⟩) (by simp) _).setCell (p := ⟨w.heap.size, 4, none⟩) (by simp) _).setCell (p := ⟨w.heap.size, 5, none⟩) (by simp) _).setCell (p := ⟨w.heap.size + 1, 0, none⟩) (by simp) _
  clear HB3
  refine wp_region_noPanic ?_
  refine start_ (n := 6) (S := fun w' => w'.cell? ⟨w.heap.size + 1, 0, none⟩ = some (.int .i64 (er : Int)) ∧ w'.cell? ⟨w.heap.size + 1 + 1, 0, none⟩ = some (.int .i64 (at_ : Int))) (ds := [5]) #[false, false, false, false, false, false] (by kernel_rfl) rfl rfl ⟨e0, a0⟩ ?_
  intro hHeld
  refine pure_ (i := 0) (N := some 15) (v := ?_) (a' := ?_) #[true, false, false, false, false, false] rfl rfl (by kernel_rfl) (fun _ _ _ h => h) (Or.inl ⟨by rfl, ?_⟩) ?_ ?_
  rotate_left
  · intro w'
    go_simp
    with_reducible rfl
  rotate_left
  · simp only [Act.put, List.setIfInBounds_toArray, List.set_cons_zero, List.set_cons_succ]
    rfl
  refine take_ (i := 1) (N := some 16) (v := ?_) (a' := ?_) #[true, true, false, false, false, false] rfl rfl (by kernel_rfl) (fun _ _ _ h => h) (Or.inl ⟨by rfl, ?_⟩) hHeld ?_ ?_
  rotate_left
  · intro w' s0
    obtain ⟨s1, s2⟩ := s0
    go_simp
    with_reducible rfl
  rotate_left
  · simp only [Act.put, List.setIfInBounds_toArray, List.set_cons_zero, List.set_cons_succ]
    rfl
  refine take_ (i := 2) (N := some 17) (v := ?_) (a' := ?_) #[true, true, true, false, false, false] rfl rfl (by kernel_rfl) (fun _ _ _ h => h) (Or.inl ⟨by rfl, ?_⟩) hHeld ?_ ?_
  rotate_left
  · intro w' s0
    obtain ⟨s1, s2⟩ := s0
    go_simp
    with_reducible rfl
  rotate_left
  · simp only [Act.put, List.setIfInBounds_toArray, List.set_cons_zero, List.set_cons_succ]
    rfl
  refine one_ (i := 3) (N := none) #[true, true, true, true, false, false] rfl rfl (by kernel_rfl) (by decide) (fun K hK => ?_)
  refine skip_ (by rfl) rfl (w1 := ((((((W.drew.setCell ⟨w.heap.size, 0, none⟩ (.int .i64 0)).setCell ⟨w.heap.size, 1, none⟩ (.string ⟨#[]⟩)).setCell ⟨w.heap.size, 2, none⟩ (.int .i64 0)).setCell ⟨w.heap.size, 3, none⟩ (.int .i64 0)).setCell ⟨w.heap.size, 4, none⟩ (.int .i64 0)).setCell ⟨w.heap.size, 5, none⟩ (.slice none 0 0))) ?_ ?_
  · go_simp
  refine hK _ _ HS3.out (fun hHeld => ?_)
  clear hK K
  generalize ((((((W.drew.setCell ⟨w.heap.size, 0, none⟩ (.int .i64 0)).setCell ⟨w.heap.size, 1, none⟩ (.string ⟨#[]⟩)).setCell ⟨w.heap.size, 2, none⟩ (.int .i64 0)).setCell ⟨w.heap.size, 3, none⟩ (.int .i64 0)).setCell ⟨w.heap.size, 4, none⟩ (.int .i64 0)).setCell ⟨w.heap.size, 5, none⟩ (.slice none 0 0)) = X3 at *
  refine one_ (i := 4) (N := none) #[true, true, true, true, true, false] rfl rfl (by kernel_rfl) (by decide) (fun K hK => ?_)
  refine skip_ (by rfl) rfl (w1 := (X3.setCell ⟨w.heap.size + 1, 0, none⟩ (.int .i64 (er : Int)))) ?_ ?_
  · go_simp
    exact HF3.out 0
  refine hK _ _ HS4.out (fun hHeld => ?_)
  clear hK K
  generalize (X3.setCell ⟨w.heap.size + 1, 0, none⟩ (.int .i64 (er : Int))) = X4 at *
  have HB6 := Lib.hid HB4
  clear HB4
  refine last_ (i := 5) (N := none) #[true, true, true, true, true, true] rfl rfl (by kernel_rfl) (by decide) (fun K hK => ?_)
  refine skip_ (by rfl) rfl (w1 := (X4.setCell ⟨w.heap.size + 1 + 1, 0, none⟩ (.int .i64 (at_ : Int)))) ?_ ?_
  · go_simp
    exact HF4.out 0
  refine hK _ _ (done_ (by kernel_rfl) ?_)
  clear hK K
  refine NoPanic.normal ?_
  have HB5 : Below w.heap.size w (X4.setCell ⟨w.heap.size + 1 + 1, 0, none⟩ (.int .i64 (at_ : Int))) := HB6.out.setCell (p := ⟨w.heap.size + 1 + 1, 0, none⟩) (by simp; omega) _
  go_wp2
  exact ⟨_, results12 (by decide) rfl rfl rfl HN5.out HE5.out HA5.out, .slice none 0 0, rfl, PTr.k26.R_nil _ _ _ _, HB5⟩
end Go.Proofs.YtahjkibjcibpgaaGreatDoor.L
end
section
namespace Go.Proofs.YtahjkibjcibpgaaGreatDoor.L
open Go.RowKit Go.Shelf Go.Lib Go.Proofs.YtahjkibjcibpgaaGreatDoor.U
open Go.Proofs.YtahjkibjcibpgaaGreatDoorW Go.Proofs.YtahjkibjcibpgaaGreatDoorW.PrintWords Go.Proofs.YtahjkibjcibpgaaGreatDoorW.PrintLast
theorem add0 (b k : Nat) : (Addr.add ⟨b, 0, none⟩ k : Addr) = ⟨b, k, none⟩ := by
  simp only [Addr.add]
  split
  · rename_i h
    simp_all
  · simp
structure SP (T : List PTr.S41) (tv : Value) (B base j : Nat) (w : World) (v5 : Value) (W : World) : Prop where
  uw : UW w
  bl : Below w.heap.size w W
  bB : W.heap[B]? = some (.cells #[tv, .int .i64 (j : Int), .int .i64 0] 60 (0, 0))
  row : PTr.k41.R 41 W base (fun k => k < B) tv T
  lt : j < T.length
  hn : W.heap[w.heap.size]? = some (.cells #[.int .i64 0, .string ⟨#[]⟩, .int .i64 0, .int .i64 0, .int .i64 0, v5] 26 (0, 0))
  he : W.heap[w.heap.size + 1]? = some (.cells #[.int .i64 0] 31 (0, 0))
  ha : W.heap[w.heap.size + 1 + 1]? = some (.cells #[.int .i64 0] 3 (0, 0))
  hB : w.heap.size + 1 + 1 < B
  hb : w.heap.size < base
section
variable {T : List PTr.S41} {tv : Value} {B base j : Nat} {w : World} {v5 : Value} {W : World}
theorem SP.pw (h : SP T tv B base j w v5 W) : PW T tv B base j 0 W := ⟨h.bB, Kd.R_mono h.row (fun _ hk => Nat.ne_of_lt hk), h.lt⟩
theorem SP.ub (h : SP T tv B base j w v5 W) : UB B W := ⟨w, h.uw, by have := h.hB; omega, h.bl⟩
theorem SP.step (h : SP T tv B base j w v5 W) {j' : Nat} {W' : World} (hp : PW T tv B base j' 0 W') (hg : W.grownBy W' (some B)) : SP T tv B base j' w v5 W' := by
  have hB := h.hB
  exact ⟨h.uw, h.bl.grown hg h.bl.size (fun k e => by cases e; omega), hp.blk, Kd.R_grown h.row hg (fun k hk e => by injection e with e; omega), hp.lt,
    blk_grown h.hn hg (fun e => by injection e with e; omega), blk_grown h.he hg (fun e => by injection e with e; omega), blk_grown h.ha hg (fun e => by injection e with e; omega), hB, h.hb⟩
theorem SP.below (h : SP T tv B base j w v5 W) {W' : World} (hb : Below W.heap.size W W') : SP T tv B base j w v5 W' := h.step (h.pw.below hb) (gb_below hb)
theorem SP.drew (h : SP T tv B base j w v5 W) : SP T tv B base j w v5 W.drew := h.below (below_drew (Below.refl _ _))
theorem SP.alloc (h : SP T tv B base j w v5 W) (o : Obj) : SP T tv B base j w v5 (W.alloc o) := h.below ((Below.refl W.heap.size W).alloc (Nat.le_refl _) o)
theorem SP.app (h : SP T tv B base j w v5 W) {W' : World} {row : Option Nat} (hg : W.grownBy W' row) (hv : ∀ k, row = some k → B < k) : SP T tv B base j w v5 W' := by
  have hB := h.hB
  exact ⟨h.uw, h.bl.grown hg h.bl.size (fun k e => by have := hv k e; omega), blk_grown h.bB hg (fun e => by have := hv _ e.symm; omega), Kd.R_grown h.row hg (fun k hk e => by have := hv _ e.symm; omega), h.lt,
    blk_grown h.hn hg (fun e => by have := hv _ e.symm; omega), blk_grown h.he hg (fun e => by have := hv _ e.symm; omega), blk_grown h.ha hg (fun e => by have := hv _ e.symm; omega), hB, h.hb⟩
theorem SP.set5 (h : SP T tv B base j w v5 W) (v : Value) : SP T tv B base j w v (W.setCell ⟨w.heap.size, 5, none⟩ v) := by
  have hB := h.hB
  exact ⟨h.uw, h.bl.setCell (p := ⟨w.heap.size, 5, none⟩) (Nat.le_refl _) _, blk_far h.bB (p := ⟨w.heap.size, 5, none⟩) (by show B ≠ w.heap.size; omega) _,
    Kd.R_mono (Kd.R_far (p := ⟨w.heap.size, 5, none⟩) (Kd.R_bound h.row) (fun k hk e => by have := hk.2.1; have := h.hb; have e : k = w.heap.size := e; omega) _) (fun _ hk => hk.1), h.lt,
    blk_set h.hn 5 v, blk_far h.he (p := ⟨w.heap.size, 5, none⟩) (by show w.heap.size + 1 ≠ w.heap.size; omega) _, blk_far h.ha (p := ⟨w.heap.size, 5, none⟩) (by show w.heap.size + 1 + 1 ≠ w.heap.size; omega) _, hB, h.hb⟩
theorem SP.n5 (h : SP T tv B base j w v5 W) : W.cell? ⟨w.heap.size, 5, none⟩ = some v5 := blk_cell h.hn 5
theorem SP.cells (h : SP T tv B base j w v5 W) :
    W.cell? ⟨w.heap.size, 0, none⟩ = some (.int .i64 0) ∧ W.cell? ⟨w.heap.size, 1, none⟩ = some (.string ⟨#[]⟩) ∧ W.cell? ⟨w.heap.size, 2, none⟩ = some (.int .i64 0) ∧ W.cell? ⟨w.heap.size, 3, none⟩ = some (.int .i64 0) ∧ W.cell? ⟨w.heap.size, 4, none⟩ = some (.int .i64 0) ∧ W.cell? ⟨w.heap.size, 5, none⟩ = some v5 ∧
    (∀ j, W.frozen? ⟨w.heap.size, j, none⟩ = false) ∧ W.cell? ⟨w.heap.size + 1, 0, none⟩ = some (.int .i64 0) ∧ (∀ j, W.frozen? ⟨w.heap.size + 1, j, none⟩ = false) ∧ W.cell? ⟨w.heap.size + 1 + 1, 0, none⟩ = some (.int .i64 0) ∧ (∀ j, W.frozen? ⟨w.heap.size + 1 + 1, j, none⟩ = false) :=
  ⟨blk_cell h.hn 0, blk_cell h.hn 1, blk_cell h.hn 2, blk_cell h.hn 3, blk_cell h.hn 4, blk_cell h.hn 5, blk_frozen h.hn, blk_cell h.he 0, blk_frozen h.he, blk_cell h.ha 0, blk_frozen h.ha⟩
theorem SP.fin (h : SP T tv B base j w v5 W) {ks : List PTr.S26} (hk : PTr.k26.R 26 W (B + 1) (fun _ => True) v5 ks) {Z : World} (hZ : Z = ((((((((W.setCell ⟨w.heap.size, 0, none⟩ (.int .i64 0)).setCell ⟨w.heap.size, 1, none⟩ (.string ⟨#[]⟩)).setCell ⟨w.heap.size, 2, none⟩ (.int .i64 0)).setCell ⟨w.heap.size, 3, none⟩ (.int .i64 0)).setCell ⟨w.heap.size, 4, none⟩ (.int .i64 0)).setCell ⟨w.heap.size, 5, none⟩ (v5)).setCell ⟨w.heap.size + 1, 0, none⟩ (.int .i64 0)).setCell ⟨w.heap.size + 1 + 1, 0, none⟩ (.int .i64 0))) :
    Z.heap[w.heap.size]? = some (.cells #[.int .i64 0, .string ⟨#[]⟩, .int .i64 0, .int .i64 0, .int .i64 0, v5] 26 (0, 0)) ∧ Z.heap[w.heap.size + 1]? = some (.cells #[.int .i64 0] 31 (0, 0)) ∧ Z.heap[w.heap.size + 1 + 1]? = some (.cells #[.int .i64 0] 3 (0, 0)) ∧
      PTr.k26.R 26 Z w.heap.size (fun _ => True) v5 ks ∧ Below w.heap.size w Z := by
  have hB := h.hB
  subst hZ
  refine ⟨?_, ?_, ?_, ?_, ?_⟩
  · exact blk_far (blk_far (blk_set (blk_set (blk_set (blk_set (blk_set (blk_set h.hn 0 _) 1 _) 2 _) 3 _) 4 _) 5 _) (p := ⟨w.heap.size + 1, 0, none⟩) (by simp <;> omega) _) (p := ⟨w.heap.size + 1 + 1, 0, none⟩) (by simp <;> omega) _
  · exact blk_far (blk_set (blk_far (blk_far (blk_far (blk_far (blk_far (blk_far h.he (p := ⟨w.heap.size, 0, none⟩) (by simp <;> omega) _) (p := ⟨w.heap.size, 1, none⟩) (by simp <;> omega) _) (p := ⟨w.heap.size, 2, none⟩) (by simp <;> omega) _) (p := ⟨w.heap.size, 3, none⟩) (by simp <;> omega) _) (p := ⟨w.heap.size, 4, none⟩) (by simp <;> omega) _) (p := ⟨w.heap.size, 5, none⟩) (by simp <;> omega) _) 0 _) (p := ⟨w.heap.size + 1 + 1, 0, none⟩) (by simp <;> omega) _
  · exact blk_set (blk_far (blk_far (blk_far (blk_far (blk_far (blk_far (blk_far h.ha (p := ⟨w.heap.size, 0, none⟩) (by simp <;> omega) _) (p := ⟨w.heap.size, 1, none⟩) (by simp <;> omega) _) (p := ⟨w.heap.size, 2, none⟩) (by simp <;> omega) _) (p := ⟨w.heap.size, 3, none⟩) (by simp <;> omega) _) (p := ⟨w.heap.size, 4, none⟩) (by simp <;> omega) _) (p := ⟨w.heap.size, 5, none⟩) (by simp <;> omega) _) (p := ⟨w.heap.size + 1, 0, none⟩) (by simp <;> omega) _) 0 _
  · exact Kd.R_lower (kidsSet (kidsSet (kidsSet (kidsSet (kidsSet (kidsSet (kidsSet (kidsSet hk (by omega) 0 _) (by omega) 1 _) (by omega) 2 _) (by omega) 3 _) (by omega) 4 _) (by omega) 5 _) (b := w.heap.size + 1) (by omega) 0 _) (b := w.heap.size + 1 + 1) (by omega) 0 _) (by omega)
  · exact (((((((h.bl.setCell (p := ⟨w.heap.size, 0, none⟩) (by simp) _).setCell (p := ⟨w.heap.size, 1, none⟩) (by simp) _).setCell (p := ⟨w.heap.size, 2, none⟩) (by simp) _).setCell (p := ⟨w.heap.size, 3, none⟩) (by simp) _).setCell (p := ⟨w.heap.size, 4, none⟩) (by simp) _).setCell (p := ⟨w.heap.size, 5, none⟩) (by simp) _).setCell (p := ⟨w.heap.size + 1, 0, none⟩) (by simp) _).setCell (p := ⟨w.heap.size + 1 + 1, 0, none⟩) (by simp; omega) _
end
def Thrown (w W' : World) : Prop := (∃ cn : Array Value, cn.size = 6 ∧ W'.heap[w.heap.size]? = some (.cells cn 26 (0, 0))) ∧ W'.heap[w.heap.size + 1]? = some (.cells #[.int .i64 0] 31 (0, 0)) ∧ W'.heap[w.heap.size + 1 + 1]? = some (.cells #[.int .i64 0] 3 (0, 0)) ∧ Below w.heap.size w W'
theorem SP.thrown {T : List PTr.S41} {tv : Value} {B base j : Nat} {w : World} {v5 : Value} {W W' : World} (h : SP T tv B base j w v5 W) (hg : W.grownBy W' (some B)) : Thrown w W' := by
  have hB := h.hB
  exact ⟨⟨_, rfl, blk_grown h.hn hg (fun e => by injection e with e; omega)⟩, blk_grown h.he hg (fun e => by injection e with e; omega), blk_grown h.ha hg (fun e => by injection e with e; omega), h.bl.grown hg h.bl.size (fun k e => by cases e; omega)⟩
structure FP (T : List PTr.S41) (tv : Value) (B base j : Nat) (w : World) (v5 : Value) (ks : List PTr.S26) (v : PTr.S26) (M H : Nat) (v6 : Value) (Z : World) : Prop where
  sp : SP T tv B base j w v5 Z
  kr : PTr.k26.R 26 Z (B + 1) (fun _ => True) v5 ks
  old : ∀ k, v5.ownBlock = some k → k < M
  new : PTr.k26.R 26 Z M (fun k => k ≠ H) v6 v.f4
  hH : Z.heap[H]? = some (.cells zero26 26 (0, 0))
  hM : B + 1 ≤ M
  hMH : M ≤ H
section
variable {T : List PTr.S41} {tv : Value} {B base j j' : Nat} {w : World} {v5 v6 : Value} {W W' : World} {ks : List PTr.S26} {v : PTr.S26}
theorem FP.call_build (h : SP T tv B base j w v5 W) (hk : PTr.k26.R 26 W (B + 1) (fun _ => True) v5 ks) (hr : PTr.k26.R 26 W' W.heap.size (fun _ => True) v6 v.f4) (hp : PW T tv B base j' 0 W') (hg : W.grownBy W' (some B)) :
    FP T tv B base j' w v5 ks v W.heap.size W'.heap.size v6 (W'.alloc (.cells zero26 26)) :=
  ⟨(h.step hp hg).alloc _, Kd.R_alloc (kidsR hk (Nat.lt_succ_self _) hg) _, Kd.R_lt hk, Kd.R_mono (Kd.R_alloc (Kd.R_bound hr) _) (fun k hk => by have := hk.2.2.1; omega), World.alloc_heap_new _ _, blk_lt h.bB, hg.size⟩
theorem FP.build_call (h : SP T tv B base j w v5 W) (hk : PTr.k26.R 26 W (B + 1) (fun _ => True) v5 ks) (hr : PTr.k26.R 26 W' (W.alloc (.cells zero26 26)).heap.size (fun _ => True) v6 v.f4) (hp : PW T tv B base j' 0 W') (hg : (W.alloc (.cells zero26 26)).grownBy W' (some B)) :
    FP T tv B base j' w v5 ks v W.heap.size W.heap.size v6 W' := by
  rw [World.size_alloc] at hr
  have hB := blk_lt h.bB
  exact ⟨(h.alloc _).step hp hg, kidsR (Kd.R_alloc hk _) (Nat.lt_succ_self _) hg, Kd.R_lt hk, Kd.R_mono (Kd.R_lower (Kd.R_bound hr) (Nat.le_succ _)) (fun k hk => by have := hk.2.1; omega), blk_grown (World.alloc_heap_new _ _) hg (fun e => by injection e with e; omega), hB, Nat.le_refl _⟩
theorem FP.reads {M H : Nat} {Z : World} (h : FP T tv B base j w v5 ks v M H v6 Z) : ReadsRow (fun x cs => x = PTr.z26 ∧ cs = zero26.toList) PTr.k26.sz Z (some ⟨H, 0, none⟩) 1 [PTr.z26] := by
  refine ⟨rfl, by decide, fun _ => ⟨_, rfl, fun i p hi => ?_⟩⟩
  match i, hi with
  | 0, hi =>
    injection hi with hi
    refine ⟨zero26.toList, rfl, ⟨hi.symm, rfl⟩, fun i u hu => ?_⟩
    have hc := blk_cell h.hH i
    rw [show (Addr.add ⟨H, 0, none⟩ (0 * PTr.k26.sz + i) : Addr) = ⟨H, i, none⟩ by rw [add0, Nat.zero_mul, Nat.zero_add], hc]
    rw [← hu]
    simp
  | i + 1, hi => simp at hi
theorem FP.newrow {M H : Nat} {Z Z4 : World} (h : FP T tv B base j w v5 ks v M H v6 Z) (hg : Z.grownBy Z4 v5.ownBlock) {g : Nat} (hat : some g = v5.ownBlock ∨ Z.heap.size ≤ g) : PTr.k26.R 26 Z4 M (fun k => k ≠ g) v6 v.f4 := by
  refine Kd.R_mono (Kd.R_grown (Kd.R_bound h.new) hg (fun k hk e => by have := h.old k e.symm; have := hk.2.1; omega)) (fun k hk e => ?_)
  subst e
  rcases hat with hat | hat
  · have := h.old k hat.symm; have := hk.2.1; omega
  · have := hk.2.2.1; omega
end
theorem elem_set {B M g cap m : Nat} {W : World} {ks : List PTr.S26} {v : PTr.S26} {v6 : Value} (hrow : PTr.k26.R 26 W M (fun k => k ≠ g) v6 v.f4) (hM : B + 1 ≤ M) (hr : PTr.k26.R 26 W (B + 1) (fun _ => True) (.slice (some ⟨g, 0, none⟩) m cap) (ks ++ [PTr.z26])) :
    PTr.k26.R 26 (W.setCells g (ks.length * 6) [.int .i64 v.f0, .string v.f1, .int .i64 v.f2.f0, .int .i64 v.f2.f1, .int .i64 v.f3, v6]) (B + 1) (fun _ => True) (.slice (some ⟨g, 0, none⟩) m cap) (ks ++ [v]) ∧
      W.grownBy (W.setCells g (ks.length * 6) [.int .i64 v.f0, .string v.f1, .int .i64 v.f2.f0, .int .i64 v.f2.f1, .int .i64 v.f3, v6]) (some g) ∧ B < g ∧ (∃ cur, W.heap[g]? = some (.cells cur 26 (0, 0)) ∧ ks.length * 6 + 6 ≤ cur.size) ∧ m = ks.length + 1 := by
  obtain ⟨hm, hmc, hC⟩ := Kd.R_reads' hr
  have hlen : (ks ++ [PTr.z26]).length = ks.length + 1 := by simp
  obtain ⟨ad, c, e1, e2, _, e3⟩ := ReadsRow.get_ hC PTr.z26 (ks.length : Int) (by omega) (by rw [hlen]; omega)
  injection e1 with e1
  subst e1
  have hs := Kd.R_seg hr (ks.length : Int) (by omega) (by rw [hm, hlen]; omega) (c := c) (seg := [.int .i64 v.f0, .string v.f1, .int .i64 v.f2.f0, .int .i64 v.f2.f1, .int .i64 v.f3, v6]) (j := 0) e2
    (fun i u hu => by have := e3 i u hu; rw [add0] at this; simpa using this) (by rw [Nat.zero_add]; exact Nat.le_refl 6) (x' := v) (okp := fun k => k ≠ g) (by
      rw [show c.take 0 ++ [.int .i64 v.f0, .string v.f1, .int .i64 v.f2.f0, .int .i64 v.f2.f1, .int .i64 v.f3, v6] ++ c.drop (0 + [Value.int .i64 v.f0, .string v.f1, .int .i64 v.f2.f0, .int .i64 v.f2.f1, .int .i64 v.f3, v6].length) = [.int .i64 v.f0, .string v.f1, .int .i64 v.f2.f0, .int .i64 v.f2.f1, .int .i64 v.f3, v6] by
        rw [List.drop_eq_nil_of_le (by rw [e2, Nat.zero_add]; exact Nat.le_refl 6)]; simp]
      exact PTr.k26_mkM _ _ _ _ (Kd.R_lower hrow hM)) (fun k hk => ⟨trivial, hk⟩)
  rw [Int.toNat_natCast, show ks.length * PTr.k26.sz + 0 = ks.length * 6 from rfl, show (ks ++ [PTr.z26]).set ks.length v = ks ++ [v] by simp] at hs
  obtain ⟨g', cap', ev, _, _, cur, hcur⟩ := Kd.R_form hr (by simp)
  injection ev with ev
  injection ev with ev
  injection ev with ev
  subst ev
  refine ⟨hs.1, hs.2, by have := Kd.R_base hr g rfl; omega, ⟨cur, hcur, ?_⟩, by rw [hm, hlen]⟩
  have e6 : c.length = 6 := e2
  have h5 := e3 5 c[5] (List.getElem?_eq_getElem (by omega))
  rw [add0, blk_cell hcur, Int.toNat_natCast] at h5
  have := (Array.getElem?_eq_some_iff.1 h5).1
  have e7 : ks.length * PTr.k26.sz = ks.length * 6 := rfl
  omega
theorem store26 {oi : Oper} {ev : Operand → Value} {W : World} {g o : Nat} {cur : Array Value} {p x : Operand} {c0 c1 c2 c3 c4 c5 : Value} (hop : oi.op = .store 26 p x) (hp : ev p = .pointer (some ⟨g, o, none⟩)) (hx : ev x = .agg #[c0, c1, c2, c3, c4, c5])
    (hh : W.heap[g]? = some (.cells cur 26 (0, 0))) (hfit : o + 6 ≤ cur.size) (h1 : ∀ q ∈ [c0, c1, c2, c3, c4, c5], q.oneCell' = true) : (execOp ev oi).run Tryz.prog W = .ok .skip (W.setCells g o [c0, c1, c2, c3, c4, c5]) := by
  have h := run_store_run (P := Tryz.prog) 26 (.agg #[c0, c1, c2, c3, c4, c5]) [c0, c1, c2, c3, c4, c5] hh rfl info26 hfit h1
  unfold execOp
  simp [hop, hp, hx, h]
def PQ (p2 p3 p4 : Value) (ds : List Deferred) (F : List PanicEntry → World → Prop) (Q : Exit → Act → World → Prop) : Exit → Act → World → Prop
  | .panic c, a, w => F c w ∧ a.tmps.getD 2 undef = p2 ∧ a.tmps.getD 3 undef = p3 ∧ a.tmps.getD 4 undef = p4 ∧ a.defers = ds
  | e, a, w => Q e a w
theorem getD_set (a : Array Value) (i j : Nat) (v d : Value) (h : i ≠ j) : (a.setIfInBounds i v).getD j d = a.getD j d := by
  simp only [Array.getD_eq_getD_getElem?, Array.getElem?_setIfInBounds_ne h]
theorem PQ.put {p2 p3 p4 : Value} {ds : List Deferred} {F : List PanicEntry → World → Prop} {Q : Exit → Act → World → Prop} (i : Nat) (h : 5 ≤ i) (v : Value) (c : List PanicEntry) (a : Act) (w : World)
    (hh : PQ p2 p3 p4 ds F Q (.panic c) (a.put (some i) v) w) : PQ p2 p3 p4 ds F Q (.panic c) a w := by
  obtain ⟨h1, h2, h3, h4, h5⟩ := hh
  unfold Act.put at h2 h3 h4 h5
  simp only at h2 h3 h4 h5
  rw [getD_set _ _ _ _ _ (by omega)] at h2 h3 h4
  exact ⟨h1, h2, h3, h4, h5⟩
theorem PQ.imp {p2 p3 p4 : Value} {ds : List Deferred} {F : List PanicEntry → World → Prop} {Q : Exit → Act → World → Prop} (hp : ∀ c (a : Act) w, F c w → a.tmps.getD 2 undef = p2 → a.tmps.getD 3 undef = p3 → a.tmps.getD 4 undef = p4 → a.defers = ds → Q (.panic c) a w) :
    ∀ e a w, PQ p2 p3 p4 ds F Q e a w → Q e a w := fun e a w h => by
  cases e with
  | panic c => exact hp c a w h.1 h.2.1 h.2.2.1 h.2.2.2.1 h.2.2.2.2
  | _ => exact h
section
variable {P : Program} {ops : Array Oper} {Q : Exit → Act → World → Prop} {md : Region.Mode} {S : World → Prop} {ds : List Nat}
theorem twoL_ {i j : Nat} {Ni Nj : Option Tmp} {oi oj : Oper} {fuel : Nat} {l : Array Bool} {a : Act} {w : World} (li lj : Array Bool) (hi : ops[i]? = some oi) (hj : ops[j]? = some oj) (hNi : oi.dst = Ni) (hNj : oj.dst = Nj)
    (hc : (Region.ready md ops l == [i, j] && l.setIfInBounds i true == li && l.setIfInBounds j true == lj) = true) (hdi : i ∈ ds) (hdj : j ∈ ds)
    (h1 : ∀ K : Act → World → Prop, Shut (∀ a' w', wpAnyLast P md ops Q S ds fuel li a' w' → K a' w') → if Region.wanted oi (yielded ops a.tmps) = true then Oper.wp P oi a w K Q else K (a.put Ni undef) w)
    (h2 : ∀ K : Act → World → Prop, Shut (∀ a' w', wpAnyLast P md ops Q S ds fuel lj a' w' → K a' w') → if Region.wanted oj (yielded ops a.tmps) = true then Oper.wp P oj a w K Q else K (a.put Nj undef) w) :
    wpAnyLast P md ops Q S ds (fuel + 1) l a w := by
  subst hNi
  subst hNj
  simp only [Bool.and_eq_true, beq_iff_eq] at hc
  obtain ⟨⟨h3, h4⟩, h5⟩ := hc
  subst h4
  subst h5
  exact wpAnyLast_ready h3 (by simp) (AllReadyL.cons_last hi hdi (fun K hK => h1 K hK) (AllReadyL.cons_last hj hdj (fun K hK => h2 K hK) AllReadyL.nil))
end
end Go.Proofs.YtahjkibjcibpgaaGreatDoor.L
end
section
namespace Go.Proofs.YtahjkibjcibpgaaGreatDoor.L
open Go.RowKit Go.Shelf Go.Lib Go.Proofs.YtahjkibjcibpgaaGreatDoor.U
open Go.Proofs.YtahjkibjcibpgaaGreatDoorW Go.Proofs.YtahjkibjcibpgaaGreatDoorW.PrintWords Go.Proofs.YtahjkibjcibpgaaGreatDoorW.PrintLast
attribute [local go_sem] Oper.semAt_some
attribute [local go_sem ↓] Go.wp_at_zero Go.wp_at_succ
set_option maxRecDepth 100000 in
set_option maxHeartbeats 1000000 in
theorem parse_main (s : ByteArray) (T : List PTr.S41) (hsc : Ex.lex_Scan.f s = some (T, (0 : Int), (0 : Int))) (n0 : Nat) (hT : Tk T n0) (g : PR (List PTr.S26)) (hr : RL T 0 [] g) (w : World) (hg : UW w) :
    Calls Tryz.prog 12 #[.string s] w (PFin w (PRes g)) := by
  have hmf : ∀ (fn : Fn) (first cap : Array Value) (w : World), (Instr.makeFunc fn first cap).run Tryz.prog w = .ok (.func fn first cap) w := fun _ _ _ _ => rfl
  have HS := Lib.hid hsc
  have HG := Lib.hid hg
  have HTT := Lib.hid hT
  have HR := Lib.hid hr
  clear hsc hT hr hg
  have H3 := Lib.hid (boxes3 w)
  go_enter_defers Tryz.func12, Tryz.ntmps12
  go_wp2_with (first
    | (go_at_call 14; go_loud (refine (Ex.lex_Scan.calls s _ _ _ (W3 w) (HG.out.step H3.out.1) HS.out).mono ?_; rintro e w1 ⟨v0, rfl, hR, hb⟩; have hn := blk_below H3.out.2.1 hb; have he := blk_below H3.out.2.2.1 hb; have ha := blk_below H3.out.2.2.2.1 hb; have HN := Lib.hid hn; have HE := Lib.hid he; have HA := Lib.hid ha; have HB := Lib.hid (below_step H3.out.1 hb); have HT := Lib.hid hR; have hsz : w.heap.size + 1 + 1 + 1 ≤ w1.heap.size := (by have := hb.size; have := H3.out.2.2.2.2; omega); obtain ⟨A0, c0, ev⟩ := Kd.R_slice hR; have ez := blk_frozen he; have az := blk_frozen ha; have e0 : w1.cell? ⟨w.heap.size + 1, 0, none⟩ = some (.int .i64 0) := blk_cell he 0; have a0 : w1.cell? ⟨w.heap.size + 1 + 1, 0, none⟩ = some (.int .i64 0) := blk_cell ha 0; clear hn he ha hR hb; generalize T.length = tl at ev; subst ev)))
  have hS0 : SP T (.slice A0 tl c0) w1.heap.size (W3 w).heap.size 0 w (.slice none 0 0) (((w1.setCell ⟨w.heap.size + 1, 0, none⟩ (.int .i64 0)).setCell ⟨w.heap.size + 1 + 1, 0, none⟩ (.int .i64 0)).alloc (.cells #[.slice A0 tl c0, .int .i64 0, .int .i64 0] 60)) := by
    have hb3 := H3.out.2.2.2.2
    refine ⟨HG.out, ((HB.out.setCell (p := ⟨w.heap.size + 1, 0, none⟩) (by simp) _).setCell (p := ⟨w.heap.size + 1 + 1, 0, none⟩) (by simp; omega) _).alloc (by simp; omega) _, ?_, ?_, ?_, ?_, ?_, ?_, ?_, ?_⟩
    · have := World.alloc_heap_new ((w1.setCell ⟨w.heap.size + 1, 0, none⟩ (.int .i64 0)).setCell ⟨w.heap.size + 1 + 1, 0, none⟩ (.int .i64 0)) (.cells #[.slice A0 tl c0, .int .i64 0, .int .i64 0] 60)
      rw [World.size_setCell, World.size_setCell] at this
      exact this
    · refine Kd.R_alloc (Kd.R_mono (Kd.R_far (p := ⟨w.heap.size + 1 + 1, 0, none⟩) (Kd.R_far (p := ⟨w.heap.size + 1, 0, none⟩) (Kd.R_bound HT.out) (fun k hk e => ?_) _) (fun k hk e => ?_) _) (fun k hk => hk.2.2.1)) _
      · have := hk.2.1; have e : k = w.heap.size + 1 := e; omega
      · have := hk.2.1; have e : k = w.heap.size + 1 + 1 := e; omega
    · have := HTT.out.hE.1; omega
    · exact blk_alloc (blk_far (blk_far HN.out (p := ⟨w.heap.size + 1, 0, none⟩) (by simp) _) (p := ⟨w.heap.size + 1 + 1, 0, none⟩) (by simp; omega) _) _
    · exact blk_alloc (blk_far (blk_set HE.out 0 _) (p := ⟨w.heap.size + 1 + 1, 0, none⟩) (by simp) _) _
    · exact blk_alloc (blk_set (blk_far HA.out (p := ⟨w.heap.size + 1, 0, none⟩) (by simp) _) 0 _) _
    · omega
    · omega
  have SS := Lib.hid hS0
  clear hS0 HB HN HE HA HT ez az e0 a0 hsz HS H3
  generalize (((w1.setCell ⟨w.heap.size + 1, 0, none⟩ (.int .i64 0)).setCell ⟨w.heap.size + 1 + 1, 0, none⟩ (.int .i64 0)).alloc (.cells #[.slice A0 tl c0, .int .i64 0, .int .i64 0] 60)) = W0 at *
  generalize w1.heap.size = B at *
  generalize (W3 w).heap.size = base at *
  clear w1
  generalize Value.slice A0 tl c0 = tv at *
  go_loopg [] T.length (fun kq W => Hid (∃ ks j v5, RL T j ks g ∧ SP T tv B base j w v5 W ∧ PTr.k26.R 26 W (B + 1) (fun _ => True) v5 ks ∧ ks.length ≤ j ∧ T.length ≤ j + kq))
  case atStart => exact Lib.hid ⟨[], 0, _, HR.out, SS.out, Kd.R_nil _ _ _ _ _, by simp, by omega⟩
  case round =>
    clear SS HR
    obtain ⟨ks, j, v5, hpl, hS, hR5, hle, hms⟩ := hrel.out
    clear hrel
    have SS := Lib.hid hS
    have RR := Lib.hid hR5
    clear hS hR5
    rcases hpl.inv with ⟨c1, rfl⟩ | ⟨c1, ⟨e, hv, rfl⟩ | ⟨v, j', hv, hrest⟩⟩
    · have c4 : ((tokAt T j).f0 != 4) = false := by rw [bne, c1]; rfl
      clear hpl c1
      obtain ⟨A5, c5, e5⟩ := Kd.R_slice RR.out
      generalize ks.length = m5 at e5
      subst e5
      go_wp2_with (first
        | (go_at_call 24; go_loud (refine (now_any T tv B base j 0 _ SS.out.pw).mono ?_; rintro e w2 ⟨rfl, hb⟩; have h0 := tokf0; have SS2 := Lib.hid (SS.out.below hb); have RR2 := Lib.hid (Kd.R_below RR.out hb); clear hb; obtain ⟨n0, n1, n2, n3, n4, n5, nz, e0, ez, a0, az⟩ := SS2.out.cells)))
      obtain ⟨g1, g2, g3, g4, g5⟩ := SS2.out.fin RR2.out rfl
      refine leaves_cons (f := 23) (args := #[.pointer (some ⟨w.heap.size, 0, none⟩), .pointer (some ⟨w.heap.size + 1, 0, none⟩), .pointer (some ⟨w.heap.size + 1 + 1, 0, none⟩)]) (by simp) (by rfl) ((catch_idle _ _ _ _).mono ?_)
      rintro e u' w' ⟨rfl, rfl, rfl⟩
      exact ⟨_, results12 rfl rfl rfl rfl g1 g2 g3, _, rfl, g4, g5⟩
    · have c4 : ((tokAt T j).f0 != 4) = true := by rw [bne, c1]; rfl
      have HV1 := Lib.hid hv
      clear hpl c1 hv
      obtain ⟨A5, c5, e5⟩ := Kd.R_slice RR.out
      generalize ks.length = m5 at e5
      subst e5
      go_wp2_with (first
        | (go_at_call 24; go_loud (refine (now_any T tv B base j 0 _ SS.out.pw).mono ?_; rintro e w2 ⟨rfl, hb⟩; have h0 := tokf0; have SS2 := Lib.hid (SS.out.below hb); have RR2 := Lib.hid (Kd.R_below RR.out hb); clear hb; obtain ⟨n0, n1, n2, n3, n4, n5, nz, e0, ez, a0, az⟩ := SS2.out.cells)))
      have SS3 := Lib.hid SS2.out.drew
      refine Code.wp_mono (PQ.imp (p2 := .pointer (some ⟨w.heap.size, 0, none⟩)) (p3 := .pointer (some ⟨w.heap.size + 1, 0, none⟩)) (p4 := .pointer (some ⟨w.heap.size + 1 + 1, 0, none⟩))
        (ds := [{ target := .fn (.func 23) #[.pointer (some ⟨w.heap.size, 0, none⟩), .pointer (some ⟨w.heap.size + 1, 0, none⟩), .pointer (some ⟨w.heap.size + 1 + 1, 0, none⟩)], args := #[] }])
        (F := fun c W' => c = [{ v := .iface 57 (.agg #[.int .i64 e.1, .int .i64 e.2]), recovered := false }] ∧ Thrown w W') ?_) ?_
      · rintro c ⟨t9, d9⟩ w9 ⟨rfl, hn, he, ha, hb⟩ h2 h3 h4 h5
        simp only at h2 h3 h4 h5
        subst h5
        obtain ⟨cn, hc, hn⟩ := hn
        refine leaves_cons (f := 23) (args := #[.pointer (some ⟨w.heap.size, 0, none⟩), .pointer (some ⟨w.heap.size + 1, 0, none⟩), .pointer (some ⟨w.heap.size + 1 + 1, 0, none⟩)]) (by simp) (by rfl) ((catch_panicking _ _ _ _ _ cn _ _ _ hn hc he ha (by omega) (by omega) (by omega)).mono ?_)
        rintro x u' w' ⟨rfl, rfl, g1, g2, g3, g4⟩
        exact ⟨_, results12 rfl h2 h3 h4 g1 g2 g3, .slice none 0 0, rfl, PTr.k26.R_nil _ _ _ _, hb.trans (g4 _ (Nat.le_refl _) (by omega) (by omega) hb.size)⟩
      refine start_ (n := 10) (S := fun w' => w'.cell? ⟨w.heap.size, 5, none⟩ = some (.slice A5 m5 c5)) (ds := [7, 9]) #[false, false, false, false, false, false, false, false, false, false] (by kernel_rfl) rfl rfl (by simpa using n5) ?_
      intro hHeld
      refine pure_ (i := 0) (N := some 24) (v := ?_) (a' := ?_) #[true, false, false, false, false, false, false, false, false, false] rfl rfl (by kernel_rfl) (fun c a w h => PQ.put 24 (by decide) _ c a w h) (Or.inl ⟨by rfl, ?_⟩) ?_ ?_
      rotate_left
      · intro w'
        go_simp
        with_reducible rfl
      rotate_left
      · simp only [Act.put, List.setIfInBounds_toArray, List.set_cons_zero, List.set_cons_succ]
        rfl
      refine take_ (i := 1) (N := some 25) (v := ?_) (a' := ?_) #[true, true, false, false, false, false, false, false, false, false] rfl rfl (by kernel_rfl) (fun c a w h => PQ.put 25 (by decide) _ c a w h) (Or.inl ⟨by rfl, ?_⟩) hHeld ?_ ?_
      rotate_left
      · intro w' s0
        go_simp
        with_reducible rfl
      rotate_left
      · simp only [Act.put, List.setIfInBounds_toArray, List.set_cons_zero, List.set_cons_succ]
        rfl
      refine pure_ (i := 3) (N := some 27) (v := ?_) (a' := ?_) #[true, true, false, true, false, false, false, false, false, false] rfl rfl (by kernel_rfl) (fun c a w h => PQ.put 27 (by decide) _ c a w h) (Or.inl ⟨by rfl, ?_⟩) ?_ ?_
      rotate_left
      · intro w'
        go_simp
        with_reducible rfl
      rotate_left
      · simp only [Act.put, List.setIfInBounds_toArray, List.set_cons_zero, List.set_cons_succ]
        rfl
      refine two_ (i := 2) (j := 4) (Ni := some 26) (Nj := some 28) #[true, true, true, true, false, false, false, false, false, false] #[true, true, false, true, true, false, false, false, false, false] rfl rfl rfl rfl (by kernel_rfl) (by decide) (by decide) (fun K hK => ?_) (fun K hK => ?_)
      · refine goesE_ Tryz.func25 (by kernel_rfl) rfl #[.pointer (some ⟨B, 0, none⟩)] (by rfl) rfl (by (try simp only [List.map_toArray, List.map_cons, List.map_nil]); first | done | rfl) ?_
        refine (decl_all T _ HTT.out tv B base j _ _ SS3.out.pw SS3.out.ub HV1.out).mono ?_
        rintro e' w3 ⟨rfl, hgb⟩
        exact ⟨_, rfl, ⟨rfl, SS3.out.thrown hgb⟩, rfl, rfl, rfl, rfl⟩
      · refine value_ (by rfl) rfl (w1 := w2.drew.alloc (.cells zero26 26)) (v := .slice (some ⟨w2.drew.heap.size, 0, none⟩) 1 1) ?_ ?_
        · go_simp
          try rfl
        refine hK _ _ (by go_keep) (fun hHeld => ?_)
        clear hK K
        refine one_ (i := 2) (N := some 26) #[true, true, true, true, true, false, false, false, false, false] rfl rfl (by kernel_rfl) (by decide) (fun K hK => ?_)
        refine goesE_ Tryz.func25 (by kernel_rfl) rfl #[.pointer (some ⟨B, 0, none⟩)] (by rfl) rfl (by (try simp only [List.map_toArray, List.map_cons, List.map_nil]); first | done | rfl) ?_
        refine (decl_all T _ HTT.out tv B base j _ _ (SS3.out.alloc _).pw (SS3.out.alloc _).ub HV1.out).mono ?_
        rintro e' w3 ⟨rfl, hgb⟩
        exact ⟨_, rfl, ⟨rfl, (SS3.out.alloc _).thrown hgb⟩, rfl, rfl, rfl, rfl⟩
    · have c4 : ((tokAt T j).f0 != 4) = true := by rw [bne, c1]; rfl
      have HV1 := Lib.hid hv
      have HRe := Lib.hid hrest
      have hj := SS.out.lt
      clear hpl c1 hv hrest
      obtain ⟨A5, c5, e5⟩ := Kd.R_slice RR.out
      have m5e : ks.length = ks.length := rfl
      generalize hm5 : ks.length = m5 at e5
      subst e5
      go_wp2_with (first
        | (go_at_call 24; go_loud (refine (now_any T tv B base j 0 _ SS.out.pw).mono ?_; rintro e w2 ⟨rfl, hb⟩; have h0 := tokf0; have SS2 := Lib.hid (SS.out.below hb); have RR2 := Lib.hid (Kd.R_below RR.out hb); clear hb; obtain ⟨n0, n1, n2, n3, n4, n5, nz, e0, ez, a0, az⟩ := SS2.out.cells)))
      have SS3 := Lib.hid SS2.out.drew
      have RR3 := Lib.hid (Kd.R_drew RR2.out)
      refine wp_region_noPanic ?_
      refine start_ (n := 10) (S := fun w' => w'.cell? ⟨w.heap.size, 5, none⟩ = some (.slice A5 m5 c5)) (ds := [7, 9]) #[false, false, false, false, false, false, false, false, false, false] (by kernel_rfl) rfl rfl (by simpa using n5) ?_
      intro hHeld
      refine pure_ (i := 0) (N := some 24) (v := ?_) (a' := ?_) #[true, false, false, false, false, false, false, false, false, false] rfl rfl (by kernel_rfl) (fun _ _ _ h => h) (Or.inl ⟨by rfl, ?_⟩) ?_ ?_
      rotate_left
      · intro w'
        go_simp
        with_reducible rfl
      rotate_left
      · simp only [Act.put, List.setIfInBounds_toArray, List.set_cons_zero, List.set_cons_succ]
        rfl
      refine take_ (i := 1) (N := some 25) (v := ?_) (a' := ?_) #[true, true, false, false, false, false, false, false, false, false] rfl rfl (by kernel_rfl) (fun _ _ _ h => h) (Or.inl ⟨by rfl, ?_⟩) hHeld ?_ ?_
      rotate_left
      · intro w' s0
        go_simp
        with_reducible rfl
      rotate_left
      · simp only [Act.put, List.setIfInBounds_toArray, List.set_cons_zero, List.set_cons_succ]
        rfl
      refine pure_ (i := 3) (N := some 27) (v := ?_) (a' := ?_) #[true, true, false, true, false, false, false, false, false, false] rfl rfl (by kernel_rfl) (fun _ _ _ h => h) (Or.inl ⟨by rfl, ?_⟩) ?_ ?_
      rotate_left
      · intro w'
        go_simp
        with_reducible rfl
      rotate_left
      · simp only [Act.put, List.setIfInBounds_toArray, List.set_cons_zero, List.set_cons_succ]
        rfl
      refine join_ (σ := Nat × Nat × Value) 5 #[true, true, true, true, true, false, false, false, false, false] (fun s => [(26, nodeV v s.2.2), (28, .slice (some ⟨s.2.1, 0, none⟩) 1 1)]) (fun s Z => FP T tv B base j' w (.slice A5 m5 c5) ks v s.1 s.2.1 s.2.2 Z) ?_ ?_
      rotate_left
      · intro hcont
        refine two_ (i := 2) (j := 4) (Ni := some 26) (Nj := some 28) #[true, true, true, true, false, false, false, false, false, false] #[true, true, false, true, true, false, false, false, false, false] rfl rfl rfl rfl (by kernel_rfl) (by decide) (by decide) (fun K hK => ?_) (fun K hK => ?_)
        · refine goes_ Tryz.func25 (by kernel_rfl) rfl #[.pointer (some ⟨B, 0, none⟩)] (by rfl) rfl rfl (by (try simp only [List.map_toArray, List.map_cons, List.map_nil]); first | done | rfl) ?_
          refine (decl_all T _ HTT.out tv B base j _ _ SS3.out.pw SS3.out.ub HV1.out).mono ?_
          rintro e w3 ⟨v6, rfl, hR6, hP, hgb⟩
          have hF := FP.call_build SS3.out RR3.out hR6 hP hgb
          refine ⟨_, rfl, hK _ _ (SS3.out.step hP hgb).n5 (fun hHeld => ?_)⟩
          clear hK K
          refine one_ (i := 4) (N := some 28) #[true, true, true, true, true, false, false, false, false, false] rfl rfl (by kernel_rfl) (by decide) (fun K hK => ?_)
          refine value_ (by rfl) rfl (w1 := w3.alloc (.cells zero26 26)) (v := .slice (some ⟨w3.heap.size, 0, none⟩) 1 1) ?_ ?_
          · go_simp
            try rfl
          refine hK _ _ hF.sp.n5 (fun hHeld => ?_)
          clear hK K
          have h9 := hcont ⟨_, _, _⟩ _ hF
          simp only [putAll, Act.put, List.setIfInBounds_toArray, List.set_cons_zero, List.set_cons_succ] at h9
          exact h9
        · refine value_ (by rfl) rfl (w1 := w2.drew.alloc (.cells zero26 26)) (v := .slice (some ⟨w2.drew.heap.size, 0, none⟩) 1 1) ?_ ?_
          · go_simp
            try rfl
          refine hK _ _ (SS3.out.alloc _).n5 (fun hHeld => ?_)
          clear hK K
          refine one_ (i := 2) (N := some 26) #[true, true, true, true, true, false, false, false, false, false] rfl rfl (by kernel_rfl) (by decide) (fun K hK => ?_)
          refine goes_ Tryz.func25 (by kernel_rfl) rfl #[.pointer (some ⟨B, 0, none⟩)] (by rfl) rfl rfl (by (try simp only [List.map_toArray, List.map_cons, List.map_nil]); first | done | rfl) ?_
          refine (decl_all T _ HTT.out tv B base j _ _ (SS3.out.alloc _).pw (SS3.out.alloc _).ub HV1.out).mono ?_
          rintro e w3 ⟨v6, rfl, hR6, hP, hgb⟩
          have hF := FP.build_call SS3.out RR3.out hR6 hP hgb
          refine ⟨_, rfl, hK _ _ hF.sp.n5 (fun hHeld => ?_)⟩
          clear hK K
          have h9 := hcont ⟨_, _, _⟩ _ hF
          simp only [putAll, Act.put, List.setIfInBounds_toArray, List.set_cons_zero, List.set_cons_succ] at h9
          exact h9
      rintro ⟨M, H, v6⟩ Z hF
      simp only at hF
      simp only [putAll, Act.put, List.setIfInBounds_toArray, List.set_cons_zero, List.set_cons_succ]
      unfold nodeV
      obtain ⟨A6, c6, e6⟩ := Kd.R_slice hF.new
      generalize v.f4.length = m6 at e6
      subst e6
      have HF := Lib.hid hF
      clear hF SS2 RR2 SS3 RR3 hHeld n0 n1 n2 n3 n4 n5 nz e0 ez a0 az
      refine one_ (i := 5) (N := some 29) #[true, true, true, true, true, true, false, false, false, false] rfl rfl (by kernel_rfl) (by decide) (fun K hK => ?_)
      refine Kd.R_append_rows_step PTr.k26 (w0 := Z) (B + 1) (by rfl) (.tmp 25) (.tmp 28) 24 26 (.agg #[.int .i64 0, .string ⟨#[]⟩, .int .i64 0, .int .i64 0, .int .i64 0, .slice none 0 0]) 72 (by rfl) und24 info26b rfl (by decide) (by decide) (.slice A5 m5 c5) ks [PTr.z26] (some ⟨H, 0, none⟩) 1 1 (fun _ => True) (fun _ => False) (by rfl) (by rfl) HF.out.kr HF.out.reads (by rintro x cs ⟨rfl, rfl⟩; exact PTr.k26_mkM _ _ _ PTr.z26 (Kd.R_nil _ _ _ _ _)) (fun _ hk => hk.elim) (fun _ _ => trivial) (Below.refl _ _) (blk_lt HF.out.sp.bB) (by have := HTT.out.hl; have := HF.out.sp.lt; omega) ?_
      intro v7 w4 h7 h8 h9 h10
      obtain ⟨g, cap, e7, _, _, _⟩ := Kd.R_form h7 (by simp)
      generalize (ks ++ [PTr.z26]).length = m7 at e7
      subst e7
      have hat : some g = (Value.slice A5 m5 c5).ownBlock ∨ Z.heap.size ≤ g := by
        rcases h10 with h10 | ⟨b, h10, h11⟩
        · exact .inl h10
        · right
          have h10 : some g = some b := h10
          injection h10 with h10
          omega
      have SP4 := HF.out.sp.app h9 (fun k e => Kd.R_base HF.out.kr k e)
      have NR4 := HF.out.newrow h9 hat
      have hMB := HF.out.hM
      obtain ⟨q1, q2, q3, ⟨cur, q4, q5⟩, q6⟩ := elem_set NR4 hMB h7
      have SP5 := SP4.set5 (.slice (some ⟨g, 0, none⟩) m7 cap)
      have hnB : w.heap.size < B + 1 := by have := SP4.hB; omega
      have R75 := kidsSet h7 hnB 5 (.slice (some ⟨g, 0, none⟩) m7 cap)
      have NR5 : PTr.k26.R 26 (w4.setCell ⟨w.heap.size, 5, none⟩ (.slice (some ⟨g, 0, none⟩) m7 cap)) M (fun k => k ≠ g) (.slice A6 m6 c6) v.f4 := Kd.R_mono (Kd.R_far (p := ⟨w.heap.size, 5, none⟩) (Kd.R_bound NR4) (fun k hk e => by have := hk.2.1; have e : k = w.heap.size := e; omega) _) (fun _ hk => hk.1)
      obtain ⟨r1, r2, r3, ⟨cur', r4, r5⟩, r6⟩ := elem_set NR5 hMB R75
      rw [hm5] at q1 q2 q5 q6 r1 r2 r5 r6
      have F1 := Lib.hid (And.intro ((SP4.app q2 (fun k e => by injection e with e; omega)).set5 (.slice (some ⟨g, 0, none⟩) m7 cap)) (kidsSet q1 hnB 5 (.slice (some ⟨g, 0, none⟩) m7 cap)))
      have F2 := Lib.hid (And.intro (SP5.app r2 (fun k e => by injection e with e; omega)) r1)
      have n5 := SP4.n5
      have nz := (SP4.cells).2.2.2.2.2.2.1
      have n5s := (SP4.app q2 (fun k e => by injection e with e; omega)).n5
      have nzs := (SP4.app q2 (fun k e => by injection e with e; omega)).cells.2.2.2.2.2.2.1
      have hjj : j < j' := ((DP.goes HTT.out.hE HV1.out (by have := HTT.out.hE.1; omega)).1 _ _ rfl).1
      have Q4 := Lib.hid (And.intro q4 q5)
      have Q5 := Lib.hid (And.intro r4 r5)
      have hks : ks.length = m5 := hm5
      have i0 : (0 : Int) ≤ (m5 : Int) := by omega
      have i1 : (m5 : Int) < (m7 : Int) := by omega
      have i2 : m5 < m7 := by omega
      clear q6 r6 SP4 NR4 SP5 R75 NR5 q1 q2 q4 q5 r1 r2 r4 r5 h7 h8 h9 h10 hat
      refine hK _ _ n5 (fun hHeld => ?_)
      clear hK K
      refine norm_ (a' := ?_) ?_ ?_
      rotate_left
      · show Act.put _ (some 29) _ = _
        simp only [Act.put, List.setIfInBounds_toArray, List.set_cons_zero, List.set_cons_succ]
        rfl
      refine pure_ (i := 6) (N := some 30) (v := ?_) (a' := ?_) #[true, true, true, true, true, true, true, false, false, false] rfl rfl (by kernel_rfl) (fun _ _ _ h => h) (Or.inl ⟨by rfl, ?_⟩) ?_ ?_
      rotate_left
      · intro w'
        go_simp
        with_reducible rfl
      rotate_left
      · simp only [Act.put, List.setIfInBounds_toArray, List.set_cons_zero, List.set_cons_succ]
        rfl
      refine pure_ (i := 8) (N := some 31) (v := ?_) (a' := ?_) #[true, true, true, true, true, true, true, false, true, false] rfl rfl (by kernel_rfl) (fun _ _ _ h => h) (Or.inl ⟨by rfl, ?_⟩) ?_ ?_
      rotate_left
      · intro w'
        go_simp
        with_reducible rfl
      rotate_left
      · simp only [Act.put, List.setIfInBounds_toArray, List.set_cons_zero, List.set_cons_succ]
        rfl
      refine twoL_ (i := 7) (j := 9) (Ni := none) (Nj := none) #[true, true, true, true, true, true, true, true, true, false] #[true, true, true, true, true, true, true, false, true, true] rfl rfl rfl rfl (by kernel_rfl) (by decide) (by decide) (fun K hK => ?_) (fun K hK => ?_)
      · refine skip_ (by rfl) rfl (store26 (g := g) (o := m5 * 6) (p := .tmp 30) (x := .tmp 26) rfl rfl rfl Q4.out.1 Q4.out.2 (by simp [Value.oneCell'])) ?_
        refine hK _ _ ?_
        clear hK K
        generalize w4.setCells g (m5 * 6) [.int .i64 v.f0, .string v.f1, .int .i64 v.f2.f0, .int .i64 v.f2.f1, .int .i64 v.f3, .slice A6 m6 c6] = X1 at *
        refine last_ (i := 9) (N := none) #[true, true, true, true, true, true, true, true, true, true] rfl rfl (by kernel_rfl) (by decide) (fun K hK => ?_)
        refine skip_ (by rfl) rfl (w1 := X1.setCell ⟨w.heap.size, 5, none⟩ (.slice (some ⟨g, 0, none⟩) m7 cap)) ?_ ?_
        · go_simp
          try rfl
        refine hK _ _ (done_ (by kernel_rfl) ?_)
        clear hK K
        refine NoPanic.normal ?_
        go_wp2
        obtain ⟨q, hq⟩ : ∃ q, gk = q + 1 := ⟨gk - 1, by omega⟩
        subst hq
        go_roundg q
        case rel => exact Lib.hid ⟨ks ++ [v], j', _, HRe.out, F1.out.1, F1.out.2, by simp; omega, by omega⟩
        case measure => omega
      · refine skip_ (by rfl) rfl (w1 := w4.setCell ⟨w.heap.size, 5, none⟩ (.slice (some ⟨g, 0, none⟩) m7 cap)) ?_ ?_
        · go_simp
          try rfl
        refine hK _ _ ?_
        clear hK K
        generalize w4.setCell ⟨w.heap.size, 5, none⟩ (.slice (some ⟨g, 0, none⟩) m7 cap) = X2 at *
        refine last_ (i := 7) (N := none) #[true, true, true, true, true, true, true, true, true, true] rfl rfl (by kernel_rfl) (by decide) (fun K hK => ?_)
        refine skip_ (by rfl) rfl (store26 (g := g) (o := m5 * 6) (p := .tmp 30) (x := .tmp 26) rfl rfl rfl Q5.out.1 Q5.out.2 (by simp [Value.oneCell'])) ?_
        refine hK _ _ (done_ (by kernel_rfl) ?_)
        clear hK K
        refine NoPanic.normal ?_
        go_wp2
        obtain ⟨q, hq⟩ : ∃ q, gk = q + 1 := ⟨gk - 1, by omega⟩
        subst hq
        go_roundg q
        case rel => exact Lib.hid ⟨ks ++ [v], j', _, HRe.out, F2.out.1, F2.out.2, by simp; omega, by omega⟩
        case measure => omega
end Go.Proofs.YtahjkibjcibpgaaGreatDoor.L
end
section
namespace Go.Proofs.YtahjkibjcibpgaaGreatDoor.L
open Go.RowKit Go.Shelf Go.Lib Go.Proofs.YtahjkibjcibpgaaGreatDoor.U
open Go.Proofs.YtahjkibjcibpgaaGreatDoorW Go.Proofs.YtahjkibjcibpgaaGreatDoorW.PrintWords
abbrev srcT (s : ByteArray) : List PTr.S41 := (scanL s.data.toList).1.map toS
theorem tk_src {s : ByteArray} (h : (scanL s.data.toList).2.1 = 0) : (scanL s.data.toList).2.2 = 0 ∧ ∃ n0, Tk (srcT s) n0 := by
  obtain ⟨ts, hc, hl, hs⟩ := ch_of_scanL h
  unfold srcT
  rw [hs]
  exact ⟨rfl, _, tk_of hc hl⟩
open Classical in
noncomputable def parseX (s : ByteArray) : PTr.S26 × Int × Int :=
  if (scanL s.data.toList).2.1 = 0 then (if h : ∃ g, RL (srcT s) 0 [] g then PRes h.choose else (PTr.z26, 0, 0))
  else (PTr.z26, ((scanL s.data.toList).2.1 : Nat), ((scanL s.data.toList).2.2 : Nat))
theorem parseX_of {s : ByteArray} (hs : (scanL s.data.toList).2.1 = 0) {g : PR (List PTr.S26)} (h : RL (srcT s) 0 [] g) : parseX s = PRes g := by
  unfold parseX
  have hx : ∃ g, RL (srcT s) 0 [] g := ⟨g, h⟩
  rw [if_pos hs, dif_pos hx, RL.det hx.choose_spec h]
theorem parseX_err {s : ByteArray} (hs : (scanL s.data.toList).2.1 ≠ 0) : parseX s = (PTr.z26, (((scanL s.data.toList).2.1 : Nat) : Int), (((scanL s.data.toList).2.2 : Nat) : Int)) := by
  unfold parseX
  rw [if_neg hs]
theorem parse_any (s : ByteArray) (w : World) (hg : UW w) : Calls Tryz.prog 12 #[.string s] w (PFin w (parseX s)) := by
  by_cases hs : (scanL s.data.toList).2.1 = 0
  · obtain ⟨h2, n0, hT⟩ := tk_src hs
    obtain ⟨g, hg2⟩ := RL.total hT.hE 0 [] (Nat.zero_le _)
    rw [parseX_of hs hg2]
    refine parse_main s (srcT s) ?_ n0 hT g hg2 w hg
    unfold Ex.lex_Scan.f
    rw [hs, h2]
    rfl
  · rw [parseX_err hs]
    rcases scanL_err s.data.toList with ⟨h, _⟩ | ⟨h1, _⟩
    · exact absurd h hs
    · exact parse_scan s _ _ rfl h1 hs w hg
end Go.Proofs.YtahjkibjcibpgaaGreatDoor.L
namespace Go.Proofs.YtahjkibjcibpgaaGreatDoor.Ex
open Go.RowKit Go.Proofs.YtahjkibjcibpgaaGreatDoor.U Go.Proofs.YtahjkibjcibpgaaGreatDoorW.PrintWords
noncomputable def tree_Parse.f (a0 : ByteArray) : Option (Int × ByteArray × Int × Int × Int × List PTr.S26 × Int × Int) :=
  some ((L.parseX a0).1.f0, (L.parseX a0).1.f1, (L.parseX a0).1.f2.f0, (L.parseX a0).1.f2.f1, (L.parseX a0).1.f3, (L.parseX a0).1.f4, (L.parseX a0).2.1, (L.parseX a0).2.2)
theorem tree_Parse.calls (a0 : ByteArray) (r1 : Int) (r2 : ByteArray) (r3 r4 r5 : Int) (r6 : List PTr.S26) (r7 r8 : Int) (w : World) (hg : UW w) (h : tree_Parse.f a0 = some (r1, r2, r3, r4, r5, r6, r7, r8)) :
    Calls Tryz.prog 12 #[.string a0] w fun e w' => ∃ v0_ : Value, e = .returned (.tuple #[.agg #[.int .i64 r1, .string r2, .int .i64 r3, .int .i64 r4, .int .i64 r5, v0_], .int .i64 r7, .int .i64 r8]) ∧ PTr.k26.R 26 w' w.heap.size (fun _ => True) v0_ r6 ∧ Below w.heap.size w w' := by
  have e := Option.some.inj h
  simp only [Prod.mk.injEq] at e
  obtain ⟨e1, e2, e3, e4, e5, e6, e7, e8⟩ := e
  subst e1 e2 e3 e4 e5 e6 e7 e8
  exact L.parse_any a0 w hg
theorem tree_Parse.f_ok {s : ByteArray} (hs : (L.scanL s.data.toList).2.1 = 0) {l : List PTr.S26} {n : Nat} (h : L.RL (L.srcT s) 0 [] (.ok (l, n))) : tree_Parse.f s = some (0, ⟨#[]⟩, 0, 0, 0, l, 0, 0) := by
  unfold tree_Parse.f
  rw [L.parseX_of hs h]
  rfl
theorem tree_Parse.f_fault {s : ByteArray} (hs : (L.scanL s.data.toList).2.1 = 0) {e : Int × Int} (h : L.RL (L.srcT s) 0 [] (.error e)) : tree_Parse.f s = some (0, ⟨#[]⟩, 0, 0, 0, [], e.1, e.2) := by
  unfold tree_Parse.f
  rw [L.parseX_of hs h]
  rfl
end Go.Proofs.YtahjkibjcibpgaaGreatDoor.Ex
end
section
namespace Go.Proofs.YtahjkibjcibpgaaGreatDoor.L
open Go.Proofs.YtahjkibjcibpgaaGreatDoor.U
structure Cut (T T2 : List PTr.S41) (n k : Nat) (a : Int) : Prop where
  hE : EndT T n
  le : k ≤ n
  same : ∀ i, i < k → tokAt T2 i = tokAt T i
  fin : (tokAt T2 k).f0 = 4
  at2 : (tokAt T2 k).f2 = a
  at1 : (tokAt T k).f2 = a
  asc : ∀ i j, i < j → j ≤ n → (tokAt T i).f2 < (tokAt T j).f2
section
variable {T T2 : List PTr.S41} {n k : Nat} {a : Int} (C : Cut T T2 n k a)
include C
theorem Cut.flt {i : Nat} {b : Int} (h : Flt T n i (b, a)) : i ≤ k := by
  obtain ⟨m, h1, h2, h3, _⟩ := h
  rcases Nat.lt_or_ge k m with h4 | h4
  · have := C.asc k m h4 h2
    rw [C.at1] at this
    have h5 : a = (tokAt T m).f2 := h3
    omega
  · omega
theorem Cut.is {i : Nat} (h : i < k) (s : ByteArray) : isP T2 i s = isP T i s := by unfold isP; rw [C.same i h]
theorem Cut.isk (s : ByteArray) : isP T2 k s = false := by unfold isP; rw [C.fin]; rfl
theorem Cut.k0 : ((tokAt T2 k).f0 == 0) = false := by rw [C.fin]; rfl
theorem Cut.k1 : ((tokAt T2 k).f0 == 1) = false := by rw [C.fin]; rfl
theorem Cut.k2 : ((tokAt T2 k).f0 == 2) = false := by rw [C.fin]; rfl
theorem Cut.vk (d : Nat) : V T2 k d (.error (2, a)) := by
  have := V.amount (d := d) (C.isk ⟨#[40]⟩) C.k0 C.k2
  unfold amountP at this
  rw [if_neg (by rw [C.k1]; simp), C.at2] at this
  exact this
theorem Cut.gk (d : Nat) (s : ByteArray) (ks : List PTr.S26) : G T2 k d s ks (.error (2, a)) := by
  have := G.no (d := d) (ks := ks) (C.isk s)
  rw [C.at2] at this
  exact this
theorem Cut.amount {i : Nat} (hi : i < k) : (∀ v j, amountP T i = .ok (v, j) → j ≤ k → amountP T2 i = .ok (v, j)) ∧ (amountP T i = .error (2, a) → amountP T2 i = .error (2, a)) := by
  have e0 := C.same i hi
  have hu : (unitP T (i + 1)).2 ≤ k → unitP T2 (i + 1) = unitP T (i + 1) := by
    unfold unitP
    rcases Nat.lt_or_ge (i + 1) k with h | h
    · rw [C.same _ h]; exact fun _ => rfl
    · have : i + 1 = k := by omega
      rw [this, C.k0, Bool.false_and, if_neg (show ¬ (false = true) from by decide)]
      intro h2
      by_cases h3 : ((tokAt T k).f0 == 0 && knownP (tokAt T k).f1) = true
      · rw [if_pos h3] at h2
        have h2 : k + 1 ≤ k := h2
        omega
      · rw [if_neg h3]
  unfold amountP
  rw [e0]
  by_cases c : ((tokAt T i).f0 == 1) = true
  · rw [if_pos c, if_pos c]
    by_cases hk : (unitP T (i + 1)).2 ≤ k
    · rw [hu hk]
      exact ⟨fun _ _ h _ => h, fun h => h⟩
    · generalize amt (tokAt T i).f1.data.toList (unitP T (i + 1)).1.data.toList = x
      obtain ⟨p, q, e⟩ := x
      simp only
      by_cases c3 : e = 0
      · rw [if_pos c3]
        refine ⟨fun v j h hj => ?_, (fun h => by cases h)⟩
        injection h with h; injection h with _ h
        omega
      · rw [if_neg c3]
        refine ⟨(fun _ _ h => by cases h), fun h => ?_⟩
        injection h with h; injection h with h _
        exact absurd h (by decide)
  · rw [if_neg c, if_neg c]
    exact ⟨(fun _ _ h => by cases h), fun h => h⟩
theorem Cut.vg :
    (∀ i d r, V T i d r → i ≤ k → (∀ v j, r = .ok (v, j) → j ≤ k → V T2 i d (.ok (v, j))) ∧ (r = .error (2, a) → V T2 i d (.error (2, a)))) ∧
    (∀ i d s ks r, G T i d s ks r → i ≤ k → (∀ v j, r = .ok (v, j) → j < k → G T2 i d s ks (.ok (v, j))) ∧ (r = .error (2, a) → G T2 i d s ks (.error (2, a)))) := by
  have sp : ∀ i : Nat, i ≤ k → i < k ∨ i = k := fun i h => by omega
  refine vg_ind T (fun i d r => i ≤ k → (∀ v j, r = .ok (v, j) → j ≤ k → V T2 i d (.ok (v, j))) ∧ (r = .error (2, a) → V T2 i d (.error (2, a))))
    (fun i d s ks r => i ≤ k → (∀ v j, r = .ok (v, j) → j < k → G T2 i d s ks (.ok (v, j))) ∧ (r = .error (2, a) → G T2 i d s ks (.error (2, a)))) ?_ ?_ ?_ ?_ ?_ ?_ ?_ ?_ ?_ ?_
  · intro i _ _
    refine ⟨(fun _ _ h => by cases h), fun h => ?_⟩
    injection h with h; injection h with h _
    exact absurd h (by decide)
  · intro i d e c hd _ ih hi
    refine ⟨(fun _ _ h => by cases h), fun h => ?_⟩
    rcases sp i hi with h1 | rfl
    · exact V.groupE (by rw [C.is h1]; exact c) hd ((ih hi).2 (by injection h with h; rw [h]))
    · exact C.vk d
  · intro i d ks j c hd hg ih c2 hi
    refine ⟨fun v j' h hj => ?_, (fun h => by cases h)⟩
    injection h with h; injection h with h1 h2
    subst h1 h2
    have hlt := ((vg_goes C.hE).2 _ _ _ _ _ hg (Nat.le_trans hi C.le)).1 _ _ rfl
    have h1 : i < k := by omega
    rw [← C.same i h1]
    exact V.group (by rw [C.is h1]; exact c) hd ((ih hi).1 _ _ rfl (by omega)) (by rw [C.is (by omega)]; exact c2)
  · intro i d c c0 hi
    refine ⟨fun v j' h hj => ?_, (fun h => by cases h)⟩
    injection h with h; injection h with h1 h2
    subst h1 h2
    have h1 : i < k := by omega
    rw [← C.same i h1]
    exact V.word (by rw [C.is h1]; exact c) (by rw [C.same i h1]; exact c0)
  · intro i d c c0 c2 hi
    refine ⟨fun v j' h hj => ?_, (fun h => by cases h)⟩
    injection h with h; injection h with h1 h2
    subst h1 h2
    have h1 : i < k := by omega
    rw [← C.same i h1]
    exact V.text (by rw [C.is h1]; exact c) (by rw [C.same i h1]; exact c0) (by rw [C.same i h1]; exact c2)
  · intro i d c c0 c2 hi
    rcases sp i hi with h1 | rfl
    · have hv := V.amount (d := d) (T := T2) (i := i) (by rw [C.is h1]; exact c) (by rw [C.same i h1]; exact c0) (by rw [C.same i h1]; exact c2)
      obtain ⟨ha, hb⟩ := C.amount h1
      exact ⟨fun v j h hj => by rw [ha v j h hj] at hv; exact hv, fun h => by rw [hb h] at hv; exact hv⟩
    · refine ⟨fun v j h hj => ?_, fun _ => C.vk d⟩
      have := (amountP_goes C.hE (Nat.le_trans hi C.le)).1 v j h
      omega
  · intro i d s ks c hi
    refine ⟨(fun _ _ h => by cases h), fun h => ?_⟩
    rcases sp i hi with h1 | rfl
    · injection h with h; injection h with _ h
      have := C.asc i k h1 C.le
      rw [h, C.at1] at this
      omega
    · exact C.gk d s ks
  · intro i d s ks e c _ ih hi
    refine ⟨(fun _ _ h => by cases h), fun h => ?_⟩
    rcases sp i hi with h1 | rfl
    · exact G.err (by rw [C.is h1]; exact c) ((ih h1).2 (by injection h with h; rw [h]))
    · exact C.gk d s ks
  · intro i d s ks v j c hv ih c2 hi
    refine ⟨fun v' j' h hj => ?_, (fun h => by cases h)⟩
    injection h with h; injection h with e1 e2
    subst e1 e2
    have hin : i + 1 ≤ n := C.hE.next (Nat.le_trans hi C.le) (by rw [isP_kind c]; decide)
    have hlt := ((vg_goes C.hE).1 _ _ _ hv hin).1 _ _ rfl
    have h1 : i < k := by omega
    exact G.last (by rw [C.is h1]; exact c) ((ih h1).1 _ _ rfl (by omega)) (by rw [C.is hj]; exact c2)
  · intro i d s ks v j r c hv ih c2 hg ih2 hi
    have hin : i + 1 ≤ n := C.hE.next (Nat.le_trans hi C.le) (by rw [isP_kind c]; decide)
    have hlt := ((vg_goes C.hE).1 _ _ _ hv hin).1 _ _ rfl
    have hgo := (vg_goes C.hE).2 _ _ _ _ _ hg hlt.2
    refine ⟨fun v' j' h hj => ?_, fun h => ?_⟩
    · have := hgo.1 _ _ h
      have h1 : i < k := by omega
      exact G.more (by rw [C.is h1]; exact c) ((ih h1).1 _ _ rfl (by omega)) (by rw [C.is (by omega)]; exact c2) ((ih2 (by omega)).1 _ _ h hj)
    · have hjk := C.flt (hgo.2 _ h)
      have h1 : i < k := by omega
      refine G.more (by rw [C.is h1]; exact c) ((ih h1).1 _ _ rfl hjk) ?_ ((ih2 hjk).2 h)
      rcases sp j hjk with h2 | rfl
      · rw [C.is h2]; exact c2
      · exact C.isk _
theorem Cut.loop {s : ByteArray} {I I2 : Nat → PR PTr.S26 → Prop} (hg : ∀ i r, I i r → i ≤ n → Goes (T := T) n _ i r) (hI : ∀ i r, I i r → i ≤ k → (∀ v j, r = .ok (v, j) → j ≤ k → I2 i (.ok (v, j))) ∧ (r = .error (2, a) → I2 i (.error (2, a))))
    (hk : I2 k (.error (2, a))) {i : Nat} {ks : List PTr.S26} {r : PR (List PTr.S26)} (h : PLoop (fun i => isP T i s) (· + 1) I i ks r) : i ≤ k →
    (∀ v j, r = .ok (v, j) → j ≤ k → PLoop (fun i => isP T2 i s) (· + 1) I2 i ks (.ok (v, j))) ∧ (r = .error (2, a) → PLoop (fun i => isP T2 i s) (· + 1) I2 i ks (.error (2, a))) := by
  have sp : ∀ i : Nat, i ≤ k → i < k ∨ i = k := fun i h => by omega
  have st : ∀ i, i ≤ k → isP T i s = false → isP T2 i s = false := by
    intro i hi h
    rcases sp i hi with h1 | rfl
    · rw [C.is h1]; exact h
    · exact C.isk s
  induction h with
  | done i ks h =>
    intro hi
    refine ⟨fun v j e hj => ?_, (fun e => by cases e)⟩
    injection e with e; injection e with e1 e2
    subst e1 e2
    exact .done i ks (by rw [C.is (show i < k from hj)]; exact h)
  | err i ks e h hi =>
    intro hik
    refine ⟨(fun _ _ e => by cases e), fun he => ?_⟩
    exact .err i ks _ (st i hik h) ((hI _ _ hi hik).2 (by injection he with he; rw [he]))
  | more i ks v j r h hi hr ih =>
    intro hik
    have h1 := (hg _ _ hi (Nat.le_trans hik C.le)).1 _ _ rfl
    have h2 := PLoop.goes (T := T) hg (fun i hi c => fin1 C.hE s i hi c) hr h1.2
    refine ⟨fun l j' e hj => ?_, fun e => ?_⟩
    · have := h2.1 _ _ e
      exact .more i ks v j _ (st i hik h) ((hI _ _ hi hik).1 _ _ rfl (by omega)) ((ih (by omega)).1 _ _ e hj)
    · have hjk := C.flt (h2.2 _ e)
      exact .more i ks v j _ (st i hik h) ((hI _ _ hi hik).1 _ _ rfl hjk) ((ih hjk).2 e)
theorem Cut.pl {i : Nat} {ks : List PTr.S26} {r : PR (List PTr.S26)} (h : PL T i ks r) (hi : i ≤ k) : (∀ v j, r = .ok (v, j) → j ≤ k → PL T2 i ks (.ok (v, j))) ∧ (r = .error (2, a) → PL T2 i ks (.error (2, a))) :=
  C.loop (I := fun i r => V T i 0 r) (I2 := fun i r => V T2 i 0 r) (fun i r h hi => (vg_goes C.hE).1 i 0 r h hi) (fun i r h hi => C.vg.1 i 0 r h hi) (C.vk 0) h hi
theorem Cut.ppk : PP T2 k (.error (2, a)) := .inl ⟨C.k0, by rw [C.at2]⟩
theorem Cut.kind {i : Nat} (hi : i < k) (x : Int) (h : ((tokAt T i).f0 == x) = true) : ((tokAt T2 i).f0 == x) = true := by rw [C.same i hi]; exact h
theorem Cut.pp (i : Nat) (r : PR PTr.S26) (h : PP T i r) (hi : i ≤ k) : (∀ v j, r = .ok (v, j) → j ≤ k → PP T2 i (.ok (v, j))) ∧ (r = .error (2, a) → PP T2 i (.error (2, a))) := by
  have hgo := h.goes C.hE (Nat.le_trans hi C.le)
  rcases (show i < k ∨ i = k by omega) with h1 | rfl
  · have e0 := C.same i h1
    unfold PP
    rw [e0]
    rcases h with ⟨c, rfl⟩ | ⟨c, ⟨e, hp, rfl⟩ | ⟨ks, j, hp, rfl⟩⟩
    · exact ⟨(fun _ _ h => by cases h), fun h => .inl ⟨c, h.symm⟩⟩
    · exact ⟨(fun _ _ h => by cases h), fun h => .inr ⟨c, .inl ⟨_, (C.pl hp h1).2 (by injection h with h; rw [h]), rfl⟩⟩⟩
    · refine ⟨fun v j' h hj => ?_, (fun h => by cases h)⟩
      injection h with h; injection h with e1 e2
      subst e1 e2
      exact .inr ⟨c, .inr ⟨ks, j, (C.pl hp h1).1 _ _ rfl hj, rfl⟩⟩
  · exact ⟨fun v j h hj => by have := hgo.1 v j h; omega, fun _ => C.ppk⟩
theorem Cut.db {i : Nat} {ks : List PTr.S26} {r : PR (List PTr.S26)} (h : DB T i ks r) (hi : i ≤ k) : (∀ v j, r = .ok (v, j) → j ≤ k → DB T2 i ks (.ok (v, j))) ∧ (r = .error (2, a) → DB T2 i ks (.error (2, a))) :=
  C.loop (I := PP T) (I2 := PP T2) (fun _ _ h hi => h.goes C.hE hi) C.pp C.ppk h hi
theorem Cut.da {i : Nat} {ks : List PTr.S26} {r : PR (List PTr.S26)} (h : DA T i ks r) : i ≤ k → ∀ l j, r = .ok (l, j) → (j ≤ k → DA T2 i ks (.ok (l, j))) ∧ (k < j → ∃ l2, DA T2 i ks (.ok (l2, k))) := by
  have stk : (!((tokAt T2 k).f0 == 0) && !((tokAt T2 k).f0 == 2)) = true := by rw [C.k0, C.k2]; rfl
  induction h with
  | done i ks h =>
    intro hi l j e
    injection e with e; injection e with e1 e2
    simp only [id] at e2
    subst e1 e2
    refine ⟨fun _ => .done i ks ?_, fun h => by omega⟩
    rcases (show i < k ∨ i = k by omega) with h1 | rfl
    · simp only [C.same i h1]; exact h
    · exact stk
  | err i ks e h hi => intro _ _ _ h; cases h
  | more i ks v j r h hi hr ih =>
    intro hik l j' e
    have h1 := (LP.goes C.hE hi (Nat.le_trans hik C.le)).1 _ _ rfl
    rcases (show i < k ∨ i = k by omega) with h2 | rfl
    · have hst : (!((tokAt T2 i).f0 == 0) && !((tokAt T2 i).f0 == 2)) = false := by rw [C.same i h2]; exact h
      have hj : j ≤ k := by
        rcases hi with ⟨_, h⟩ | ⟨_, _, h⟩ <;> (injection h with h; injection h with _ h; omega)
      have hi2 : LP T2 i (.ok (v, j)) := by unfold LP; rw [C.same i h2]; exact hi
      have := ih hj l j' e
      refine ⟨fun h => .more i ks v j _ hst hi2 (this.1 h), fun h => ?_⟩
      obtain ⟨l2, hl⟩ := this.2 h
      exact ⟨l2, .more i ks v j _ hst hi2 hl⟩
    · have h3 := (DA.goes C.hE hr h1.2).1 _ _ e
      exact ⟨fun h => by omega, fun _ => ⟨ks, .done i ks stk⟩⟩
theorem Cut.dp (i : Nat) (r : PR PTr.S26) (h : DP T i r) (hi : i ≤ k) : (∀ v j, r = .ok (v, j) → j ≤ k → DP T2 i (.ok (v, j))) ∧ (r = .error (2, a) → DP T2 i (.error (2, a))) := by
  have hgo := h.goes C.hE (Nat.le_trans hi C.le)
  have ek : ∀ j, j < k → tokAt T2 j = tokAt T j := C.same
  rcases (show i < k ∨ i = k by omega) with h1 | rfl
  · rcases h with ⟨c, rfl⟩ | ⟨c, ks, j, ha, hb⟩
    · refine ⟨(fun _ _ h => by cases h), fun h => .inl ⟨by rw [ek i h1]; exact c, by rw [ek i h1]; exact h.symm⟩⟩
    · have hal := (ha.goes C.hE (kind0 C.hE c (Nat.le_trans hi C.le))).1 _ _ rfl
      have hda := C.da ha h1 _ _ rfl
      rcases hb with ⟨c2, rfl⟩ | ⟨c2, ⟨e, h, rfl⟩ | ⟨ks', j', h, rfl⟩⟩
      · refine ⟨(fun _ _ h => by cases h), fun h => ?_⟩
        have hjk : j ≤ k := C.flt (b := 2) (by injection h with h; rw [← h]; exact ⟨j, Nat.le_refl _, hal.2, rfl, .inl ⟨rfl, rfl⟩⟩)
        refine .inr ⟨C.kind h1 0 c, ks, j, hda.1 hjk, .inl ?_⟩
        rcases (show j < k ∨ j = k by omega) with h2 | rfl
        · exact ⟨by rw [C.is h2]; exact c2, by rw [ek j h2]; exact h.symm⟩
        · exact ⟨C.isk _, by rw [C.at2]⟩
      · refine ⟨(fun _ _ h => by cases h), fun h' => ?_⟩
        have h2 := fin1 C.hE _ j hal.2 c2
        have he : e = (2, a) := by injection h'
        subst he
        have hjk := C.flt ((DB.goes C.hE h h2.2).2 _ rfl)
        exact .inr ⟨C.kind h1 0 c, ks, j, hda.1 (by omega), .inr ⟨by rw [C.is (by omega)]; exact c2, .inl ⟨_, (C.db h hjk).2 rfl, rfl⟩⟩⟩
      · refine ⟨fun v j'' h' hj => ?_, (fun h => by cases h)⟩
        injection h' with h'; injection h' with e1 e2
        subst e1 e2
        have h2 := fin1 C.hE _ j hal.2 c2
        have h3 := (DB.goes C.hE h h2.2).1 _ _ rfl
        refine .inr ⟨C.kind h1 0 c, ks, j, hda.1 (by omega), .inr ⟨by rw [C.is (by omega)]; exact c2, .inr ⟨ks', j', (C.db h (by omega)).1 _ _ rfl hj, by rw [ek i h1]⟩⟩⟩
  · exact ⟨fun v j h hj => by have := hgo.1 v j h; omega, fun _ => .inl ⟨C.k0, by rw [C.at2]⟩⟩
theorem Cut.rl {i : Nat} {ks : List PTr.S26} {r : PR (List PTr.S26)} (h : RL T i ks r) : i ≤ k → r = .error (2, a) → ∃ r2, RL T2 i ks r2 ∧ (r2 = .error (2, a) ∨ ∃ l, r2 = .ok (l, k)) := by
  have atk : ∀ ks, RL T2 k ks (.ok (ks, k)) := fun ks => .done k ks (by show ((tokAt T2 k).f0 == 4) = true; rw [C.fin]; rfl)
  induction h with
  | done i ks h => intro _ e; cases e
  | err i ks e h hi =>
    intro hik he
    rcases (show i < k ∨ i = k by omega) with h1 | rfl
    · exact ⟨_, .err i ks _ (by show ((tokAt T2 i).f0 == 4) = false; rw [C.same i h1]; exact h) ((C.dp _ _ hi hik).2 (by injection he with he; rw [he])), .inl rfl⟩
    · exact ⟨_, atk ks, .inr ⟨_, rfl⟩⟩
  | more i ks v j r h hi hr ih =>
    intro hik he
    rcases (show i < k ∨ i = k by omega) with h1 | rfl
    · have h2 := (DP.goes C.hE hi (Nat.le_trans hik C.le)).1 _ _ rfl
      have hjk := C.flt ((RL.goes C.hE hr h2.2).2 _ he)
      obtain ⟨r2, h3, h4⟩ := ih hjk he
      exact ⟨r2, .more i ks v j _ (by show ((tokAt T2 i).f0 == 4) = false; rw [C.same i h1]; exact h) ((C.dp _ _ hi hik).1 _ _ rfl hjk) h3, h4⟩
    · exact ⟨_, atk ks, .inr ⟨_, rfl⟩⟩
end
end Go.Proofs.YtahjkibjcibpgaaGreatDoor.L
end
section
namespace Go.Proofs.YtahjkibjcibpgaaGreatDoor.L
open Go.RowKit Go.Proofs.YtahjkibjcibpgaaGreatDoor.U Go.Proofs.YtahjkibjcibpgaaGreatDoorW.PrintWords Go.Proofs.YtahjkibjcibpgaaGreatDoor.PTr
end Go.Proofs.YtahjkibjcibpgaaGreatDoor.L
end
section
namespace Go.Proofs.YtahjkibjcibpgaaGreatDoor.L
open Go.RowKit Go.Shelf Go.Lib Go.Proofs.YtahjkibjcibpgaaGreatDoor.U
open Go.Proofs.YtahjkibjcibpgaaGreatDoorW Go.Proofs.YtahjkibjcibpgaaGreatDoorW.PrintWords
attribute [local go_sem] Oper.semAt_some
set_option maxRecDepth 100000 in
theorem bld_used (b : Nat) (w : World) (h0 : w.cell? ⟨b, 0, none⟩ = some (.pointer (some ⟨b, 0, none⟩))) :
    Calls Tryz.prog 32 #[.pointer (some ⟨b, 0, none⟩)] w fun e w' => e = .returned (.tuple #[]) ∧ w' = w := by
  obtain ⟨j, hj, _⟩ := Option.map_eq_some_iff.1 Tryz.Builder_Extra_169.sizeBuilder
  go_enter Tryz.func32, Tryz.ntmps32
  go_wp2
  rw [Lib.run_neq_ptr_same w _ Tryz.underlying47 hj]
  go_wp2
  go_end0
  exact ⟨rfl, rfl⟩
set_option maxRecDepth 100000 in
theorem bld_fresh (b : Nat) (w : World) (h0 : w.cell? ⟨b, 0, none⟩ = some (.pointer none)) (hsh : w.shape? b = some (50, 2)) (hfz : w.frozen? ⟨b, 0, none⟩ = false) :
    Calls Tryz.prog 32 #[.pointer (some ⟨b, 0, none⟩)] w fun e w' => e = .returned (.tuple #[]) ∧ w' = w.setCell ⟨b, 0, none⟩ (.pointer (some ⟨b, 0, none⟩)) := by
  obtain ⟨j, hj, hjs⟩ := Option.map_eq_some_iff.1 Tryz.Builder_Extra_169.sizeBuilder
  go_enter Tryz.func32, Tryz.ntmps32
  go_wp2
  rw [Lib.run_to_unsafe w ⟨b, 0, none⟩ Tryz.underlying47 Tryz.underlying98 hj (by rw [hjs]; decide) hsh (Nat.zero_lt_succ 1)]
  simp only [Result.andThen]
  rw [Oper.upon_value]
  go_wp2
  rw [run_callFunc_extern Tryz.func53 (by kernel_rfl) (by kernel_rfl) (by kernel_rfl) (e := Extern.AbiNoEscape.same) (by kernel_rfl)]
  rw [Lib.run_noEscape]
  simp only [Result.andThen]
  rw [Oper.upon_value]
  go_wp2
  rw [Lib.run_from_unsafe w ⟨b, 0, none⟩ Tryz.underlying98 Tryz.underlying47 hj hsh Tryz.Builder_Extra_169.liesBuilder]
  simp only [Result.andThen]
  rw [Oper.upon_value]
  go_wp2
  go_end0
  exact ⟨rfl, rfl⟩
theorem bld_check (B b : Nat) (bs : List Value) (w : World) (h : Lib.IsBuilderF 50 5 B b bs w) :
    Calls Tryz.prog 32 #[.pointer (some ⟨b, 0, none⟩)] w fun e w' => e = .returned (.tuple #[]) ∧ (Lib.BuilderAtF 50 5 B b (.pointer (some ⟨b, 0, none⟩)) bs w' ∧ Below B w w' ∧ Lib.OthersKept 5 (some b) w w') := by
  rcases h with h | h
  · refine (bld_fresh b w h.cell0 h.shape h.frozen0).mono ?_
    rintro e w' ⟨rfl, rfl⟩
    exact ⟨rfl, h.used _, (Below.refl B w).setCell (p := ⟨b, 0, none⟩) h.1 _, (Lib.OthersKept.refl _ _ w).setCell ⟨b, 0, none⟩ rfl _⟩
  · refine (bld_used b w h.cell0).mono ?_
    rintro e w' ⟨rfl, rfl⟩
    exact ⟨rfl, h, Below.refl B _, Lib.OthersKept.refl _ _ _⟩
set_option maxRecDepth 100000 in
theorem bld_write (B b : Nat) (bs : List Value) (s : ByteArray) (w : World) (h : Lib.IsBuilderF 50 5 B b bs w) (hlen : bs.length + s.size ≤ 140737488355328) (hBw : B ≤ w.heap.size) :
    Calls Tryz.prog 18 #[.pointer (some ⟨b, 0, none⟩), .string s] w fun e w' => e = .returned (.tuple #[.int .i64 s.size, .nilIface]) ∧ (Lib.BuilderAtF 50 5 B b (.pointer (some ⟨b, 0, none⟩)) (bs ++ Lib.strCells s) w' ∧ Below B w w' ∧ Lib.OthersKept 5 (some b) w w') := by
  obtain ⟨i0, hi, hz0, hz1, hz2⟩ := info_parts Tryz.Builder_Extra_169.infoByte
  go_enter Tryz.func18, Tryz.ntmps18
  go_wp2_with (go_at_call 32; go_loud (refine (bld_check B b bs _ h).mono ?_))
  rintro e w1 ⟨rfl, h1, hb1, hk1⟩
  obtain ⟨hB, v, hbk, hown, hne⟩ := h1
  have c0 : w1.cell? ⟨b, 0, none⟩ = some (.pointer (some ⟨b, 0, none⟩)) := by rw [Lib.cell_of_heap hbk]; rfl
  have c1 : w1.cell? ⟨b, 1, none⟩ = some v := by rw [Lib.cell_of_heap hbk]; rfl
  go_wp2_with (at_builtin; refine Lib.wpList_append_own_stringF _ rfl _ _ 48 9 rfl B 5 i0 Tryz.underlying48 Tryz.underlying9 hi hz0 hz1 hz2 _ _ _ rfl hown s rfl ?c3 ?c4 ?c5 ?_)
  case c3 => unfold maxLen; omega
  case c4 => omega
  case c5 => have := hb1.size; omega
  intro v' w2 hown' hgrow _
  have hlt : b < w1.heap.size := blk_lt hbk
  have hb2 : w2.heap[b]? = some (.cells #[.pointer (some ⟨b, 0, none⟩), v] 50 (0, 0)) := by
    rw [hgrow.block b hlt (fun e => hne e.symm)]
    exact hbk
  have d0 : w2.cell? ⟨b, 0, none⟩ = some (.pointer (some ⟨b, 0, none⟩)) := by rw [Lib.cell_of_heap hb2]; rfl
  have d1 : w2.cell? ⟨b, 1, none⟩ = some v := by rw [Lib.cell_of_heap hb2]; rfl
  have f1 : w2.frozen? ⟨b, 1, none⟩ = false := Lib.frozen_of_heap hb2 1
  obtain ⟨ao, n', cap, rfl⟩ : ∃ ao n' cap, v' = .slice ao n' cap := by
    rcases hown'.2 with ⟨hv, _⟩ | ⟨g, cap, cur, fz, hv, _⟩
    · exact ⟨_, _, _, hv⟩
    · exact ⟨_, _, _, hv⟩
  go_wp2
  go_ret2
  refine ⟨rfl, ?_, ?_, (hk1.grown hgrow (Lib.ownsRowF_kind hown)).setCell ⟨b, 1, none⟩ rfl _⟩
  · exact Lib.BuilderAtF.put (T := 50) (e := 5) hB hb2 (bs' := bs ++ Lib.strCells s) (by simpa [Lib.strCells_length] using hown') Tryz.Builder_Extra_169.neB5
  · exact (hb1.grown hgrow (by have := hb1.size; omega) (fun k hk => (hown.lt k hk).1)).setCell (p := ⟨b, 1, none⟩) hB _
end Go.Proofs.YtahjkibjcibpgaaGreatDoor.L
end
section
namespace Go.Proofs.YtahjkibjcibpgaaGreatDoor.PTr
theorem q1sizeW : (⟨#[34]⟩ : ByteArray).size = 1 := rfl
theorem q1sizeP : (⟨#[40]⟩ : ByteArray).size = 1 := rfl
open Go.RowKit Go.Proofs.YtahjkibjcibpgaaGreatDoorW.Sq Go.Proofs.YtahjkibjcibpgaaGreatDoorW.PrintWords Go.Proofs.YtahjkibjcibpgaaGreatDoorW.PrintLast Go.Proofs.YtahjkibjcibpgaaGreatDoorW.PrintMore
attribute [local go_sem] max2_int min2_int max_two min_two max_three min_three max_four min_four   -- for this text's walks alone
set_option linter.unusedVariables false
set_option linter.unusedSimpArgs false
mutual
def tree_write.l0 : Nat → List ByteArray → List (S26) → Int → Int → Option (ByteArray)
  | 0, _, _, _, _ => none
  | k + 1, x3, x22, x23, x24 => if x24 < x23 then (if 0 ≤ x24 then (if x24 < (x22.length : Int) then ((tree_write.f k ((rd_T26 x22 x24).f0) ((rd_T26 x22 x24).f1) ((rd_T26 x22 x24).f2.f0) ((rd_T26 x22 x24).f2.f1) ((rd_T26 x22 x24).f3) ((rd_T26 x22 x24).f4)).bind fun t105 => (if x3.length < 8796093022208 then (tree_write.l0 k (x3 ++ [t105]) x22 x23 (wrap64 (x24 + 1))) else (none))) else (none)) else (none)) else ((Ex.strings_Join.f x3 (⟨#[44, 32]⟩ : ByteArray)).bind fun t109 => (if 1 + t109.size ≤ 9223372036854775807 then (if ((⟨#[40]⟩ : ByteArray) ++ t109).size + 1 ≤ 9223372036854775807 then (some (((⟨#[40]⟩ : ByteArray) ++ t109) ++ (⟨#[41]⟩ : ByteArray))) else (none)) else (none)))
def tree_write.f : Nat → Int → ByteArray → Int → Int → Int → List (S26) → Option (ByteArray)
  | 0, _, _, _, _, _, _ => none
  | k + 1, a0_0, a0_1, a0_2, a0_3, a0_4, l0_5 => if a0_0 = 4 then (if 1 + a0_1.size ≤ 9223372036854775807 then (if ((⟨#[34]⟩ : ByteArray) ++ a0_1).size + 1 ≤ 9223372036854775807 then (some (((⟨#[34]⟩ : ByteArray) ++ a0_1) ++ (⟨#[34]⟩ : ByteArray))) else (none)) else (none)) else (if a0_0 = 5 then ((Ex.unit_Write.f a0_2 a0_3).bind fun t102 => (some t102)) else (if a0_0 = 6 then (tree_write.l0 k ([] : List ByteArray) l0_5 (l0_5.length : Int) 0) else (some a0_1)))
end
theorem tree_write.mono_l : ∀ k, (∀ y0 y1 y2 y3 y4 y5, LeO (tree_write.f k y0 y1 y2 y3 y4 y5) (tree_write.f (k + 1) y0 y1 y2 y3 y4 y5)) ∧ (∀ y0 y1 y2 y3, LeO (tree_write.l0 k y0 y1 y2 y3) (tree_write.l0 (k + 1) y0 y1 y2 y3))
  | 0 => ⟨fun _ _ _ _ _ _ r h => by simp [tree_write.f] at h, fun _ _ _ _ r h => by simp [tree_write.l0] at h⟩
  | k + 1 => by
    obtain ⟨ih0, ih1⟩ := tree_write.mono_l k
    refine ⟨?_, ?_⟩
    · intro y0 y1 y2 y3 y4 y5
      unfold tree_write.f
      repeat' first
      | (with_reducible exact ih0 _ _ _ _ _ _)
      | (with_reducible exact ih1 _ _ _ _)
      | (with_reducible exact LeO.refl _)
      | (with_reducible exact LeO.none _)
      | (with_reducible refine LeO.ite ?_ ?_)
      | (with_reducible refine LeO.bind ?_ (fun _ => ?_))
      | exact ih0 _ _ _ _ _ _
      | exact ih1 _ _ _ _
      | exact LeO.none _
      | refine LeO.ite ?_ ?_
      | refine LeO.bind ?_ (fun _ => ?_)
    intro y0 y1 y2 y3
    unfold tree_write.l0
    repeat' first
    | (with_reducible exact ih0 _ _ _ _ _ _)
    | (with_reducible exact ih1 _ _ _ _)
    | (with_reducible exact LeO.refl _)
    | (with_reducible exact LeO.none _)
    | (with_reducible refine LeO.ite ?_ ?_)
    | (with_reducible refine LeO.bind ?_ (fun _ => ?_))
    | exact ih0 _ _ _ _ _ _
    | exact ih1 _ _ _ _
    | exact LeO.none _
    | refine LeO.ite ?_ ?_
    | refine LeO.bind ?_ (fun _ => ?_)
theorem tree_write.mono : ∀ a0 a1 a2 a3 a4 a5 k, LeO (tree_write.f k a0 a1 a2 a3 a4 a5) (tree_write.f (k + 1) a0 a1 a2 a3 a4 a5) := by
  intro a0 a1 a2 a3 a4 a5 k
  obtain ⟨ih0, ih1⟩ := tree_write.mono_l k
  exact ih0 a0 a1 a2 a3 a4 a5
set_option maxHeartbeats 8000000 in
set_option maxRecDepth 100000 in
theorem tree_write.calls (k : Nat) : ∀ (a0_0 : Int) (a0_1 : ByteArray) (a0_2 : Int) (a0_3 : Int) (a0_4 : Int) (A0_5 : Option Addr) (c0_5 : Nat) (l0_5 : List (S26)) (r : ByteArray) (w : World) (hg : Go.Proofs.YtahjkibjcibpgaaGreatDoor.U.UW w) (hr0_5 : Kd.C k26 w A0_5 l0_5.length l0_5) (hc0_5 : l0_5.length ≤ c0_5) (h : tree_write.f k a0_0 a0_1 a0_2 a0_3 a0_4 l0_5 = some r),
    Calls Tryz.prog 19 #[.agg #[.int .i64 a0_0, .string a0_1, .int .i64 a0_2, .int .i64 a0_3, .int .i64 a0_4, .slice A0_5 l0_5.length c0_5]] w fun e w' => e = .returned (.string r) ∧ Below w.heap.size w w' := by
  induction k using Nat.strongRecOn with
  | _ k ih =>
  intro a0_0 a0_1 a0_2 a0_3 a0_4 A0_5 c0_5 l0_5 r w hg hr0_5 hc0_5 h
  cases k with
  | zero => exact absurd h (by simp [tree_write.f])
  | succ k =>
  simp only [tree_write.f] at h
  have hu26 := Tryz.underlying26
  have hu23 := Tryz.underlying23
  have HR0_5 := Aside0.mk hr0_5
  have HC0_5 := Aside0.mk hc0_5
  clear hr0_5 hc0_5
  have HB := Aside0.mk (Below.refl w.heap.size w)
  have HGW := Aside0.mk hg
  clear hg
  have H : (if a0_0 = 4 then (if 1 + a0_1.size ≤ 9223372036854775807 then (if ((⟨#[34]⟩ : ByteArray) ++ a0_1).size + 1 ≤ 9223372036854775807 then (some (((⟨#[34]⟩ : ByteArray) ++ a0_1) ++ (⟨#[34]⟩ : ByteArray))) else (none)) else (none)) else (if a0_0 = 5 then ((Ex.unit_Write.f a0_2 a0_3).bind fun t102 => (some t102)) else (if a0_0 = 6 then (tree_write.l0 k ([] : List ByteArray) l0_5 (l0_5.length : Int) 0) else (some a0_1)))) = some r := h
  clear h
  by_cases c2 : a0_0 = 4
  · rw [if_pos c2] at H
    have c2b0 : (a0_0 == 4) = true := beq_iff_eq.mpr c2
    have c2b1 : (a0_0 != 4) = false := bne_eq_false_iff_eq.mpr c2
    clear c2
    by_cases c3 : 1 + a0_1.size ≤ 9223372036854775807
    · rw [if_pos c3] at H
      have c3b0 := eq_true c3
      have c3b1 : decide (1 + a0_1.size ≤ 9223372036854775807) = true := decide_eq_true c3
      try have c3b2 : (9223372036854775807 < 1 + a0_1.size) = False := eq_false (Nat.not_lt.2 c3)
      by_cases c4 : ((⟨#[34]⟩ : ByteArray) ++ a0_1).size + 1 ≤ 9223372036854775807
      · rw [if_pos c4] at H
        have c4b0 := eq_true c4
        have c4b1 : decide (((⟨#[34]⟩ : ByteArray) ++ a0_1).size + 1 ≤ 9223372036854775807) = true := decide_eq_true c4
        try have c4b2 : (9223372036854775807 < ((⟨#[34]⟩ : ByteArray) ++ a0_1).size + 1) = False := eq_false (Nat.not_lt.2 c4)
        try have c4b3 := c4b2
        try simp only [ByteArray.size_append, q1sizeW, q1sizeP] at c4b3
        obtain rfl := Option.some.inj H
        go_enter Tryz.func19, Tryz.ntmps19
        go_wp2_with (first | ((with_reducible refine gate_dst (N := 1) rfl ?_); refine box_event ?hg (N := 1) ?hd (cs := #[.int .i64 a0_0, .string a0_1, .int .i64 a0_2, .int .i64 a0_3, .int .i64 a0_4, .slice A0_5 l0_5.length c0_5]) (t := 26) ?hr ?_; (case hd => rfl); (case hg => rfl); (case hr => first | (go_simp; done) | (go_simp; rfl)); intro gb101 hg w5 hbox hb; have n0_ := Aside0.mk (below_step (by repeat with_reducible first|exact HB.out|apply ba|apply bN|apply bd) hb); have n1_ := Aside0.mk (hbox); have n2_ := Aside0.mk ((by rw [hg]; exact (below_size (by repeat with_reducible first|exact HB.out|apply ba|apply bN|apply bd)) : w.heap.size ≤ gb101)); have n3_ := Aside0.mk ((by rw [hg]; exact (below_size (by repeat with_reducible first|exact HB.out|apply ba|apply bN|apply bd)) : w.heap.size ≤ gb101)); clear HB; have HB := n0_; have BK101 := n1_; have GW101 := n2_; have GE101 := n3_; clear n0_ n1_ n2_ n3_; clear hb hbox hg; obtain ⟨hcz6_0, hcz6_1, hcz6_2, hcz6_3, hcz6_4, hcz6_5, hfz6_0, hfz6_1, hfz6_2, hfz6_3, hfz6_4, hfz6_5⟩ := cl6 BK101.out))
        go_ret
        exact ⟨by first|rfl|(simp<;>rfl)|(simp [*]<;>rfl), by repeat with_reducible first|exact HB.out|apply ba|apply bN|apply bd|refine below_set ?_ GE101.out⟩
      rw [if_neg c4] at H
      exact absurd H (by simp)
    rw [if_neg c3] at H
    exact absurd H (by simp)
  rw [if_neg c2] at H
  have c2b0 : (a0_0 == 4) = false := beq_eq_false_iff_ne.mpr c2
  have c2b1 : (a0_0 != 4) = true := bne_iff_ne.mpr c2
  by_cases c7 : a0_0 = 5
  · rw [if_pos c7] at H
    have c7b0 : (a0_0 == 5) = true := beq_iff_eq.mpr c7
    have c7b1 : (a0_0 != 5) = false := bne_eq_false_iff_eq.mpr c7
    clear c7
    replace H := Option.bind_eq_some_iff.mp H
    obtain ⟨t102, A80, H⟩ := H
    replace H : (some t102) = some r := H
    have A8 := Aside0.mk A80
    clear A80
    obtain rfl := Option.some.inj H
    go_enter Tryz.func19, Tryz.ntmps19
    go_wp2_with (first | ((with_reducible refine gate_dst (N := 1) rfl ?_); refine box_event ?hg (N := 1) ?hd (cs := #[.int .i64 a0_0, .string a0_1, .int .i64 a0_2, .int .i64 a0_3, .int .i64 a0_4, .slice A0_5 l0_5.length c0_5]) (t := 26) ?hr ?_; (case hd => rfl); (case hg => rfl); (case hr => first | (go_simp; done) | (go_simp; rfl)); intro gb101 hg w9 hbox hb; have n0_ := Aside0.mk (below_step (by repeat with_reducible first|exact HB.out|apply ba|apply bN|apply bd) hb); have n1_ := Aside0.mk (hbox); have n2_ := Aside0.mk ((by rw [hg]; exact (below_size (by repeat with_reducible first|exact HB.out|apply ba|apply bN|apply bd)) : w.heap.size ≤ gb101)); have n3_ := Aside0.mk ((by rw [hg]; exact (below_size (by repeat with_reducible first|exact HB.out|apply ba|apply bN|apply bd)) : w.heap.size ≤ gb101)); clear HB; have HB := n0_; have BK101 := n1_; have GW101 := n2_; have GE101 := n3_; clear n0_ n1_ n2_ n3_; clear hb hbox hg; obtain ⟨hcz10_0, hcz10_1, hcz10_2, hcz10_3, hcz10_4, hcz10_5, hfz10_0, hfz10_1, hfz10_2, hfz10_3, hfz10_4, hfz10_5⟩ := cl6 BK101.out) | ((with_reducible refine gate_callee (f := 33) rfl ?_); refine goesL_ (some 18) rfl rfl Tryz.func33 (by kernel_rfl) rfl #[.agg #[.int .i64 a0_2, .int .i64 a0_3]] rfl (by (try simp only [List.map_toArray, List.map_cons, List.map_nil]); first | done | rfl | (simp only [List.length_drop, List.length_take]; rfl) | (simp only [Int.toNat_natCast, ByteArray.extract_zero_size] <;> rfl) | (rw [Int.toNat_natCast, ByteArray.extract_zero_size] <;> rfl)) ?_; (with_reducible refine (Ex.unit_Write.calls a0_2 a0_3 t102 _ ?side1 A8.out).mono ?_); (case side1 => exact Go.Proofs.YtahjkibjcibpgaaGreatDoor.U.UW.step HGW.out (by repeat with_reducible first|exact HB.out|apply ba|apply bN|apply bd|refine below_set ?_ GE101.out)); rintro e w11 ⟨rfl, hb⟩; refine ⟨_, rfl, ?_⟩; have n0_ := Aside0.mk (blk_below (g := gb101) (o := .cells #[.int .i64 a0_0, .string a0_1, .int .i64 a0_2, .int .i64 a0_3, .int .i64 a0_4, .slice A0_5 l0_5.length c0_5] 26 (0, 0)) (by (with_reducible repeat first|refine kN ?_ _|refine kd ?_|refine ka ?_ _); exact BK101.out) hb); have n1_ := Aside0.mk (below_step (by repeat with_reducible first|exact HB.out|apply ba|apply bN|apply bd|refine below_set ?_ GE101.out) hb); clear BK101; clear HB; have BK101 := n0_; have HB := n1_; clear n0_ n1_; (try clear hb); (try clear hb2); (try clear hk); (try clear hi)))
    go_ret
    exact ⟨by first|rfl|(simp<;>rfl)|(simp [*]<;>rfl), by repeat with_reducible first|exact HB.out|apply ba|apply bN|apply bd|refine below_set ?_ GE101.out⟩
  rw [if_neg c7] at H
  have c7b0 : (a0_0 == 5) = false := beq_eq_false_iff_ne.mpr c7
  have c7b1 : (a0_0 != 5) = true := bne_iff_ne.mpr c7
  by_cases c12 : a0_0 = 6
  · rw [if_pos c12] at H
    have c12b0 : (a0_0 == 6) = true := beq_iff_eq.mpr c12
    have c12b1 : (a0_0 != 6) = false := bne_eq_false_iff_eq.mpr c12
    clear c12
    have H' := Aside0.mk H
    clear H
    go_enter Tryz.func19, Tryz.ntmps19
    go_wp2_with (first | ((with_reducible refine gate_dst (N := 1) rfl ?_); refine box_event ?hg (N := 1) ?hd (cs := #[.int .i64 a0_0, .string a0_1, .int .i64 a0_2, .int .i64 a0_3, .int .i64 a0_4, .slice A0_5 l0_5.length c0_5]) (t := 26) ?hr ?_; (case hd => rfl); (case hg => rfl); (case hr => first | (go_simp; done) | (go_simp; rfl)); intro gb101 hg w13 hbox hb; have n0_ := Aside0.mk (below_step (by repeat with_reducible first|exact HB.out|apply ba|apply bN|apply bd) hb); have n1_ := Aside0.mk (hbox); have n2_ := Aside0.mk ((by rw [hg]; exact (below_size (by repeat with_reducible first|exact HB.out|apply ba|apply bN|apply bd)) : w.heap.size ≤ gb101)); have n3_ := Aside0.mk ((by rw [hg]; exact (below_size (by repeat with_reducible first|exact HB.out|apply ba|apply bN|apply bd)) : w.heap.size ≤ gb101)); clear HB; have HB := n0_; have BK101 := n1_; have GW101 := n2_; have GE101 := n3_; clear n0_ n1_ n2_ n3_; clear hb hbox hg; obtain ⟨hcz14_0, hcz14_1, hcz14_2, hcz14_3, hcz14_4, hcz14_5, hfz14_0, hfz14_1, hfz14_2, hfz14_3, hfz14_4, hfz14_5⟩ := cl6 BK101.out))
    go_loopg [3, 24] k (fun kq v3 v24 w' => ∃ (x3_1 : List ByteArray) (x24_1 : Int), v24 = .int .i64 x24_1 ∧ Aside0 (tree_write.l0 kq x3_1 l0_5 (l0_5.length : Int) x24_1 = some r) ∧ Aside0 (kq ≤ k) ∧ Aside0 (Kd.R Kd.string 9 w' w.heap.size (fun _ => True) v3 x3_1) ∧ Aside0 (w'.heap[gb101]? = some (.cells #[.int .i64 a0_0, .string a0_1, .int .i64 a0_2, .int .i64 a0_3, .int .i64 a0_4, (.slice A0_5 l0_5.length c0_5)] 26 (0, 0))) ∧ Aside0 (Below w.heap.size w w'))
    case atStart => exact ⟨(([] : List ByteArray)), (0), (by first|rfl|(simp;done)|(simp [*];done)), H', ⟨Nat.le_refl _⟩, ⟨by first | exact Kd.R_nil _ _ _ _ _ | exact Kd.N_nil _ _ _ _ _ | exact Kd.V_nil _ _ _ _ _ | exact Kd.Q_nil _ _ _ _ _ | exact Kd.S_nil _ _ _ _ _⟩, ⟨by (with_reducible repeat first|refine kN ?_ _|refine kd ?_|refine ka ?_ _); exact BK101.out⟩, ⟨by repeat with_reducible first|exact HB.out|apply ba|apply bN|apply bd|refine below_set ?_ GE101.out⟩⟩
    case round =>
      clear H'
      try clear c1;try clear c2;try clear c2b0;try clear c2b1;try clear p2;try clear c3;try clear c3b0;try clear c3b1;try clear c3b2;try clear c4;try clear c4b0;try clear c4b1;try clear c4b2;try clear c7;try clear c7b0;try clear c7b1;try clear c12;try clear c12b0;try clear c12b1;try clear hcz10_0;try clear hcz10_1;try clear hcz10_2;try clear hcz10_3;try clear hcz10_4;try clear hcz10_5;try clear hcz14_0;try clear hcz14_1;try clear hcz14_2;try clear hcz14_3;try clear hcz14_4;try clear hcz14_5;try clear hcz6_0;try clear hcz6_1;try clear hcz6_2;try clear hcz6_3;try clear hcz6_4;try clear hcz6_5;try clear hfz10_0;try clear hfz10_1;try clear hfz10_2;try clear hfz10_3;try clear hfz10_4;try clear hfz10_5;try clear hfz14_0;try clear hfz14_1;try clear hfz14_2;try clear hfz14_3;try clear hfz14_4;try clear hfz14_5;try clear hfz6_0;try clear hfz6_1;try clear hfz6_2;try clear hfz6_3;try clear hfz6_4;try clear hfz6_5
      obtain ⟨x3_1, x24_1, rfl, HA, HK1, HO_3, BK101, HB⟩ := hrel
      cases gk with
      | zero => exact absurd HA.out (by simp [tree_write.l0])
      | succ k1 =>
        have H := HA.out
        clear HA
        simp only [tree_write.l0] at H
        by_cases c15 : x24_1 < (l0_5.length : Int)
        · rw [if_pos c15] at H
          have c15b0 : decide (x24_1 < (l0_5.length : Int)) = true := decide_eq_true c15
          clear c15
          by_cases c16 : 0 ≤ x24_1
          · rw [if_pos c16] at H
            have c16b0 : decide (0 ≤ x24_1) = true := decide_eq_true c16
            clear c16
            by_cases c17 : x24_1 < (l0_5.length : Int)
            · rw [if_pos c17] at H
              have c17b0 : decide (x24_1 < (l0_5.length : Int)) = true := decide_eq_true c17
              clear c17
              replace H := Option.bind_eq_some_iff.mp H
              obtain ⟨t105, A180, H⟩ := H
              replace H : (if x3_1.length < 8796093022208 then (tree_write.l0 k1 (x3_1 ++ [t105]) l0_5 (l0_5.length : Int) (wrap64 (x24_1 + 1))) else (none)) = some r := H
              have A18 := Aside0.mk A180
              clear A180
              by_cases c19 : x3_1.length < 8796093022208
              · rw [if_pos c19] at H
                have LMc19 := Aside0.mk c19
                clear c19
                obtain ⟨y106, hy106⟩ : ∃ y_ : List ByteArray, y_ = (x3_1 ++ [t105]) := ⟨_, rfl⟩
                replace H : (tree_write.l0 k1 y106 l0_5 (l0_5.length : Int) (wrap64 (x24_1 + 1))) = some r := by first | (rw [hy106]; with_reducible exact H) | (have H2_ := (Option.bind_some _ _).symm.trans H; rw [hy106]; with_reducible exact H2_) | (have H2_ := (Option.bind_some _ _).symm.trans H; with_reducible exact H2_) | with_reducible exact H | (rw [hy106]; exact H) | exact H
                have Ny106 := Aside0.mk hy106
                clear hy106
                have H' := Aside0.mk H
                clear H
                have p103 : 0 ≤ (x24_1 : Int) := of_decide_eq_true (by first|with_reducible assumption|assumption)
                have q103 : x24_1 < (l0_5.length : Int) := of_decide_eq_true (by first|with_reducible assumption|assumption)
                obtain ⟨ad103, A103_5, c103_5, e103, hx103_0, hx103_1, hx103_2, hx103_3, hx103_4, hx103_5, hl103_5, hi103_5⟩ := at_T26 HR0_5.out x24_1 p103 q103
                cases e103
                replace hx103_0 := cb HB.out hx103_0
                replace hx103_1 := cb HB.out hx103_1
                replace hx103_2 := cb HB.out hx103_2
                replace hx103_3 := cb HB.out hx103_3
                replace hx103_4 := cb HB.out hx103_4
                replace hx103_5 := cb HB.out hx103_5
                have HR103_5 := Aside0.mk hi103_5
                have HC103_5 := Aside0.mk hl103_5
                clear hi103_5 hl103_5
                replace p103 := eq_true p103
                replace q103 := eq_true q103
                go_wp2_with (first | ((with_reducible refine gate_dst (N := 5) rfl ?_); refine box_event ?hg (N := 5) ?hd (cs := #[.int .i64 0, .string (⟨#[]⟩ : ByteArray), .int .i64 0, .int .i64 0, .int .i64 0, .slice none 0 0]) (t := 26) ?hr ?_; (case hd => rfl); (case hg => rfl); (case hr => first | (go_simp; done) | (go_simp; rfl)); intro gb104 hg w20 hbox hb; have n0_ := Aside0.mk (Kd.R_below (by (with_reducible repeat (first | apply Kd.R_alloc | apply Kd.R_drewN | apply Kd.R_drew)); exact HO_3.out) hb); have n1_ := Aside0.mk (blk_below (g := gb101) (o := .cells #[.int .i64 a0_0, .string a0_1, .int .i64 a0_2, .int .i64 a0_3, .int .i64 a0_4, .slice (some ad103) l0_5.length c0_5] 26 (0, 0)) (by (with_reducible repeat first|refine kN ?_ _|refine kd ?_|refine ka ?_ _); exact BK101.out) hb); have n2_ := Aside0.mk (below_step (by repeat with_reducible first|exact HB.out|apply ba|apply bN|apply bd|refine below_set ?_ GE101.out) hb); have n3_ := Aside0.mk (hbox); have n4_ := Aside0.mk ((by rw [hg]; exact (below_size (by repeat with_reducible first|exact HB.out|apply ba|apply bN|apply bd|refine below_set ?_ GE101.out)) : w.heap.size ≤ gb104)); have n5_ := Aside0.mk ((by rw [hg]; exact (below_size (by repeat with_reducible first|exact HB.out|apply ba|apply bN|apply bd|refine below_set ?_ GE101.out)) : w.heap.size ≤ gb104)); have n6_ := Aside0.mk ((by rw [hg]; exact Nat.ne_of_lt (blk_lt (g := gb101) (o := .cells #[.int .i64 a0_0, .string a0_1, .int .i64 a0_2, .int .i64 a0_3, .int .i64 a0_4, .slice (some ad103) l0_5.length c0_5] 26 (0, 0)) (by (with_reducible repeat first|refine kN ?_ _|refine kd ?_|refine ka ?_ _); exact BK101.out)) : gb101 ≠ gb104)); have n7_ := Aside0.mk ((by rw [hg]; exact Nat.ne_of_gt (blk_lt (g := gb101) (o := .cells #[.int .i64 a0_0, .string a0_1, .int .i64 a0_2, .int .i64 a0_3, .int .i64 a0_4, .slice (some ad103) l0_5.length c0_5] 26 (0, 0)) (by (with_reducible repeat first|refine kN ?_ _|refine kd ?_|refine ka ?_ _); exact BK101.out)) : gb104 ≠ gb101)); clear HO_3; clear BK101; clear HB; have HO_3 := n0_; have BK101 := n1_; have HB := n2_; have BK104 := n3_; have GW104 := n4_; have GE104 := n5_; have NB101_104 := n6_; have NB104_101 := n7_; clear n0_ n1_ n2_ n3_ n4_ n5_ n6_ n7_; clear hb hbox hg; have hnb21 := NB104_101.out; have hnc21 := NB101_104.out; obtain ⟨hcz22_0, hcz22_1, hcz22_2, hcz22_3, hcz22_4, hcz22_5, hfz22_0, hfz22_1, hfz22_2, hfz22_3, hfz22_4, hfz22_5⟩ := cl6 BK104.out) | ((with_reducible refine gate_callee (f := 19) rfl ?_); refine goesL_ (some 30) rfl rfl Tryz.func19 (by kernel_rfl) rfl #[.agg #[.int .i64 ((rd_T26 l0_5 x24_1).f0), .string ((rd_T26 l0_5 x24_1).f1), .int .i64 ((rd_T26 l0_5 x24_1).f2.f0), .int .i64 ((rd_T26 l0_5 x24_1).f2.f1), .int .i64 ((rd_T26 l0_5 x24_1).f3), .slice A103_5 ((rd_T26 l0_5 x24_1).f4).length c103_5]] rfl (by (try simp only [List.map_toArray, List.map_cons, List.map_nil]); first | done | rfl | (simp only [List.length_drop, List.length_take]; rfl) | (simp only [Int.toNat_natCast, ByteArray.extract_zero_size] <;> rfl) | (rw [Int.toNat_natCast, ByteArray.extract_zero_size] <;> rfl)) ?_; (with_reducible refine (ih k1 (by have := HK1.out; omega) ((rd_T26 l0_5 x24_1).f0) ((rd_T26 l0_5 x24_1).f1) ((rd_T26 l0_5 x24_1).f2.f0) ((rd_T26 l0_5 x24_1).f2.f1) ((rd_T26 l0_5 x24_1).f3) _ _ ((rd_T26 l0_5 x24_1).f4) t105 _ ?side1 ?side2 ?side3 A18.out).mono ?_); (case side1 => exact Go.Proofs.YtahjkibjcibpgaaGreatDoor.U.UW.step HGW.out (by repeat with_reducible first|exact HB.out|apply ba|apply bN|apply bd|refine below_set ?_ GE101.out|refine below_set ?_ GE104.out)); (case side2 => exact Kd.C_below HR103_5.out (by repeat with_reducible first|exact HB.out|apply ba|apply bN|apply bd|refine below_set ?_ GE101.out|refine below_set ?_ GE104.out)); (case side3 => exact HC103_5.out); rintro e w23 ⟨rfl, hb⟩; refine ⟨_, rfl, ?_⟩; have n0_ := Aside0.mk (Kd.R_below (by (with_reducible repeat (first | apply Kd.R_alloc | apply Kd.R_drewN | apply Kd.R_drew)); exact (Kd.R_mono (Kd.R_far (p := ⟨gb104, 5, none⟩) (Kd.R_far (p := ⟨gb104, 4, none⟩) (Kd.R_far (p := ⟨gb104, 3, none⟩) (Kd.R_far (p := ⟨gb104, 2, none⟩) (Kd.R_far (p := ⟨gb104, 1, none⟩) (Kd.R_far (p := ⟨gb104, 0, none⟩) (Kd.R_types HO_3.out BK104.out (by decide)) (fun _ hk => hk.2) (.int .i64 ((rd_T26 l0_5 x24_1).f0))) (fun _ hk => hk.2) (.string ((rd_T26 l0_5 x24_1).f1))) (fun _ hk => hk.2) (.int .i64 ((rd_T26 l0_5 x24_1).f2.f0))) (fun _ hk => hk.2) (.int .i64 ((rd_T26 l0_5 x24_1).f2.f1))) (fun _ hk => hk.2) (.int .i64 ((rd_T26 l0_5 x24_1).f3))) (fun _ hk => hk.2) (.slice A103_5 ((rd_T26 l0_5 x24_1).f4).length c103_5)) (fun _ h_ => h_.1))) hb); have n1_ := Aside0.mk (blk_below (g := gb101) (o := .cells #[.int .i64 a0_0, .string a0_1, .int .i64 a0_2, .int .i64 a0_3, .int .i64 a0_4, .slice (some ad103) l0_5.length c0_5] 26 (0, 0)) (by (with_reducible repeat first|refine kN ?_ _|refine kd ?_|refine ka ?_ _); refine blk_far ?_ NB101_104.out _; (with_reducible repeat first|refine kN ?_ _|refine kd ?_|refine ka ?_ _); refine blk_far ?_ NB101_104.out _; (with_reducible repeat first|refine kN ?_ _|refine kd ?_|refine ka ?_ _); refine blk_far ?_ NB101_104.out _; (with_reducible repeat first|refine kN ?_ _|refine kd ?_|refine ka ?_ _); refine blk_far ?_ NB101_104.out _; (with_reducible repeat first|refine kN ?_ _|refine kd ?_|refine ka ?_ _); refine blk_far ?_ NB101_104.out _; (with_reducible repeat first|refine kN ?_ _|refine kd ?_|refine ka ?_ _); refine blk_far ?_ NB101_104.out _; (with_reducible repeat first|refine kN ?_ _|refine kd ?_|refine ka ?_ _); exact BK101.out) hb); have n2_ := Aside0.mk (blk_below (g := gb104) (o := .cells #[.int .i64 ((rd_T26 l0_5 x24_1).f0), .string ((rd_T26 l0_5 x24_1).f1), .int .i64 ((rd_T26 l0_5 x24_1).f2.f0), .int .i64 ((rd_T26 l0_5 x24_1).f2.f1), .int .i64 ((rd_T26 l0_5 x24_1).f3), .slice A103_5 ((rd_T26 l0_5 x24_1).f4).length c103_5] 26 (0, 0)) (by (with_reducible repeat first|refine kN ?_ _|refine kd ?_|refine ka ?_ _); refine blk_put (cs := #[.int .i64 ((rd_T26 l0_5 x24_1).f0), .string ((rd_T26 l0_5 x24_1).f1), .int .i64 ((rd_T26 l0_5 x24_1).f2.f0), .int .i64 ((rd_T26 l0_5 x24_1).f2.f1), .int .i64 ((rd_T26 l0_5 x24_1).f3), .slice none 0 0]) ?_ 5 _ rfl; (with_reducible repeat first|refine kN ?_ _|refine kd ?_|refine ka ?_ _); refine blk_put (cs := #[.int .i64 ((rd_T26 l0_5 x24_1).f0), .string ((rd_T26 l0_5 x24_1).f1), .int .i64 ((rd_T26 l0_5 x24_1).f2.f0), .int .i64 ((rd_T26 l0_5 x24_1).f2.f1), .int .i64 0, .slice none 0 0]) ?_ 4 _ rfl; (with_reducible repeat first|refine kN ?_ _|refine kd ?_|refine ka ?_ _); refine blk_put (cs := #[.int .i64 ((rd_T26 l0_5 x24_1).f0), .string ((rd_T26 l0_5 x24_1).f1), .int .i64 ((rd_T26 l0_5 x24_1).f2.f0), .int .i64 0, .int .i64 0, .slice none 0 0]) ?_ 3 _ rfl; (with_reducible repeat first|refine kN ?_ _|refine kd ?_|refine ka ?_ _); refine blk_put (cs := #[.int .i64 ((rd_T26 l0_5 x24_1).f0), .string ((rd_T26 l0_5 x24_1).f1), .int .i64 0, .int .i64 0, .int .i64 0, .slice none 0 0]) ?_ 2 _ rfl; (with_reducible repeat first|refine kN ?_ _|refine kd ?_|refine ka ?_ _); refine blk_put (cs := #[.int .i64 ((rd_T26 l0_5 x24_1).f0), .string (⟨#[]⟩ : ByteArray), .int .i64 0, .int .i64 0, .int .i64 0, .slice none 0 0]) ?_ 1 _ rfl; (with_reducible repeat first|refine kN ?_ _|refine kd ?_|refine ka ?_ _); refine blk_put (cs := #[.int .i64 0, .string (⟨#[]⟩ : ByteArray), .int .i64 0, .int .i64 0, .int .i64 0, .slice none 0 0]) ?_ 0 _ rfl; (with_reducible repeat first|refine kN ?_ _|refine kd ?_|refine ka ?_ _); exact BK104.out) hb); have n3_ := Aside0.mk (below_step (by repeat with_reducible first|exact HB.out|apply ba|apply bN|apply bd|refine below_set ?_ GE101.out|refine below_set ?_ GE104.out) hb); clear HO_3; clear BK101; clear BK104; clear HB; have HO_3 := n0_; have BK101 := n1_; have BK104 := n2_; have HB := n3_; clear n0_ n1_ n2_ n3_; (try clear hb); (try clear hb2); (try clear hk); (try clear hi)) | ((with_reducible refine gate_builtin (b := .append) (xs := #[.tmp 28, .tmp 31]) rfl ?_); at_builtin; refine Kd.R_append Kd.string (w0 := w) w.heap.size rfl (.tmp 28) (.tmp 31) 66 9 (.string ⟨#[]⟩) 16 rfl Tryz.underlying66 info9 rfl (by decide) (by omega) u3 x3_1 t105 [.string t105] (fun _ => True) (fun _ => False) rfl rfl ?aP (fun _ hk => hk.elim) ?aF ?aO ?aB ?aS ?aL ?_; (case aP => exact rfl); (case aB => exact (by repeat with_reducible first|exact HB.out|apply ba|apply bN|apply bd|refine below_set ?_ GE101.out|refine below_set ?_ GE104.out)); (case aF => exact (fun _ _ => trivial)); (case aO => exact (by (with_reducible repeat (first | apply Kd.R_alloc | apply Kd.R_drewN | apply Kd.R_drew)); exact HO_3.out)); (case aS => exact (below_size (by repeat with_reducible first|exact HB.out|apply ba|apply bN|apply bd|refine below_set ?_ GE101.out|refine below_set ?_ GE104.out))); (case aL => have := LMc19.out; omega); intro v107 w24 ho hb hg hat; rw [← Ny106.out] at ho; have n0_ := Aside0.mk (blk_grown (g := gb101) (o := .cells #[.int .i64 a0_0, .string a0_1, .int .i64 a0_2, .int .i64 a0_3, .int .i64 a0_4, .slice (some ad103) l0_5.length c0_5] 26 (0, 0)) (by (with_reducible repeat first|refine kN ?_ _|refine kd ?_|refine ka ?_ _); exact BK101.out) hg (Kd.R_ne HO_3.out BK101.out (by decide))); have n1_ := Aside0.mk (blk_grown (g := gb104) (o := .cells #[.int .i64 ((rd_T26 l0_5 x24_1).f0), .string ((rd_T26 l0_5 x24_1).f1), .int .i64 ((rd_T26 l0_5 x24_1).f2.f0), .int .i64 ((rd_T26 l0_5 x24_1).f2.f1), .int .i64 ((rd_T26 l0_5 x24_1).f3), .slice A103_5 ((rd_T26 l0_5 x24_1).f4).length c103_5] 26 (0, 0)) (by (with_reducible repeat first|refine kN ?_ _|refine kd ?_|refine ka ?_ _); exact BK104.out) hg (Kd.R_ne HO_3.out BK104.out (by decide))); have n2_ := Aside0.mk (hb); have n3_ := Aside0.mk (ho); clear BK101; clear BK104; clear HB; clear HO_3; have BK101 := n0_; have BK104 := n1_; have HB := n2_; have HO108 := n3_; clear n0_ n1_ n2_ n3_; clear ho hb hg hat))
                go_roundg k1
                case measure => have := HK1.out; omega
                case rel => exact ⟨(y106), (wrap64 (x24_1 + 1)), (by first|rfl|(simp;done)|(simp [*];done)), H', ⟨by have := HK1.out; omega⟩, ⟨by (with_reducible repeat (first | apply Kd.R_alloc | apply Kd.R_drewN | apply Kd.R_drew)); exact HO108.out⟩, ⟨by (with_reducible repeat first|refine kN ?_ _|refine kd ?_|refine ka ?_ _); exact BK101.out⟩, ⟨by repeat with_reducible first|exact HB.out|apply ba|apply bN|apply bd|refine below_set ?_ GE101.out|refine below_set ?_ GE104.out⟩⟩
              rw [if_neg c19] at H
              exact absurd H (by simp)
            rw [if_neg c17] at H
            exact absurd H (by simp)
          rw [if_neg c16] at H
          exact absurd H (by simp)
        rw [if_neg c15] at H
        have c15b0 : decide (x24_1 < (l0_5.length : Int)) = false := decide_eq_false c15
        clear c15
        replace H := Option.bind_eq_some_iff.mp H
        obtain ⟨t109, A250, H⟩ := H
        replace H : (if 1 + t109.size ≤ 9223372036854775807 then (if ((⟨#[40]⟩ : ByteArray) ++ t109).size + 1 ≤ 9223372036854775807 then (some (((⟨#[40]⟩ : ByteArray) ++ t109) ++ (⟨#[41]⟩ : ByteArray))) else (none)) else (none)) = some r := H
        have A25 := Aside0.mk A250
        clear A250
        by_cases c26 : 1 + t109.size ≤ 9223372036854775807
        · rw [if_pos c26] at H
          have c26b0 := eq_true c26
          have c26b1 : decide (1 + t109.size ≤ 9223372036854775807) = true := decide_eq_true c26
          try have c26b2 : (9223372036854775807 < 1 + t109.size) = False := eq_false (Nat.not_lt.2 c26)
          by_cases c27 : ((⟨#[40]⟩ : ByteArray) ++ t109).size + 1 ≤ 9223372036854775807
          · rw [if_pos c27] at H
            have c27b0 := eq_true c27
            have c27b1 : decide (((⟨#[40]⟩ : ByteArray) ++ t109).size + 1 ≤ 9223372036854775807) = true := decide_eq_true c27
            try have c27b2 : (9223372036854775807 < ((⟨#[40]⟩ : ByteArray) ++ t109).size + 1) = False := eq_false (Nat.not_lt.2 c27)
            try have c27b3 := c27b2
            try simp only [ByteArray.size_append, q1sizeW, q1sizeP] at c27b3
            obtain rfl := Option.some.inj H
            obtain ⟨Ao28, co28, eo28⟩ := Kd.R_slice HO_3.out
            subst eo28
            go_wp2_with (first | ((with_reducible refine gate_callee (f := 27) rfl ?_); refine goesL_ (some 35) rfl rfl Tryz.func27 (by kernel_rfl) rfl #[.slice Ao28 x3_1.length co28, .string (⟨#[44, 32]⟩ : ByteArray)] rfl (by (try simp only [List.map_toArray, List.map_cons, List.map_nil]); first | done | rfl | (simp only [List.length_drop, List.length_take]; rfl) | (simp only [Int.toNat_natCast, ByteArray.extract_zero_size] <;> rfl) | (rw [Int.toNat_natCast, ByteArray.extract_zero_size] <;> rfl)) ?_; (with_reducible refine (Ex.strings_Join.calls _ _ x3_1 (⟨#[44, 32]⟩ : ByteArray) t109 _ ?side1 ?side2 ?side3 A25.out).mono ?_); (case side1 => exact Go.Proofs.YtahjkibjcibpgaaGreatDoor.U.UW.step HGW.out (by repeat with_reducible first|exact HB.out|apply ba|apply bN|apply bd|refine below_set ?_ GE101.out)); (case side2 => repeat (first | exact (Kd.R_reads' HO_3.out).2.2 | (with_reducible refine Kd.C_alloc ?_ _) | (with_reducible refine Kd.C_drewN ?_ _) | (with_reducible refine Kd.C_drew ?_))); (case side3 => exact (Kd.R_reads' HO_3.out).2.1); rintro e w29 ⟨rfl, hb⟩; refine ⟨_, rfl, ?_⟩; have n0_ := Aside0.mk (Kd.R_below (by (with_reducible repeat (first | apply Kd.R_alloc | apply Kd.R_drewN | apply Kd.R_drew)); exact HO_3.out) hb); have n1_ := Aside0.mk (blk_below (g := gb101) (o := .cells #[.int .i64 a0_0, .string a0_1, .int .i64 a0_2, .int .i64 a0_3, .int .i64 a0_4, .slice A0_5 l0_5.length c0_5] 26 (0, 0)) (by (with_reducible repeat first|refine kN ?_ _|refine kd ?_|refine ka ?_ _); exact BK101.out) hb); have n2_ := Aside0.mk (below_step (by repeat with_reducible first|exact HB.out|apply ba|apply bN|apply bd|refine below_set ?_ GE101.out) hb); clear HO_3; clear BK101; clear HB; have HO_3 := n0_; have BK101 := n1_; have HB := n2_; clear n0_ n1_ n2_; (try clear hb); (try clear hb2); (try clear hk); (try clear hi)))
            go_ret
            exact ⟨by first|rfl|(simp<;>rfl)|(simp [*]<;>rfl), by repeat with_reducible first|exact HB.out|apply ba|apply bN|apply bd|refine below_set ?_ GE101.out⟩
          rw [if_neg c27] at H
          exact absurd H (by simp)
        rw [if_neg c26] at H
        exact absurd H (by simp)
  rw [if_neg c12] at H
  have c12b0 : (a0_0 == 6) = false := beq_eq_false_iff_ne.mpr c12
  have c12b1 : (a0_0 != 6) = true := bne_iff_ne.mpr c12
  obtain rfl := Option.some.inj H
  go_enter Tryz.func19, Tryz.ntmps19
  go_wp2_with (first | ((with_reducible refine gate_dst (N := 1) rfl ?_); refine box_event ?hg (N := 1) ?hd (cs := #[.int .i64 a0_0, .string a0_1, .int .i64 a0_2, .int .i64 a0_3, .int .i64 a0_4, .slice A0_5 l0_5.length c0_5]) (t := 26) ?hr ?_; (case hd => rfl); (case hg => rfl); (case hr => first | (go_simp; done) | (go_simp; rfl)); intro gb101 hg w30 hbox hb; have n0_ := Aside0.mk (below_step (by repeat with_reducible first|exact HB.out|apply ba|apply bN|apply bd) hb); have n1_ := Aside0.mk (hbox); have n2_ := Aside0.mk ((by rw [hg]; exact (below_size (by repeat with_reducible first|exact HB.out|apply ba|apply bN|apply bd)) : w.heap.size ≤ gb101)); have n3_ := Aside0.mk ((by rw [hg]; exact (below_size (by repeat with_reducible first|exact HB.out|apply ba|apply bN|apply bd)) : w.heap.size ≤ gb101)); clear HB; have HB := n0_; have BK101 := n1_; have GW101 := n2_; have GE101 := n3_; clear n0_ n1_ n2_ n3_; clear hb hbox hg; obtain ⟨hcz31_0, hcz31_1, hcz31_2, hcz31_3, hcz31_4, hcz31_5, hfz31_0, hfz31_1, hfz31_2, hfz31_3, hfz31_4, hfz31_5⟩ := cl6 BK101.out))
  go_ret
  exact ⟨by first|rfl|(simp<;>rfl)|(simp [*]<;>rfl), by repeat with_reducible first|exact HB.out|apply ba|apply bN|apply bd|refine below_set ?_ GE101.out⟩
end Go.Proofs.YtahjkibjcibpgaaGreatDoor.PTr
end
section
namespace Go.Proofs.YtahjkibjcibpgaaGreatDoor.L
open Go.RowKit Go.Shelf Go.Lib Go.Proofs.YtahjkibjcibpgaaGreatDoor.U
open Go.Proofs.YtahjkibjcibpgaaGreatDoorW Go.Proofs.YtahjkibjcibpgaaGreatDoorW.PrintWords
section
variable (k : Nat)
def wv (v : PTr.S26) : Option ByteArray := PTr.tree_write.f k v.f0 v.f1 v.f2.f0 v.f2.f1 v.f3 v.f4
def strsW : List PTr.S26 → Option (List UInt8)
  | [] => some []
  | v :: r => (wv k v).bind fun t => (strsW r).bind fun u => some ((32 :: t.data.toList) ++ u)
def propW (p : PTr.S26) : Option (List UInt8) := (strsW k p.f4).bind fun u => some ((32 :: 32 :: p.f1.data.toList) ++ (u ++ [59, 10]))
def propsW : List PTr.S26 → Option (List UInt8)
  | [] => some []
  | p :: r => (propW k p).bind fun t => (propsW r).bind fun u => some (t ++ u)
def wordsW : List PTr.S26 → Option (List UInt8 × List PTr.S26)
  | [] => some ([], [])
  | v :: r => if v.f0 = 2 then some ([], v :: r) else (wv k v).bind fun t => (wordsW r).bind fun x => some ((32 :: t.data.toList) ++ x.1, x.2)
def declW (d : PTr.S26) : Option (List UInt8) := (wordsW k d.f4).bind fun x => (propsW k x.2).bind fun u => some (d.f1.data.toList ++ (x.1 ++ ([32, 123, 10] ++ (u ++ [125, 10]))))
def declsW : List PTr.S26 → Option (List UInt8)
  | [] => some []
  | d :: r => (declW k d).bind fun t => (declsW r).bind fun u => some (t ++ u)
def rootW (n : PTr.S26) : Option (List UInt8) := (PTr.tree_Right.f k n.f0 n.f1 n.f2.f0 n.f2.f1 n.f3 n.f4).bind fun ok => if ok = true then declsW k n.f4 else some []
end
theorem drop_cons {l : List PTr.S26} {i : Nat} (h : i < l.length) : l.drop i = PTr.rd_T26 l (i : Int) :: l.drop (i + 1) := by
  rw [List.drop_eq_getElem_cons h]
  unfold PTr.rd_T26
  rw [Int.toNat_natCast, List.getD_eq_getElem?_getD, List.getElem?_eq_getElem h]
  rfl
theorem bld_below {T e : TypeId} {B b : Nat} {bs : List Value} {W W' : World} (h : Lib.IsBuilderF T e B b bs W) (hb : Below W.heap.size W W') : Lib.IsBuilderF T e B b bs W' := by
  have key : ∀ p, Lib.BuilderAtF T e B b p bs W → Lib.BuilderAtF T e B b p bs W' := by
    intro p hp
    obtain ⟨q1, u, q2, q3, q4⟩ := hp
    refine ⟨q1, u, blk_below q2 hb, ⟨q3.1, ?_⟩, q4⟩
    rcases q3.2 with hv | ⟨gg, cap, cur, fz, e1, e2, e3, e4⟩
    · exact .inl hv
    · exact .inr ⟨gg, cap, cur, fz, e1, e2, (hb.block gg (blk_lt e3)).trans e3, e4⟩
  exact h.elim (fun x => .inl (key _ x)) (fun x => .inr (key _ x))
structure BW (w : World) (b : Nat) (txt : List UInt8) (bl : List (Nat × Array Value)) (W : World) : Prop where
  bw : Below w.heap.size w W
  hb : w.heap.size ≤ b
  bld : Lib.IsBuilderF 50 5 w.heap.size b (Lib.byteCells txt) W
  blk : ∀ x ∈ bl, W.heap[x.1]? = some (.cells x.2 26 (0, 0)) ∧ x.1 ≠ b ∧ w.heap.size ≤ x.1
section
variable {w : World} {b : Nat} {txt : List UInt8} {bl : List (Nat × Array Value)} {W W' : World}
theorem BW.below (h : BW w b txt bl W) (hb : Below W.heap.size W W') : BW w b txt bl W' :=
  ⟨below_step h.bw hb, h.hb, bld_below h.bld hb, fun x hx => ⟨blk_below (h.blk x hx).1 hb, (h.blk x hx).2⟩⟩
theorem BW.alloc (h : BW w b txt bl W) (cs : Array Value) : BW w b txt ((W.heap.size, cs) :: bl) (W.alloc (.cells cs 26)) := by
  have h2 := h.below ((Below.refl W.heap.size W).alloc (Nat.le_refl _) (.cells cs 26))
  refine ⟨h2.bw, h2.hb, h2.bld, fun x hx => ?_⟩
  rcases List.mem_cons.1 hx with rfl | hx
  · refine ⟨World.alloc_heap_new W _, fun e => ?_, h.bw.size⟩
    have e : W.heap.size = b := e
    rcases h.bld with ⟨_, v, hb, _⟩ | ⟨_, v, hb, _⟩ <;> exact absurd (blk_lt hb) (by omega)
  · exact h2.blk x hx
theorem BW.allocAt (h : BW w b txt bl W) {g : Nat} (hg : W.heap.size = g) (cs : Array Value) : BW w b txt ((g, cs) :: bl) (W.alloc (.cells cs 26)) := by subst hg; exact h.alloc cs
theorem BW.set {g : Nat} {cs : Array Value} (h : BW w b txt ((g, cs) :: bl) W) (hn : ∀ x ∈ bl, x.1 ≠ g) (j : Nat) (v : Value) : BW w b txt ((g, cs.setIfInBounds j v) :: bl) (W.setCell ⟨g, j, none⟩ v) := by
  obtain ⟨h1, h2, h3⟩ := h.blk _ List.mem_cons_self
  refine ⟨h.bw.setCell (p := ⟨g, j, none⟩) h3 _, h.hb, ?_, fun x hx => ?_⟩
  · have hset : ∀ p, Lib.BuilderAtF 50 5 w.heap.size b p (Lib.byteCells txt) W → Lib.BuilderAtF 50 5 w.heap.size b p (Lib.byteCells txt) (W.setCell ⟨g, j, none⟩ v) := by
      intro p hp
      obtain ⟨q1, u, q2, q3, q4⟩ := hp
      refine ⟨q1, u, blk_far q2 (p := ⟨g, j, none⟩) (Ne.symm h2) v, ?_, q4⟩
      refine ⟨q3.1, ?_⟩
      rcases q3.2 with hv | ⟨gg, cap, cur, fz, e1, e2, e3, e4⟩
      · exact .inl hv
      · refine .inr ⟨gg, cap, cur, fz, e1, e2, ?_, e4⟩
        rw [Below.heap_setCell W ⟨g, j, none⟩ v gg (fun e => ?_)]
        · exact e3
        · subst e
          have h1 : W.heap[gg]? = some (.cells cs 26 (0, 0)) := h1
          rw [h1] at e3
          injection e3 with e3
          injection e3 with _ e3
          cases e3
    exact h.bld.elim (fun x => .inl (hset _ x)) (fun x => .inr (hset _ x))
  · rcases List.mem_cons.1 hx with rfl | hx
    · exact ⟨blk_set h1 j v, h2, h3⟩
    · exact ⟨blk_far (h.blk x (List.mem_cons_of_mem _ hx)).1 (p := ⟨g, j, none⟩) (hn x hx) v, (h.blk x (List.mem_cons_of_mem _ hx)).2⟩
theorem BW.forget (h : BW w b txt bl W) : BW w b txt [] W := ⟨h.bw, h.hb, h.bld, fun x hx => by simp at hx⟩
theorem BW.write (h : BW w b txt bl W) {s : ByteArray} (h1 : Lib.BuilderAtF 50 5 w.heap.size b (.pointer (some ⟨b, 0, none⟩)) (Lib.byteCells txt ++ Lib.strCells s) W') (h2 : Below w.heap.size W W') (h3 : Lib.OthersKept 5 (some b) W W') : BW w b (txt ++ s.data.toList) bl W' := by
  refine ⟨h.bw.trans h2, h.hb, .inr ?_, fun x hx => ⟨?_, (h.blk x hx).2⟩⟩
  · rw [Lib.byteCells_append]; exact h1
  · obtain ⟨q1, q2, q3⟩ := h.blk x hx
    exact h3 x.1 _ q1 (fun e => q2 (by injection e)) (fun c fz e => by injection e with _ e; cases e)
end
end Go.Proofs.YtahjkibjcibpgaaGreatDoor.L
end
