/- What this claim's texts prove on the way, joined by program (wip/tools/merge.py), without what no text of the claim names. -/
import Derived.Test.YtahjkibjcibpgaaGreatDoorMR3
import Derived.Shelf.Strings.BuilderK
section
namespace Go.Proofs.YtahjkibjcibpgaaGreatDoor.L
open Go.RowKit Go.Shelf Go.Lib Go.Proofs.YtahjkibjcibpgaaGreatDoor.U
open Go.Proofs.YtahjkibjcibpgaaGreatDoorW Go.Proofs.YtahjkibjcibpgaaGreatDoorW.PrintWords Go.Proofs.YtahjkibjcibpgaaGreatDoorW.PrintLast
theorem add0 (b k : Nat) : (Addr.add ⟨b, 0, none⟩ k : Addr) = ⟨b, k, none⟩ := by
  simp only [Addr.add]
  split
  · rename_i h
    simp_all
  · simp
structure SP (T : List PTr.S41) (tv : Value) (B base j : Nat) (w : World) (v5 : Value) (W : World) : Prop where
  uw : UW w
  bl : Below w.heap.size w W
  bB : W.heap[B]? = some (.cells #[tv, .int .i64 (j : Int), .int .i64 0] 60 (0, 0))
  row : PTr.k41.R 41 W base (fun k => k < B) tv T
  lt : j < T.length
  hn : W.heap[w.heap.size]? = some (.cells #[.int .i64 0, .string ⟨#[]⟩, .int .i64 0, .int .i64 0, .int .i64 0, v5] 26 (0, 0))
  he : W.heap[w.heap.size + 1]? = some (.cells #[.int .i64 0] 31 (0, 0))
  ha : W.heap[w.heap.size + 1 + 1]? = some (.cells #[.int .i64 0] 3 (0, 0))
  hB : w.heap.size + 1 + 1 < B
  hb : w.heap.size < base
section
variable {T : List PTr.S41} {tv : Value} {B base j : Nat} {w : World} {v5 : Value} {W : World}
theorem SP.pw (h : SP T tv B base j w v5 W) : PW T tv B base j 0 W := ⟨h.bB, Kd.R_mono h.row (fun _ hk => Nat.ne_of_lt hk), h.lt⟩
theorem SP.ub (h : SP T tv B base j w v5 W) : UB B W := ⟨w, h.uw, by have := h.hB; omega, h.bl⟩
theorem SP.step (h : SP T tv B base j w v5 W) {j' : Nat} {W' : World} (hp : PW T tv B base j' 0 W') (hg : W.grownBy W' (some B)) : SP T tv B base j' w v5 W' := by
  have hB := h.hB
  exact ⟨h.uw, h.bl.grown hg h.bl.size (fun k e => by cases e; omega), hp.blk, Kd.R_grown h.row hg (fun k hk e => by injection e with e; omega), hp.lt,
    blk_grown h.hn hg (fun e => by injection e with e; omega), blk_grown h.he hg (fun e => by injection e with e; omega), blk_grown h.ha hg (fun e => by injection e with e; omega), hB, h.hb⟩
theorem SP.below (h : SP T tv B base j w v5 W) {W' : World} (hb : Below W.heap.size W W') : SP T tv B base j w v5 W' := h.step (h.pw.below hb) (gb_below hb)
theorem SP.drew (h : SP T tv B base j w v5 W) : SP T tv B base j w v5 W.drew := h.below (below_drew (Below.refl _ _))
theorem SP.alloc (h : SP T tv B base j w v5 W) (o : Obj) : SP T tv B base j w v5 (W.alloc o) := h.below ((Below.refl W.heap.size W).alloc (Nat.le_refl _) o)
theorem SP.app (h : SP T tv B base j w v5 W) {W' : World} {row : Option Nat} (hg : W.grownBy W' row) (hv : ∀ k, row = some k → B < k) : SP T tv B base j w v5 W' := by
  have hB := h.hB
  exact ⟨h.uw, h.bl.grown hg h.bl.size (fun k e => by have := hv k e; omega), blk_grown h.bB hg (fun e => by have := hv _ e.symm; omega), Kd.R_grown h.row hg (fun k hk e => by have := hv _ e.symm; omega), h.lt,
    blk_grown h.hn hg (fun e => by have := hv _ e.symm; omega), blk_grown h.he hg (fun e => by have := hv _ e.symm; omega), blk_grown h.ha hg (fun e => by have := hv _ e.symm; omega), hB, h.hb⟩
theorem SP.set5 (h : SP T tv B base j w v5 W) (v : Value) : SP T tv B base j w v (W.setCell ⟨w.heap.size, 5, none⟩ v) := by
  have hB := h.hB
  exact ⟨h.uw, h.bl.setCell (p := ⟨w.heap.size, 5, none⟩) (Nat.le_refl _) _, blk_far h.bB (p := ⟨w.heap.size, 5, none⟩) (by show B ≠ w.heap.size; omega) _,
    Kd.R_mono (Kd.R_far (p := ⟨w.heap.size, 5, none⟩) (Kd.R_bound h.row) (fun k hk e => by have := hk.2.1; have := h.hb; have e : k = w.heap.size := e; omega) _) (fun _ hk => hk.1), h.lt,
    blk_set h.hn 5 v, blk_far h.he (p := ⟨w.heap.size, 5, none⟩) (by show w.heap.size + 1 ≠ w.heap.size; omega) _, blk_far h.ha (p := ⟨w.heap.size, 5, none⟩) (by show w.heap.size + 1 + 1 ≠ w.heap.size; omega) _, hB, h.hb⟩
theorem SP.n5 (h : SP T tv B base j w v5 W) : W.cell? ⟨w.heap.size, 5, none⟩ = some v5 := blk_cell h.hn 5
theorem SP.cells (h : SP T tv B base j w v5 W) :
    W.cell? ⟨w.heap.size, 0, none⟩ = some (.int .i64 0) ∧ W.cell? ⟨w.heap.size, 1, none⟩ = some (.string ⟨#[]⟩) ∧ W.cell? ⟨w.heap.size, 2, none⟩ = some (.int .i64 0) ∧ W.cell? ⟨w.heap.size, 3, none⟩ = some (.int .i64 0) ∧ W.cell? ⟨w.heap.size, 4, none⟩ = some (.int .i64 0) ∧ W.cell? ⟨w.heap.size, 5, none⟩ = some v5 ∧
    (∀ j, W.frozen? ⟨w.heap.size, j, none⟩ = false) ∧ W.cell? ⟨w.heap.size + 1, 0, none⟩ = some (.int .i64 0) ∧ (∀ j, W.frozen? ⟨w.heap.size + 1, j, none⟩ = false) ∧ W.cell? ⟨w.heap.size + 1 + 1, 0, none⟩ = some (.int .i64 0) ∧ (∀ j, W.frozen? ⟨w.heap.size + 1 + 1, j, none⟩ = false) :=
  ⟨blk_cell h.hn 0, blk_cell h.hn 1, blk_cell h.hn 2, blk_cell h.hn 3, blk_cell h.hn 4, blk_cell h.hn 5, blk_frozen h.hn, blk_cell h.he 0, blk_frozen h.he, blk_cell h.ha 0, blk_frozen h.ha⟩
theorem SP.fin (h : SP T tv B base j w v5 W) {ks : List PTr.S26} (hk : PTr.k26.R 26 W (B + 1) (fun _ => True) v5 ks) {Z : World} (hZ : Z = ((((((((W.setCell ⟨w.heap.size, 0, none⟩ (.int .i64 0)).setCell ⟨w.heap.size, 1, none⟩ (.string ⟨#[]⟩)).setCell ⟨w.heap.size, 2, none⟩ (.int .i64 0)).setCell ⟨w.heap.size, 3, none⟩ (.int .i64 0)).setCell ⟨w.heap.size, 4, none⟩ (.int .i64 0)).setCell ⟨w.heap.size, 5, none⟩ (v5)).setCell ⟨w.heap.size + 1, 0, none⟩ (.int .i64 0)).setCell ⟨w.heap.size + 1 + 1, 0, none⟩ (.int .i64 0))) :
    Z.heap[w.heap.size]? = some (.cells #[.int .i64 0, .string ⟨#[]⟩, .int .i64 0, .int .i64 0, .int .i64 0, v5] 26 (0, 0)) ∧ Z.heap[w.heap.size + 1]? = some (.cells #[.int .i64 0] 31 (0, 0)) ∧ Z.heap[w.heap.size + 1 + 1]? = some (.cells #[.int .i64 0] 3 (0, 0)) ∧
      PTr.k26.R 26 Z w.heap.size (fun _ => True) v5 ks ∧ Below w.heap.size w Z := by
  have hB := h.hB
  subst hZ
  refine ⟨?_, ?_, ?_, ?_, ?_⟩
  · exact blk_far (blk_far (blk_set (blk_set (blk_set (blk_set (blk_set (blk_set h.hn 0 _) 1 _) 2 _) 3 _) 4 _) 5 _) (p := ⟨w.heap.size + 1, 0, none⟩) (by simp <;> omega) _) (p := ⟨w.heap.size + 1 + 1, 0, none⟩) (by simp <;> omega) _
  · exact blk_far (blk_set (blk_far (blk_far (blk_far (blk_far (blk_far (blk_far h.he (p := ⟨w.heap.size, 0, none⟩) (by simp <;> omega) _) (p := ⟨w.heap.size, 1, none⟩) (by simp <;> omega) _) (p := ⟨w.heap.size, 2, none⟩) (by simp <;> omega) _) (p := ⟨w.heap.size, 3, none⟩) (by simp <;> omega) _) (p := ⟨w.heap.size, 4, none⟩) (by simp <;> omega) _) (p := ⟨w.heap.size, 5, none⟩) (by simp <;> omega) _) 0 _) (p := ⟨w.heap.size + 1 + 1, 0, none⟩) (by simp <;> omega) _
  · exact blk_set (blk_far (blk_far (blk_far (blk_far (blk_far (blk_far (blk_far h.ha (p := ⟨w.heap.size, 0, none⟩) (by simp <;> omega) _) (p := ⟨w.heap.size, 1, none⟩) (by simp <;> omega) _) (p := ⟨w.heap.size, 2, none⟩) (by simp <;> omega) _) (p := ⟨w.heap.size, 3, none⟩) (by simp <;> omega) _) (p := ⟨w.heap.size, 4, none⟩) (by simp <;> omega) _) (p := ⟨w.heap.size, 5, none⟩) (by simp <;> omega) _) (p := ⟨w.heap.size + 1, 0, none⟩) (by simp <;> omega) _) 0 _
  · exact Kd.R_lower (kidsSet (kidsSet (kidsSet (kidsSet (kidsSet (kidsSet (kidsSet (kidsSet hk (by omega) 0 _) (by omega) 1 _) (by omega) 2 _) (by omega) 3 _) (by omega) 4 _) (by omega) 5 _) (b := w.heap.size + 1) (by omega) 0 _) (b := w.heap.size + 1 + 1) (by omega) 0 _) (by omega)
  · exact (((((((h.bl.setCell (p := ⟨w.heap.size, 0, none⟩) (by simp) _).setCell (p := ⟨w.heap.size, 1, none⟩) (by simp) _).setCell (p := ⟨w.heap.size, 2, none⟩) (by simp) _).setCell (p := ⟨w.heap.size, 3, none⟩) (by simp) _).setCell (p := ⟨w.heap.size, 4, none⟩) (by simp) _).setCell (p := ⟨w.heap.size, 5, none⟩) (by simp) _).setCell (p := ⟨w.heap.size + 1, 0, none⟩) (by simp) _).setCell (p := ⟨w.heap.size + 1 + 1, 0, none⟩) (by simp; omega) _
end
def Thrown (w W' : World) : Prop := (∃ cn : Array Value, cn.size = 6 ∧ W'.heap[w.heap.size]? = some (.cells cn 26 (0, 0))) ∧ W'.heap[w.heap.size + 1]? = some (.cells #[.int .i64 0] 31 (0, 0)) ∧ W'.heap[w.heap.size + 1 + 1]? = some (.cells #[.int .i64 0] 3 (0, 0)) ∧ Below w.heap.size w W'
theorem SP.thrown {T : List PTr.S41} {tv : Value} {B base j : Nat} {w : World} {v5 : Value} {W W' : World} (h : SP T tv B base j w v5 W) (hg : W.grownBy W' (some B)) : Thrown w W' := by
  have hB := h.hB
  exact ⟨⟨_, rfl, blk_grown h.hn hg (fun e => by injection e with e; omega)⟩, blk_grown h.he hg (fun e => by injection e with e; omega), blk_grown h.ha hg (fun e => by injection e with e; omega), h.bl.grown hg h.bl.size (fun k e => by cases e; omega)⟩
structure FP (T : List PTr.S41) (tv : Value) (B base j : Nat) (w : World) (v5 : Value) (ks : List PTr.S26) (v : PTr.S26) (M H : Nat) (v6 : Value) (Z : World) : Prop where
  sp : SP T tv B base j w v5 Z
  kr : PTr.k26.R 26 Z (B + 1) (fun _ => True) v5 ks
  old : ∀ k, v5.ownBlock = some k → k < M
  new : PTr.k26.R 26 Z M (fun k => k ≠ H) v6 v.f4
  hH : Z.heap[H]? = some (.cells zero26 26 (0, 0))
  hM : B + 1 ≤ M
  hMH : M ≤ H
section
variable {T : List PTr.S41} {tv : Value} {B base j j' : Nat} {w : World} {v5 v6 : Value} {W W' : World} {ks : List PTr.S26} {v : PTr.S26}
theorem FP.call_build (h : SP T tv B base j w v5 W) (hk : PTr.k26.R 26 W (B + 1) (fun _ => True) v5 ks) (hr : PTr.k26.R 26 W' W.heap.size (fun _ => True) v6 v.f4) (hp : PW T tv B base j' 0 W') (hg : W.grownBy W' (some B)) :
    FP T tv B base j' w v5 ks v W.heap.size W'.heap.size v6 (W'.alloc (.cells zero26 26)) :=
  ⟨(h.step hp hg).alloc _, Kd.R_alloc (kidsR hk (Nat.lt_succ_self _) hg) _, Kd.R_lt hk, Kd.R_mono (Kd.R_alloc (Kd.R_bound hr) _) (fun k hk => by have := hk.2.2.1; omega), World.alloc_heap_new _ _, blk_lt h.bB, hg.size⟩
theorem FP.build_call (h : SP T tv B base j w v5 W) (hk : PTr.k26.R 26 W (B + 1) (fun _ => True) v5 ks) (hr : PTr.k26.R 26 W' (W.alloc (.cells zero26 26)).heap.size (fun _ => True) v6 v.f4) (hp : PW T tv B base j' 0 W') (hg : (W.alloc (.cells zero26 26)).grownBy W' (some B)) :
    FP T tv B base j' w v5 ks v W.heap.size W.heap.size v6 W' := by
  rw [World.size_alloc] at hr
  have hB := blk_lt h.bB
  exact ⟨(h.alloc _).step hp hg, kidsR (Kd.R_alloc hk _) (Nat.lt_succ_self _) hg, Kd.R_lt hk, Kd.R_mono (Kd.R_lower (Kd.R_bound hr) (Nat.le_succ _)) (fun k hk => by have := hk.2.1; omega), blk_grown (World.alloc_heap_new _ _) hg (fun e => by injection e with e; omega), hB, Nat.le_refl _⟩
theorem FP.reads {M H : Nat} {Z : World} (h : FP T tv B base j w v5 ks v M H v6 Z) : ReadsRow (fun x cs => x = PTr.z26 ∧ cs = zero26.toList) PTr.k26.sz Z (some ⟨H, 0, none⟩) 1 [PTr.z26] := by
  refine ⟨rfl, by decide, fun _ => ⟨_, rfl, fun i p hi => ?_⟩⟩
  match i, hi with
  | 0, hi =>
    injection hi with hi
    refine ⟨zero26.toList, rfl, ⟨hi.symm, rfl⟩, fun i u hu => ?_⟩
    have hc := blk_cell h.hH i
    rw [show (Addr.add ⟨H, 0, none⟩ (0 * PTr.k26.sz + i) : Addr) = ⟨H, i, none⟩ by rw [add0, Nat.zero_mul, Nat.zero_add], hc]
    rw [← hu]
    simp
  | i + 1, hi => simp at hi
theorem FP.newrow {M H : Nat} {Z Z4 : World} (h : FP T tv B base j w v5 ks v M H v6 Z) (hg : Z.grownBy Z4 v5.ownBlock) {g : Nat} (hat : some g = v5.ownBlock ∨ Z.heap.size ≤ g) : PTr.k26.R 26 Z4 M (fun k => k ≠ g) v6 v.f4 := by
  refine Kd.R_mono (Kd.R_grown (Kd.R_bound h.new) hg (fun k hk e => by have := h.old k e.symm; have := hk.2.1; omega)) (fun k hk e => ?_)
  subst e
  rcases hat with hat | hat
  · have := h.old k hat.symm; have := hk.2.1; omega
  · have := hk.2.2.1; omega
end
theorem elem_set {B M g cap m : Nat} {W : World} {ks : List PTr.S26} {v : PTr.S26} {v6 : Value} (hrow : PTr.k26.R 26 W M (fun k => k ≠ g) v6 v.f4) (hM : B + 1 ≤ M) (hr : PTr.k26.R 26 W (B + 1) (fun _ => True) (.slice (some ⟨g, 0, none⟩) m cap) (ks ++ [PTr.z26])) :
    PTr.k26.R 26 (W.setCells g (ks.length * 6) [.int .i64 v.f0, .string v.f1, .int .i64 v.f2.f0, .int .i64 v.f2.f1, .int .i64 v.f3, v6]) (B + 1) (fun _ => True) (.slice (some ⟨g, 0, none⟩) m cap) (ks ++ [v]) ∧
      W.grownBy (W.setCells g (ks.length * 6) [.int .i64 v.f0, .string v.f1, .int .i64 v.f2.f0, .int .i64 v.f2.f1, .int .i64 v.f3, v6]) (some g) ∧ B < g ∧ (∃ cur, W.heap[g]? = some (.cells cur 26 (0, 0)) ∧ ks.length * 6 + 6 ≤ cur.size) ∧ m = ks.length + 1 := by
  obtain ⟨hm, hmc, hC⟩ := Kd.R_reads' hr
  have hlen : (ks ++ [PTr.z26]).length = ks.length + 1 := by simp
  obtain ⟨ad, c, e1, e2, _, e3⟩ := ReadsRow.get_ hC PTr.z26 (ks.length : Int) (by omega) (by rw [hlen]; omega)
  injection e1 with e1
  subst e1
  have hs := Kd.R_seg hr (ks.length : Int) (by omega) (by rw [hm, hlen]; omega) (c := c) (seg := [.int .i64 v.f0, .string v.f1, .int .i64 v.f2.f0, .int .i64 v.f2.f1, .int .i64 v.f3, v6]) (j := 0) e2
    (fun i u hu => by have := e3 i u hu; rw [add0] at this; simpa using this) (by rw [Nat.zero_add]; exact Nat.le_refl 6) (x' := v) (okp := fun k => k ≠ g) (by
      rw [show c.take 0 ++ [.int .i64 v.f0, .string v.f1, .int .i64 v.f2.f0, .int .i64 v.f2.f1, .int .i64 v.f3, v6] ++ c.drop (0 + [Value.int .i64 v.f0, .string v.f1, .int .i64 v.f2.f0, .int .i64 v.f2.f1, .int .i64 v.f3, v6].length) = [.int .i64 v.f0, .string v.f1, .int .i64 v.f2.f0, .int .i64 v.f2.f1, .int .i64 v.f3, v6] by
        rw [List.drop_eq_nil_of_le (by rw [e2, Nat.zero_add]; exact Nat.le_refl 6)]; simp]
      exact PTr.k26_mkM _ _ _ _ (Kd.R_lower hrow hM)) (fun k hk => ⟨trivial, hk⟩)
  rw [Int.toNat_natCast, show ks.length * PTr.k26.sz + 0 = ks.length * 6 from rfl, show (ks ++ [PTr.z26]).set ks.length v = ks ++ [v] by simp] at hs
  obtain ⟨g', cap', ev, _, _, cur, hcur⟩ := Kd.R_form hr (by simp)
  injection ev with ev
  injection ev with ev
  injection ev with ev
  subst ev
  refine ⟨hs.1, hs.2, by have := Kd.R_base hr g rfl; omega, ⟨cur, hcur, ?_⟩, by rw [hm, hlen]⟩
  have e6 : c.length = 6 := e2
  have h5 := e3 5 c[5] (List.getElem?_eq_getElem (by omega))
  rw [add0, blk_cell hcur, Int.toNat_natCast] at h5
  have := (Array.getElem?_eq_some_iff.1 h5).1
  have e7 : ks.length * PTr.k26.sz = ks.length * 6 := rfl
  omega
theorem store26 {oi : Oper} {ev : Operand → Value} {W : World} {g o : Nat} {cur : Array Value} {p x : Operand} {c0 c1 c2 c3 c4 c5 : Value} (hop : oi.op = .store 26 p x) (hp : ev p = .pointer (some ⟨g, o, none⟩)) (hx : ev x = .agg #[c0, c1, c2, c3, c4, c5])
    (hh : W.heap[g]? = some (.cells cur 26 (0, 0))) (hfit : o + 6 ≤ cur.size) (h1 : ∀ q ∈ [c0, c1, c2, c3, c4, c5], q.oneCell' = true) : (execOp ev oi).run Tryz.prog W = .ok .skip (W.setCells g o [c0, c1, c2, c3, c4, c5]) := by
  have h := run_store_run (P := Tryz.prog) 26 (.agg #[c0, c1, c2, c3, c4, c5]) [c0, c1, c2, c3, c4, c5] hh rfl info26 hfit h1
  unfold execOp
  simp [hop, hp, hx, h]
def PQ (p2 p3 p4 : Value) (ds : List Deferred) (F : List PanicEntry → World → Prop) (Q : Exit → Act → World → Prop) : Exit → Act → World → Prop
  | .panic c, a, w => F c w ∧ a.tmps.getD 2 undef = p2 ∧ a.tmps.getD 3 undef = p3 ∧ a.tmps.getD 4 undef = p4 ∧ a.defers = ds
  | e, a, w => Q e a w
theorem getD_set (a : Array Value) (i j : Nat) (v d : Value) (h : i ≠ j) : (a.setIfInBounds i v).getD j d = a.getD j d := by
  simp only [Array.getD_eq_getD_getElem?, Array.getElem?_setIfInBounds_ne h]
theorem PQ.put {p2 p3 p4 : Value} {ds : List Deferred} {F : List PanicEntry → World → Prop} {Q : Exit → Act → World → Prop} (i : Nat) (h : 5 ≤ i) (v : Value) (c : List PanicEntry) (a : Act) (w : World)
    (hh : PQ p2 p3 p4 ds F Q (.panic c) (a.put (some i) v) w) : PQ p2 p3 p4 ds F Q (.panic c) a w := by
  obtain ⟨h1, h2, h3, h4, h5⟩ := hh
  unfold Act.put at h2 h3 h4 h5
  simp only at h2 h3 h4 h5
  rw [getD_set _ _ _ _ _ (by omega)] at h2 h3 h4
  exact ⟨h1, h2, h3, h4, h5⟩
theorem PQ.imp {p2 p3 p4 : Value} {ds : List Deferred} {F : List PanicEntry → World → Prop} {Q : Exit → Act → World → Prop} (hp : ∀ c (a : Act) w, F c w → a.tmps.getD 2 undef = p2 → a.tmps.getD 3 undef = p3 → a.tmps.getD 4 undef = p4 → a.defers = ds → Q (.panic c) a w) :
    ∀ e a w, PQ p2 p3 p4 ds F Q e a w → Q e a w := fun e a w h => by
  cases e with
  | panic c => exact hp c a w h.1 h.2.1 h.2.2.1 h.2.2.2.1 h.2.2.2.2
  | _ => exact h
section
variable {P : Program} {ops : Array Oper} {Q : Exit → Act → World → Prop} {md : Region.Mode} {S : World → Prop} {ds : List Nat}
theorem twoL_ {i j : Nat} {Ni Nj : Option Tmp} {oi oj : Oper} {fuel : Nat} {l : Array Bool} {a : Act} {w : World} (li lj : Array Bool) (hi : ops[i]? = some oi) (hj : ops[j]? = some oj) (hNi : oi.dst = Ni) (hNj : oj.dst = Nj)
    (hc : (Region.ready md ops l == [i, j] && l.setIfInBounds i true == li && l.setIfInBounds j true == lj) = true) (hdi : i ∈ ds) (hdj : j ∈ ds)
    (h1 : ∀ K : Act → World → Prop, Shut (∀ a' w', wpAnyLast P md ops Q S ds fuel li a' w' → K a' w') → if Region.wanted oi (yielded ops a.tmps) = true then Oper.wp P oi a w K Q else K (a.put Ni undef) w)
    (h2 : ∀ K : Act → World → Prop, Shut (∀ a' w', wpAnyLast P md ops Q S ds fuel lj a' w' → K a' w') → if Region.wanted oj (yielded ops a.tmps) = true then Oper.wp P oj a w K Q else K (a.put Nj undef) w) :
    wpAnyLast P md ops Q S ds (fuel + 1) l a w := by
  subst hNi
  subst hNj
  simp only [Bool.and_eq_true, beq_iff_eq] at hc
  obtain ⟨⟨h3, h4⟩, h5⟩ := hc
  subst h4
  subst h5
  exact wpAnyLast_ready h3 (by simp) (AllReadyL.cons_last hi hdi (fun K hK => h1 K hK) (AllReadyL.cons_last hj hdj (fun K hK => h2 K hK) AllReadyL.nil))
end
end Go.Proofs.YtahjkibjcibpgaaGreatDoor.L
end
section
namespace Go.Proofs.YtahjkibjcibpgaaGreatDoor.L
open Go.RowKit Go.Shelf Go.Lib Go.Proofs.YtahjkibjcibpgaaGreatDoor.U
open Go.Proofs.YtahjkibjcibpgaaGreatDoorW Go.Proofs.YtahjkibjcibpgaaGreatDoorW.PrintWords Go.Proofs.YtahjkibjcibpgaaGreatDoorW.PrintLast
attribute [local go_sem] Oper.semAt_some
attribute [local go_sem ↓] Go.wp_at_zero Go.wp_at_succ
set_option maxRecDepth 100000 in
set_option maxHeartbeats 1000000 in
theorem parse_main (s : ByteArray) (T : List PTr.S41) (hsc : Ex.lex_Scan.f s = some (T, (0 : Int), (0 : Int))) (n0 : Nat) (hT : Tk T n0) (g : PR (List PTr.S26)) (hr : RL T 0 [] g) (w : World) (hg : UW w) :
    Calls Tryz.prog 12 #[.string s] w (PFin w (PRes g)) := by
  have hmf : ∀ (fn : Fn) (first cap : Array Value) (w : World), (Instr.makeFunc fn first cap).run Tryz.prog w = .ok (.func fn first cap) w := fun _ _ _ _ => rfl
  have HS := Lib.hid hsc
  have HG := Lib.hid hg
  have HTT := Lib.hid hT
  have HR := Lib.hid hr
  clear hsc hT hr hg
  have H3 := Lib.hid (boxes3 w)
  go_enter_defers Tryz.func12, Tryz.ntmps12
  go_wp2_with (first
    | (go_at_call 14; go_loud (refine (Ex.lex_Scan.calls s _ _ _ (W3 w) (HG.out.step H3.out.1) HS.out).mono ?_; rintro e w1 ⟨v0, rfl, hR, hb⟩; have hn := blk_below H3.out.2.1 hb; have he := blk_below H3.out.2.2.1 hb; have ha := blk_below H3.out.2.2.2.1 hb; have HN := Lib.hid hn; have HE := Lib.hid he; have HA := Lib.hid ha; have HB := Lib.hid (below_step H3.out.1 hb); have HT := Lib.hid hR; have hsz : w.heap.size + 1 + 1 + 1 ≤ w1.heap.size := (by have := hb.size; have := H3.out.2.2.2.2; omega); obtain ⟨A0, c0, ev⟩ := Kd.R_slice hR; have ez := blk_frozen he; have az := blk_frozen ha; have e0 : w1.cell? ⟨w.heap.size + 1, 0, none⟩ = some (.int .i64 0) := blk_cell he 0; have a0 : w1.cell? ⟨w.heap.size + 1 + 1, 0, none⟩ = some (.int .i64 0) := blk_cell ha 0; clear hn he ha hR hb; generalize T.length = tl at ev; subst ev)))
  have hS0 : SP T (.slice A0 tl c0) w1.heap.size (W3 w).heap.size 0 w (.slice none 0 0) (((w1.setCell ⟨w.heap.size + 1, 0, none⟩ (.int .i64 0)).setCell ⟨w.heap.size + 1 + 1, 0, none⟩ (.int .i64 0)).alloc (.cells #[.slice A0 tl c0, .int .i64 0, .int .i64 0] 60)) := by
    have hb3 := H3.out.2.2.2.2
    refine ⟨HG.out, ((HB.out.setCell (p := ⟨w.heap.size + 1, 0, none⟩) (by simp) _).setCell (p := ⟨w.heap.size + 1 + 1, 0, none⟩) (by simp; omega) _).alloc (by simp; omega) _, ?_, ?_, ?_, ?_, ?_, ?_, ?_, ?_⟩
    · have := World.alloc_heap_new ((w1.setCell ⟨w.heap.size + 1, 0, none⟩ (.int .i64 0)).setCell ⟨w.heap.size + 1 + 1, 0, none⟩ (.int .i64 0)) (.cells #[.slice A0 tl c0, .int .i64 0, .int .i64 0] 60)
      rw [World.size_setCell, World.size_setCell] at this
      exact this
    · refine Kd.R_alloc (Kd.R_mono (Kd.R_far (p := ⟨w.heap.size + 1 + 1, 0, none⟩) (Kd.R_far (p := ⟨w.heap.size + 1, 0, none⟩) (Kd.R_bound HT.out) (fun k hk e => ?_) _) (fun k hk e => ?_) _) (fun k hk => hk.2.2.1)) _
      · have := hk.2.1; have e : k = w.heap.size + 1 := e; omega
      · have := hk.2.1; have e : k = w.heap.size + 1 + 1 := e; omega
    · have := HTT.out.hE.1; omega
    · exact blk_alloc (blk_far (blk_far HN.out (p := ⟨w.heap.size + 1, 0, none⟩) (by simp) _) (p := ⟨w.heap.size + 1 + 1, 0, none⟩) (by simp; omega) _) _
    · exact blk_alloc (blk_far (blk_set HE.out 0 _) (p := ⟨w.heap.size + 1 + 1, 0, none⟩) (by simp) _) _
    · exact blk_alloc (blk_set (blk_far HA.out (p := ⟨w.heap.size + 1, 0, none⟩) (by simp) _) 0 _) _
    · omega
    · omega
  have SS := Lib.hid hS0
  clear hS0 HB HN HE HA HT ez az e0 a0 hsz HS H3
  generalize (((w1.setCell ⟨w.heap.size + 1, 0, none⟩ (.int .i64 0)).setCell ⟨w.heap.size + 1 + 1, 0, none⟩ (.int .i64 0)).alloc (.cells #[.slice A0 tl c0, .int .i64 0, .int .i64 0] 60)) = W0 at *
  generalize w1.heap.size = B at *
  generalize (W3 w).heap.size = base at *
  clear w1
  generalize Value.slice A0 tl c0 = tv at *
  go_loopg [] T.length (fun kq W => Hid (∃ ks j v5, RL T j ks g ∧ SP T tv B base j w v5 W ∧ PTr.k26.R 26 W (B + 1) (fun _ => True) v5 ks ∧ ks.length ≤ j ∧ T.length ≤ j + kq))
  case atStart => exact Lib.hid ⟨[], 0, _, HR.out, SS.out, Kd.R_nil _ _ _ _ _, by simp, by omega⟩
  case round =>
    clear SS HR
    obtain ⟨ks, j, v5, hpl, hS, hR5, hle, hms⟩ := hrel.out
    clear hrel
    have SS := Lib.hid hS
    have RR := Lib.hid hR5
    clear hS hR5
    rcases hpl.inv with ⟨c1, rfl⟩ | ⟨c1, ⟨e, hv, rfl⟩ | ⟨v, j', hv, hrest⟩⟩
    · have c4 : ((tokAt T j).f0 != 4) = false := by rw [bne, c1]; rfl
      clear hpl c1
      obtain ⟨A5, c5, e5⟩ := Kd.R_slice RR.out
      generalize ks.length = m5 at e5
      subst e5
      go_wp2_with (first
        | (go_at_call 24; go_loud (refine (now_any T tv B base j 0 _ SS.out.pw).mono ?_; rintro e w2 ⟨rfl, hb⟩; have h0 := tokf0; have SS2 := Lib.hid (SS.out.below hb); have RR2 := Lib.hid (Kd.R_below RR.out hb); clear hb; obtain ⟨n0, n1, n2, n3, n4, n5, nz, e0, ez, a0, az⟩ := SS2.out.cells)))
      obtain ⟨g1, g2, g3, g4, g5⟩ := SS2.out.fin RR2.out rfl
      refine leaves_cons (f := 23) (args := #[.pointer (some ⟨w.heap.size, 0, none⟩), .pointer (some ⟨w.heap.size + 1, 0, none⟩), .pointer (some ⟨w.heap.size + 1 + 1, 0, none⟩)]) (by simp) (by rfl) ((catch_idle _ _ _ _).mono ?_)
      rintro e u' w' ⟨rfl, rfl, rfl⟩
      exact ⟨_, results12 rfl rfl rfl rfl g1 g2 g3, _, rfl, g4, g5⟩
    · have c4 : ((tokAt T j).f0 != 4) = true := by rw [bne, c1]; rfl
      have HV1 := Lib.hid hv
      clear hpl c1 hv
      obtain ⟨A5, c5, e5⟩ := Kd.R_slice RR.out
      generalize ks.length = m5 at e5
      subst e5
      go_wp2_with (first
        | (go_at_call 24; go_loud (refine (now_any T tv B base j 0 _ SS.out.pw).mono ?_; rintro e w2 ⟨rfl, hb⟩; have h0 := tokf0; have SS2 := Lib.hid (SS.out.below hb); have RR2 := Lib.hid (Kd.R_below RR.out hb); clear hb; obtain ⟨n0, n1, n2, n3, n4, n5, nz, e0, ez, a0, az⟩ := SS2.out.cells)))
      have SS3 := Lib.hid SS2.out.drew
      refine Code.wp_mono (PQ.imp (p2 := .pointer (some ⟨w.heap.size, 0, none⟩)) (p3 := .pointer (some ⟨w.heap.size + 1, 0, none⟩)) (p4 := .pointer (some ⟨w.heap.size + 1 + 1, 0, none⟩))
        (ds := [{ target := .fn (.func 23) #[.pointer (some ⟨w.heap.size, 0, none⟩), .pointer (some ⟨w.heap.size + 1, 0, none⟩), .pointer (some ⟨w.heap.size + 1 + 1, 0, none⟩)], args := #[] }])
        (F := fun c W' => c = [{ v := .iface 57 (.agg #[.int .i64 e.1, .int .i64 e.2]), recovered := false }] ∧ Thrown w W') ?_) ?_
      · rintro c ⟨t9, d9⟩ w9 ⟨rfl, hn, he, ha, hb⟩ h2 h3 h4 h5
        simp only at h2 h3 h4 h5
        subst h5
        obtain ⟨cn, hc, hn⟩ := hn
        refine leaves_cons (f := 23) (args := #[.pointer (some ⟨w.heap.size, 0, none⟩), .pointer (some ⟨w.heap.size + 1, 0, none⟩), .pointer (some ⟨w.heap.size + 1 + 1, 0, none⟩)]) (by simp) (by rfl) ((catch_panicking _ _ _ _ _ cn _ _ _ hn hc he ha (by omega) (by omega) (by omega)).mono ?_)
        rintro x u' w' ⟨rfl, rfl, g1, g2, g3, g4⟩
        exact ⟨_, results12 rfl h2 h3 h4 g1 g2 g3, .slice none 0 0, rfl, PTr.k26.R_nil _ _ _ _, hb.trans (g4 _ (Nat.le_refl _) (by omega) (by omega) hb.size)⟩
      refine start_ (n := 10) (S := fun w' => w'.cell? ⟨w.heap.size, 5, none⟩ = some (.slice A5 m5 c5)) (ds := [7, 9]) #[false, false, false, false, false, false, false, false, false, false] (by kernel_rfl) rfl rfl (by simpa using n5) ?_
      intro hHeld
      refine pure_ (i := 0) (N := some 24) (v := ?_) (a' := ?_) #[true, false, false, false, false, false, false, false, false, false] rfl rfl (by kernel_rfl) (fun c a w h => PQ.put 24 (by decide) _ c a w h) (Or.inl ⟨by rfl, ?_⟩) ?_ ?_
      rotate_left
      · intro w'
        go_simp
        with_reducible rfl
      rotate_left
      · simp only [Act.put, List.setIfInBounds_toArray, List.set_cons_zero, List.set_cons_succ]
        rfl
      refine take_ (i := 1) (N := some 25) (v := ?_) (a' := ?_) #[true, true, false, false, false, false, false, false, false, false] rfl rfl (by kernel_rfl) (fun c a w h => PQ.put 25 (by decide) _ c a w h) (Or.inl ⟨by rfl, ?_⟩) hHeld ?_ ?_
      rotate_left
      · intro w' s0
        go_simp
        with_reducible rfl
      rotate_left
      · simp only [Act.put, List.setIfInBounds_toArray, List.set_cons_zero, List.set_cons_succ]
        rfl
      refine pure_ (i := 3) (N := some 27) (v := ?_) (a' := ?_) #[true, true, false, true, false, false, false, false, false, false] rfl rfl (by kernel_rfl) (fun c a w h => PQ.put 27 (by decide) _ c a w h) (Or.inl ⟨by rfl, ?_⟩) ?_ ?_
      rotate_left
      · intro w'
        go_simp
        with_reducible rfl
      rotate_left
      · simp only [Act.put, List.setIfInBounds_toArray, List.set_cons_zero, List.set_cons_succ]
        rfl
      refine two_ (i := 2) (j := 4) (Ni := some 26) (Nj := some 28) #[true, true, true, true, false, false, false, false, false, false] #[true, true, false, true, true, false, false, false, false, false] rfl rfl rfl rfl (by kernel_rfl) (by decide) (by decide) (fun K hK => ?_) (fun K hK => ?_)
      · refine goesE_ Tryz.func25 (by kernel_rfl) rfl #[.pointer (some ⟨B, 0, none⟩)] (by rfl) rfl (by (try simp only [List.map_toArray, List.map_cons, List.map_nil]); first | done | rfl) ?_
        refine (decl_all T _ HTT.out tv B base j _ _ SS3.out.pw SS3.out.ub HV1.out).mono ?_
        rintro e' w3 ⟨rfl, hgb⟩
        exact ⟨_, rfl, ⟨rfl, SS3.out.thrown hgb⟩, rfl, rfl, rfl, rfl⟩
      · refine value_ (by rfl) rfl (w1 := w2.drew.alloc (.cells zero26 26)) (v := .slice (some ⟨w2.drew.heap.size, 0, none⟩) 1 1) ?_ ?_
        · go_simp
          try rfl
        refine hK _ _ (by go_keep) (fun hHeld => ?_)
        clear hK K
        refine one_ (i := 2) (N := some 26) #[true, true, true, true, true, false, false, false, false, false] rfl rfl (by kernel_rfl) (by decide) (fun K hK => ?_)
        refine goesE_ Tryz.func25 (by kernel_rfl) rfl #[.pointer (some ⟨B, 0, none⟩)] (by rfl) rfl (by (try simp only [List.map_toArray, List.map_cons, List.map_nil]); first | done | rfl) ?_
        refine (decl_all T _ HTT.out tv B base j _ _ (SS3.out.alloc _).pw (SS3.out.alloc _).ub HV1.out).mono ?_
        rintro e' w3 ⟨rfl, hgb⟩
        exact ⟨_, rfl, ⟨rfl, (SS3.out.alloc _).thrown hgb⟩, rfl, rfl, rfl, rfl⟩
    · have c4 : ((tokAt T j).f0 != 4) = true := by rw [bne, c1]; rfl
      have HV1 := Lib.hid hv
      have HRe := Lib.hid hrest
      have hj := SS.out.lt
      clear hpl c1 hv hrest
      obtain ⟨A5, c5, e5⟩ := Kd.R_slice RR.out
      have m5e : ks.length = ks.length := rfl
      generalize hm5 : ks.length = m5 at e5
      subst e5
      go_wp2_with (first
        | (go_at_call 24; go_loud (refine (now_any T tv B base j 0 _ SS.out.pw).mono ?_; rintro e w2 ⟨rfl, hb⟩; have h0 := tokf0; have SS2 := Lib.hid (SS.out.below hb); have RR2 := Lib.hid (Kd.R_below RR.out hb); clear hb; obtain ⟨n0, n1, n2, n3, n4, n5, nz, e0, ez, a0, az⟩ := SS2.out.cells)))
      have SS3 := Lib.hid SS2.out.drew
      have RR3 := Lib.hid (Kd.R_drew RR2.out)
      refine wp_region_noPanic ?_
      refine start_ (n := 10) (S := fun w' => w'.cell? ⟨w.heap.size, 5, none⟩ = some (.slice A5 m5 c5)) (ds := [7, 9]) #[false, false, false, false, false, false, false, false, false, false] (by kernel_rfl) rfl rfl (by simpa using n5) ?_
      intro hHeld
      refine pure_ (i := 0) (N := some 24) (v := ?_) (a' := ?_) #[true, false, false, false, false, false, false, false, false, false] rfl rfl (by kernel_rfl) (fun _ _ _ h => h) (Or.inl ⟨by rfl, ?_⟩) ?_ ?_
      rotate_left
      · intro w'
        go_simp
        with_reducible rfl
      rotate_left
      · simp only [Act.put, List.setIfInBounds_toArray, List.set_cons_zero, List.set_cons_succ]
        rfl
      refine take_ (i := 1) (N := some 25) (v := ?_) (a' := ?_) #[true, true, false, false, false, false, false, false, false, false] rfl rfl (by kernel_rfl) (fun _ _ _ h => h) (Or.inl ⟨by rfl, ?_⟩) hHeld ?_ ?_
      rotate_left
      · intro w' s0
        go_simp
        with_reducible rfl
      rotate_left
      · simp only [Act.put, List.setIfInBounds_toArray, List.set_cons_zero, List.set_cons_succ]
        rfl
      refine pure_ (i := 3) (N := some 27) (v := ?_) (a' := ?_) #[true, true, false, true, false, false, false, false, false, false] rfl rfl (by kernel_rfl) (fun _ _ _ h => h) (Or.inl ⟨by rfl, ?_⟩) ?_ ?_
      rotate_left
      · intro w'
        go_simp
        with_reducible rfl
      rotate_left
      · simp only [Act.put, List.setIfInBounds_toArray, List.set_cons_zero, List.set_cons_succ]
        rfl
      refine join_ (σ := Nat × Nat × Value) 5 #[true, true, true, true, true, false, false, false, false, false] (fun s => [(26, nodeV v s.2.2), (28, .slice (some ⟨s.2.1, 0, none⟩) 1 1)]) (fun s Z => FP T tv B base j' w (.slice A5 m5 c5) ks v s.1 s.2.1 s.2.2 Z) ?_ ?_
      rotate_left
      · intro hcont
        refine two_ (i := 2) (j := 4) (Ni := some 26) (Nj := some 28) #[true, true, true, true, false, false, false, false, false, false] #[true, true, false, true, true, false, false, false, false, false] rfl rfl rfl rfl (by kernel_rfl) (by decide) (by decide) (fun K hK => ?_) (fun K hK => ?_)
        · refine goes_ Tryz.func25 (by kernel_rfl) rfl #[.pointer (some ⟨B, 0, none⟩)] (by rfl) rfl rfl (by (try simp only [List.map_toArray, List.map_cons, List.map_nil]); first | done | rfl) ?_
          refine (decl_all T _ HTT.out tv B base j _ _ SS3.out.pw SS3.out.ub HV1.out).mono ?_
          rintro e w3 ⟨v6, rfl, hR6, hP, hgb⟩
          have hF := FP.call_build SS3.out RR3.out hR6 hP hgb
          refine ⟨_, rfl, hK _ _ (SS3.out.step hP hgb).n5 (fun hHeld => ?_)⟩
          clear hK K
          refine one_ (i := 4) (N := some 28) #[true, true, true, true, true, false, false, false, false, false] rfl rfl (by kernel_rfl) (by decide) (fun K hK => ?_)
          refine value_ (by rfl) rfl (w1 := w3.alloc (.cells zero26 26)) (v := .slice (some ⟨w3.heap.size, 0, none⟩) 1 1) ?_ ?_
          · go_simp
            try rfl
          refine hK _ _ hF.sp.n5 (fun hHeld => ?_)
          clear hK K
          have h9 := hcont ⟨_, _, _⟩ _ hF
          simp only [putAll, Act.put, List.setIfInBounds_toArray, List.set_cons_zero, List.set_cons_succ] at h9
          exact h9
        · refine value_ (by rfl) rfl (w1 := w2.drew.alloc (.cells zero26 26)) (v := .slice (some ⟨w2.drew.heap.size, 0, none⟩) 1 1) ?_ ?_
          · go_simp
            try rfl
          refine hK _ _ (SS3.out.alloc _).n5 (fun hHeld => ?_)
          clear hK K
          refine one_ (i := 2) (N := some 26) #[true, true, true, true, true, false, false, false, false, false] rfl rfl (by kernel_rfl) (by decide) (fun K hK => ?_)
          refine goes_ Tryz.func25 (by kernel_rfl) rfl #[.pointer (some ⟨B, 0, none⟩)] (by rfl) rfl rfl (by (try simp only [List.map_toArray, List.map_cons, List.map_nil]); first | done | rfl) ?_
          refine (decl_all T _ HTT.out tv B base j _ _ (SS3.out.alloc _).pw (SS3.out.alloc _).ub HV1.out).mono ?_
          rintro e w3 ⟨v6, rfl, hR6, hP, hgb⟩
          have hF := FP.build_call SS3.out RR3.out hR6 hP hgb
          refine ⟨_, rfl, hK _ _ hF.sp.n5 (fun hHeld => ?_)⟩
          clear hK K
          have h9 := hcont ⟨_, _, _⟩ _ hF
          simp only [putAll, Act.put, List.setIfInBounds_toArray, List.set_cons_zero, List.set_cons_succ] at h9
          exact h9
      rintro ⟨M, H, v6⟩ Z hF
      simp only at hF
      simp only [putAll, Act.put, List.setIfInBounds_toArray, List.set_cons_zero, List.set_cons_succ]
      unfold nodeV
      obtain ⟨A6, c6, e6⟩ := Kd.R_slice hF.new
      generalize v.f4.length = m6 at e6
      subst e6
      have HF := Lib.hid hF
      clear hF SS2 RR2 SS3 RR3 hHeld n0 n1 n2 n3 n4 n5 nz e0 ez a0 az
      refine one_ (i := 5) (N := some 29) #[true, true, true, true, true, true, false, false, false, false] rfl rfl (by kernel_rfl) (by decide) (fun K hK => ?_)
      refine Kd.R_append_rows_step PTr.k26 (w0 := Z) (B + 1) (by rfl) (.tmp 25) (.tmp 28) 24 26 (.agg #[.int .i64 0, .string ⟨#[]⟩, .int .i64 0, .int .i64 0, .int .i64 0, .slice none 0 0]) 72 (by rfl) und24 info26b rfl (by decide) (by decide) (.slice A5 m5 c5) ks [PTr.z26] (some ⟨H, 0, none⟩) 1 1 (fun _ => True) (fun _ => False) (by rfl) (by rfl) HF.out.kr HF.out.reads (by rintro x cs ⟨rfl, rfl⟩; exact PTr.k26_mkM _ _ _ PTr.z26 (Kd.R_nil _ _ _ _ _)) (fun _ hk => hk.elim) (fun _ _ => trivial) (Below.refl _ _) (blk_lt HF.out.sp.bB) (by have := HTT.out.hl; have := HF.out.sp.lt; omega) ?_
      intro v7 w4 h7 h8 h9 h10
      obtain ⟨g, cap, e7, _, _, _⟩ := Kd.R_form h7 (by simp)
      generalize (ks ++ [PTr.z26]).length = m7 at e7
      subst e7
      have hat : some g = (Value.slice A5 m5 c5).ownBlock ∨ Z.heap.size ≤ g := by
        rcases h10 with h10 | ⟨b, h10, h11⟩
        · exact .inl h10
        · right
          have h10 : some g = some b := h10
          injection h10 with h10
          omega
      have SP4 := HF.out.sp.app h9 (fun k e => Kd.R_base HF.out.kr k e)
      have NR4 := HF.out.newrow h9 hat
      have hMB := HF.out.hM
      obtain ⟨q1, q2, q3, ⟨cur, q4, q5⟩, q6⟩ := elem_set NR4 hMB h7
      have SP5 := SP4.set5 (.slice (some ⟨g, 0, none⟩) m7 cap)
      have hnB : w.heap.size < B + 1 := by have := SP4.hB; omega
      have R75 := kidsSet h7 hnB 5 (.slice (some ⟨g, 0, none⟩) m7 cap)
      have NR5 : PTr.k26.R 26 (w4.setCell ⟨w.heap.size, 5, none⟩ (.slice (some ⟨g, 0, none⟩) m7 cap)) M (fun k => k ≠ g) (.slice A6 m6 c6) v.f4 := Kd.R_mono (Kd.R_far (p := ⟨w.heap.size, 5, none⟩) (Kd.R_bound NR4) (fun k hk e => by have := hk.2.1; have e : k = w.heap.size := e; omega) _) (fun _ hk => hk.1)
      obtain ⟨r1, r2, r3, ⟨cur', r4, r5⟩, r6⟩ := elem_set NR5 hMB R75
      rw [hm5] at q1 q2 q5 q6 r1 r2 r5 r6
      have F1 := Lib.hid (And.intro ((SP4.app q2 (fun k e => by injection e with e; omega)).set5 (.slice (some ⟨g, 0, none⟩) m7 cap)) (kidsSet q1 hnB 5 (.slice (some ⟨g, 0, none⟩) m7 cap)))
      have F2 := Lib.hid (And.intro (SP5.app r2 (fun k e => by injection e with e; omega)) r1)
      have n5 := SP4.n5
      have nz := (SP4.cells).2.2.2.2.2.2.1
      have n5s := (SP4.app q2 (fun k e => by injection e with e; omega)).n5
      have nzs := (SP4.app q2 (fun k e => by injection e with e; omega)).cells.2.2.2.2.2.2.1
      have hjj : j < j' := ((DP.goes HTT.out.hE HV1.out (by have := HTT.out.hE.1; omega)).1 _ _ rfl).1
      have Q4 := Lib.hid (And.intro q4 q5)
      have Q5 := Lib.hid (And.intro r4 r5)
      have hks : ks.length = m5 := hm5
      have i0 : (0 : Int) ≤ (m5 : Int) := by omega
      have i1 : (m5 : Int) < (m7 : Int) := by omega
      have i2 : m5 < m7 := by omega
      clear q6 r6 SP4 NR4 SP5 R75 NR5 q1 q2 q4 q5 r1 r2 r4 r5 h7 h8 h9 h10 hat
      refine hK _ _ n5 (fun hHeld => ?_)
      clear hK K
      refine norm_ (a' := ?_) ?_ ?_
      rotate_left
      · show Act.put _ (some 29) _ = _
        simp only [Act.put, List.setIfInBounds_toArray, List.set_cons_zero, List.set_cons_succ]
        rfl
      refine pure_ (i := 6) (N := some 30) (v := ?_) (a' := ?_) #[true, true, true, true, true, true, true, false, false, false] rfl rfl (by kernel_rfl) (fun _ _ _ h => h) (Or.inl ⟨by rfl, ?_⟩) ?_ ?_
      rotate_left
      · intro w'
        go_simp
        with_reducible rfl
      rotate_left
      · simp only [Act.put, List.setIfInBounds_toArray, List.set_cons_zero, List.set_cons_succ]
        rfl
      refine pure_ (i := 8) (N := some 31) (v := ?_) (a' := ?_) #[true, true, true, true, true, true, true, false, true, false] rfl rfl (by kernel_rfl) (fun _ _ _ h => h) (Or.inl ⟨by rfl, ?_⟩) ?_ ?_
      rotate_left
      · intro w'
        go_simp
        with_reducible rfl
      rotate_left
      · simp only [Act.put, List.setIfInBounds_toArray, List.set_cons_zero, List.set_cons_succ]
        rfl
      refine twoL_ (i := 7) (j := 9) (Ni := none) (Nj := none) #[true, true, true, true, true, true, true, true, true, false] #[true, true, true, true, true, true, true, false, true, true] rfl rfl rfl rfl (by kernel_rfl) (by decide) (by decide) (fun K hK => ?_) (fun K hK => ?_)
      · refine skip_ (by rfl) rfl (store26 (g := g) (o := m5 * 6) (p := .tmp 30) (x := .tmp 26) rfl rfl rfl Q4.out.1 Q4.out.2 (by simp [Value.oneCell'])) ?_
        refine hK _ _ ?_
        clear hK K
        generalize w4.setCells g (m5 * 6) [.int .i64 v.f0, .string v.f1, .int .i64 v.f2.f0, .int .i64 v.f2.f1, .int .i64 v.f3, .slice A6 m6 c6] = X1 at *
        refine last_ (i := 9) (N := none) #[true, true, true, true, true, true, true, true, true, true] rfl rfl (by kernel_rfl) (by decide) (fun K hK => ?_)
        refine skip_ (by rfl) rfl (w1 := X1.setCell ⟨w.heap.size, 5, none⟩ (.slice (some ⟨g, 0, none⟩) m7 cap)) ?_ ?_
        · go_simp
          try rfl
        refine hK _ _ (done_ (by kernel_rfl) ?_)
        clear hK K
        refine NoPanic.normal ?_
        go_wp2
        obtain ⟨q, hq⟩ : ∃ q, gk = q + 1 := ⟨gk - 1, by omega⟩
        subst hq
        go_roundg q
        case rel => exact Lib.hid ⟨ks ++ [v], j', _, HRe.out, F1.out.1, F1.out.2, by simp; omega, by omega⟩
        case measure => omega
      · refine skip_ (by rfl) rfl (w1 := w4.setCell ⟨w.heap.size, 5, none⟩ (.slice (some ⟨g, 0, none⟩) m7 cap)) ?_ ?_
        · go_simp
          try rfl
        refine hK _ _ ?_
        clear hK K
        generalize w4.setCell ⟨w.heap.size, 5, none⟩ (.slice (some ⟨g, 0, none⟩) m7 cap) = X2 at *
        refine last_ (i := 7) (N := none) #[true, true, true, true, true, true, true, true, true, true] rfl rfl (by kernel_rfl) (by decide) (fun K hK => ?_)
        refine skip_ (by rfl) rfl (store26 (g := g) (o := m5 * 6) (p := .tmp 30) (x := .tmp 26) rfl rfl rfl Q5.out.1 Q5.out.2 (by simp [Value.oneCell'])) ?_
        refine hK _ _ (done_ (by kernel_rfl) ?_)
        clear hK K
        refine NoPanic.normal ?_
        go_wp2
        obtain ⟨q, hq⟩ : ∃ q, gk = q + 1 := ⟨gk - 1, by omega⟩
        subst hq
        go_roundg q
        case rel => exact Lib.hid ⟨ks ++ [v], j', _, HRe.out, F2.out.1, F2.out.2, by simp; omega, by omega⟩
        case measure => omega
end Go.Proofs.YtahjkibjcibpgaaGreatDoor.L
end
section
namespace Go.Proofs.YtahjkibjcibpgaaGreatDoor.L
open Go.RowKit Go.Shelf Go.Lib Go.Proofs.YtahjkibjcibpgaaGreatDoor.U
open Go.Proofs.YtahjkibjcibpgaaGreatDoorW Go.Proofs.YtahjkibjcibpgaaGreatDoorW.PrintWords
abbrev srcT (s : ByteArray) : List PTr.S41 := (scanL s.data.toList).1.map toS
theorem tk_src {s : ByteArray} (h : (scanL s.data.toList).2.1 = 0) : (scanL s.data.toList).2.2 = 0 ∧ ∃ n0, Tk (srcT s) n0 := by
  obtain ⟨ts, hc, hl, hs⟩ := ch_of_scanL h
  unfold srcT
  rw [hs]
  exact ⟨rfl, _, tk_of hc hl⟩
open Classical in
noncomputable def parseX (s : ByteArray) : PTr.S26 × Int × Int :=
  if (scanL s.data.toList).2.1 = 0 then (if h : ∃ g, RL (srcT s) 0 [] g then PRes h.choose else (PTr.z26, 0, 0))
  else (PTr.z26, ((scanL s.data.toList).2.1 : Nat), ((scanL s.data.toList).2.2 : Nat))
theorem parseX_of {s : ByteArray} (hs : (scanL s.data.toList).2.1 = 0) {g : PR (List PTr.S26)} (h : RL (srcT s) 0 [] g) : parseX s = PRes g := by
  unfold parseX
  have hx : ∃ g, RL (srcT s) 0 [] g := ⟨g, h⟩
  rw [if_pos hs, dif_pos hx, RL.det hx.choose_spec h]
theorem parseX_err {s : ByteArray} (hs : (scanL s.data.toList).2.1 ≠ 0) : parseX s = (PTr.z26, (((scanL s.data.toList).2.1 : Nat) : Int), (((scanL s.data.toList).2.2 : Nat) : Int)) := by
  unfold parseX
  rw [if_neg hs]
theorem parse_any (s : ByteArray) (w : World) (hg : UW w) : Calls Tryz.prog 12 #[.string s] w (PFin w (parseX s)) := by
  by_cases hs : (scanL s.data.toList).2.1 = 0
  · obtain ⟨h2, n0, hT⟩ := tk_src hs
    obtain ⟨g, hg2⟩ := RL.total hT.hE 0 [] (Nat.zero_le _)
    rw [parseX_of hs hg2]
    refine parse_main s (srcT s) ?_ n0 hT g hg2 w hg
    unfold Ex.lex_Scan.f
    rw [hs, h2]
    rfl
  · rw [parseX_err hs]
    rcases scanL_err s.data.toList with ⟨h, _⟩ | ⟨h1, _⟩
    · exact absurd h hs
    · exact parse_scan s _ _ rfl h1 hs w hg
end Go.Proofs.YtahjkibjcibpgaaGreatDoor.L
namespace Go.Proofs.YtahjkibjcibpgaaGreatDoor.Ex
open Go.RowKit Go.Proofs.YtahjkibjcibpgaaGreatDoor.U Go.Proofs.YtahjkibjcibpgaaGreatDoorW.PrintWords
noncomputable def tree_Parse.f (a0 : ByteArray) : Option (Int × ByteArray × Int × Int × Int × List PTr.S26 × Int × Int) :=
  some ((L.parseX a0).1.f0, (L.parseX a0).1.f1, (L.parseX a0).1.f2.f0, (L.parseX a0).1.f2.f1, (L.parseX a0).1.f3, (L.parseX a0).1.f4, (L.parseX a0).2.1, (L.parseX a0).2.2)
theorem tree_Parse.calls (a0 : ByteArray) (r1 : Int) (r2 : ByteArray) (r3 r4 r5 : Int) (r6 : List PTr.S26) (r7 r8 : Int) (w : World) (hg : UW w) (h : tree_Parse.f a0 = some (r1, r2, r3, r4, r5, r6, r7, r8)) :
    Calls Tryz.prog 12 #[.string a0] w fun e w' => ∃ v0_ : Value, e = .returned (.tuple #[.agg #[.int .i64 r1, .string r2, .int .i64 r3, .int .i64 r4, .int .i64 r5, v0_], .int .i64 r7, .int .i64 r8]) ∧ PTr.k26.R 26 w' w.heap.size (fun _ => True) v0_ r6 ∧ Below w.heap.size w w' := by
  have e := Option.some.inj h
  simp only [Prod.mk.injEq] at e
  obtain ⟨e1, e2, e3, e4, e5, e6, e7, e8⟩ := e
  subst e1 e2 e3 e4 e5 e6 e7 e8
  exact L.parse_any a0 w hg
theorem tree_Parse.f_ok {s : ByteArray} (hs : (L.scanL s.data.toList).2.1 = 0) {l : List PTr.S26} {n : Nat} (h : L.RL (L.srcT s) 0 [] (.ok (l, n))) : tree_Parse.f s = some (0, ⟨#[]⟩, 0, 0, 0, l, 0, 0) := by
  unfold tree_Parse.f
  rw [L.parseX_of hs h]
  rfl
theorem tree_Parse.f_fault {s : ByteArray} (hs : (L.scanL s.data.toList).2.1 = 0) {e : Int × Int} (h : L.RL (L.srcT s) 0 [] (.error e)) : tree_Parse.f s = some (0, ⟨#[]⟩, 0, 0, 0, [], e.1, e.2) := by
  unfold tree_Parse.f
  rw [L.parseX_of hs h]
  rfl
theorem tree_Parse.f_scan {s : ByteArray} (hs : (L.scanL s.data.toList).2.1 ≠ 0) : tree_Parse.f s = some (0, ⟨#[]⟩, 0, 0, 0, [], (((L.scanL s.data.toList).2.1 : Nat) : Int), (((L.scanL s.data.toList).2.2 : Nat) : Int)) := by
  unfold tree_Parse.f
  rw [L.parseX_err hs]
  rfl
end Go.Proofs.YtahjkibjcibpgaaGreatDoor.Ex
end
section
namespace Go.Proofs.YtahjkibjcibpgaaGreatDoor.L
open Go.Proofs.YtahjkibjcibpgaaGreatDoor.U
structure Cut (T T2 : List PTr.S41) (n k : Nat) (a : Int) : Prop where
  hE : EndT T n
  le : k ≤ n
  same : ∀ i, i < k → tokAt T2 i = tokAt T i
  fin : (tokAt T2 k).f0 = 4
  at2 : (tokAt T2 k).f2 = a
  at1 : (tokAt T k).f2 = a
  asc : ∀ i j, i < j → j ≤ n → (tokAt T i).f2 < (tokAt T j).f2
section
variable {T T2 : List PTr.S41} {n k : Nat} {a : Int} (C : Cut T T2 n k a)
include C
theorem Cut.flt {i : Nat} {b : Int} (h : Flt T n i (b, a)) : i ≤ k := by
  obtain ⟨m, h1, h2, h3, _⟩ := h
  rcases Nat.lt_or_ge k m with h4 | h4
  · have := C.asc k m h4 h2
    rw [C.at1] at this
    have h5 : a = (tokAt T m).f2 := h3
    omega
  · omega
theorem Cut.is {i : Nat} (h : i < k) (s : ByteArray) : isP T2 i s = isP T i s := by unfold isP; rw [C.same i h]
theorem Cut.isk (s : ByteArray) : isP T2 k s = false := by unfold isP; rw [C.fin]; rfl
theorem Cut.k0 : ((tokAt T2 k).f0 == 0) = false := by rw [C.fin]; rfl
theorem Cut.k1 : ((tokAt T2 k).f0 == 1) = false := by rw [C.fin]; rfl
theorem Cut.k2 : ((tokAt T2 k).f0 == 2) = false := by rw [C.fin]; rfl
theorem Cut.vk (d : Nat) : V T2 k d (.error (2, a)) := by
  have := V.amount (d := d) (C.isk ⟨#[40]⟩) C.k0 C.k2
  unfold amountP at this
  rw [if_neg (by rw [C.k1]; simp), C.at2] at this
  exact this
theorem Cut.gk (d : Nat) (s : ByteArray) (ks : List PTr.S26) : G T2 k d s ks (.error (2, a)) := by
  have := G.no (d := d) (ks := ks) (C.isk s)
  rw [C.at2] at this
  exact this
theorem Cut.amount {i : Nat} (hi : i < k) : (∀ v j, amountP T i = .ok (v, j) → j ≤ k → amountP T2 i = .ok (v, j)) ∧ (amountP T i = .error (2, a) → amountP T2 i = .error (2, a)) := by
  have e0 := C.same i hi
  have hu : (unitP T (i + 1)).2 ≤ k → unitP T2 (i + 1) = unitP T (i + 1) := by
    unfold unitP
    rcases Nat.lt_or_ge (i + 1) k with h | h
    · rw [C.same _ h]; exact fun _ => rfl
    · have : i + 1 = k := by omega
      rw [this, C.k0, Bool.false_and, if_neg (show ¬ (false = true) from by decide)]
      intro h2
      by_cases h3 : ((tokAt T k).f0 == 0 && knownP (tokAt T k).f1) = true
      · rw [if_pos h3] at h2
        have h2 : k + 1 ≤ k := h2
        omega
      · rw [if_neg h3]
  unfold amountP
  rw [e0]
  by_cases c : ((tokAt T i).f0 == 1) = true
  · rw [if_pos c, if_pos c]
    by_cases hk : (unitP T (i + 1)).2 ≤ k
    · rw [hu hk]
      exact ⟨fun _ _ h _ => h, fun h => h⟩
    · generalize amt (tokAt T i).f1.data.toList (unitP T (i + 1)).1.data.toList = x
      obtain ⟨p, q, e⟩ := x
      simp only
      by_cases c3 : e = 0
      · rw [if_pos c3]
        refine ⟨fun v j h hj => ?_, (fun h => by cases h)⟩
        injection h with h; injection h with _ h
        omega
      · rw [if_neg c3]
        refine ⟨(fun _ _ h => by cases h), fun h => ?_⟩
        injection h with h; injection h with h _
        exact absurd h (by decide)
  · rw [if_neg c, if_neg c]
    exact ⟨(fun _ _ h => by cases h), fun h => h⟩
theorem Cut.vg :
    (∀ i d r, V T i d r → i ≤ k → (∀ v j, r = .ok (v, j) → j ≤ k → V T2 i d (.ok (v, j))) ∧ (r = .error (2, a) → V T2 i d (.error (2, a)))) ∧
    (∀ i d s ks r, G T i d s ks r → i ≤ k → (∀ v j, r = .ok (v, j) → j < k → G T2 i d s ks (.ok (v, j))) ∧ (r = .error (2, a) → G T2 i d s ks (.error (2, a)))) := by
  have sp : ∀ i : Nat, i ≤ k → i < k ∨ i = k := fun i h => by omega
  refine vg_ind T (fun i d r => i ≤ k → (∀ v j, r = .ok (v, j) → j ≤ k → V T2 i d (.ok (v, j))) ∧ (r = .error (2, a) → V T2 i d (.error (2, a))))
    (fun i d s ks r => i ≤ k → (∀ v j, r = .ok (v, j) → j < k → G T2 i d s ks (.ok (v, j))) ∧ (r = .error (2, a) → G T2 i d s ks (.error (2, a)))) ?_ ?_ ?_ ?_ ?_ ?_ ?_ ?_ ?_ ?_
  · intro i _ _
    refine ⟨(fun _ _ h => by cases h), fun h => ?_⟩
    injection h with h; injection h with h _
    exact absurd h (by decide)
  · intro i d e c hd _ ih hi
    refine ⟨(fun _ _ h => by cases h), fun h => ?_⟩
    rcases sp i hi with h1 | rfl
    · exact V.groupE (by rw [C.is h1]; exact c) hd ((ih hi).2 (by injection h with h; rw [h]))
    · exact C.vk d
  · intro i d ks j c hd hg ih c2 hi
    refine ⟨fun v j' h hj => ?_, (fun h => by cases h)⟩
    injection h with h; injection h with h1 h2
    subst h1 h2
    have hlt := ((vg_goes C.hE).2 _ _ _ _ _ hg (Nat.le_trans hi C.le)).1 _ _ rfl
    have h1 : i < k := by omega
    rw [← C.same i h1]
    exact V.group (by rw [C.is h1]; exact c) hd ((ih hi).1 _ _ rfl (by omega)) (by rw [C.is (by omega)]; exact c2)
  · intro i d c c0 hi
    refine ⟨fun v j' h hj => ?_, (fun h => by cases h)⟩
    injection h with h; injection h with h1 h2
    subst h1 h2
    have h1 : i < k := by omega
    rw [← C.same i h1]
    exact V.word (by rw [C.is h1]; exact c) (by rw [C.same i h1]; exact c0)
  · intro i d c c0 c2 hi
    refine ⟨fun v j' h hj => ?_, (fun h => by cases h)⟩
    injection h with h; injection h with h1 h2
    subst h1 h2
    have h1 : i < k := by omega
    rw [← C.same i h1]
    exact V.text (by rw [C.is h1]; exact c) (by rw [C.same i h1]; exact c0) (by rw [C.same i h1]; exact c2)
  · intro i d c c0 c2 hi
    rcases sp i hi with h1 | rfl
    · have hv := V.amount (d := d) (T := T2) (i := i) (by rw [C.is h1]; exact c) (by rw [C.same i h1]; exact c0) (by rw [C.same i h1]; exact c2)
      obtain ⟨ha, hb⟩ := C.amount h1
      exact ⟨fun v j h hj => by rw [ha v j h hj] at hv; exact hv, fun h => by rw [hb h] at hv; exact hv⟩
    · refine ⟨fun v j h hj => ?_, fun _ => C.vk d⟩
      have := (amountP_goes C.hE (Nat.le_trans hi C.le)).1 v j h
      omega
  · intro i d s ks c hi
    refine ⟨(fun _ _ h => by cases h), fun h => ?_⟩
    rcases sp i hi with h1 | rfl
    · injection h with h; injection h with _ h
      have := C.asc i k h1 C.le
      rw [h, C.at1] at this
      omega
    · exact C.gk d s ks
  · intro i d s ks e c _ ih hi
    refine ⟨(fun _ _ h => by cases h), fun h => ?_⟩
    rcases sp i hi with h1 | rfl
    · exact G.err (by rw [C.is h1]; exact c) ((ih h1).2 (by injection h with h; rw [h]))
    · exact C.gk d s ks
  · intro i d s ks v j c hv ih c2 hi
    refine ⟨fun v' j' h hj => ?_, (fun h => by cases h)⟩
    injection h with h; injection h with e1 e2
    subst e1 e2
    have hin : i + 1 ≤ n := C.hE.next (Nat.le_trans hi C.le) (by rw [isP_kind c]; decide)
    have hlt := ((vg_goes C.hE).1 _ _ _ hv hin).1 _ _ rfl
    have h1 : i < k := by omega
    exact G.last (by rw [C.is h1]; exact c) ((ih h1).1 _ _ rfl (by omega)) (by rw [C.is hj]; exact c2)
  · intro i d s ks v j r c hv ih c2 hg ih2 hi
    have hin : i + 1 ≤ n := C.hE.next (Nat.le_trans hi C.le) (by rw [isP_kind c]; decide)
    have hlt := ((vg_goes C.hE).1 _ _ _ hv hin).1 _ _ rfl
    have hgo := (vg_goes C.hE).2 _ _ _ _ _ hg hlt.2
    refine ⟨fun v' j' h hj => ?_, fun h => ?_⟩
    · have := hgo.1 _ _ h
      have h1 : i < k := by omega
      exact G.more (by rw [C.is h1]; exact c) ((ih h1).1 _ _ rfl (by omega)) (by rw [C.is (by omega)]; exact c2) ((ih2 (by omega)).1 _ _ h hj)
    · have hjk := C.flt (hgo.2 _ h)
      have h1 : i < k := by omega
      refine G.more (by rw [C.is h1]; exact c) ((ih h1).1 _ _ rfl hjk) ?_ ((ih2 hjk).2 h)
      rcases sp j hjk with h2 | rfl
      · rw [C.is h2]; exact c2
      · exact C.isk _
theorem Cut.loop {s : ByteArray} {I I2 : Nat → PR PTr.S26 → Prop} (hg : ∀ i r, I i r → i ≤ n → Goes (T := T) n _ i r) (hI : ∀ i r, I i r → i ≤ k → (∀ v j, r = .ok (v, j) → j ≤ k → I2 i (.ok (v, j))) ∧ (r = .error (2, a) → I2 i (.error (2, a))))
    (hk : I2 k (.error (2, a))) {i : Nat} {ks : List PTr.S26} {r : PR (List PTr.S26)} (h : PLoop (fun i => isP T i s) (· + 1) I i ks r) : i ≤ k →
    (∀ v j, r = .ok (v, j) → j ≤ k → PLoop (fun i => isP T2 i s) (· + 1) I2 i ks (.ok (v, j))) ∧ (r = .error (2, a) → PLoop (fun i => isP T2 i s) (· + 1) I2 i ks (.error (2, a))) := by
  have sp : ∀ i : Nat, i ≤ k → i < k ∨ i = k := fun i h => by omega
  have st : ∀ i, i ≤ k → isP T i s = false → isP T2 i s = false := by
    intro i hi h
    rcases sp i hi with h1 | rfl
    · rw [C.is h1]; exact h
    · exact C.isk s
  induction h with
  | done i ks h =>
    intro hi
    refine ⟨fun v j e hj => ?_, (fun e => by cases e)⟩
    injection e with e; injection e with e1 e2
    subst e1 e2
    exact .done i ks (by rw [C.is (show i < k from hj)]; exact h)
  | err i ks e h hi =>
    intro hik
    refine ⟨(fun _ _ e => by cases e), fun he => ?_⟩
    exact .err i ks _ (st i hik h) ((hI _ _ hi hik).2 (by injection he with he; rw [he]))
  | more i ks v j r h hi hr ih =>
    intro hik
    have h1 := (hg _ _ hi (Nat.le_trans hik C.le)).1 _ _ rfl
    have h2 := PLoop.goes (T := T) hg (fun i hi c => fin1 C.hE s i hi c) hr h1.2
    refine ⟨fun l j' e hj => ?_, fun e => ?_⟩
    · have := h2.1 _ _ e
      exact .more i ks v j _ (st i hik h) ((hI _ _ hi hik).1 _ _ rfl (by omega)) ((ih (by omega)).1 _ _ e hj)
    · have hjk := C.flt (h2.2 _ e)
      exact .more i ks v j _ (st i hik h) ((hI _ _ hi hik).1 _ _ rfl hjk) ((ih hjk).2 e)
theorem Cut.pl {i : Nat} {ks : List PTr.S26} {r : PR (List PTr.S26)} (h : PL T i ks r) (hi : i ≤ k) : (∀ v j, r = .ok (v, j) → j ≤ k → PL T2 i ks (.ok (v, j))) ∧ (r = .error (2, a) → PL T2 i ks (.error (2, a))) :=
  C.loop (I := fun i r => V T i 0 r) (I2 := fun i r => V T2 i 0 r) (fun i r h hi => (vg_goes C.hE).1 i 0 r h hi) (fun i r h hi => C.vg.1 i 0 r h hi) (C.vk 0) h hi
theorem Cut.ppk : PP T2 k (.error (2, a)) := .inl ⟨C.k0, by rw [C.at2]⟩
theorem Cut.kind {i : Nat} (hi : i < k) (x : Int) (h : ((tokAt T i).f0 == x) = true) : ((tokAt T2 i).f0 == x) = true := by rw [C.same i hi]; exact h
theorem Cut.pp (i : Nat) (r : PR PTr.S26) (h : PP T i r) (hi : i ≤ k) : (∀ v j, r = .ok (v, j) → j ≤ k → PP T2 i (.ok (v, j))) ∧ (r = .error (2, a) → PP T2 i (.error (2, a))) := by
  have hgo := h.goes C.hE (Nat.le_trans hi C.le)
  rcases (show i < k ∨ i = k by omega) with h1 | rfl
  · have e0 := C.same i h1
    unfold PP
    rw [e0]
    rcases h with ⟨c, rfl⟩ | ⟨c, ⟨e, hp, rfl⟩ | ⟨ks, j, hp, rfl⟩⟩
    · exact ⟨(fun _ _ h => by cases h), fun h => .inl ⟨c, h.symm⟩⟩
    · exact ⟨(fun _ _ h => by cases h), fun h => .inr ⟨c, .inl ⟨_, (C.pl hp h1).2 (by injection h with h; rw [h]), rfl⟩⟩⟩
    · refine ⟨fun v j' h hj => ?_, (fun h => by cases h)⟩
      injection h with h; injection h with e1 e2
      subst e1 e2
      exact .inr ⟨c, .inr ⟨ks, j, (C.pl hp h1).1 _ _ rfl hj, rfl⟩⟩
  · exact ⟨fun v j h hj => by have := hgo.1 v j h; omega, fun _ => C.ppk⟩
theorem Cut.db {i : Nat} {ks : List PTr.S26} {r : PR (List PTr.S26)} (h : DB T i ks r) (hi : i ≤ k) : (∀ v j, r = .ok (v, j) → j ≤ k → DB T2 i ks (.ok (v, j))) ∧ (r = .error (2, a) → DB T2 i ks (.error (2, a))) :=
  C.loop (I := PP T) (I2 := PP T2) (fun _ _ h hi => h.goes C.hE hi) C.pp C.ppk h hi
theorem Cut.da {i : Nat} {ks : List PTr.S26} {r : PR (List PTr.S26)} (h : DA T i ks r) : i ≤ k → ∀ l j, r = .ok (l, j) → (j ≤ k → DA T2 i ks (.ok (l, j))) ∧ (k < j → ∃ l2, DA T2 i ks (.ok (l2, k))) := by
  have stk : (!((tokAt T2 k).f0 == 0) && !((tokAt T2 k).f0 == 2)) = true := by rw [C.k0, C.k2]; rfl
  induction h with
  | done i ks h =>
    intro hi l j e
    injection e with e; injection e with e1 e2
    simp only [id] at e2
    subst e1 e2
    refine ⟨fun _ => .done i ks ?_, fun h => by omega⟩
    rcases (show i < k ∨ i = k by omega) with h1 | rfl
    · simp only [C.same i h1]; exact h
    · exact stk
  | err i ks e h hi => intro _ _ _ h; cases h
  | more i ks v j r h hi hr ih =>
    intro hik l j' e
    have h1 := (LP.goes C.hE hi (Nat.le_trans hik C.le)).1 _ _ rfl
    rcases (show i < k ∨ i = k by omega) with h2 | rfl
    · have hst : (!((tokAt T2 i).f0 == 0) && !((tokAt T2 i).f0 == 2)) = false := by rw [C.same i h2]; exact h
      have hj : j ≤ k := by
        rcases hi with ⟨_, h⟩ | ⟨_, _, h⟩ <;> (injection h with h; injection h with _ h; omega)
      have hi2 : LP T2 i (.ok (v, j)) := by unfold LP; rw [C.same i h2]; exact hi
      have := ih hj l j' e
      refine ⟨fun h => .more i ks v j _ hst hi2 (this.1 h), fun h => ?_⟩
      obtain ⟨l2, hl⟩ := this.2 h
      exact ⟨l2, .more i ks v j _ hst hi2 hl⟩
    · have h3 := (DA.goes C.hE hr h1.2).1 _ _ e
      exact ⟨fun h => by omega, fun _ => ⟨ks, .done i ks stk⟩⟩
theorem Cut.dp (i : Nat) (r : PR PTr.S26) (h : DP T i r) (hi : i ≤ k) : (∀ v j, r = .ok (v, j) → j ≤ k → DP T2 i (.ok (v, j))) ∧ (r = .error (2, a) → DP T2 i (.error (2, a))) := by
  have hgo := h.goes C.hE (Nat.le_trans hi C.le)
  have ek : ∀ j, j < k → tokAt T2 j = tokAt T j := C.same
  rcases (show i < k ∨ i = k by omega) with h1 | rfl
  · rcases h with ⟨c, rfl⟩ | ⟨c, ks, j, ha, hb⟩
    · refine ⟨(fun _ _ h => by cases h), fun h => .inl ⟨by rw [ek i h1]; exact c, by rw [ek i h1]; exact h.symm⟩⟩
    · have hal := (ha.goes C.hE (kind0 C.hE c (Nat.le_trans hi C.le))).1 _ _ rfl
      have hda := C.da ha h1 _ _ rfl
      rcases hb with ⟨c2, rfl⟩ | ⟨c2, ⟨e, h, rfl⟩ | ⟨ks', j', h, rfl⟩⟩
      · refine ⟨(fun _ _ h => by cases h), fun h => ?_⟩
        have hjk : j ≤ k := C.flt (b := 2) (by injection h with h; rw [← h]; exact ⟨j, Nat.le_refl _, hal.2, rfl, .inl ⟨rfl, rfl⟩⟩)
        refine .inr ⟨C.kind h1 0 c, ks, j, hda.1 hjk, .inl ?_⟩
        rcases (show j < k ∨ j = k by omega) with h2 | rfl
        · exact ⟨by rw [C.is h2]; exact c2, by rw [ek j h2]; exact h.symm⟩
        · exact ⟨C.isk _, by rw [C.at2]⟩
      · refine ⟨(fun _ _ h => by cases h), fun h' => ?_⟩
        have h2 := fin1 C.hE _ j hal.2 c2
        have he : e = (2, a) := by injection h'
        subst he
        have hjk := C.flt ((DB.goes C.hE h h2.2).2 _ rfl)
        exact .inr ⟨C.kind h1 0 c, ks, j, hda.1 (by omega), .inr ⟨by rw [C.is (by omega)]; exact c2, .inl ⟨_, (C.db h hjk).2 rfl, rfl⟩⟩⟩
      · refine ⟨fun v j'' h' hj => ?_, (fun h => by cases h)⟩
        injection h' with h'; injection h' with e1 e2
        subst e1 e2
        have h2 := fin1 C.hE _ j hal.2 c2
        have h3 := (DB.goes C.hE h h2.2).1 _ _ rfl
        refine .inr ⟨C.kind h1 0 c, ks, j, hda.1 (by omega), .inr ⟨by rw [C.is (by omega)]; exact c2, .inr ⟨ks', j', (C.db h (by omega)).1 _ _ rfl hj, by rw [ek i h1]⟩⟩⟩
  · exact ⟨fun v j h hj => by have := hgo.1 v j h; omega, fun _ => .inl ⟨C.k0, by rw [C.at2]⟩⟩
theorem Cut.rl {i : Nat} {ks : List PTr.S26} {r : PR (List PTr.S26)} (h : RL T i ks r) : i ≤ k → r = .error (2, a) → ∃ r2, RL T2 i ks r2 ∧ (r2 = .error (2, a) ∨ ∃ l, r2 = .ok (l, k)) := by
  have atk : ∀ ks, RL T2 k ks (.ok (ks, k)) := fun ks => .done k ks (by show ((tokAt T2 k).f0 == 4) = true; rw [C.fin]; rfl)
  induction h with
  | done i ks h => intro _ e; cases e
  | err i ks e h hi =>
    intro hik he
    rcases (show i < k ∨ i = k by omega) with h1 | rfl
    · exact ⟨_, .err i ks _ (by show ((tokAt T2 i).f0 == 4) = false; rw [C.same i h1]; exact h) ((C.dp _ _ hi hik).2 (by injection he with he; rw [he])), .inl rfl⟩
    · exact ⟨_, atk ks, .inr ⟨_, rfl⟩⟩
  | more i ks v j r h hi hr ih =>
    intro hik he
    rcases (show i < k ∨ i = k by omega) with h1 | rfl
    · have h2 := (DP.goes C.hE hi (Nat.le_trans hik C.le)).1 _ _ rfl
      have hjk := C.flt ((RL.goes C.hE hr h2.2).2 _ he)
      obtain ⟨r2, h3, h4⟩ := ih hjk he
      exact ⟨r2, .more i ks v j _ (by show ((tokAt T2 i).f0 == 4) = false; rw [C.same i h1]; exact h) ((C.dp _ _ hi hik).1 _ _ rfl hjk) h3, h4⟩
    · exact ⟨_, atk ks, .inr ⟨_, rfl⟩⟩
end
end Go.Proofs.YtahjkibjcibpgaaGreatDoor.L
end
section
namespace Go.Proofs.YtahjkibjcibpgaaGreatDoor.L
open Go.RowKit Go.Proofs.YtahjkibjcibpgaaGreatDoor.U Go.Proofs.YtahjkibjcibpgaaGreatDoorW.PrintWords Go.Proofs.YtahjkibjcibpgaaGreatDoor.PTr
theorem endT_lt {ts : List Tok} {n i : Nat} (h : i < ts.length) : tokAt (endT ts n) i = toS ts[i] := by
  unfold endT
  rw [tokAt_of (by simp; omega)]
  simp [h]
theorem endT_n (ts : List Tok) (n : Nat) : tokAt (endT ts n) ts.length = toS ⟨4, [], n⟩ := endT_end ts n
theorem endT_out {ts : List Tok} {n i : Nat} (h : ts.length < i) : tokAt (endT ts n) i = PTr.z41 := tokAt_out (by rw [endT_len]; omega)
theorem raw_pos {t : Tok} (h : good t) : 0 < (rawT t).length := List.length_pos_iff.2 (okTok_ne h.1)
theorem ch_asc {s : List UInt8} {ts : List Tok} (h : Ch s (spaceL s) ts) {i j : Nat} (hij : i < j) (hj : j < ts.length) : ts[i].at_ + (rawT ts[i]).length ≤ ts[j].at_ :=
  List.pairwise_iff_getElem.1 (Ch.asc h) i j (by omega) hj hij
theorem ch_fit {s : List UInt8} {ts : List Tok} (h : Ch s (spaceL s) ts) {t : Tok} (ht : t ∈ ts) : t.at_ + (rawT t).length ≤ s.length := by
  have h1 := (Ch.text h t ht).1.length_le
  have h2 := (Ch.text h t ht).2
  rw [List.length_drop] at h1
  omega
theorem dig_head {x : List UInt8} (h : firstL x = (1, x)) (h0 : x ≠ []) : ∃ c r, x = c :: r ∧ isDig c = true := by
  match x, h0 with
  | c :: r, _ =>
    refine ⟨c, r, rfl, ?_⟩
    unfold firstL at h
    simp only at h
    by_cases c1 : letterB c = true
    · rw [if_pos c1] at h
      injection h with h; exact absurd h (by decide)
    · rw [if_neg c1] at h
      by_cases c2 : isDig c = true
      · exact c2
      · rw [if_neg c2] at h
        by_cases c3 : c = 34
        · rw [if_pos c3] at h
          injection h with h; exact absurd h (by decide)
        · rw [if_neg c3] at h
          injection h with h; exact absurd h (by decide)
theorem src_of {s : List UInt8} {ts : List Tok} (h : Ch s (spaceL s) ts) (hl : s.length ≤ 65536) : Src s (endT ts s.length) ts.length := by
  have hg := Ch.good h
  refine ⟨(tk_of h hl).hE, fun i j hij hj => ?_, fun i hi => ?_, fun i hi => ?_, fun i hi => ?_, fun i hi h1 => ?_⟩
  · rw [endT_lt (show i < ts.length by omega)]
    have hp := raw_pos (hg ts[i] (List.getElem_mem _))
    rcases (show j < ts.length ∨ j = ts.length by omega) with h2 | rfl
    · rw [endT_lt h2]
      have := ch_asc h hij h2
      show ((ts[i].at_ : Nat) : Int) < ((ts[j].at_ : Nat) : Int)
      omega
    · rw [endT_n]
      have := ch_fit h (List.getElem_mem (show i < ts.length by omega))
      show ((ts[i].at_ : Nat) : Int) < ((s.length : Nat) : Int)
      omega
  · rw [endT_lt hi]
    have := (Ch.text h _ (List.getElem_mem hi)).2
    show 0 ≤ ((ts[i].at_ : Nat) : Int) ∧ ((ts[i].at_ : Nat) : Int) < ((s.length : Nat) : Int)
    omega
  · subst hi
    rw [endT_n]
    show 0 ≤ ((s.length : Nat) : Int)
    omega
  · rw [endT_lt hi]
    have := (Ch.text h _ (List.getElem_mem hi)).1
    show (if ((ts[i].kind : Nat) : Int) = 2 then 34 :: (ts[i].text ++ [34]) else ts[i].text) <+: s.drop ((ts[i].at_ : Nat) : Int).toNat
    rw [Int.toNat_natCast]
    unfold rawT at this
    by_cases c : ts[i].kind = 2
    · rw [if_pos c] at this; rw [if_pos (by omega)]; exact this
    · rw [if_neg c] at this; rw [if_neg (by omega)]; exact this
  · rw [endT_lt hi] at h1 ⊢
    have hgi := hg _ (List.getElem_mem hi)
    have hk : ts[i].kind = 1 := by
      have h1 : ((ts[i].kind : Nat) : Int) = 1 := h1
      omega
    obtain ⟨c, r, hc, hd⟩ := dig_head (x := rawT ts[i]) (by have := hgi.2; rw [hk] at this; exact this) (okTok_ne hgi.1)
    have hpre := (Ch.text h _ (List.getElem_mem hi)).1
    rw [hc] at hpre
    obtain ⟨q, hq⟩ := hpre
    refine ⟨c, ?_, hd⟩
    show s[((ts[i].at_ : Nat) : Int).toNat]? = some c
    rw [Int.toNat_natCast]
    have := List.getElem?_drop (xs := s) (i := ts[i].at_) (j := 0)
    rw [Nat.add_zero, ← hq] at this
    rw [← this]
    rfl
theorem goodT_of {s : List UInt8} {ts : List Tok} (h : Ch s (spaceL s) ts) : GoodT (endT ts s.length) ∧ NameT (endT ts s.length) ts.length := by
  have hg := Ch.good h
  constructor
  · intro i
    rcases Nat.lt_trichotomy i ts.length with h1 | h1 | h1
    · rw [endT_lt h1]
      have hgi := hg _ (List.getElem_mem h1)
      constructor
      · intro hk _ _
        have hk : ts[i].kind = 0 := by
          have h1 : ((ts[i].kind : Nat) : Int) = 0 := hk
          omega
        have hr : rawT ts[i] = ts[i].text := by unfold rawT; rw [if_neg (by omega)]
        unfold good at hgi
        rw [hk, hr] at hgi
        exact hgi
      · intro hk
        have hk : ts[i].kind = 2 := by
          have h1 : ((ts[i].kind : Nat) : Int) = 2 := hk
          omega
        have hr : rawT ts[i] = 34 :: (ts[i].text ++ [34]) := by unfold rawT; rw [if_pos hk]
        unfold good at hgi
        rw [hk, hr] at hgi
        exact hgi
    · subst h1
      rw [endT_n]
      exact ⟨(fun h => absurd (show (4 : Int) = 0 from h) (by decide)), (fun h => absurd (show (4 : Int) = 2 from h) (by decide))⟩
    · rw [endT_out h1]
      exact ⟨(fun _ _ h => absurd rfl h), (fun h => absurd (show (0 : Int) = 2 from h) (by decide))⟩
  · intro i hi hk
    rcases (show i < ts.length ∨ i = ts.length by omega) with h1 | rfl
    · rw [endT_lt h1] at hk ⊢
      have hgi := hg _ (List.getElem_mem h1)
      have hk : ts[i].kind = 0 := by
        have h1 : ((ts[i].kind : Nat) : Int) = 0 := hk
        omega
      have hr : rawT ts[i] = ts[i].text := by unfold rawT; rw [if_neg (by omega)]
      have := okTok_ne hgi.1
      simp only at this
      rw [hr] at this
      exact this
    · rw [endT_n] at hk
      exact absurd (show (4 : Int) = 0 from hk) (by decide)
theorem parse_cases (s : ByteArray) :
    ((scanL s.data.toList).2.1 ≠ 0 ∧ ((scanL s.data.toList).2.1 = 2 ∨ (scanL s.data.toList).2.1 = 8) ∧ Ex.tree_Parse.f s = some (0, ⟨#[]⟩, 0, 0, 0, [], (((scanL s.data.toList).2.1 : Nat) : Int), (((scanL s.data.toList).2.2 : Nat) : Int))) ∨
    (∃ ts, Ch s.data.toList (spaceL s.data.toList) ts ∧ s.data.toList.length ≤ 65536 ∧ scanL s.data.toList = (ts ++ [⟨4, [], s.data.toList.length⟩], 0, 0) ∧
      ((∃ l j, RL (endT ts s.data.toList.length) 0 [] (.ok (l, j)) ∧ Ex.tree_Parse.f s = some (0, ⟨#[]⟩, 0, 0, 0, l, 0, 0)) ∨
       (∃ e a, RL (endT ts s.data.toList.length) 0 [] (.error (e, a)) ∧ Ex.tree_Parse.f s = some (0, ⟨#[]⟩, 0, 0, 0, [], e, a)))) := by
  by_cases hs : (scanL s.data.toList).2.1 = 0
  · obtain ⟨ts, hc, hl, hsc⟩ := ch_of_scanL hs
    have hT : srcT s = endT ts s.data.toList.length := by unfold srcT endT; rw [hsc]
    obtain ⟨r, hr⟩ := RL.total (tk_of hc hl).hE 0 [] (Nat.zero_le _)
    refine .inr ⟨ts, hc, hl, hsc, ?_⟩
    match r, hr with
    | .ok (l, j), hr => exact .inl ⟨l, j, hr, Ex.tree_Parse.f_ok hs (by rw [hT]; exact hr)⟩
    | .error (e, a), hr => exact .inr ⟨e, a, hr, Ex.tree_Parse.f_fault (e := (e, a)) hs (by rw [hT]; exact hr)⟩
  · rcases scanL_err s.data.toList with ⟨h, _⟩ | ⟨_, h⟩
    · exact absurd h hs
    · exact .inl ⟨hs, h, Ex.tree_Parse.f_scan hs⟩
end Go.Proofs.YtahjkibjcibpgaaGreatDoor.L
end
section
namespace Go.Proofs.YtahjkibjcibpgaaGreatDoor.L
open Go.RowKit Go.Shelf Go.Lib Go.Proofs.YtahjkibjcibpgaaGreatDoor.U
open Go.Proofs.YtahjkibjcibpgaaGreatDoorW Go.Proofs.YtahjkibjcibpgaaGreatDoorW.PrintWords
attribute [local go_sem] Oper.semAt_some
set_option maxRecDepth 100000 in
theorem bld_used (b : Nat) (w : World) (h0 : w.cell? ⟨b, 0, none⟩ = some (.pointer (some ⟨b, 0, none⟩))) :
    Calls Tryz.prog 32 #[.pointer (some ⟨b, 0, none⟩)] w fun e w' => e = .returned (.tuple #[]) ∧ w' = w := by
  obtain ⟨j, hj, _⟩ := Option.map_eq_some_iff.1 Tryz.Builder_Extra_169.sizeBuilder
  go_enter Tryz.func32, Tryz.ntmps32
  go_wp2
  rw [Lib.run_neq_ptr_same w _ Tryz.underlying47 hj]
  go_wp2
  go_end0
  exact ⟨rfl, rfl⟩
set_option maxRecDepth 100000 in
theorem bld_fresh (b : Nat) (w : World) (h0 : w.cell? ⟨b, 0, none⟩ = some (.pointer none)) (hsh : w.shape? b = some (50, 2)) (hfz : w.frozen? ⟨b, 0, none⟩ = false) :
    Calls Tryz.prog 32 #[.pointer (some ⟨b, 0, none⟩)] w fun e w' => e = .returned (.tuple #[]) ∧ w' = w.setCell ⟨b, 0, none⟩ (.pointer (some ⟨b, 0, none⟩)) := by
  obtain ⟨j, hj, hjs⟩ := Option.map_eq_some_iff.1 Tryz.Builder_Extra_169.sizeBuilder
  go_enter Tryz.func32, Tryz.ntmps32
  go_wp2
  rw [Lib.run_to_unsafe w ⟨b, 0, none⟩ Tryz.underlying47 Tryz.underlying98 hj (by rw [hjs]; decide) hsh (Nat.zero_lt_succ 1)]
  simp only [Result.andThen]
  rw [Oper.upon_value]
  go_wp2
  rw [run_callFunc_extern Tryz.func53 (by kernel_rfl) (by kernel_rfl) (by kernel_rfl) (e := Extern.AbiNoEscape.same) (by kernel_rfl)]
  rw [Lib.run_noEscape]
  simp only [Result.andThen]
  rw [Oper.upon_value]
  go_wp2
  rw [Lib.run_from_unsafe w ⟨b, 0, none⟩ Tryz.underlying98 Tryz.underlying47 hj hsh Tryz.Builder_Extra_169.liesBuilder]
  simp only [Result.andThen]
  rw [Oper.upon_value]
  go_wp2
  go_end0
  exact ⟨rfl, rfl⟩
theorem bld_check (B b : Nat) (bs : List Value) (w : World) (h : Lib.IsBuilderF 50 5 B b bs w) :
    Calls Tryz.prog 32 #[.pointer (some ⟨b, 0, none⟩)] w fun e w' => e = .returned (.tuple #[]) ∧ (Lib.BuilderAtF 50 5 B b (.pointer (some ⟨b, 0, none⟩)) bs w' ∧ Below B w w' ∧ Lib.OthersKept 5 (some b) w w') := by
  rcases h with h | h
  · refine (bld_fresh b w h.cell0 h.shape h.frozen0).mono ?_
    rintro e w' ⟨rfl, rfl⟩
    exact ⟨rfl, h.used _, (Below.refl B w).setCell (p := ⟨b, 0, none⟩) h.1 _, (Lib.OthersKept.refl _ _ w).setCell ⟨b, 0, none⟩ rfl _⟩
  · refine (bld_used b w h.cell0).mono ?_
    rintro e w' ⟨rfl, rfl⟩
    exact ⟨rfl, h, Below.refl B _, Lib.OthersKept.refl _ _ _⟩
set_option maxRecDepth 100000 in
theorem bld_write (B b : Nat) (bs : List Value) (s : ByteArray) (w : World) (h : Lib.IsBuilderF 50 5 B b bs w) (hlen : bs.length + s.size ≤ 140737488355328) (hBw : B ≤ w.heap.size) :
    Calls Tryz.prog 18 #[.pointer (some ⟨b, 0, none⟩), .string s] w fun e w' => e = .returned (.tuple #[.int .i64 s.size, .nilIface]) ∧ (Lib.BuilderAtF 50 5 B b (.pointer (some ⟨b, 0, none⟩)) (bs ++ Lib.strCells s) w' ∧ Below B w w' ∧ Lib.OthersKept 5 (some b) w w') := by
  obtain ⟨i0, hi, hz0, hz1, hz2⟩ := info_parts Tryz.Builder_Extra_169.infoByte
  go_enter Tryz.func18, Tryz.ntmps18
  go_wp2_with (go_at_call 32; go_loud (refine (bld_check B b bs _ h).mono ?_))
  rintro e w1 ⟨rfl, h1, hb1, hk1⟩
  obtain ⟨hB, v, hbk, hown, hne⟩ := h1
  have c0 : w1.cell? ⟨b, 0, none⟩ = some (.pointer (some ⟨b, 0, none⟩)) := by rw [Lib.cell_of_heap hbk]; rfl
  have c1 : w1.cell? ⟨b, 1, none⟩ = some v := by rw [Lib.cell_of_heap hbk]; rfl
  go_wp2_with (at_builtin; refine Lib.wpList_append_own_stringF _ rfl _ _ 48 9 rfl B 5 i0 Tryz.underlying48 Tryz.underlying9 hi hz0 hz1 hz2 _ _ _ rfl hown s rfl ?c3 ?c4 ?c5 ?_)
  case c3 => unfold maxLen; omega
  case c4 => omega
  case c5 => have := hb1.size; omega
  intro v' w2 hown' hgrow _
  have hlt : b < w1.heap.size := blk_lt hbk
  have hb2 : w2.heap[b]? = some (.cells #[.pointer (some ⟨b, 0, none⟩), v] 50 (0, 0)) := by
    rw [hgrow.block b hlt (fun e => hne e.symm)]
    exact hbk
  have d0 : w2.cell? ⟨b, 0, none⟩ = some (.pointer (some ⟨b, 0, none⟩)) := by rw [Lib.cell_of_heap hb2]; rfl
  have d1 : w2.cell? ⟨b, 1, none⟩ = some v := by rw [Lib.cell_of_heap hb2]; rfl
  have f1 : w2.frozen? ⟨b, 1, none⟩ = false := Lib.frozen_of_heap hb2 1
  obtain ⟨ao, n', cap, rfl⟩ : ∃ ao n' cap, v' = .slice ao n' cap := by
    rcases hown'.2 with ⟨hv, _⟩ | ⟨g, cap, cur, fz, hv, _⟩
    · exact ⟨_, _, _, hv⟩
    · exact ⟨_, _, _, hv⟩
  go_wp2
  go_ret2
  refine ⟨rfl, ?_, ?_, (hk1.grown hgrow (Lib.ownsRowF_kind hown)).setCell ⟨b, 1, none⟩ rfl _⟩
  · exact Lib.BuilderAtF.put (T := 50) (e := 5) hB hb2 (bs' := bs ++ Lib.strCells s) (by simpa [Lib.strCells_length] using hown') Tryz.Builder_Extra_169.neB5
  · exact (hb1.grown hgrow (by have := hb1.size; omega) (fun k hk => (hown.lt k hk).1)).setCell (p := ⟨b, 1, none⟩) hB _
end Go.Proofs.YtahjkibjcibpgaaGreatDoor.L
end
section
namespace Go.Proofs.YtahjkibjcibpgaaGreatDoor.PTr
theorem q1sizeW : (⟨#[34]⟩ : ByteArray).size = 1 := rfl
theorem q1sizeP : (⟨#[40]⟩ : ByteArray).size = 1 := rfl
open Go.RowKit Go.Proofs.YtahjkibjcibpgaaGreatDoorW.Sq Go.Proofs.YtahjkibjcibpgaaGreatDoorW.PrintWords Go.Proofs.YtahjkibjcibpgaaGreatDoorW.PrintLast Go.Proofs.YtahjkibjcibpgaaGreatDoorW.PrintMore
attribute [local go_sem] max2_int min2_int max_two min_two max_three min_three max_four min_four   -- for this text's walks alone
set_option linter.unusedVariables false
set_option linter.unusedSimpArgs false
mutual
def tree_write.l0 : Nat → List ByteArray → List (S26) → Int → Int → Option (ByteArray)
  | 0, _, _, _, _ => none
  | k + 1, x3, x22, x23, x24 => if x24 < x23 then (if 0 ≤ x24 then (if x24 < (x22.length : Int) then ((tree_write.f k ((rd_T26 x22 x24).f0) ((rd_T26 x22 x24).f1) ((rd_T26 x22 x24).f2.f0) ((rd_T26 x22 x24).f2.f1) ((rd_T26 x22 x24).f3) ((rd_T26 x22 x24).f4)).bind fun t105 => (if x3.length < 8796093022208 then (tree_write.l0 k (x3 ++ [t105]) x22 x23 (wrap64 (x24 + 1))) else (none))) else (none)) else (none)) else ((Ex.strings_Join.f x3 (⟨#[44, 32]⟩ : ByteArray)).bind fun t109 => (if 1 + t109.size ≤ 9223372036854775807 then (if ((⟨#[40]⟩ : ByteArray) ++ t109).size + 1 ≤ 9223372036854775807 then (some (((⟨#[40]⟩ : ByteArray) ++ t109) ++ (⟨#[41]⟩ : ByteArray))) else (none)) else (none)))
def tree_write.f : Nat → Int → ByteArray → Int → Int → Int → List (S26) → Option (ByteArray)
  | 0, _, _, _, _, _, _ => none
  | k + 1, a0_0, a0_1, a0_2, a0_3, a0_4, l0_5 => if a0_0 = 4 then (if 1 + a0_1.size ≤ 9223372036854775807 then (if ((⟨#[34]⟩ : ByteArray) ++ a0_1).size + 1 ≤ 9223372036854775807 then (some (((⟨#[34]⟩ : ByteArray) ++ a0_1) ++ (⟨#[34]⟩ : ByteArray))) else (none)) else (none)) else (if a0_0 = 5 then ((Ex.unit_Write.f a0_2 a0_3).bind fun t102 => (some t102)) else (if a0_0 = 6 then (tree_write.l0 k ([] : List ByteArray) l0_5 (l0_5.length : Int) 0) else (some a0_1)))
end
theorem tree_write.mono_l : ∀ k, (∀ y0 y1 y2 y3 y4 y5, LeO (tree_write.f k y0 y1 y2 y3 y4 y5) (tree_write.f (k + 1) y0 y1 y2 y3 y4 y5)) ∧ (∀ y0 y1 y2 y3, LeO (tree_write.l0 k y0 y1 y2 y3) (tree_write.l0 (k + 1) y0 y1 y2 y3))
  | 0 => ⟨fun _ _ _ _ _ _ r h => by simp [tree_write.f] at h, fun _ _ _ _ r h => by simp [tree_write.l0] at h⟩
  | k + 1 => by
    obtain ⟨ih0, ih1⟩ := tree_write.mono_l k
    refine ⟨?_, ?_⟩
    · intro y0 y1 y2 y3 y4 y5
      unfold tree_write.f
      repeat' first
      | (with_reducible exact ih0 _ _ _ _ _ _)
      | (with_reducible exact ih1 _ _ _ _)
      | (with_reducible exact LeO.refl _)
      | (with_reducible exact LeO.none _)
      | (with_reducible refine LeO.ite ?_ ?_)
      | (with_reducible refine LeO.bind ?_ (fun _ => ?_))
      | exact ih0 _ _ _ _ _ _
      | exact ih1 _ _ _ _
      | exact LeO.none _
      | refine LeO.ite ?_ ?_
      | refine LeO.bind ?_ (fun _ => ?_)
    intro y0 y1 y2 y3
    unfold tree_write.l0
    repeat' first
    | (with_reducible exact ih0 _ _ _ _ _ _)
    | (with_reducible exact ih1 _ _ _ _)
    | (with_reducible exact LeO.refl _)
    | (with_reducible exact LeO.none _)
    | (with_reducible refine LeO.ite ?_ ?_)
    | (with_reducible refine LeO.bind ?_ (fun _ => ?_))
    | exact ih0 _ _ _ _ _ _
    | exact ih1 _ _ _ _
    | exact LeO.none _
    | refine LeO.ite ?_ ?_
    | refine LeO.bind ?_ (fun _ => ?_)
theorem tree_write.mono : ∀ a0 a1 a2 a3 a4 a5 k, LeO (tree_write.f k a0 a1 a2 a3 a4 a5) (tree_write.f (k + 1) a0 a1 a2 a3 a4 a5) := by
  intro a0 a1 a2 a3 a4 a5 k
  obtain ⟨ih0, ih1⟩ := tree_write.mono_l k
  exact ih0 a0 a1 a2 a3 a4 a5
set_option maxHeartbeats 8000000 in
set_option maxRecDepth 100000 in
theorem tree_write.calls (k : Nat) : ∀ (a0_0 : Int) (a0_1 : ByteArray) (a0_2 : Int) (a0_3 : Int) (a0_4 : Int) (A0_5 : Option Addr) (c0_5 : Nat) (l0_5 : List (S26)) (r : ByteArray) (w : World) (hg : Go.Proofs.YtahjkibjcibpgaaGreatDoor.U.UW w) (hr0_5 : Kd.C k26 w A0_5 l0_5.length l0_5) (hc0_5 : l0_5.length ≤ c0_5) (h : tree_write.f k a0_0 a0_1 a0_2 a0_3 a0_4 l0_5 = some r),
    Calls Tryz.prog 19 #[.agg #[.int .i64 a0_0, .string a0_1, .int .i64 a0_2, .int .i64 a0_3, .int .i64 a0_4, .slice A0_5 l0_5.length c0_5]] w fun e w' => e = .returned (.string r) ∧ Below w.heap.size w w' := by
  induction k using Nat.strongRecOn with
  | _ k ih =>
  intro a0_0 a0_1 a0_2 a0_3 a0_4 A0_5 c0_5 l0_5 r w hg hr0_5 hc0_5 h
  cases k with
  | zero => exact absurd h (by simp [tree_write.f])
  | succ k =>
  simp only [tree_write.f] at h
  have hu26 := Tryz.underlying26
  have hu23 := Tryz.underlying23
  have HR0_5 := Aside0.mk hr0_5
  have HC0_5 := Aside0.mk hc0_5
  clear hr0_5 hc0_5
  have HB := Aside0.mk (Below.refl w.heap.size w)
  have HGW := Aside0.mk hg
  clear hg
  have H : (if a0_0 = 4 then (if 1 + a0_1.size ≤ 9223372036854775807 then (if ((⟨#[34]⟩ : ByteArray) ++ a0_1).size + 1 ≤ 9223372036854775807 then (some (((⟨#[34]⟩ : ByteArray) ++ a0_1) ++ (⟨#[34]⟩ : ByteArray))) else (none)) else (none)) else (if a0_0 = 5 then ((Ex.unit_Write.f a0_2 a0_3).bind fun t102 => (some t102)) else (if a0_0 = 6 then (tree_write.l0 k ([] : List ByteArray) l0_5 (l0_5.length : Int) 0) else (some a0_1)))) = some r := h
  clear h
  by_cases c2 : a0_0 = 4
  · rw [if_pos c2] at H
    have c2b0 : (a0_0 == 4) = true := beq_iff_eq.mpr c2
    have c2b1 : (a0_0 != 4) = false := bne_eq_false_iff_eq.mpr c2
    clear c2
    by_cases c3 : 1 + a0_1.size ≤ 9223372036854775807
    · rw [if_pos c3] at H
      have c3b0 := eq_true c3
      have c3b1 : decide (1 + a0_1.size ≤ 9223372036854775807) = true := decide_eq_true c3
      try have c3b2 : (9223372036854775807 < 1 + a0_1.size) = False := eq_false (Nat.not_lt.2 c3)
      by_cases c4 : ((⟨#[34]⟩ : ByteArray) ++ a0_1).size + 1 ≤ 9223372036854775807
      · rw [if_pos c4] at H
        have c4b0 := eq_true c4
        have c4b1 : decide (((⟨#[34]⟩ : ByteArray) ++ a0_1).size + 1 ≤ 9223372036854775807) = true := decide_eq_true c4
        try have c4b2 : (9223372036854775807 < ((⟨#[34]⟩ : ByteArray) ++ a0_1).size + 1) = False := eq_false (Nat.not_lt.2 c4)
        try have c4b3 := c4b2
        try simp only [ByteArray.size_append, q1sizeW, q1sizeP] at c4b3
        obtain rfl := Option.some.inj H
        go_enter Tryz.func19, Tryz.ntmps19
        go_wp2_with (first | ((with_reducible refine gate_dst (N := 1) rfl ?_); refine box_event ?hg (N := 1) ?hd (cs := #[.int .i64 a0_0, .string a0_1, .int .i64 a0_2, .int .i64 a0_3, .int .i64 a0_4, .slice A0_5 l0_5.length c0_5]) (t := 26) ?hr ?_; (case hd => rfl); (case hg => rfl); (case hr => first | (go_simp; done) | (go_simp; rfl)); intro gb101 hg w5 hbox hb; have n0_ := Aside0.mk (below_step (by repeat with_reducible first|exact HB.out|apply ba|apply bN|apply bd) hb); have n1_ := Aside0.mk (hbox); have n2_ := Aside0.mk ((by rw [hg]; exact (below_size (by repeat with_reducible first|exact HB.out|apply ba|apply bN|apply bd)) : w.heap.size ≤ gb101)); have n3_ := Aside0.mk ((by rw [hg]; exact (below_size (by repeat with_reducible first|exact HB.out|apply ba|apply bN|apply bd)) : w.heap.size ≤ gb101)); clear HB; have HB := n0_; have BK101 := n1_; have GW101 := n2_; have GE101 := n3_; clear n0_ n1_ n2_ n3_; clear hb hbox hg; obtain ⟨hcz6_0, hcz6_1, hcz6_2, hcz6_3, hcz6_4, hcz6_5, hfz6_0, hfz6_1, hfz6_2, hfz6_3, hfz6_4, hfz6_5⟩ := cl6 BK101.out))
        go_ret
        exact ⟨by first|rfl|(simp<;>rfl)|(simp [*]<;>rfl), by repeat with_reducible first|exact HB.out|apply ba|apply bN|apply bd|refine below_set ?_ GE101.out⟩
      rw [if_neg c4] at H
      exact absurd H (by simp)
    rw [if_neg c3] at H
    exact absurd H (by simp)
  rw [if_neg c2] at H
  have c2b0 : (a0_0 == 4) = false := beq_eq_false_iff_ne.mpr c2
  have c2b1 : (a0_0 != 4) = true := bne_iff_ne.mpr c2
  by_cases c7 : a0_0 = 5
  · rw [if_pos c7] at H
    have c7b0 : (a0_0 == 5) = true := beq_iff_eq.mpr c7
    have c7b1 : (a0_0 != 5) = false := bne_eq_false_iff_eq.mpr c7
    clear c7
    replace H := Option.bind_eq_some_iff.mp H
    obtain ⟨t102, A80, H⟩ := H
    replace H : (some t102) = some r := H
    have A8 := Aside0.mk A80
    clear A80
    obtain rfl := Option.some.inj H
    go_enter Tryz.func19, Tryz.ntmps19
    go_wp2_with (first | ((with_reducible refine gate_dst (N := 1) rfl ?_); refine box_event ?hg (N := 1) ?hd (cs := #[.int .i64 a0_0, .string a0_1, .int .i64 a0_2, .int .i64 a0_3, .int .i64 a0_4, .slice A0_5 l0_5.length c0_5]) (t := 26) ?hr ?_; (case hd => rfl); (case hg => rfl); (case hr => first | (go_simp; done) | (go_simp; rfl)); intro gb101 hg w9 hbox hb; have n0_ := Aside0.mk (below_step (by repeat with_reducible first|exact HB.out|apply ba|apply bN|apply bd) hb); have n1_ := Aside0.mk (hbox); have n2_ := Aside0.mk ((by rw [hg]; exact (below_size (by repeat with_reducible first|exact HB.out|apply ba|apply bN|apply bd)) : w.heap.size ≤ gb101)); have n3_ := Aside0.mk ((by rw [hg]; exact (below_size (by repeat with_reducible first|exact HB.out|apply ba|apply bN|apply bd)) : w.heap.size ≤ gb101)); clear HB; have HB := n0_; have BK101 := n1_; have GW101 := n2_; have GE101 := n3_; clear n0_ n1_ n2_ n3_; clear hb hbox hg; obtain ⟨hcz10_0, hcz10_1, hcz10_2, hcz10_3, hcz10_4, hcz10_5, hfz10_0, hfz10_1, hfz10_2, hfz10_3, hfz10_4, hfz10_5⟩ := cl6 BK101.out) | ((with_reducible refine gate_callee (f := 33) rfl ?_); refine goesL_ (some 18) rfl rfl Tryz.func33 (by kernel_rfl) rfl #[.agg #[.int .i64 a0_2, .int .i64 a0_3]] rfl (by (try simp only [List.map_toArray, List.map_cons, List.map_nil]); first | done | rfl | (simp only [List.length_drop, List.length_take]; rfl) | (simp only [Int.toNat_natCast, ByteArray.extract_zero_size] <;> rfl) | (rw [Int.toNat_natCast, ByteArray.extract_zero_size] <;> rfl)) ?_; (with_reducible refine (Ex.unit_Write.calls a0_2 a0_3 t102 _ ?side1 A8.out).mono ?_); (case side1 => exact Go.Proofs.YtahjkibjcibpgaaGreatDoor.U.UW.step HGW.out (by repeat with_reducible first|exact HB.out|apply ba|apply bN|apply bd|refine below_set ?_ GE101.out)); rintro e w11 ⟨rfl, hb⟩; refine ⟨_, rfl, ?_⟩; have n0_ := Aside0.mk (blk_below (g := gb101) (o := .cells #[.int .i64 a0_0, .string a0_1, .int .i64 a0_2, .int .i64 a0_3, .int .i64 a0_4, .slice A0_5 l0_5.length c0_5] 26 (0, 0)) (by (with_reducible repeat first|refine kN ?_ _|refine kd ?_|refine ka ?_ _); exact BK101.out) hb); have n1_ := Aside0.mk (below_step (by repeat with_reducible first|exact HB.out|apply ba|apply bN|apply bd|refine below_set ?_ GE101.out) hb); clear BK101; clear HB; have BK101 := n0_; have HB := n1_; clear n0_ n1_; (try clear hb); (try clear hb2); (try clear hk); (try clear hi)))
    go_ret
    exact ⟨by first|rfl|(simp<;>rfl)|(simp [*]<;>rfl), by repeat with_reducible first|exact HB.out|apply ba|apply bN|apply bd|refine below_set ?_ GE101.out⟩
  rw [if_neg c7] at H
  have c7b0 : (a0_0 == 5) = false := beq_eq_false_iff_ne.mpr c7
  have c7b1 : (a0_0 != 5) = true := bne_iff_ne.mpr c7
  by_cases c12 : a0_0 = 6
  · rw [if_pos c12] at H
    have c12b0 : (a0_0 == 6) = true := beq_iff_eq.mpr c12
    have c12b1 : (a0_0 != 6) = false := bne_eq_false_iff_eq.mpr c12
    clear c12
    have H' := Aside0.mk H
    clear H
    go_enter Tryz.func19, Tryz.ntmps19
    go_wp2_with (first | ((with_reducible refine gate_dst (N := 1) rfl ?_); refine box_event ?hg (N := 1) ?hd (cs := #[.int .i64 a0_0, .string a0_1, .int .i64 a0_2, .int .i64 a0_3, .int .i64 a0_4, .slice A0_5 l0_5.length c0_5]) (t := 26) ?hr ?_; (case hd => rfl); (case hg => rfl); (case hr => first | (go_simp; done) | (go_simp; rfl)); intro gb101 hg w13 hbox hb; have n0_ := Aside0.mk (below_step (by repeat with_reducible first|exact HB.out|apply ba|apply bN|apply bd) hb); have n1_ := Aside0.mk (hbox); have n2_ := Aside0.mk ((by rw [hg]; exact (below_size (by repeat with_reducible first|exact HB.out|apply ba|apply bN|apply bd)) : w.heap.size ≤ gb101)); have n3_ := Aside0.mk ((by rw [hg]; exact (below_size (by repeat with_reducible first|exact HB.out|apply ba|apply bN|apply bd)) : w.heap.size ≤ gb101)); clear HB; have HB := n0_; have BK101 := n1_; have GW101 := n2_; have GE101 := n3_; clear n0_ n1_ n2_ n3_; clear hb hbox hg; obtain ⟨hcz14_0, hcz14_1, hcz14_2, hcz14_3, hcz14_4, hcz14_5, hfz14_0, hfz14_1, hfz14_2, hfz14_3, hfz14_4, hfz14_5⟩ := cl6 BK101.out))
    go_loopg [3, 24] k (fun kq v3 v24 w' => ∃ (x3_1 : List ByteArray) (x24_1 : Int), v24 = .int .i64 x24_1 ∧ Aside0 (tree_write.l0 kq x3_1 l0_5 (l0_5.length : Int) x24_1 = some r) ∧ Aside0 (kq ≤ k) ∧ Aside0 (Kd.R Kd.string 9 w' w.heap.size (fun _ => True) v3 x3_1) ∧ Aside0 (w'.heap[gb101]? = some (.cells #[.int .i64 a0_0, .string a0_1, .int .i64 a0_2, .int .i64 a0_3, .int .i64 a0_4, (.slice A0_5 l0_5.length c0_5)] 26 (0, 0))) ∧ Aside0 (Below w.heap.size w w'))
    case atStart => exact ⟨(([] : List ByteArray)), (0), (by first|rfl|(simp;done)|(simp [*];done)), H', ⟨Nat.le_refl _⟩, ⟨by first | exact Kd.R_nil _ _ _ _ _ | exact Kd.N_nil _ _ _ _ _ | exact Kd.V_nil _ _ _ _ _ | exact Kd.Q_nil _ _ _ _ _ | exact Kd.S_nil _ _ _ _ _⟩, ⟨by (with_reducible repeat first|refine kN ?_ _|refine kd ?_|refine ka ?_ _); exact BK101.out⟩, ⟨by repeat with_reducible first|exact HB.out|apply ba|apply bN|apply bd|refine below_set ?_ GE101.out⟩⟩
    case round =>
      clear H'
      try clear c1;try clear c2;try clear c2b0;try clear c2b1;try clear p2;try clear c3;try clear c3b0;try clear c3b1;try clear c3b2;try clear c4;try clear c4b0;try clear c4b1;try clear c4b2;try clear c7;try clear c7b0;try clear c7b1;try clear c12;try clear c12b0;try clear c12b1;try clear hcz10_0;try clear hcz10_1;try clear hcz10_2;try clear hcz10_3;try clear hcz10_4;try clear hcz10_5;try clear hcz14_0;try clear hcz14_1;try clear hcz14_2;try clear hcz14_3;try clear hcz14_4;try clear hcz14_5;try clear hcz6_0;try clear hcz6_1;try clear hcz6_2;try clear hcz6_3;try clear hcz6_4;try clear hcz6_5;try clear hfz10_0;try clear hfz10_1;try clear hfz10_2;try clear hfz10_3;try clear hfz10_4;try clear hfz10_5;try clear hfz14_0;try clear hfz14_1;try clear hfz14_2;try clear hfz14_3;try clear hfz14_4;try clear hfz14_5;try clear hfz6_0;try clear hfz6_1;try clear hfz6_2;try clear hfz6_3;try clear hfz6_4;try clear hfz6_5
      obtain ⟨x3_1, x24_1, rfl, HA, HK1, HO_3, BK101, HB⟩ := hrel
      cases gk with
      | zero => exact absurd HA.out (by simp [tree_write.l0])
      | succ k1 =>
        have H := HA.out
        clear HA
        simp only [tree_write.l0] at H
        by_cases c15 : x24_1 < (l0_5.length : Int)
        · rw [if_pos c15] at H
          have c15b0 : decide (x24_1 < (l0_5.length : Int)) = true := decide_eq_true c15
          clear c15
          by_cases c16 : 0 ≤ x24_1
          · rw [if_pos c16] at H
            have c16b0 : decide (0 ≤ x24_1) = true := decide_eq_true c16
            clear c16
            by_cases c17 : x24_1 < (l0_5.length : Int)
            · rw [if_pos c17] at H
              have c17b0 : decide (x24_1 < (l0_5.length : Int)) = true := decide_eq_true c17
              clear c17
              replace H := Option.bind_eq_some_iff.mp H
              obtain ⟨t105, A180, H⟩ := H
              replace H : (if x3_1.length < 8796093022208 then (tree_write.l0 k1 (x3_1 ++ [t105]) l0_5 (l0_5.length : Int) (wrap64 (x24_1 + 1))) else (none)) = some r := H
              have A18 := Aside0.mk A180
              clear A180
              by_cases c19 : x3_1.length < 8796093022208
              · rw [if_pos c19] at H
                have LMc19 := Aside0.mk c19
                clear c19
                obtain ⟨y106, hy106⟩ : ∃ y_ : List ByteArray, y_ = (x3_1 ++ [t105]) := ⟨_, rfl⟩
                replace H : (tree_write.l0 k1 y106 l0_5 (l0_5.length : Int) (wrap64 (x24_1 + 1))) = some r := by first | (rw [hy106]; with_reducible exact H) | (have H2_ := (Option.bind_some _ _).symm.trans H; rw [hy106]; with_reducible exact H2_) | (have H2_ := (Option.bind_some _ _).symm.trans H; with_reducible exact H2_) | with_reducible exact H | (rw [hy106]; exact H) | exact H
                have Ny106 := Aside0.mk hy106
                clear hy106
                have H' := Aside0.mk H
                clear H
                have p103 : 0 ≤ (x24_1 : Int) := of_decide_eq_true (by first|with_reducible assumption|assumption)
                have q103 : x24_1 < (l0_5.length : Int) := of_decide_eq_true (by first|with_reducible assumption|assumption)
                obtain ⟨ad103, A103_5, c103_5, e103, hx103_0, hx103_1, hx103_2, hx103_3, hx103_4, hx103_5, hl103_5, hi103_5⟩ := at_T26 HR0_5.out x24_1 p103 q103
                cases e103
                replace hx103_0 := cb HB.out hx103_0
                replace hx103_1 := cb HB.out hx103_1
                replace hx103_2 := cb HB.out hx103_2
                replace hx103_3 := cb HB.out hx103_3
                replace hx103_4 := cb HB.out hx103_4
                replace hx103_5 := cb HB.out hx103_5
                have HR103_5 := Aside0.mk hi103_5
                have HC103_5 := Aside0.mk hl103_5
                clear hi103_5 hl103_5
                replace p103 := eq_true p103
                replace q103 := eq_true q103
                go_wp2_with (first | ((with_reducible refine gate_dst (N := 5) rfl ?_); refine box_event ?hg (N := 5) ?hd (cs := #[.int .i64 0, .string (⟨#[]⟩ : ByteArray), .int .i64 0, .int .i64 0, .int .i64 0, .slice none 0 0]) (t := 26) ?hr ?_; (case hd => rfl); (case hg => rfl); (case hr => first | (go_simp; done) | (go_simp; rfl)); intro gb104 hg w20 hbox hb; have n0_ := Aside0.mk (Kd.R_below (by (with_reducible repeat (first | apply Kd.R_alloc | apply Kd.R_drewN | apply Kd.R_drew)); exact HO_3.out) hb); have n1_ := Aside0.mk (blk_below (g := gb101) (o := .cells #[.int .i64 a0_0, .string a0_1, .int .i64 a0_2, .int .i64 a0_3, .int .i64 a0_4, .slice (some ad103) l0_5.length c0_5] 26 (0, 0)) (by (with_reducible repeat first|refine kN ?_ _|refine kd ?_|refine ka ?_ _); exact BK101.out) hb); have n2_ := Aside0.mk (below_step (by repeat with_reducible first|exact HB.out|apply ba|apply bN|apply bd|refine below_set ?_ GE101.out) hb); have n3_ := Aside0.mk (hbox); have n4_ := Aside0.mk ((by rw [hg]; exact (below_size (by repeat with_reducible first|exact HB.out|apply ba|apply bN|apply bd|refine below_set ?_ GE101.out)) : w.heap.size ≤ gb104)); have n5_ := Aside0.mk ((by rw [hg]; exact (below_size (by repeat with_reducible first|exact HB.out|apply ba|apply bN|apply bd|refine below_set ?_ GE101.out)) : w.heap.size ≤ gb104)); have n6_ := Aside0.mk ((by rw [hg]; exact Nat.ne_of_lt (blk_lt (g := gb101) (o := .cells #[.int .i64 a0_0, .string a0_1, .int .i64 a0_2, .int .i64 a0_3, .int .i64 a0_4, .slice (some ad103) l0_5.length c0_5] 26 (0, 0)) (by (with_reducible repeat first|refine kN ?_ _|refine kd ?_|refine ka ?_ _); exact BK101.out)) : gb101 ≠ gb104)); have n7_ := Aside0.mk ((by rw [hg]; exact Nat.ne_of_gt (blk_lt (g := gb101) (o := .cells #[.int .i64 a0_0, .string a0_1, .int .i64 a0_2, .int .i64 a0_3, .int .i64 a0_4, .slice (some ad103) l0_5.length c0_5] 26 (0, 0)) (by (with_reducible repeat first|refine kN ?_ _|refine kd ?_|refine ka ?_ _); exact BK101.out)) : gb104 ≠ gb101)); clear HO_3; clear BK101; clear HB; have HO_3 := n0_; have BK101 := n1_; have HB := n2_; have BK104 := n3_; have GW104 := n4_; have GE104 := n5_; have NB101_104 := n6_; have NB104_101 := n7_; clear n0_ n1_ n2_ n3_ n4_ n5_ n6_ n7_; clear hb hbox hg; have hnb21 := NB104_101.out; have hnc21 := NB101_104.out; obtain ⟨hcz22_0, hcz22_1, hcz22_2, hcz22_3, hcz22_4, hcz22_5, hfz22_0, hfz22_1, hfz22_2, hfz22_3, hfz22_4, hfz22_5⟩ := cl6 BK104.out) | ((with_reducible refine gate_callee (f := 19) rfl ?_); refine goesL_ (some 30) rfl rfl Tryz.func19 (by kernel_rfl) rfl #[.agg #[.int .i64 ((rd_T26 l0_5 x24_1).f0), .string ((rd_T26 l0_5 x24_1).f1), .int .i64 ((rd_T26 l0_5 x24_1).f2.f0), .int .i64 ((rd_T26 l0_5 x24_1).f2.f1), .int .i64 ((rd_T26 l0_5 x24_1).f3), .slice A103_5 ((rd_T26 l0_5 x24_1).f4).length c103_5]] rfl (by (try simp only [List.map_toArray, List.map_cons, List.map_nil]); first | done | rfl | (simp only [List.length_drop, List.length_take]; rfl) | (simp only [Int.toNat_natCast, ByteArray.extract_zero_size] <;> rfl) | (rw [Int.toNat_natCast, ByteArray.extract_zero_size] <;> rfl)) ?_; (with_reducible refine (ih k1 (by have := HK1.out; omega) ((rd_T26 l0_5 x24_1).f0) ((rd_T26 l0_5 x24_1).f1) ((rd_T26 l0_5 x24_1).f2.f0) ((rd_T26 l0_5 x24_1).f2.f1) ((rd_T26 l0_5 x24_1).f3) _ _ ((rd_T26 l0_5 x24_1).f4) t105 _ ?side1 ?side2 ?side3 A18.out).mono ?_); (case side1 => exact Go.Proofs.YtahjkibjcibpgaaGreatDoor.U.UW.step HGW.out (by repeat with_reducible first|exact HB.out|apply ba|apply bN|apply bd|refine below_set ?_ GE101.out|refine below_set ?_ GE104.out)); (case side2 => exact Kd.C_below HR103_5.out (by repeat with_reducible first|exact HB.out|apply ba|apply bN|apply bd|refine below_set ?_ GE101.out|refine below_set ?_ GE104.out)); (case side3 => exact HC103_5.out); rintro e w23 ⟨rfl, hb⟩; refine ⟨_, rfl, ?_⟩; have n0_ := Aside0.mk (Kd.R_below (by (with_reducible repeat (first | apply Kd.R_alloc | apply Kd.R_drewN | apply Kd.R_drew)); exact (Kd.R_mono (Kd.R_far (p := ⟨gb104, 5, none⟩) (Kd.R_far (p := ⟨gb104, 4, none⟩) (Kd.R_far (p := ⟨gb104, 3, none⟩) (Kd.R_far (p := ⟨gb104, 2, none⟩) (Kd.R_far (p := ⟨gb104, 1, none⟩) (Kd.R_far (p := ⟨gb104, 0, none⟩) (Kd.R_types HO_3.out BK104.out (by decide)) (fun _ hk => hk.2) (.int .i64 ((rd_T26 l0_5 x24_1).f0))) (fun _ hk => hk.2) (.string ((rd_T26 l0_5 x24_1).f1))) (fun _ hk => hk.2) (.int .i64 ((rd_T26 l0_5 x24_1).f2.f0))) (fun _ hk => hk.2) (.int .i64 ((rd_T26 l0_5 x24_1).f2.f1))) (fun _ hk => hk.2) (.int .i64 ((rd_T26 l0_5 x24_1).f3))) (fun _ hk => hk.2) (.slice A103_5 ((rd_T26 l0_5 x24_1).f4).length c103_5)) (fun _ h_ => h_.1))) hb); have n1_ := Aside0.mk (blk_below (g := gb101) (o := .cells #[.int .i64 a0_0, .string a0_1, .int .i64 a0_2, .int .i64 a0_3, .int .i64 a0_4, .slice (some ad103) l0_5.length c0_5] 26 (0, 0)) (by (with_reducible repeat first|refine kN ?_ _|refine kd ?_|refine ka ?_ _); refine blk_far ?_ NB101_104.out _; (with_reducible repeat first|refine kN ?_ _|refine kd ?_|refine ka ?_ _); refine blk_far ?_ NB101_104.out _; (with_reducible repeat first|refine kN ?_ _|refine kd ?_|refine ka ?_ _); refine blk_far ?_ NB101_104.out _; (with_reducible repeat first|refine kN ?_ _|refine kd ?_|refine ka ?_ _); refine blk_far ?_ NB101_104.out _; (with_reducible repeat first|refine kN ?_ _|refine kd ?_|refine ka ?_ _); refine blk_far ?_ NB101_104.out _; (with_reducible repeat first|refine kN ?_ _|refine kd ?_|refine ka ?_ _); refine blk_far ?_ NB101_104.out _; (with_reducible repeat first|refine kN ?_ _|refine kd ?_|refine ka ?_ _); exact BK101.out) hb); have n2_ := Aside0.mk (blk_below (g := gb104) (o := .cells #[.int .i64 ((rd_T26 l0_5 x24_1).f0), .string ((rd_T26 l0_5 x24_1).f1), .int .i64 ((rd_T26 l0_5 x24_1).f2.f0), .int .i64 ((rd_T26 l0_5 x24_1).f2.f1), .int .i64 ((rd_T26 l0_5 x24_1).f3), .slice A103_5 ((rd_T26 l0_5 x24_1).f4).length c103_5] 26 (0, 0)) (by (with_reducible repeat first|refine kN ?_ _|refine kd ?_|refine ka ?_ _); refine blk_put (cs := #[.int .i64 ((rd_T26 l0_5 x24_1).f0), .string ((rd_T26 l0_5 x24_1).f1), .int .i64 ((rd_T26 l0_5 x24_1).f2.f0), .int .i64 ((rd_T26 l0_5 x24_1).f2.f1), .int .i64 ((rd_T26 l0_5 x24_1).f3), .slice none 0 0]) ?_ 5 _ rfl; (with_reducible repeat first|refine kN ?_ _|refine kd ?_|refine ka ?_ _); refine blk_put (cs := #[.int .i64 ((rd_T26 l0_5 x24_1).f0), .string ((rd_T26 l0_5 x24_1).f1), .int .i64 ((rd_T26 l0_5 x24_1).f2.f0), .int .i64 ((rd_T26 l0_5 x24_1).f2.f1), .int .i64 0, .slice none 0 0]) ?_ 4 _ rfl; (with_reducible repeat first|refine kN ?_ _|refine kd ?_|refine ka ?_ _); refine blk_put (cs := #[.int .i64 ((rd_T26 l0_5 x24_1).f0), .string ((rd_T26 l0_5 x24_1).f1), .int .i64 ((rd_T26 l0_5 x24_1).f2.f0), .int .i64 0, .int .i64 0, .slice none 0 0]) ?_ 3 _ rfl; (with_reducible repeat first|refine kN ?_ _|refine kd ?_|refine ka ?_ _); refine blk_put (cs := #[.int .i64 ((rd_T26 l0_5 x24_1).f0), .string ((rd_T26 l0_5 x24_1).f1), .int .i64 0, .int .i64 0, .int .i64 0, .slice none 0 0]) ?_ 2 _ rfl; (with_reducible repeat first|refine kN ?_ _|refine kd ?_|refine ka ?_ _); refine blk_put (cs := #[.int .i64 ((rd_T26 l0_5 x24_1).f0), .string (⟨#[]⟩ : ByteArray), .int .i64 0, .int .i64 0, .int .i64 0, .slice none 0 0]) ?_ 1 _ rfl; (with_reducible repeat first|refine kN ?_ _|refine kd ?_|refine ka ?_ _); refine blk_put (cs := #[.int .i64 0, .string (⟨#[]⟩ : ByteArray), .int .i64 0, .int .i64 0, .int .i64 0, .slice none 0 0]) ?_ 0 _ rfl; (with_reducible repeat first|refine kN ?_ _|refine kd ?_|refine ka ?_ _); exact BK104.out) hb); have n3_ := Aside0.mk (below_step (by repeat with_reducible first|exact HB.out|apply ba|apply bN|apply bd|refine below_set ?_ GE101.out|refine below_set ?_ GE104.out) hb); clear HO_3; clear BK101; clear BK104; clear HB; have HO_3 := n0_; have BK101 := n1_; have BK104 := n2_; have HB := n3_; clear n0_ n1_ n2_ n3_; (try clear hb); (try clear hb2); (try clear hk); (try clear hi)) | ((with_reducible refine gate_builtin (b := .append) (xs := #[.tmp 28, .tmp 31]) rfl ?_); at_builtin; refine Kd.R_append Kd.string (w0 := w) w.heap.size rfl (.tmp 28) (.tmp 31) 66 9 (.string ⟨#[]⟩) 16 rfl Tryz.underlying66 info9 rfl (by decide) (by omega) u3 x3_1 t105 [.string t105] (fun _ => True) (fun _ => False) rfl rfl ?aP (fun _ hk => hk.elim) ?aF ?aO ?aB ?aS ?aL ?_; (case aP => exact rfl); (case aB => exact (by repeat with_reducible first|exact HB.out|apply ba|apply bN|apply bd|refine below_set ?_ GE101.out|refine below_set ?_ GE104.out)); (case aF => exact (fun _ _ => trivial)); (case aO => exact (by (with_reducible repeat (first | apply Kd.R_alloc | apply Kd.R_drewN | apply Kd.R_drew)); exact HO_3.out)); (case aS => exact (below_size (by repeat with_reducible first|exact HB.out|apply ba|apply bN|apply bd|refine below_set ?_ GE101.out|refine below_set ?_ GE104.out))); (case aL => have := LMc19.out; omega); intro v107 w24 ho hb hg hat; rw [← Ny106.out] at ho; have n0_ := Aside0.mk (blk_grown (g := gb101) (o := .cells #[.int .i64 a0_0, .string a0_1, .int .i64 a0_2, .int .i64 a0_3, .int .i64 a0_4, .slice (some ad103) l0_5.length c0_5] 26 (0, 0)) (by (with_reducible repeat first|refine kN ?_ _|refine kd ?_|refine ka ?_ _); exact BK101.out) hg (Kd.R_ne HO_3.out BK101.out (by decide))); have n1_ := Aside0.mk (blk_grown (g := gb104) (o := .cells #[.int .i64 ((rd_T26 l0_5 x24_1).f0), .string ((rd_T26 l0_5 x24_1).f1), .int .i64 ((rd_T26 l0_5 x24_1).f2.f0), .int .i64 ((rd_T26 l0_5 x24_1).f2.f1), .int .i64 ((rd_T26 l0_5 x24_1).f3), .slice A103_5 ((rd_T26 l0_5 x24_1).f4).length c103_5] 26 (0, 0)) (by (with_reducible repeat first|refine kN ?_ _|refine kd ?_|refine ka ?_ _); exact BK104.out) hg (Kd.R_ne HO_3.out BK104.out (by decide))); have n2_ := Aside0.mk (hb); have n3_ := Aside0.mk (ho); clear BK101; clear BK104; clear HB; clear HO_3; have BK101 := n0_; have BK104 := n1_; have HB := n2_; have HO108 := n3_; clear n0_ n1_ n2_ n3_; clear ho hb hg hat))
                go_roundg k1
                case measure => have := HK1.out; omega
                case rel => exact ⟨(y106), (wrap64 (x24_1 + 1)), (by first|rfl|(simp;done)|(simp [*];done)), H', ⟨by have := HK1.out; omega⟩, ⟨by (with_reducible repeat (first | apply Kd.R_alloc | apply Kd.R_drewN | apply Kd.R_drew)); exact HO108.out⟩, ⟨by (with_reducible repeat first|refine kN ?_ _|refine kd ?_|refine ka ?_ _); exact BK101.out⟩, ⟨by repeat with_reducible first|exact HB.out|apply ba|apply bN|apply bd|refine below_set ?_ GE101.out|refine below_set ?_ GE104.out⟩⟩
              rw [if_neg c19] at H
              exact absurd H (by simp)
            rw [if_neg c17] at H
            exact absurd H (by simp)
          rw [if_neg c16] at H
          exact absurd H (by simp)
        rw [if_neg c15] at H
        have c15b0 : decide (x24_1 < (l0_5.length : Int)) = false := decide_eq_false c15
        clear c15
        replace H := Option.bind_eq_some_iff.mp H
        obtain ⟨t109, A250, H⟩ := H
        replace H : (if 1 + t109.size ≤ 9223372036854775807 then (if ((⟨#[40]⟩ : ByteArray) ++ t109).size + 1 ≤ 9223372036854775807 then (some (((⟨#[40]⟩ : ByteArray) ++ t109) ++ (⟨#[41]⟩ : ByteArray))) else (none)) else (none)) = some r := H
        have A25 := Aside0.mk A250
        clear A250
        by_cases c26 : 1 + t109.size ≤ 9223372036854775807
        · rw [if_pos c26] at H
          have c26b0 := eq_true c26
          have c26b1 : decide (1 + t109.size ≤ 9223372036854775807) = true := decide_eq_true c26
          try have c26b2 : (9223372036854775807 < 1 + t109.size) = False := eq_false (Nat.not_lt.2 c26)
          by_cases c27 : ((⟨#[40]⟩ : ByteArray) ++ t109).size + 1 ≤ 9223372036854775807
          · rw [if_pos c27] at H
            have c27b0 := eq_true c27
            have c27b1 : decide (((⟨#[40]⟩ : ByteArray) ++ t109).size + 1 ≤ 9223372036854775807) = true := decide_eq_true c27
            try have c27b2 : (9223372036854775807 < ((⟨#[40]⟩ : ByteArray) ++ t109).size + 1) = False := eq_false (Nat.not_lt.2 c27)
            try have c27b3 := c27b2
            try simp only [ByteArray.size_append, q1sizeW, q1sizeP] at c27b3
            obtain rfl := Option.some.inj H
            obtain ⟨Ao28, co28, eo28⟩ := Kd.R_slice HO_3.out
            subst eo28
            go_wp2_with (first | ((with_reducible refine gate_callee (f := 27) rfl ?_); refine goesL_ (some 35) rfl rfl Tryz.func27 (by kernel_rfl) rfl #[.slice Ao28 x3_1.length co28, .string (⟨#[44, 32]⟩ : ByteArray)] rfl (by (try simp only [List.map_toArray, List.map_cons, List.map_nil]); first | done | rfl | (simp only [List.length_drop, List.length_take]; rfl) | (simp only [Int.toNat_natCast, ByteArray.extract_zero_size] <;> rfl) | (rw [Int.toNat_natCast, ByteArray.extract_zero_size] <;> rfl)) ?_; (with_reducible refine (Ex.strings_Join.calls _ _ x3_1 (⟨#[44, 32]⟩ : ByteArray) t109 _ ?side1 ?side2 ?side3 A25.out).mono ?_); (case side1 => exact Go.Proofs.YtahjkibjcibpgaaGreatDoor.U.UW.step HGW.out (by repeat with_reducible first|exact HB.out|apply ba|apply bN|apply bd|refine below_set ?_ GE101.out)); (case side2 => repeat (first | exact (Kd.R_reads' HO_3.out).2.2 | (with_reducible refine Kd.C_alloc ?_ _) | (with_reducible refine Kd.C_drewN ?_ _) | (with_reducible refine Kd.C_drew ?_))); (case side3 => exact (Kd.R_reads' HO_3.out).2.1); rintro e w29 ⟨rfl, hb⟩; refine ⟨_, rfl, ?_⟩; have n0_ := Aside0.mk (Kd.R_below (by (with_reducible repeat (first | apply Kd.R_alloc | apply Kd.R_drewN | apply Kd.R_drew)); exact HO_3.out) hb); have n1_ := Aside0.mk (blk_below (g := gb101) (o := .cells #[.int .i64 a0_0, .string a0_1, .int .i64 a0_2, .int .i64 a0_3, .int .i64 a0_4, .slice A0_5 l0_5.length c0_5] 26 (0, 0)) (by (with_reducible repeat first|refine kN ?_ _|refine kd ?_|refine ka ?_ _); exact BK101.out) hb); have n2_ := Aside0.mk (below_step (by repeat with_reducible first|exact HB.out|apply ba|apply bN|apply bd|refine below_set ?_ GE101.out) hb); clear HO_3; clear BK101; clear HB; have HO_3 := n0_; have BK101 := n1_; have HB := n2_; clear n0_ n1_ n2_; (try clear hb); (try clear hb2); (try clear hk); (try clear hi)))
            go_ret
            exact ⟨by first|rfl|(simp<;>rfl)|(simp [*]<;>rfl), by repeat with_reducible first|exact HB.out|apply ba|apply bN|apply bd|refine below_set ?_ GE101.out⟩
          rw [if_neg c27] at H
          exact absurd H (by simp)
        rw [if_neg c26] at H
        exact absurd H (by simp)
  rw [if_neg c12] at H
  have c12b0 : (a0_0 == 6) = false := beq_eq_false_iff_ne.mpr c12
  have c12b1 : (a0_0 != 6) = true := bne_iff_ne.mpr c12
  obtain rfl := Option.some.inj H
  go_enter Tryz.func19, Tryz.ntmps19
  go_wp2_with (first | ((with_reducible refine gate_dst (N := 1) rfl ?_); refine box_event ?hg (N := 1) ?hd (cs := #[.int .i64 a0_0, .string a0_1, .int .i64 a0_2, .int .i64 a0_3, .int .i64 a0_4, .slice A0_5 l0_5.length c0_5]) (t := 26) ?hr ?_; (case hd => rfl); (case hg => rfl); (case hr => first | (go_simp; done) | (go_simp; rfl)); intro gb101 hg w30 hbox hb; have n0_ := Aside0.mk (below_step (by repeat with_reducible first|exact HB.out|apply ba|apply bN|apply bd) hb); have n1_ := Aside0.mk (hbox); have n2_ := Aside0.mk ((by rw [hg]; exact (below_size (by repeat with_reducible first|exact HB.out|apply ba|apply bN|apply bd)) : w.heap.size ≤ gb101)); have n3_ := Aside0.mk ((by rw [hg]; exact (below_size (by repeat with_reducible first|exact HB.out|apply ba|apply bN|apply bd)) : w.heap.size ≤ gb101)); clear HB; have HB := n0_; have BK101 := n1_; have GW101 := n2_; have GE101 := n3_; clear n0_ n1_ n2_ n3_; clear hb hbox hg; obtain ⟨hcz31_0, hcz31_1, hcz31_2, hcz31_3, hcz31_4, hcz31_5, hfz31_0, hfz31_1, hfz31_2, hfz31_3, hfz31_4, hfz31_5⟩ := cl6 BK101.out))
  go_ret
  exact ⟨by first|rfl|(simp<;>rfl)|(simp [*]<;>rfl), by repeat with_reducible first|exact HB.out|apply ba|apply bN|apply bd|refine below_set ?_ GE101.out⟩
end Go.Proofs.YtahjkibjcibpgaaGreatDoor.PTr
end
section
namespace Go.Proofs.YtahjkibjcibpgaaGreatDoor.L
open Go.RowKit Go.Shelf Go.Lib Go.Proofs.YtahjkibjcibpgaaGreatDoor.U
open Go.Proofs.YtahjkibjcibpgaaGreatDoorW Go.Proofs.YtahjkibjcibpgaaGreatDoorW.PrintWords
section
variable (k : Nat)
def wv (v : PTr.S26) : Option ByteArray := PTr.tree_write.f k v.f0 v.f1 v.f2.f0 v.f2.f1 v.f3 v.f4
def strsW : List PTr.S26 → Option (List UInt8)
  | [] => some []
  | v :: r => (wv k v).bind fun t => (strsW r).bind fun u => some ((32 :: t.data.toList) ++ u)
def propW (p : PTr.S26) : Option (List UInt8) := (strsW k p.f4).bind fun u => some ((32 :: 32 :: p.f1.data.toList) ++ (u ++ [59, 10]))
def propsW : List PTr.S26 → Option (List UInt8)
  | [] => some []
  | p :: r => (propW k p).bind fun t => (propsW r).bind fun u => some (t ++ u)
def wordsW : List PTr.S26 → Option (List UInt8 × List PTr.S26)
  | [] => some ([], [])
  | v :: r => if v.f0 = 2 then some ([], v :: r) else (wv k v).bind fun t => (wordsW r).bind fun x => some ((32 :: t.data.toList) ++ x.1, x.2)
def declW (d : PTr.S26) : Option (List UInt8) := (wordsW k d.f4).bind fun x => (propsW k x.2).bind fun u => some (d.f1.data.toList ++ (x.1 ++ ([32, 123, 10] ++ (u ++ [125, 10]))))
def declsW : List PTr.S26 → Option (List UInt8)
  | [] => some []
  | d :: r => (declW k d).bind fun t => (declsW r).bind fun u => some (t ++ u)
def rootW (n : PTr.S26) : Option (List UInt8) := (PTr.tree_Right.f k n.f0 n.f1 n.f2.f0 n.f2.f1 n.f3 n.f4).bind fun ok => if ok = true then declsW k n.f4 else some []
end
theorem drop_cons {l : List PTr.S26} {i : Nat} (h : i < l.length) : l.drop i = PTr.rd_T26 l (i : Int) :: l.drop (i + 1) := by
  rw [List.drop_eq_getElem_cons h]
  unfold PTr.rd_T26
  rw [Int.toNat_natCast, List.getD_eq_getElem?_getD, List.getElem?_eq_getElem h]
  rfl
theorem bld_below {T e : TypeId} {B b : Nat} {bs : List Value} {W W' : World} (h : Lib.IsBuilderF T e B b bs W) (hb : Below W.heap.size W W') : Lib.IsBuilderF T e B b bs W' := by
  have key : ∀ p, Lib.BuilderAtF T e B b p bs W → Lib.BuilderAtF T e B b p bs W' := by
    intro p hp
    obtain ⟨q1, u, q2, q3, q4⟩ := hp
    refine ⟨q1, u, blk_below q2 hb, ⟨q3.1, ?_⟩, q4⟩
    rcases q3.2 with hv | ⟨gg, cap, cur, fz, e1, e2, e3, e4⟩
    · exact .inl hv
    · exact .inr ⟨gg, cap, cur, fz, e1, e2, (hb.block gg (blk_lt e3)).trans e3, e4⟩
  exact h.elim (fun x => .inl (key _ x)) (fun x => .inr (key _ x))
structure BW (w : World) (b : Nat) (txt : List UInt8) (bl : List (Nat × Array Value)) (W : World) : Prop where
  bw : Below w.heap.size w W
  hb : w.heap.size ≤ b
  bld : Lib.IsBuilderF 50 5 w.heap.size b (Lib.byteCells txt) W
  blk : ∀ x ∈ bl, W.heap[x.1]? = some (.cells x.2 26 (0, 0)) ∧ x.1 ≠ b ∧ w.heap.size ≤ x.1
section
variable {w : World} {b : Nat} {txt : List UInt8} {bl : List (Nat × Array Value)} {W W' : World}
theorem BW.below (h : BW w b txt bl W) (hb : Below W.heap.size W W') : BW w b txt bl W' :=
  ⟨below_step h.bw hb, h.hb, bld_below h.bld hb, fun x hx => ⟨blk_below (h.blk x hx).1 hb, (h.blk x hx).2⟩⟩
theorem BW.alloc (h : BW w b txt bl W) (cs : Array Value) : BW w b txt ((W.heap.size, cs) :: bl) (W.alloc (.cells cs 26)) := by
  have h2 := h.below ((Below.refl W.heap.size W).alloc (Nat.le_refl _) (.cells cs 26))
  refine ⟨h2.bw, h2.hb, h2.bld, fun x hx => ?_⟩
  rcases List.mem_cons.1 hx with rfl | hx
  · refine ⟨World.alloc_heap_new W _, fun e => ?_, h.bw.size⟩
    have e : W.heap.size = b := e
    rcases h.bld with ⟨_, v, hb, _⟩ | ⟨_, v, hb, _⟩ <;> exact absurd (blk_lt hb) (by omega)
  · exact h2.blk x hx
theorem BW.allocAt (h : BW w b txt bl W) {g : Nat} (hg : W.heap.size = g) (cs : Array Value) : BW w b txt ((g, cs) :: bl) (W.alloc (.cells cs 26)) := by subst hg; exact h.alloc cs
theorem BW.set {g : Nat} {cs : Array Value} (h : BW w b txt ((g, cs) :: bl) W) (hn : ∀ x ∈ bl, x.1 ≠ g) (j : Nat) (v : Value) : BW w b txt ((g, cs.setIfInBounds j v) :: bl) (W.setCell ⟨g, j, none⟩ v) := by
  obtain ⟨h1, h2, h3⟩ := h.blk _ List.mem_cons_self
  refine ⟨h.bw.setCell (p := ⟨g, j, none⟩) h3 _, h.hb, ?_, fun x hx => ?_⟩
  · have hset : ∀ p, Lib.BuilderAtF 50 5 w.heap.size b p (Lib.byteCells txt) W → Lib.BuilderAtF 50 5 w.heap.size b p (Lib.byteCells txt) (W.setCell ⟨g, j, none⟩ v) := by
      intro p hp
      obtain ⟨q1, u, q2, q3, q4⟩ := hp
      refine ⟨q1, u, blk_far q2 (p := ⟨g, j, none⟩) (Ne.symm h2) v, ?_, q4⟩
      refine ⟨q3.1, ?_⟩
      rcases q3.2 with hv | ⟨gg, cap, cur, fz, e1, e2, e3, e4⟩
      · exact .inl hv
      · refine .inr ⟨gg, cap, cur, fz, e1, e2, ?_, e4⟩
        rw [Below.heap_setCell W ⟨g, j, none⟩ v gg (fun e => ?_)]
        · exact e3
        · subst e
          have h1 : W.heap[gg]? = some (.cells cs 26 (0, 0)) := h1
          rw [h1] at e3
          injection e3 with e3
          injection e3 with _ e3
          cases e3
    exact h.bld.elim (fun x => .inl (hset _ x)) (fun x => .inr (hset _ x))
  · rcases List.mem_cons.1 hx with rfl | hx
    · exact ⟨blk_set h1 j v, h2, h3⟩
    · exact ⟨blk_far (h.blk x (List.mem_cons_of_mem _ hx)).1 (p := ⟨g, j, none⟩) (hn x hx) v, (h.blk x (List.mem_cons_of_mem _ hx)).2⟩
theorem BW.forget (h : BW w b txt bl W) : BW w b txt [] W := ⟨h.bw, h.hb, h.bld, fun x hx => by simp at hx⟩
theorem BW.write (h : BW w b txt bl W) {s : ByteArray} (h1 : Lib.BuilderAtF 50 5 w.heap.size b (.pointer (some ⟨b, 0, none⟩)) (Lib.byteCells txt ++ Lib.strCells s) W') (h2 : Below w.heap.size W W') (h3 : Lib.OthersKept 5 (some b) W W') : BW w b (txt ++ s.data.toList) bl W' := by
  refine ⟨h.bw.trans h2, h.hb, .inr ?_, fun x hx => ⟨?_, (h.blk x hx).2⟩⟩
  · rw [Lib.byteCells_append]; exact h1
  · obtain ⟨q1, q2, q3⟩ := h.blk x hx
    exact h3 x.1 _ q1 (fun e => q2 (by injection e)) (fun c fz e => by injection e with _ e; cases e)
end
end Go.Proofs.YtahjkibjcibpgaaGreatDoor.L
end
section
namespace Go.Proofs.YtahjkibjcibpgaaGreatDoor.L
open Go.RowKit Go.Shelf Go.Lib Go.Proofs.YtahjkibjcibpgaaGreatDoor.U
open Go.Proofs.YtahjkibjcibpgaaGreatDoorW Go.Proofs.YtahjkibjcibpgaaGreatDoorW.PrintWords Go.Proofs.YtahjkibjcibpgaaGreatDoorW.PrintLast
attribute [local go_sem] Oper.semAt_some
set_option maxRecDepth 100000 in
set_option maxHeartbeats 1000000 in
theorem write_no (k : Nat) (a0 : Int) (a1 : ByteArray) (a2 a3 a4 : Int) (l : List PTr.S26) (A : Option Addr) (c : Nat) (w : World) (hg : UW w) (hr : Kd.C PTr.k26 w A l.length l) (hc : l.length ≤ c)
    (hT : PTr.tree_Right.f k a0 a1 a2 a3 a4 l = some false) :
    Calls Tryz.prog 10 #[.agg #[.int .i64 a0, .string a1, .int .i64 a2, .int .i64 a3, .int .i64 a4, .slice A l.length c]] w fun e w' => e = .returned (.string ⟨#[]⟩) ∧ Below w.heap.size w w' := by
  have HG := Lib.hid hg
  have HR := Lib.hid hr
  have HC := Lib.hid hc
  have HT := Lib.hid hT
  clear hg hr hc hT
  go_enter Tryz.func10, Tryz.ntmps10
  go_wp2_with (first
    | (go_at_call 11; go_loud (refine (PTr.tree_Right.calls k a0 a1 a2 a3 a4 A c l false _ (HG.out.step (below_alloc (Below.refl _ _) _)) (Kd.C_alloc HR.out _) HC.out HT.out).mono ?_; rintro e w1 ⟨rfl, hb⟩; have HB := Lib.hid (below_step (below_alloc (Below.refl _ _) _) hb); clear hb)))
  go_ret
  exact ⟨rfl, HB.out⟩
def L1 (k : Nat) (l : List PTr.S26) (T : List UInt8) (w : World) (b i kq : Nat) (W : World) : Prop :=
  ∃ txt u, declsW k (l.drop i) = some u ∧ txt ++ u = T ∧ i ≤ l.length ∧ l.length ≤ i + kq ∧ BW w b txt [] W
def L2 (k : Nat) (ws y : List PTr.S26) (R T : List UInt8) (w : World) (b g : Nat) (cs : Array Value) (j kq : Nat) (W : World) : Prop :=
  ∃ txt x1, wordsW k (ws.drop j) = some (x1, y) ∧ txt ++ (x1 ++ R) = T ∧ j ≤ ws.length ∧ ws.length ≤ j + kq ∧ BW w b txt [(g, cs)] W
def L3 (k : Nat) (ps : List PTr.S26) (R T : List UInt8) (w : World) (b m kq : Nat) (W : World) : Prop :=
  ∃ txt u, propsW k (ps.drop m) = some u ∧ txt ++ (u ++ R) = T ∧ m ≤ ps.length ∧ ps.length ≤ m + kq ∧ BW w b txt [] W
def L4 (k : Nat) (vs : List PTr.S26) (R T : List UInt8) (w : World) (b m kq : Nat) (W : World) : Prop :=
  ∃ txt u, strsW k (vs.drop m) = some u ∧ txt ++ (u ++ R) = T ∧ m ≤ vs.length ∧ vs.length ≤ m + kq ∧ BW w b txt [] W
theorem fits {a : List UInt8} {s : ByteArray} {c T : List UInt8} (h : a ++ (s.data.toList ++ c) = T) (hl : T.length ≤ 140737488355328) : a.length + s.size ≤ 140737488355328 := by
  have := congrArg List.length h
  simp only [List.length_append] at this
  have h2 : s.data.toList.length = s.size := Array.length_toList
  omega
abbrev nodeC (d : PTr.S26) (A : Option Addr) (c : Nat) : Array Value := #[.int .i64 d.f0, .string d.f1, .int .i64 d.f2.f0, .int .i64 d.f2.f1, .int .i64 d.f3, .slice A d.f4.length c]
theorem at_node {w W : World} {A : Option Addr} {xs : List PTr.S26} (h : Kd.C PTr.k26 w A xs.length xs) (hb : Below w.heap.size w W) (i : Nat) (h1 : i < xs.length) : ∃ ad A5 c5, A = some ad ∧ W.cell? (ad.add (i * 6)) = some (.int .i64 (PTr.rd_T26 xs i).f0) ∧ W.cell? ⟨(ad.add (i * 6)).block, (ad.add (i * 6)).off + 1, none⟩ = some (.string (PTr.rd_T26 xs i).f1) ∧
    W.cell? ⟨(ad.add (i * 6)).block, (ad.add (i * 6)).off + 2, none⟩ = some (.int .i64 (PTr.rd_T26 xs i).f2.f0) ∧ W.cell? ⟨(ad.add (i * 6)).block, (ad.add (i * 6)).off + 3, none⟩ = some (.int .i64 (PTr.rd_T26 xs i).f2.f1) ∧ W.cell? ⟨(ad.add (i * 6)).block, (ad.add (i * 6)).off + 4, none⟩ = some (.int .i64 (PTr.rd_T26 xs i).f3) ∧
    W.cell? ⟨(ad.add (i * 6)).block, (ad.add (i * 6)).off + 5, none⟩ = some (.slice A5 (PTr.rd_T26 xs i).f4.length c5) ∧ (PTr.rd_T26 xs i).f4.length ≤ c5 ∧ PTr.k26.C w A5 (PTr.rd_T26 xs i).f4.length (PTr.rd_T26 xs i).f4 := by
  have := PTr.at_T26 h (i : Int) (by omega) (by omega)
  rw [Int.toNat_natCast] at this
  obtain ⟨ad, A5, c5, e, p0, p1, p2, p3, p4, p5, q⟩ := this
  exact ⟨ad, A5, c5, e, (hb.cell (World.block_lt_of_cell? w _ p0)).trans p0, (hb.cell (World.block_lt_of_cell? w _ p1)).trans p1, (hb.cell (World.block_lt_of_cell? w _ p2)).trans p2, (hb.cell (World.block_lt_of_cell? w _ p3)).trans p3, (hb.cell (World.block_lt_of_cell? w _ p4)).trans p4, (hb.cell (World.block_lt_of_cell? w _ p5)).trans p5, q⟩
theorem blank_cat (t : ByteArray) : ((⟨#[32]⟩ : ByteArray) ++ t).data.toList = 32 :: t.data.toList := by simp [ByteArray.data_append]
theorem blanks_cat (t : ByteArray) : ((⟨#[32, 32]⟩ : ByteArray) ++ t).data.toList = 32 :: 32 :: t.data.toList := by simp [ByteArray.data_append]
set_option maxRecDepth 100000 in
set_option maxHeartbeats 4000000 in
theorem write_yes (k : Nat) (a0 : Int) (a1 : ByteArray) (a2 a3 a4 : Int) (l : List PTr.S26) (A : Option Addr) (c : Nat) (w : World) (hg : UW w) (hr : Kd.C PTr.k26 w A l.length l) (hc : l.length ≤ c)
    (hT : PTr.tree_Right.f k a0 a1 a2 a3 a4 l = some true) (T : List UInt8) (hD : declsW k l = some T) (hl : T.length ≤ 140737488355328) :
    Calls Tryz.prog 10 #[.agg #[.int .i64 a0, .string a1, .int .i64 a2, .int .i64 a3, .int .i64 a4, .slice A l.length c]] w fun e w' => e = .returned (.string ⟨T.toArray⟩) ∧ Below w.heap.size w w' := by
  have HG := Lib.hid hg
  have HR := Lib.hid hr
  have HC := Lib.hid hc
  have HT := Lib.hid hT
  have HD := Lib.hid hD
  have HL := Lib.hid hl
  have hcap := hr.2.1
  have HM := Lib.hid hcap
  clear hg hr hc hT hD hl hcap
  go_enter Tryz.func10, Tryz.ntmps10
  go_wp2_with (first
    | (go_at_call 11; go_loud (refine (PTr.tree_Right.calls k a0 a1 a2 a3 a4 A c l true _ (HG.out.step (below_alloc (Below.refl _ _) _)) (Kd.C_alloc HR.out _) HC.out HT.out).mono ?_; rintro e w1 ⟨rfl, hb⟩; have hn := blk_alloc (blk_below (blk_new w (.cells #[.int .i64 a0, .string a1, .int .i64 a2, .int .i64 a3, .int .i64 a4, .slice A l.length c] 26)) hb) (.cells #[.pointer none, .slice none 0 0] 50); have hB := below_step (below_alloc (Below.refl _ _) _) hb; have HBW := Lib.hid (BW.mk (txt := []) (bl := []) (below_alloc hB (.cells #[.pointer none, .slice none 0 0] 50)) hB.size (.inl ⟨hB.size, .slice none 0 0, blk_new w1 _, World.ownsRowF_nil _ _ _ _, fun e => by simp [Value.ownBlock] at e⟩) (fun x hx => by simp at hx)); have n5 := blk_cell hn 5; simp at n5; clear hb hB hn)))
  generalize w1.heap.size = b at *
  go_loopg [17] l.length (fun kq s17 W => ∃ i : Nat, s17 = .int .i64 (i : Int) ∧ Hid (L1 k l T w b i kq W))
  case atStart => exact ⟨0, rfl, Lib.hid ⟨[], T, HD.out, rfl, Nat.zero_le _, by omega, HBW.out⟩⟩
  case round =>
    clear HBW n5
    obtain ⟨i, rfl, HW⟩ := hrel
    obtain ⟨txt, u, hu, htx, hil, hms, hS⟩ := HW.out
    clear HW
    have SS := Lib.hid hS
    clear hS
    rcases Nat.lt_or_ge i l.length with hlt | hge
    · rw [drop_cons hlt] at hu
      generalize hd : PTr.rd_T26 l (i : Int) = d at hu
      obtain ⟨t1, ht1, hv⟩ := Option.bind_eq_some_iff.1 hu
      obtain ⟨u1, hu1, hw⟩ := Option.bind_eq_some_iff.1 hv
      have he1 := Option.some.inj hw
      obtain ⟨⟨x1, y⟩, hx2, hv2⟩ := Option.bind_eq_some_iff.1 ht1
      obtain ⟨u2, hu2, hw2⟩ := Option.bind_eq_some_iff.1 hv2
      have he2 := Option.some.inj hw2
      have c1 : (i : Int) < (l.length : Int) := by omega
      have c0 : (0 : Int) ≤ (i : Int) := by omega
      obtain ⟨ad, A5, c5, e1, p0, p1, p2, p3, p4, p5, hl5, hi5⟩ := at_node HR.out SS.out.bw i hlt
      subst e1
      rw [hd] at p0 p1 p2 p3 p4 p5 hl5 hi5
      have CD := Lib.hid hi5
      have LD := Lib.hid hl5
      have HU1 := Lib.hid hu1
      have HU2 := Lib.hid hu2
      have HX2 := Lib.hid hx2
      have SB := Lib.hid (SS.out.alloc (nodeC d A5 c5))
      obtain ⟨R2, hR2⟩ : ∃ R2, R2 = [32, 123, 10] ++ (u2 ++ ([125, 10] ++ u1)) := ⟨_, rfl⟩
      have HR2 := Lib.hid hR2
      have HTL : Hid (txt ++ (d.f1.data.toList ++ (x1 ++ R2)) = T) := Lib.hid (by rw [hR2, ← htx, ← he1, ← he2]; simp)
      clear hi5 hl5 hu1 hu2 hx2 hu ht1 htx hv hw hv2 hw2 he1 he2 hR2 hd
      have hib : wrap64 ((i : Int) + 1) = (i : Int) + 1 := by have := HM.out; unfold wrap64; omega
      obtain ⟨q1, hq1⟩ : ∃ q1, gk = q1 + 1 := ⟨gk - 1, by omega⟩
      subst hq1
      go_wp2_with (first
        | (go_at_call 18; go_loud (refine (bld_write w.heap.size b _ d.f1 _ SB.out.bld (by rw [Lib.byteCells_length]; exact fits HTL.out HL.out) SB.out.bw.size).mono ?_; rintro e w2 ⟨rfl, h1, h2, h3⟩; have SC := Lib.hid (SB.out.write h1 h2 h3); clear h1 h2 h3)))
      have hgs := SS.out.bw.size
      generalize hge : wr.heap.size = g at *
      clear p0 p1 p2 p3 p4 p5
      go_loopg [6] d.f4.length (fun kq s6 W => ∃ j : Nat, s6 = .int .i64 (j : Int) ∧ Hid (L2 k d.f4 y R2 T w b g (nodeC d A5 c5) j kq W))
      case atStart => exact ⟨0, rfl, Lib.hid ⟨_, x1, HX2.out, (by rw [List.append_assoc]; exact HTL.out), Nat.zero_le _, by omega, SC.out⟩⟩
      case round =>
        clear SB SC SS HTL HX2 hgs
        obtain ⟨j, rfl, HW2⟩ := hrel
        obtain ⟨tx2, z1, hz, htx2, hjl, hms2, hS2⟩ := HW2.out
        clear HW2
        have S2 := Lib.hid hS2
        have HTX := Lib.hid htx2
        obtain ⟨hgb, _, _⟩ := hS2.blk _ List.mem_cons_self
        have n5 : wr.cell? ⟨g, 5, none⟩ = some (.slice A5 d.f4.length c5) := blk_cell hgb 5
        have n1 : wr.cell? ⟨g, 1, none⟩ = some (.string d.f1) := blk_cell hgb 1
        have j0 : (0 : Int) ≤ (j : Int) := by omega
        have hw2 : j < 9223372036854775807 → wrap64 ((j : Int) + 1) = (j : Int) + 1 := fun h => by unfold wrap64; omega
        clear hS2 htx2 hgb
        rcases Nat.lt_or_ge j d.f4.length with jlt | jge
        · have hgk : 0 < gk := Nat.lt_of_add_lt_add_left (Nat.lt_of_lt_of_le jlt hms2)
          obtain ⟨q, hq⟩ : ∃ q, gk = q + 1 := ⟨gk - 1, (Nat.sub_add_cancel hgk).symm⟩
          clear hgk
          subst hq
          rw [drop_cons jlt] at hz
          have j1 : (j : Int) < (d.f4.length : Int) := by omega
          obtain ⟨ad2, A6, c6, e2, qq0, qq1, qq2, qq3, qq4, qq5, hl6, hi6⟩ := at_node CD.out S2.out.bw j jlt
          generalize hd2 : PTr.rd_T26 d.f4 (j : Int) = v at hz qq0 qq1 qq2 qq3 qq4 qq5 hl6 hi6
          subst e2
          unfold wordsW at hz
          by_cases hk : v.f0 = 2
          · rw [if_pos hk] at hz
            have hz4 := Option.some.inj hz
            injection hz4 with hz5 hz6
            have hyd : y = d.f4.drop j := by rw [drop_cons jlt, hd2]; exact hz6.symm
            have HTX2 : Hid (tx2 ++ ((⟨#[32, 123, 10]⟩ : ByteArray).data.toList ++ (u2 ++ ([125, 10] ++ u1))) = T) := Lib.hid (by rw [← HTX.out, ← hz5, HR2.out]; rfl)
            have k0 : (v.f0 != 2) = false := by simpa using hk
            clear hz hz5 hz6 hw2 hd2 hk
            obtain ⟨v0, v1, ⟨v2, v3⟩, v4, v5⟩ := v
            have jle : (j : Int) ≤ (d.f4.length : Int) := by omega
            have jlc : (d.f4.length : Int) ≤ (c5 : Int) := by have := LD.out; omega
            have hcj : ¬ c5 = j := by have := LD.out; omega
            have hCY := Kd.C_drop CD.out (Nat.le_of_lt jlt) LD.out
            rw [if_neg hcj] at hCY
            have CY := Lib.hid hCY
            clear hCY
            go_wp2_with (first
              | (go_at_call 18; go_loud (refine (bld_write w.heap.size b _ ⟨#[32, 123, 10]⟩ _ S2.out.bld (by rw [Lib.byteCells_length]; exact fits HTX2.out HL.out) S2.out.bw.size).mono ?_; rintro e w2 ⟨rfl, h1, h2, h3⟩; have S5 := Lib.hid (S2.out.write h1 h2 h3); clear h1 h2 h3; obtain ⟨hgb, _, _⟩ := S5.out.blk _ List.mem_cons_self; have n5 : w2.cell? ⟨g, 5, none⟩ = some (.slice (some ad2) d.f4.length c5) := blk_cell hgb 5; clear hgb)))
            have hyl : y.length = d.f4.length - j := by rw [hyd]; simp
            have CY2 : Hid (Kd.C PTr.k26 w (some (ad2.add (j * 6))) y.length y) := Lib.hid (by rw [hyd]; exact CY.out)
            rw [← hyl]
            generalize ad2.add (j * 6) = ad3 at *
            generalize c5 - j = c3 at *
            obtain ⟨R3, hR3⟩ : ∃ R3, R3 = [125, 10] ++ u1 := ⟨_, rfl⟩
            have HR3 := Lib.hid hR3
            have HS3 := Lib.hid (And.intro (show (tx2 ++ [32, 123, 10]) ++ (u2 ++ R3) = T by rw [hR3, List.append_assoc]; exact HTX2.out) S5.out.forget)
            clear S2 S5 HTX HTX2 n5 n1 CY hyl hyd hR3 k0
            go_loopg [54] y.length (fun kq s54 W => ∃ m : Nat, s54 = .int .i64 (m : Int) ∧ Hid (L3 k y R3 T w b m kq W))
            case atStart => exact ⟨0, rfl, Lib.hid ⟨_, u2, HU2.out, HS3.out.1, Nat.zero_le _, by omega, HS3.out.2⟩⟩
            case round =>
              clear HS3
              obtain ⟨m, rfl, HW3⟩ := hrel
              obtain ⟨tx3, u3, hu3, htx3, hml, hms3, hS3⟩ := HW3.out
              clear HW3
              have S7 := Lib.hid hS3
              have HTX3 := Lib.hid htx3
              clear hS3 htx3
              have m0 : (0 : Int) ≤ (m : Int) := by omega
              rcases Nat.lt_or_ge m y.length with mlt | mge
              · have hgk : 0 < gk := Nat.lt_of_add_lt_add_left (Nat.lt_of_lt_of_le mlt hms3)
                obtain ⟨r1, hr1⟩ : ∃ r1, gk = r1 + 1 := ⟨gk - 1, (Nat.sub_add_cancel hgk).symm⟩
                clear hgk
                subst hr1
                have hmb : wrap64 ((m : Int) + 1) = (m : Int) + 1 := by have := (CY2.out).2.1; unfold wrap64; omega
                have m1 : (m : Int) < (y.length : Int) := Int.ofNat_lt.2 mlt
                rw [drop_cons mlt] at hu3
                obtain ⟨ad4, A7, c7, e4, p0, p1, p2, p3, p4, p5, hl7, hi7⟩ := at_node CY2.out S7.out.bw m mlt
                generalize hp : PTr.rd_T26 y (m : Int) = p at hu3 p0 p1 p2 p3 p4 p5 hl7 hi7
                injection e4 with e4
                subst e4
                obtain ⟨t3, ht3, hu3b⟩ := Option.bind_eq_some_iff.1 hu3
                obtain ⟨u3', hu3', hu3c⟩ := Option.bind_eq_some_iff.1 hu3b
                have hu3d := Option.some.inj hu3c
                obtain ⟨u4, hu4, ht3b⟩ := Option.bind_eq_some_iff.1 ht3
                have ht3c := Option.some.inj ht3b
                obtain ⟨R4, hR4⟩ : ∃ R4, R4 = [59, 10] ++ (u3' ++ R3) := ⟨_, rfl⟩
                have HR4 := Lib.hid hR4
                have HTX4 : Hid (tx3 ++ (((⟨#[32, 32]⟩ : ByteArray) ++ p.f1).data.toList ++ (u4 ++ R4)) = T) := Lib.hid (by rw [blanks_cat, hR4, ← HTX3.out, ← hu3d, ← ht3c]; simp)
                have hsz := fits HTX4.out HL.out
                have hsz2 : ((⟨#[32, 32]⟩ : ByteArray) ++ p.f1).size = 2 + p.f1.size := by rw [ByteArray.size_append]; rfl
                have z2s : (9223372036854775807 < 2 + p.f1.size) = False := eq_false (by omega)
                have HU4 := Lib.hid hu4
                have HU3 := Lib.hid hu3'
                have C7 := Lib.hid hi7
                have L7 := Lib.hid hl7
                have SB7 := Lib.hid (S7.out.alloc (nodeC p A7 c7))
                clear hu3 ht3 hu3b hu3' hu3c hu3d hu4 ht3b ht3c hR4 hsz hsz2 hi7 hl7 hp
                go_wp2_with (first
                  | (go_at_call 18; go_loud (refine (bld_write w.heap.size b _ ((⟨#[32, 32]⟩ : ByteArray) ++ p.f1) _ SB7.out.bld (by rw [Lib.byteCells_length]; exact fits HTX4.out HL.out) SB7.out.bw.size).mono ?_; rintro e w2 ⟨rfl, h1, h2, h3⟩; have S8 := Lib.hid (SB7.out.write h1 h2 h3); clear h1 h2 h3; obtain ⟨hgb, _, _⟩ := S8.out.blk _ List.mem_cons_self; have b5 : w2.cell? ⟨wr.heap.size, 5, none⟩ = some (.slice A7 p.f4.length c7) := blk_cell hgb 5; clear hgb)))
                have HS4 := Lib.hid (And.intro (show (tx3 ++ ((⟨#[32, 32]⟩ : ByteArray) ++ p.f1).data.toList) ++ (u4 ++ R4) = T by rw [List.append_assoc]; exact HTX4.out) S8.out.forget)
                clear S7 SB7 S8 HTX3 HTX4 p0 p1 p2 p3 p4 p5 z2s b5
                go_loopg [65] p.f4.length (fun kq s65 W => ∃ n : Nat, s65 = .int .i64 (n : Int) ∧ Hid (L4 k p.f4 R4 T w b n kq W))
                case atStart => exact ⟨0, rfl, Lib.hid ⟨_, u4, HU4.out, HS4.out.1, Nat.zero_le _, by omega, HS4.out.2⟩⟩
                case round =>
                  clear HS4
                  obtain ⟨n, rfl, HW4⟩ := hrel
                  obtain ⟨tx4, u5, hu5, htx4, hnl, hms4, hS4⟩ := HW4.out
                  clear HW4
                  have S9 := Lib.hid hS4
                  have HTX5 := Lib.hid htx4
                  clear hS4 htx4
                  have n0 : (0 : Int) ≤ (n : Int) := by omega
                  rcases Nat.lt_or_ge n p.f4.length with nlt | nge
                  · have hgk : 0 < gk := Nat.lt_of_add_lt_add_left (Nat.lt_of_lt_of_le nlt hms4)
                    obtain ⟨r2, hr2⟩ : ∃ r2, gk = r2 + 1 := ⟨gk - 1, (Nat.sub_add_cancel hgk).symm⟩
                    clear hgk
                    subst hr2
                    have hnb : wrap64 ((n : Int) + 1) = (n : Int) + 1 := by have := (C7.out).2.1; unfold wrap64; omega
                    have n1 : (n : Int) < (p.f4.length : Int) := Int.ofNat_lt.2 nlt
                    rw [drop_cons nlt] at hu5
                    obtain ⟨ad5, A8, c8, e5, p0, p1, p2, p3, p4, p5, hl8, hi8⟩ := at_node C7.out S9.out.bw n nlt
                    generalize hx : PTr.rd_T26 p.f4 (n : Int) = x at hu5 p0 p1 p2 p3 p4 p5 hl8 hi8
                    subst e5
                    obtain ⟨t, ht, hu5b⟩ := Option.bind_eq_some_iff.1 hu5
                    obtain ⟨u5', hu5', hu5c⟩ := Option.bind_eq_some_iff.1 hu5b
                    have hu5d := Option.some.inj hu5c
                    have HTX6 : Hid (tx4 ++ (((⟨#[32]⟩ : ByteArray) ++ t).data.toList ++ (u5' ++ R4)) = T) := Lib.hid (by rw [blank_cat, ← HTX5.out, ← hu5d]; simp)
                    have hsz := fits HTX6.out HL.out
                    have hsz2 : ((⟨#[32]⟩ : ByteArray) ++ t).size = 1 + t.size := by rw [ByteArray.size_append]; rfl
                    have z1s : (9223372036854775807 < 1 + t.size) = False := eq_false (by omega)
                    have HV := Lib.hid ht
                    have HX5 := Lib.hid hu5'
                    have C8 := Lib.hid hi8
                    have L8 := Lib.hid hl8
                    have SB9 := Lib.hid (S9.out.alloc (nodeC x A8 c8))
                    clear hu5 ht hu5b hu5' hu5c hu5d hsz hsz2 hi8 hl8 hx
                    obtain ⟨x0, x1', ⟨x2, x3⟩, x4, x5⟩ := x
                    go_wp2_with (first
                      | (go_at_call 18; go_loud (refine (bld_write w.heap.size b _ ((⟨#[32]⟩ : ByteArray) ++ t) _ SC9.out.bld (by rw [Lib.byteCells_length]; exact fits HTX6.out HL.out) SC9.out.bw.size).mono ?_; rintro e w2 ⟨rfl, h1, h2, h3⟩; have SD9 := Lib.hid (SC9.out.write h1 h2 h3); clear h1 h2 h3))
                      | (go_at_call 19; go_loud (refine (PTr.tree_write.calls k x0 x1' x2 x3 x4 A8 c8 x5 t _ (HG.out.step SB9.out.bw) (Kd.C_below C8.out SB9.out.bw) L8.out HV.out).mono ?_; rintro e w3 ⟨rfl, hb⟩; have SC9 := Lib.hid (SB9.out.below hb); clear hb)))
                    go_roundg r2
                    case rel => exact ⟨n + 1, by simp [hnb], Lib.hid ⟨_, u5', HX5.out, (by rw [List.append_assoc]; exact HTX6.out), nlt, (by rw [Nat.add_assoc, Nat.add_comm 1 r2]; exact hms4), SD9.out.forget⟩⟩
                    case measure => exact Nat.lt_succ_self _
                  · rw [List.drop_eq_nil_of_le nge] at hu5
                    have hu50 := (Option.some.inj hu5).symm
                    have nn : ¬ (n : Int) < (p.f4.length : Int) := by omega
                    have HTX6 : Hid (tx4 ++ ((⟨#[59, 10]⟩ : ByteArray).data.toList ++ (u3' ++ R3)) = T) := Lib.hid (by rw [← HTX5.out, hu50, HR4.out]; rfl)
                    clear hu5 hu50
                    go_wp2_with (first
                      | (go_at_call 18; go_loud (refine (bld_write w.heap.size b _ ⟨#[59, 10]⟩ _ S9.out.bld (by rw [Lib.byteCells_length]; exact fits HTX6.out HL.out) S9.out.bw.size).mono ?_; rintro e w2 ⟨rfl, h1, h2, h3⟩; have SE9 := Lib.hid (S9.out.write h1 h2 h3); clear h1 h2 h3)))
                    go_roundg r1
                    case rel => exact ⟨m + 1, by simp [hmb], Lib.hid ⟨_, u3', HU3.out, (by rw [List.append_assoc]; exact HTX6.out), mlt, (by rw [Nat.add_assoc, Nat.add_comm 1 r1]; exact hms3), SE9.out⟩⟩
                    case measure => exact Nat.lt_succ_self _
              · rw [List.drop_eq_nil_of_le mge] at hu3
                have hu30 := (Option.some.inj hu3).symm
                have mn : ¬ (m : Int) < (y.length : Int) := by omega
                have HTX6 : Hid (tx3 ++ ((⟨#[125, 10]⟩ : ByteArray).data.toList ++ u1) = T) := Lib.hid (by rw [← HTX3.out, hu30, HR3.out]; rfl)
                clear hu3 hu30
                go_wp2_with (first
                  | (go_at_call 18; go_loud (refine (bld_write w.heap.size b _ ⟨#[125, 10]⟩ _ S7.out.bld (by rw [Lib.byteCells_length]; exact fits HTX6.out HL.out) S7.out.bw.size).mono ?_; rintro e w2 ⟨rfl, h1, h2, h3⟩; have SF9 := Lib.hid (S7.out.write h1 h2 h3); clear h1 h2 h3)))
                go_roundg q1
                case rel => exact ⟨i + 1, by simp [hib], Lib.hid ⟨_, u1, HU1.out, (by rw [List.append_assoc]; exact HTX6.out), hlt, by omega, SF9.out⟩⟩
                case measure => exact Nat.lt_succ_self _
          · rw [if_neg hk] at hz
            have k0 : (v.f0 != 2) = true := by simpa using hk
            obtain ⟨t, ht, hz2⟩ := Option.bind_eq_some_iff.1 hz
            obtain ⟨⟨x1', y'⟩, hx', hz3⟩ := Option.bind_eq_some_iff.1 hz2
            have hz4 := Option.some.inj hz3
            injection hz4 with hz5 hz6
            subst hz6
            have HTX2 : Hid (tx2 ++ (((⟨#[32]⟩ : ByteArray) ++ t).data.toList ++ (x1' ++ R2)) = T) := Lib.hid (by rw [blank_cat, ← HTX.out, ← hz5]; simp)
            have hsz := fits HTX2.out HL.out
            have hsz2 : ((⟨#[32]⟩ : ByteArray) ++ t).size = 1 + t.size := by rw [ByteArray.size_append]; rfl
            have z1s : (9223372036854775807 < 1 + t.size) = False := eq_false (by omega)
            have HV := Lib.hid ht
            have HX3 := Lib.hid hx'
            have C6 := Lib.hid hi6
            have L6 := Lib.hid hl6
            have hjb := hw2 (by have := (CD.out).2.1; omega)
            clear hz hz2 hz3 hz5 ht hx' hi6 hl6 hsz hsz2 hw2 hd2
            obtain ⟨v0, v1, ⟨v2, v3⟩, v4, v5⟩ := v
            go_wp2_with (first
              | (go_at_call 18; go_loud (refine (bld_write w.heap.size b _ ((⟨#[32]⟩ : ByteArray) ++ t) _ S3.out.bld (by rw [Lib.byteCells_length]; exact fits HTX2.out HL.out) S3.out.bw.size).mono ?_; rintro e w2 ⟨rfl, h1, h2, h3⟩; have S4 := Lib.hid (S3.out.write h1 h2 h3); clear h1 h2 h3))
              | (go_at_call 19; go_loud (refine (PTr.tree_write.calls k v0 v1 v2 v3 v4 A6 c6 v5 t _ (HG.out.step S2.out.bw) (Kd.C_below C6.out S2.out.bw) L6.out HV.out).mono ?_; rintro e w3 ⟨rfl, hb⟩; have S3 := Lib.hid (S2.out.below hb); clear hb)))
            go_roundg q
            case rel => exact ⟨j + 1, by simp [hjb], Lib.hid ⟨_, x1', HX3.out, by rw [List.append_assoc]; exact HTX2.out, jlt, (by rw [Nat.add_assoc, Nat.add_comm 1 q]; exact hms2), S4.out⟩⟩
            case measure => omega
        · rw [List.drop_eq_nil_of_le jge] at hz
          have hz4 := Option.some.inj hz
          injection hz4 with hz5 hz6
          have hj : j = d.f4.length := by omega
          have hyd : y = d.f4.drop j := by rw [← hz6, List.drop_eq_nil_of_le jge]
          have HTX2 : Hid (tx2 ++ ((⟨#[32, 123, 10]⟩ : ByteArray).data.toList ++ (u2 ++ ([125, 10] ++ u1))) = T) := Lib.hid (by rw [← HTX.out, ← hz5, HR2.out]; rfl)
          have jn : ¬ (j : Int) < (d.f4.length : Int) := by omega
          clear hz hz5 hz6 hw2
          have jle : (j : Int) ≤ (d.f4.length : Int) := by omega
          have jlc : (d.f4.length : Int) ≤ (c5 : Int) := by have := LD.out; omega
          have hy0 : y = [] := by rw [hyd, List.drop_eq_nil_of_le jge]
          have hu0 : u2 = [] := by have := HU2.out; rw [hy0] at this; exact (Option.some.inj this).symm
          have HTE : Hid ((tx2 ++ [32, 123, 10]) ++ ((⟨#[125, 10]⟩ : ByteArray).data.toList ++ u1) = T) := Lib.hid (by rw [← HTX2.out, hu0, List.append_assoc]; rfl)
          by_cases hcc : c5 = d.f4.length
          all_goals
            go_wp2_with (first
              | (go_at_call 18; go_loud (refine (bld_write w.heap.size b _ ⟨#[32, 123, 10]⟩ _ S2.out.bld (by rw [Lib.byteCells_length]; exact fits HTX2.out HL.out) S2.out.bw.size).mono ?_; rintro e w2 ⟨rfl, h1, h2, h3⟩; have S5 := Lib.hid (S2.out.write h1 h2 h3); clear h1 h2 h3; obtain ⟨hgb, _, _⟩ := S5.out.blk _ List.mem_cons_self; have n5 : w2.cell? ⟨g, 5, none⟩ = some (.slice A5 d.f4.length c5) := blk_cell hgb 5; clear hgb)))
            go_loopg [54] 0 (fun kq s54 W => s54 = .int .i64 0 ∧ Hid (BW w b (tx2 ++ [32, 123, 10]) [] W))
            case atStart => exact ⟨rfl, Lib.hid S5.out.forget⟩
            case round =>
              clear S2 S5 HTX HTX2 n5 n1
              obtain ⟨rfl, HB5⟩ := hrel
              go_wp2_with (first
                | (go_at_call 18; go_loud (refine (bld_write w.heap.size b _ ⟨#[125, 10]⟩ _ HB5.out.bld (by rw [Lib.byteCells_length]; exact fits HTE.out HL.out) HB5.out.bw.size).mono ?_; rintro e w2 ⟨rfl, h1, h2, h3⟩; have S6 := Lib.hid (HB5.out.write h1 h2 h3); clear h1 h2 h3)))
              go_roundg q1
              case rel => exact ⟨i + 1, by simp [hib], Lib.hid ⟨_, u1, HU1.out, (by rw [List.append_assoc]; exact HTE.out), hlt, by omega, S6.out⟩⟩
              case measure => omega
    · have hi : i = l.length := by omega
      have hu0 : u = [] := by rw [hi, List.drop_length] at hu; exact (Option.some.inj hu).symm
      rw [hu0, List.append_nil] at htx
      have cn : ¬ (i : Int) < (l.length : Int) := by omega
      have HTX := Lib.hid htx
      clear htx hu hu0 hi
      go_wp2_with (first
        | (go_at_call 20; go_loud (refine (Any.Builder_String_any_k Tryz.lays169 Tryz.Builder_Extra_169 w.heap.size b txt _ SS.out.bld SS.out.bw.size).mono ?_; rintro e w2 ⟨rfl, h1, h2, h3⟩; rw [HTX.out]; have HB2 := Lib.hid (SS.out.bw.trans h2); clear h1 h2 h3)))
      go_ret
      exact ⟨rfl, HB2.out⟩
end Go.Proofs.YtahjkibjcibpgaaGreatDoor.L
end
section
namespace Go.Proofs.YtahjkibjcibpgaaGreatDoor.L
open Go.RowKit Go.Shelf Go.Lib Go.Proofs.YtahjkibjcibpgaaGreatDoor.U
open Go.Proofs.YtahjkibjcibpgaaGreatDoorW Go.Proofs.YtahjkibjcibpgaaGreatDoorW.PrintWords
theorem wv_mono (k : Nat) (v : PTr.S26) {t : ByteArray} (h : wv k v = some t) : wv (k + 1) v = some t := PTr.tree_write.mono _ _ _ _ _ _ k _ h
theorem strsW_mono (k : Nat) : ∀ (l : List PTr.S26) {t : List UInt8}, strsW k l = some t → strsW (k + 1) l = some t
  | [], _, h => h
  | v :: r, t, h => by
    obtain ⟨a, ha, h⟩ := Option.bind_eq_some_iff.1 h
    obtain ⟨b, hb, h⟩ := Option.bind_eq_some_iff.1 h
    show (wv (k + 1) v).bind _ = _
    rw [wv_mono k v ha]
    show (strsW (k + 1) r).bind _ = _
    rw [strsW_mono k r hb]
    exact h
theorem propW_mono (k : Nat) (p : PTr.S26) {t : List UInt8} (h : propW k p = some t) : propW (k + 1) p = some t := by
  obtain ⟨a, ha, h⟩ := Option.bind_eq_some_iff.1 h
  unfold propW
  rw [strsW_mono k _ ha]
  exact h
theorem propsW_mono (k : Nat) : ∀ (l : List PTr.S26) {t : List UInt8}, propsW k l = some t → propsW (k + 1) l = some t
  | [], _, h => h
  | v :: r, t, h => by
    obtain ⟨a, ha, h⟩ := Option.bind_eq_some_iff.1 h
    obtain ⟨b, hb, h⟩ := Option.bind_eq_some_iff.1 h
    show (propW (k + 1) v).bind _ = _
    rw [propW_mono k v ha]
    show (propsW (k + 1) r).bind _ = _
    rw [propsW_mono k r hb]
    exact h
theorem wordsW_mono (k : Nat) : ∀ (l : List PTr.S26) {t : List UInt8 × List PTr.S26}, wordsW k l = some t → wordsW (k + 1) l = some t
  | [], _, h => h
  | v :: r, t, h => by
    unfold wordsW at h ⊢
    by_cases c : v.f0 = 2
    · rw [if_pos c] at h ⊢; exact h
    · rw [if_neg c] at h ⊢
      obtain ⟨a, ha, h⟩ := Option.bind_eq_some_iff.1 h
      obtain ⟨b, hb, h⟩ := Option.bind_eq_some_iff.1 h
      rw [wv_mono k v ha]
      show (wordsW (k + 1) r).bind _ = _
      rw [wordsW_mono k r hb]
      exact h
theorem declW_mono (k : Nat) (p : PTr.S26) {t : List UInt8} (h : declW k p = some t) : declW (k + 1) p = some t := by
  obtain ⟨a, ha, h⟩ := Option.bind_eq_some_iff.1 h
  obtain ⟨b, hb, h⟩ := Option.bind_eq_some_iff.1 h
  unfold declW
  rw [wordsW_mono k _ ha]
  show (propsW (k + 1) a.2).bind _ = _
  rw [propsW_mono k _ hb]
  exact h
theorem declsW_mono (k : Nat) : ∀ (l : List PTr.S26) {t : List UInt8}, declsW k l = some t → declsW (k + 1) l = some t
  | [], _, h => h
  | v :: r, t, h => by
    obtain ⟨a, ha, h⟩ := Option.bind_eq_some_iff.1 h
    obtain ⟨b, hb, h⟩ := Option.bind_eq_some_iff.1 h
    show (declW (k + 1) v).bind _ = _
    rw [declW_mono k v ha]
    show (declsW (k + 1) r).bind _ = _
    rw [declsW_mono k r hb]
    exact h
theorem rootW_mono (k : Nat) (n : PTr.S26) {t : List UInt8} (h : rootW k n = some t) : rootW (k + 1) n = some t := by
  obtain ⟨ok, ha, h⟩ := Option.bind_eq_some_iff.1 h
  unfold rootW
  rw [PTr.tree_Right.mono _ _ _ _ _ _ k _ ha]
  show (if ok = true then _ else _) = _
  cases ok with
  | true => exact declsW_mono k _ h
  | false => exact h
theorem rootW_up (k : Nat) (n : PTr.S26) {t : List UInt8} (h : rootW k n = some t) : ∀ d, rootW (k + d) n = some t
  | 0 => h
  | d + 1 => rootW_mono _ n (rootW_up k n h d)
theorem rootW_det {k k' : Nat} {n : PTr.S26} {t t' : List UInt8} (h : rootW k n = some t) (h' : rootW k' n = some t') : t = t' := by
  have a := rootW_up k n h k'
  have b := rootW_up k' n h' k
  rw [Nat.add_comm] at b
  exact Option.some.inj (a.symm.trans b)
theorem write_any (k : Nat) (n : PTr.S26) (A : Option Addr) (c : Nat) (w : World) (hg : UW w) (hr : Kd.C PTr.k26 w A n.f4.length n.f4) (hc : n.f4.length ≤ c) (T : List UInt8) (h : rootW k n = some T) (hl : T.length ≤ 140737488355328) :
    Calls Tryz.prog 10 #[.agg #[.int .i64 n.f0, .string n.f1, .int .i64 n.f2.f0, .int .i64 n.f2.f1, .int .i64 n.f3, .slice A n.f4.length c]] w fun e w' => e = .returned (.string ⟨T.toArray⟩) ∧ Below w.heap.size w w' := by
  obtain ⟨ok, ha, h⟩ := Option.bind_eq_some_iff.1 h
  cases ok with
  | true => exact write_yes k _ _ _ _ _ _ A c w hg hr hc ha T h hl
  | false =>
    have e := Option.some.inj (show some ([] : List UInt8) = some T from h)
    subst e
    exact write_no k _ _ _ _ _ _ A c w hg hr hc ha
end Go.Proofs.YtahjkibjcibpgaaGreatDoor.L
namespace Go.Proofs.YtahjkibjcibpgaaGreatDoor.Ex
open Go.RowKit Go.Proofs.YtahjkibjcibpgaaGreatDoor.U Go.Proofs.YtahjkibjcibpgaaGreatDoorW.PrintWords
open Classical in
noncomputable def tree_Write.f (a0 : Int) (a1 : ByteArray) (a2 a3 a4 : Int) (l : List PTr.S26) : Option ByteArray :=
  if h : ∃ T : List UInt8, (∃ k, L.rootW k ⟨a0, a1, ⟨a2, a3⟩, a4, l⟩ = some T) ∧ T.length ≤ 140737488355328 then some ⟨h.choose.toArray⟩ else none
theorem tree_Write.f_of {n : PTr.S26} {k : Nat} {T : List UInt8} (h : L.rootW k n = some T) (hl : T.length ≤ 140737488355328) : tree_Write.f n.f0 n.f1 n.f2.f0 n.f2.f1 n.f3 n.f4 = some ⟨T.toArray⟩ := by
  unfold tree_Write.f
  have hx : ∃ T : List UInt8, (∃ k, L.rootW k ⟨n.f0, n.f1, ⟨n.f2.f0, n.f2.f1⟩, n.f3, n.f4⟩ = some T) ∧ T.length ≤ 140737488355328 := ⟨T, ⟨k, h⟩, hl⟩
  rw [dif_pos hx]
  obtain ⟨⟨k', h'⟩, _⟩ := hx.choose_spec
  rw [L.rootW_det h' h]
theorem tree_Write.calls (a0 : Int) (a1 : ByteArray) (a2 a3 a4 : Int) (A : Option Addr) (c : Nat) (l : List PTr.S26) (r : ByteArray) (w : World) (hg : UW w) (hr : Kd.C PTr.k26 w A l.length l) (hc : l.length ≤ c) (h : tree_Write.f a0 a1 a2 a3 a4 l = some r) :
    Calls Tryz.prog 10 #[.agg #[.int .i64 a0, .string a1, .int .i64 a2, .int .i64 a3, .int .i64 a4, .slice A l.length c]] w fun e w' => e = .returned (.string r) ∧ Below w.heap.size w w' := by
  unfold tree_Write.f at h
  by_cases hx : ∃ T : List UInt8, (∃ k, L.rootW k ⟨a0, a1, ⟨a2, a3⟩, a4, l⟩ = some T) ∧ T.length ≤ 140737488355328
  · rw [dif_pos hx] at h
    have e := Option.some.inj h
    subst e
    obtain ⟨⟨k, h'⟩, hl⟩ := hx.choose_spec
    exact L.write_any k (⟨a0, a1, ⟨a2, a3⟩, a4, l⟩ : PTr.S26) A c w hg hr hc _ h' hl
  · rw [dif_neg hx] at h
    cases h
end Go.Proofs.YtahjkibjcibpgaaGreatDoor.Ex
end
section
namespace Go.Proofs.YtahjkibjcibpgaaGreatDoor.L
open Go.RowKit Go.Proofs.YtahjkibjcibpgaaGreatDoor.U Go.Proofs.YtahjkibjcibpgaaGreatDoorW.PrintWords Go.Proofs.YtahjkibjcibpgaaGreatDoor.PTr
mutual
def wrV : PTr.S26 → Nat
  | ⟨_, t, _, _, ks⟩ => t.size + 31 + wrVs ks
def wrVs : List PTr.S26 → Nat
  | [] => 0
  | v :: r => wrV v + wrVs r
end
theorem wrV_eq (v : PTr.S26) : wrV v = v.f1.size + 31 + wrVs v.f4 := by cases v; rw [wrV]
theorem wrVs_cons (v : PTr.S26) (r : List PTr.S26) : wrVs (v :: r) = wrV v + wrVs r := by rw [wrVs]
theorem wrVs_nil : wrVs [] = 0 := by rw [wrVs]
theorem wrVs_app (a b : List PTr.S26) : wrVs (a ++ b) = wrVs a + wrVs b := by
  induction a with
  | nil => rw [List.nil_append, wrVs_nil, Nat.zero_add]
  | cons v r ih => rw [List.cons_append, wrVs_cons, wrVs_cons, ih]; omega
mutual
theorem wtV_le (v : PTr.S26) : wtV v ≤ 4 * wrV v := by
  match v with
  | ⟨_, t, _, _, ks⟩ =>
    have := wtVs_le ks
    rw [wtV, wrV]; omega
termination_by structural v
theorem wtVs_le (l : List PTr.S26) : wtVs l ≤ 4 * wrVs l := by
  match l with
  | [] => rw [wtVs, wrVs]; omega
  | v :: r =>
    have h1 := wtV_le v
    have h2 := wtVs_le r
    rw [wtVs, wrVs]; omega
termination_by structural l
end
theorem cat_nil : cat [] = [] := rfl
theorem cat_one (k : Nat) (x w : List UInt8) (r : Pcs) : cat ((k, x, w) :: r) = x ++ (w ++ cat r) := rfl
theorem catA_w (n d : Int) (w : List UInt8) : cat (pA n d w) = cat (pA n d []) ++ w := by
  unfold pA
  split <;> simp [cat]
theorem catVs_w (l : List PTr.S26) (w : List UInt8) : cat (pVs l w) = cat (pVs l []) ++ w := by
  induction l with
  | nil => rw [pVs, pVs]; simp [cat]
  | cons v r ih =>
    cases r with
    | nil => rw [pVs_one, pVs_one, cat_app, cat_app]; simp [cat]
    | cons u r => rw [pVs_more, pVs_more, cat_app, cat_app, cat_one, cat_one, ih]; simp
theorem catV_w (v : PTr.S26) (w : List UInt8) : cat (pV v w) = cat (pV v []) ++ w := by
  obtain ⟨k, t, a, x, ks⟩ := v
  rw [pV, pV]
  by_cases h4 : k = 4
  · rw [if_pos h4, if_pos h4]; simp [cat]
  · rw [if_neg h4, if_neg h4]
    by_cases h5 : k = 5
    · rw [if_pos h5, if_pos h5]; exact catA_w _ _ _
    · rw [if_neg h5, if_neg h5]
      by_cases h6 : k = 6
      · rw [if_pos h6, if_pos h6, cat_one, cat_one, catVs_w ks w]; simp
      · rw [if_neg h6, if_neg h6]; simp [cat]
theorem num_len (n : Int) (h0 : 0 ≤ n) (h1 : n ≤ 1125899906842624) : (num n).length ≤ 20 := by
  unfold num
  rw [Lib.decDigits_length]
  exact nDigits20 _ (by omega)
theorem base_len : ∀ d, d < 7 → (bases.getD d []).length ≤ 8 := by decide
theorem lenA (n d : Int) (h0 : 0 ≤ n) (h1 : n ≤ 1125899906842624) (h2 : 0 ≤ d) (h3 : d ≤ 6) : (cat (pA n d [])).length ≤ 29 := by
  have hn := num_len n h0 h1
  unfold pA
  split
  · simp [cat]; omega
  · have hb := base_len d.toNat (by omega)
    unfold base
    simp [cat] at hb ⊢; omega
mutual
theorem lenV (v : PTr.S26) (d : Nat) (h : okV v d) : (cat (pV v [])).length + 2 ≤ wrV v := by
  match v, h with
  | ⟨k, t, a, x, ks⟩, h =>
    rw [okV] at h
    rw [pV, wrV]
    have ht := Lib.size_eq t
    rcases h with ⟨rfl, _, _, _⟩ | ⟨rfl, _, _, _⟩ | ⟨rfl, _, h0, h1, h2, h3, _⟩ | ⟨rfl, _, _, _, hne, hks⟩
    · rw [if_neg (by decide), if_neg (by decide), if_neg (by decide)]
      simp [cat] at ht ⊢; omega
    · rw [if_pos rfl]
      simp [cat] at ht ⊢; omega
    · rw [if_neg (by decide), if_pos rfl]
      have := lenA _ _ h0 h1 h2 h3
      omega
    · rw [if_neg (by decide), if_neg (by decide), if_pos rfl, cat_one]
      have := lenVs ks (d + 1) hne hks
      simp only [List.nil_append, List.length_append, List.length_cons, List.length_nil]
      omega
termination_by structural v
theorem lenVs (l : List PTr.S26) (d : Nat) (hne : l ≠ []) (h : okVs l d) : (cat (pVs l [])).length ≤ wrVs l + 1 := by
  match l, hne, h with
  | [v], _, h =>
    rw [okVs] at h
    have h1 := lenV v d h.1
    rw [pVs_one, cat_app, wrVs_cons, wrVs_nil, List.length_append]
    simp [cat]; omega
  | v :: u :: r, _, h =>
    rw [okVs] at h
    have h1 := lenV v d h.1
    have h2 := lenVs (u :: r) d (by simp) h.2
    rw [pVs_more, cat_app, cat_one, wrVs_cons]
    simp only [List.length_append, List.length_cons, List.length_nil]
    omega
termination_by structural l
end
theorem lenKs (l : List PTr.S26) (h : okVs l 0) : (cat (pKs l)).length ≤ wrVs l := by
  induction l with
  | nil => simp [pKs, cat]
  | cons v r ih =>
    rw [okVs] at h
    have h1 := lenV v 0 h.1
    have h2 := ih h.2
    cases r with
    | nil => rw [show pKs [v] = pV v [] from rfl, wrVs_cons]; omega
    | cons u r =>
      rw [show pKs (v :: u :: r) = pV v [32] ++ pKs (u :: r) from rfl, cat_app, catV_w, wrVs_cons]
      simp only [List.length_append, List.length_cons, List.length_nil]
      omega
theorem lenPr (p : PTr.S26) (w : List UInt8) (h : okPr p) : (cat (pPr p w)).length + 27 ≤ wrV p + w.length := by
  have h1 := lenKs p.f4 h.2.2.2.1
  have ht := Lib.size_eq p.f1
  rw [wrV_eq]
  unfold pPr
  rw [cat_one, cat_app, cat_one, cat_nil]
  have : (if p.f4 = [] then ([] : List UInt8) else [32]).length ≤ 1 := by split <;> simp
  simp only [List.length_append, List.length_cons, List.length_nil]
  omega
theorem lenWs (l : List PTr.S26) (h : ∀ v ∈ l, isWord v ∧ okV v 0) : (cat (pWs l)).length ≤ wrVs l := by
  induction l with
  | nil => simp [pWs, cat]
  | cons v r ih =>
    have h1 := lenV v 0 (h v (by simp)).2
    have h2 := ih (fun u hu => h u (by simp [hu]))
    rw [show pWs (v :: r) = pV v [32] ++ pWs r from rfl, cat_app, catV_w, wrVs_cons]
    simp only [List.length_append, List.length_cons, List.length_nil]
    omega
theorem lenPs (l : List PTr.S26) (h : ∀ p ∈ l, okPr p) : (cat (pPs l)).length ≤ wrVs l + 2 := by
  induction l with
  | nil => simp [pPs, cat]
  | cons p r ih =>
    have h2 := ih (fun u hu => h u (by simp [hu]))
    cases r with
    | nil =>
      have h1 := lenPr p [10] (h p (by simp))
      rw [show pPs [p] = pPr p [10] ++ [(3, [125], [10])] from rfl, cat_app, cat_one, cat_nil, wrVs_cons]
      simp only [List.length_append, List.length_cons, List.length_nil] at h1 ⊢
      omega
    | cons q r =>
      have h1 := lenPr p [10, 32, 32] (h p (by simp))
      rw [show pPs (p :: q :: r) = pPr p [10, 32, 32] ++ pPs (q :: r) from rfl, cat_app, wrVs_cons]
      simp only [List.length_append, List.length_cons, List.length_nil] at h1 ⊢
      omega
theorem lenD (d : PTr.S26) (ws ps : List PTr.S26) (h : okD d ws ps) : (cat (pD d ws ps)).length ≤ wrV d := by
  obtain ⟨_, _, _, h4, h5, h6⟩ := h
  have h1 := lenWs ws h5
  have h2 := lenPs ps h6
  have ht := Lib.size_eq d.f1
  rw [wrV_eq, h4, wrVs_app]
  unfold pD
  rw [cat_one, cat_app, cat_one]
  have : (if ps = [] then ([10] : List UInt8) else [10, 32, 32]).length ≤ 3 := by split <;> simp
  simp only [List.length_append, List.length_cons, List.length_nil]
  omega
theorem lenF (l : List (PTr.S26 × List PTr.S26 × List PTr.S26)) (h : ∀ x ∈ l, okD x.1 x.2.1 x.2.2) : (cat (pF l)).length ≤ wrVs (l.map (·.1)) := by
  induction l with
  | nil => simp [pF, cat]
  | cons x r ih =>
    obtain ⟨d, ws, ps⟩ := x
    have h1 := lenD d ws ps (h (d, ws, ps) (by simp))
    have h2 := ih (fun u hu => h u (by simp [hu]))
    rw [show pF ((d, ws, ps) :: r) = pD d ws ps ++ pF r from rfl, cat_app, List.map_cons, wrVs_cons]
    simp only [List.length_append]
    omega
theorem wrt_base (n d : Int) (h0 : 0 ≤ n) (h1 : n ≤ 1125899906842624) (h2 : 0 ≤ d) (h3 : d ≤ 6) : wrt n d = cat (pA n d []) := by
  obtain ⟨N, rfl⟩ : ∃ N : Nat, n = (N : Int) := ⟨n.toNat, by omega⟩
  unfold wrt pA num
  rw [if_neg (by omega), Lib.itoa_nonneg, Int.toNat_natCast]
  rcases (show d = 0 ∨ d = 1 ∨ d = 2 ∨ d = 3 ∨ d = 4 ∨ d = 5 ∨ d = 6 by omega) with rfl | rfl | rfl | rfl | rfl | rfl | rfl
  · rw [if_pos rfl]
    simp only [cat, List.append_nil]
    rfl
  all_goals
    rw [if_neg (by decide)]
    simp only [cat, List.append_nil]
    rfl
def vB (v : PTr.S26) : ByteArray := ⟨(cat (pV v [])).toArray⟩
theorem vB_list (v : PTr.S26) : (vB v).data.toList = cat (pV v []) := rfl
theorem catVs_join (l : List PTr.S26) (hne : l ≠ []) : cat (pVs l []) = Lib.join (l.map (fun v => cat (pV v []))) [44, 32] ++ [41] := by
  induction l with
  | nil => exact absurd rfl hne
  | cons v r ih =>
    cases r with
    | nil => rw [pVs_one, cat_app]; simp [cat, Lib.join_one]
    | cons u r =>
      have h := ih (by simp)
      rw [pVs_more, cat_app, cat_one, h, List.map_cons, Lib.join_cons]
      rw [List.map_cons, Lib.join_cons] 
      simp [Lib.joinTail]
theorem joinL_vB (l : List PTr.S26) : Ex.joinL (l.map vB) (⟨#[44, 32]⟩ : ByteArray) = Lib.join (l.map (fun v => cat (pV v []))) [44, 32] := by
  unfold Ex.joinL
  rw [List.map_map]
  rfl
mutual
theorem write_f (v : PTr.S26) (d : Nat) (h : okV v d) (hw : wrV v < 1000000000) : Ev (fun k => tree_write.f k v.f0 v.f1 v.f2.f0 v.f2.f1 v.f3 v.f4) (vB v) := by
  match v, h, hw with
  | ⟨k, t, a, x, ks⟩, h, hw =>
    rw [okV] at h
    have hw2 := wrV_eq ⟨k, t, a, x, ks⟩
    simp only at hw2 ⊢
    rcases h with ⟨rfl, _, _, _⟩ | ⟨rfl, _, _, _⟩ | ⟨rfl, _, h0, h1, h2, h3, _⟩ | ⟨rfl, _, _, _, hne, hks⟩
    · refine Ev.step (f := fun _ => some (vB ⟨3, t, a, x, ks⟩)) (fun n => ?_) (Ev.now _)
      simp only [tree_write.f]
      rw [if_neg (by decide), if_neg (by decide), if_neg (by decide)]
      exact congrArg some (bytes_ext (by rw [vB_list, pV, if_neg (by decide), if_neg (by decide), if_neg (by decide)]; simp [cat]))
    · refine Ev.step (f := fun _ => some (((⟨#[34]⟩ : ByteArray) ++ t) ++ (⟨#[34]⟩ : ByteArray))) (fun n => ?_) ?_
      · have hs1 : (⟨#[34]⟩ : ByteArray).size = 1 := rfl
        simp only [tree_write.f]
        rw [if_pos trivial, if_pos (by omega), if_pos (by rw [ByteArray.size_append, hs1]; omega)]
      · rw [show ((⟨#[34]⟩ : ByteArray) ++ t) ++ (⟨#[34]⟩ : ByteArray) = vB ⟨4, t, a, x, ks⟩ from bytes_ext (by rw [vB_list, pV, if_pos rfl]; simp [cat])]
        exact Ev.now _
    · refine Ev.step (f := fun _ => some (⟨(wrt a.f0 a.f1).toArray⟩ : ByteArray)) (fun n => ?_) ?_
      · simp only [tree_write.f]
        rw [if_neg (by decide), if_pos trivial]
        unfold Ex.unit_Write.f
        rfl
      · rw [show (⟨(wrt a.f0 a.f1).toArray⟩ : ByteArray) = vB ⟨5, t, a, x, ks⟩ from bytes_ext (by rw [vB_list, pV, if_neg (by decide), if_pos rfl, wrt_base _ _ h0 h1 h2 h3])]
        exact Ev.now _
    · have hl := write_l0 ks (d + 1) [] hks (by rw [List.nil_append]; omega) (by rw [List.nil_append]; exact hne) (by
        rw [List.nil_append, joinL_vB]
        have := lenVs ks (d + 1) hne hks
        rw [catVs_join ks hne] at this
        simp only [List.length_append] at this
        omega)
      rw [List.nil_append] at hl
      refine Ev.step (fun n => ?_) (show Ev _ (vB ⟨6, t, a, x, ks⟩) from by
        rw [show vB ⟨6, t, a, x, ks⟩ = ((⟨#[40]⟩ : ByteArray) ++ ⟨(Ex.joinL (ks.map vB) (⟨#[44, 32]⟩ : ByteArray)).toArray⟩) ++ (⟨#[41]⟩ : ByteArray) from bytes_ext (by
          rw [vB_list, pV, if_neg (by decide), if_neg (by decide), if_pos rfl, cat_one, catVs_join ks hne, joinL_vB]
          simp)]
        exact hl)
      simp only [tree_write.f]
      rw [if_neg (by decide), if_neg (by decide), if_pos trivial]
      rfl
termination_by structural v
theorem write_l0 (l : List PTr.S26) (d : Nat) (pre : List PTr.S26) (h : okVs l d) (hw : wrVs (pre ++ l) < 1000000000) (hne : pre ++ l ≠ []) (hj : (Ex.joinL ((pre ++ l).map vB) (⟨#[44, 32]⟩ : ByteArray)).length < 2000000000) :
    Ev (fun k => tree_write.l0 k (pre.map vB) (pre ++ l) ((pre ++ l).length : Int) (pre.length : Int)) (((⟨#[40]⟩ : ByteArray) ++ ⟨(Ex.joinL ((pre ++ l).map vB) (⟨#[44, 32]⟩ : ByteArray)).toArray⟩) ++ (⟨#[41]⟩ : ByteArray)) := by
  have hlen : (pre ++ l).length * 31 ≤ wrVs (pre ++ l) := by
    have key : ∀ q : List PTr.S26, q.length * 31 ≤ wrVs q := fun q => by
      induction q with
      | nil => simp
      | cons v r ih => rw [wrVs_cons, wrV_eq, List.length_cons]; omega
    exact key _
  match l, h, hw, hne, hj, hlen with
  | [], _, hw, hne, hj, hlen =>
    rw [List.append_nil] at hj hlen hw ⊢
    refine Ev.step (f := fun _ => some (((⟨#[40]⟩ : ByteArray) ++ ⟨(Ex.joinL (pre.map vB) (⟨#[44, 32]⟩ : ByteArray)).toArray⟩) ++ (⟨#[41]⟩ : ByteArray))) (fun n => ?_) (Ev.now _)
    have hs1 : (⟨#[40]⟩ : ByteArray).size = 1 := rfl
    have hs2 : (⟨(Ex.joinL (pre.map vB) (⟨#[44, 32]⟩ : ByteArray)).toArray⟩ : ByteArray).size = (Ex.joinL (pre.map vB) (⟨#[44, 32]⟩ : ByteArray)).length := by rw [Lib.size_eq]
    simp only [tree_write.l0]
    rw [if_neg (by omega)]
    unfold Ex.strings_Join.f
    rw [if_pos ⟨by rw [List.length_map]; omega, by omega⟩]
    simp only [Option.bind_some]
    rw [if_pos (by omega), if_pos (by rw [ByteArray.size_append, hs1, hs2]; omega)]
  | v :: r, h, hw, hne, hj, hlen =>
    rw [okVs] at h
    have hl2 : (pre ++ v :: r).length = pre.length + 1 + r.length := by simp; omega
    have hrd := rd_at pre v r
    have hv := write_f v d h.1 (by rw [wrVs_app, wrVs_cons] at hw; omega)
    have hr := write_l0 r d (pre ++ [v]) h.2 (by rw [List.append_assoc]; exact hw) (by simp) (by rw [List.append_assoc]; exact hj)
    rw [List.append_assoc, List.singleton_append, List.map_append, show (pre ++ [v]).length = pre.length + 1 by simp] at hr
    refine Ev.step (f := fun k => (tree_write.f k v.f0 v.f1 v.f2.f0 v.f2.f1 v.f3 v.f4).bind fun t105 => tree_write.l0 k (pre.map vB ++ [t105]) (pre ++ v :: r) ((pre ++ v :: r).length : Int) (((pre.length + 1 : Nat)) : Int)) (fun n => ?_) (Ev.bind hv hr)
    simp only [tree_write.l0, hrd]
    rw [if_pos (by omega), if_pos (by omega), if_pos (by omega), wrap_nat _ (by omega)]
    refine congrArg _ (funext fun t => ?_)
    rw [if_pos (by rw [List.length_map]; omega)]
termination_by structural l
end
theorem wv_f (v : PTr.S26) (d : Nat) (h : okV v d) (hw : wrV v < 1000000000) : Ev (fun k => wv k v) (vB v) := write_f v d h hw
theorem strsW_f (l : List PTr.S26) (h : okVs l 0) (hw : wrVs l < 1000000000) : Ev (fun k => strsW k l) (if l = [] then [] else 32 :: cat (pKs l)) := by
  induction l with
  | nil => exact Ev.now _
  | cons v r ih =>
    rw [okVs] at h
    rw [wrVs_cons] at hw
    have h1 := wv_f v 0 h.1 (by omega)
    have h2 := ih h.2 (by omega)
    refine Ev.congr (f := fun k => (wv k v).bind fun t => (strsW k r).bind fun u => some ((32 :: t.data.toList) ++ u)) (fun k => rfl) (Ev.bind h1 (Ev.bind h2 ?_))
    have : (32 :: (vB v).data.toList) ++ (if r = [] then [] else 32 :: cat (pKs r)) = if v :: r = [] then [] else 32 :: cat (pKs (v :: r)) := by
      rw [show (if v :: r = [] then ([] : List UInt8) else 32 :: cat (pKs (v :: r))) = 32 :: cat (pKs (v :: r)) from if_neg (by simp), vB_list]
      cases r with
      | nil => rw [if_pos rfl]; simp [pKs]
      | cons u r =>
        rw [if_neg (by simp), show pKs (v :: u :: r) = pV v [32] ++ pKs (u :: r) from rfl, cat_app, catV_w v [32]]
        simp
    rw [this]
    exact Ev.now _
theorem propW_f (p : PTr.S26) (h : okPr p) (hw : wrV p < 1000000000) : Ev (fun k => propW k p) (32 :: 32 :: cat (pPr p [10])) := by
  rw [wrV_eq] at hw
  have h1 := strsW_f p.f4 h.2.2.2.1 (by omega)
  refine Ev.congr (f := fun k => (strsW k p.f4).bind fun u => some ((32 :: 32 :: p.f1.data.toList) ++ (u ++ [59, 10]))) (fun k => rfl) (Ev.bind h1 ?_)
  have : (32 :: 32 :: p.f1.data.toList) ++ ((if p.f4 = [] then [] else 32 :: cat (pKs p.f4)) ++ [59, 10]) = 32 :: 32 :: cat (pPr p [10]) := by
    unfold pPr
    rw [cat_one, cat_app, cat_one, cat_nil]
    by_cases c : p.f4 = []
    · rw [if_pos c, if_pos c, c]; simp [pKs, cat]
    · rw [if_neg c, if_neg c]; simp
  rw [this]
  exact Ev.now _
theorem catPr_w (p : PTr.S26) (w : List UInt8) : cat (pPr p (10 :: w)) = cat (pPr p [10]) ++ w := by
  unfold pPr
  rw [cat_one, cat_one, cat_app, cat_app, cat_one, cat_one, cat_nil]
  simp
def propsT : List PTr.S26 → List UInt8
  | [] => []
  | p :: r => (32 :: 32 :: cat (pPr p [10])) ++ propsT r
theorem propsW_f (l : List PTr.S26) (h : ∀ p ∈ l, okPr p) (hw : wrVs l < 1000000000) : Ev (fun k => propsW k l) (propsT l) := by
  induction l with
  | nil => exact Ev.now _
  | cons p r ih =>
    rw [wrVs_cons] at hw
    exact Ev.congr (f := fun k => (propW k p).bind fun t => (propsW k r).bind fun u => some (t ++ u)) (fun k => rfl) (Ev.bind (propW_f p (h p (by simp)) (by omega)) (Ev.bind (ih (fun u hu => h u (by simp [hu])) (by omega)) (Ev.now _)))
theorem propsT_cat (l : List PTr.S26) : propsT l ++ [125, 10] = (if l = [] then [] else [32, 32]) ++ cat (pPs l) := by
  induction l with
  | nil => rfl
  | cons p r ih =>
    rw [if_neg (by simp)]
    cases r with
    | nil => rw [show pPs [p] = pPr p [10] ++ [(3, [125], [10])] from rfl, cat_app]; simp [propsT, cat]
    | cons q r =>
      rw [if_neg (by simp)] at ih
      rw [show pPs (p :: q :: r) = pPr p [10, 32, 32] ++ pPs (q :: r) from rfl, cat_app, catPr_w]
      rw [show propsT (p :: q :: r) = (32 :: 32 :: cat (pPr p [10])) ++ propsT (q :: r) from rfl, List.append_assoc, ih]
      simp
def wordsT : List PTr.S26 → List UInt8
  | [] => []
  | v :: r => (32 :: cat (pV v [])) ++ wordsT r
theorem wordsW_f (ws ps : List PTr.S26) (h : ∀ v ∈ ws, isWord v ∧ okV v 0) (hp : ∀ p ∈ ps, okPr p) (hw : wrVs ws < 1000000000) : Ev (fun k => wordsW k (ws ++ ps)) (wordsT ws, ps) := by
  induction ws with
  | nil =>
    cases ps with
    | nil => exact Ev.now _
    | cons p r =>
      refine Ev.congr (f := fun _ => some ([], p :: r)) (fun k => ?_) (Ev.now _)
      show wordsW k (p :: r) = _
      unfold wordsW
      rw [if_pos (hp p (by simp)).1]
  | cons v r ih =>
    rw [wrVs_cons] at hw
    have hv := h v (by simp)
    refine Ev.congr (f := fun k => (wv k v).bind fun t => (wordsW k (r ++ ps)).bind fun x => some ((32 :: t.data.toList) ++ x.1, x.2)) (fun k => ?_) (Ev.bind (wv_f v 0 hv.2 (by omega)) (Ev.bind (ih (fun u hu => h u (by simp [hu])) (by omega)) (Ev.now _)))
    show wordsW k (v :: (r ++ ps)) = _
    conv => lhs; unfold wordsW
    rw [if_neg (by rcases hv.1 with c | c <;> omega)]
theorem wordsT_cat (l : List PTr.S26) : wordsT l ++ [32] = 32 :: cat (pWs l) := by
  induction l with
  | nil => rfl
  | cons v r ih =>
    rw [show wordsT (v :: r) = (32 :: cat (pV v [])) ++ wordsT r from rfl, List.append_assoc, ih, show pWs (v :: r) = pV v [32] ++ pWs r from rfl, cat_app, catV_w v [32]]
    simp
theorem declW_f (d : PTr.S26) (ws ps : List PTr.S26) (h : okD d ws ps) (hw : wrV d < 1000000000) : Ev (fun k => declW k d) (cat (pD d ws ps)) := by
  obtain ⟨_, _, _, h4, h5, h6⟩ := h
  rw [wrV_eq, h4, wrVs_app] at hw
  have h1 := wordsW_f ws ps h5 h6 (by omega)
  have h2 := propsW_f ps h6 (by omega)
  refine Ev.congr (f := fun k => (wordsW k (ws ++ ps)).bind fun x => (propsW k x.2).bind fun u => some (d.f1.data.toList ++ (x.1 ++ ([32, 123, 10] ++ (u ++ [125, 10]))))) (fun k => by unfold declW; rw [h4]) (Ev.bind h1 (Ev.bind h2 ?_))
  have : d.f1.data.toList ++ (wordsT ws ++ ([32, 123, 10] ++ (propsT ps ++ [125, 10]))) = cat (pD d ws ps) := by
    unfold pD
    rw [cat_one, cat_app, cat_one, propsT_cat]
    rw [show ([32, 123, 10] : List UInt8) = [32] ++ [123, 10] from rfl, List.append_assoc [32], ← List.append_assoc (wordsT ws), wordsT_cat]
    by_cases c : ps = []
    · rw [if_pos c, if_pos c]; simp
    · rw [if_neg c, if_neg c]; simp
  simp only
  rw [this]
  exact Ev.now _
theorem declsW_f (l : List (PTr.S26 × List PTr.S26 × List PTr.S26)) (h : ∀ x ∈ l, okD x.1 x.2.1 x.2.2) (hw : wrVs (l.map (·.1)) < 1000000000) : Ev (fun k => declsW k (l.map (·.1))) (cat (pF l)) := by
  induction l with
  | nil => exact Ev.now _
  | cons x r ih =>
    obtain ⟨d, ws, ps⟩ := x
    rw [List.map_cons, wrVs_cons] at hw
    simp only at hw
    have h1 := declW_f d ws ps (h (d, ws, ps) (by simp)) (by omega)
    have h2 := ih (fun u hu => h u (by simp [hu])) (by omega)
    refine Ev.congr (f := fun k => (declW k d).bind fun t => (declsW k (r.map (·.1))).bind fun u => some (t ++ u)) (fun k => rfl) (Ev.bind h1 (Ev.bind h2 ?_))
    rw [← cat_app]
    exact Ev.now _
theorem parts_of (l : List PTr.S26) (h : ∀ d ∈ l, okDe d) : ∃ q : List (PTr.S26 × List PTr.S26 × List PTr.S26), q.map (·.1) = l ∧ ∀ x ∈ q, okD x.1 x.2.1 x.2.2 := by
  induction l with
  | nil => exact ⟨[], rfl, by simp⟩
  | cons d r ih =>
    obtain ⟨ws, ps, hd⟩ := h d (by simp)
    obtain ⟨q, e, hq⟩ := ih (fun u hu => h u (by simp [hu]))
    exact ⟨(d, ws, ps) :: q, by rw [List.map_cons, e], by
      intro x hx
      rcases List.mem_cons.1 hx with rfl | hx
      · exact hd
      · exact hq x hx⟩
open Classical in
theorem rootW_f (n : PTr.S26) (q : List (PTr.S26 × List PTr.S26 × List PTr.S26)) (hq : q.map (·.1) = n.f4) (hd : ∀ x ∈ q, okD x.1 x.2.1 x.2.2) (hr : okRoot n) (hw : wrV n < 200000000) : ∃ k, rootW k n = some (cat (pF q)) := by
  have h1 := right_f n (by have := wtV_le n; omega)
  rw [decide_eq_true hr] at h1
  have h2 := declsW_f q hd (by rw [hq]; rw [wrV_eq] at hw; omega)
  rw [hq] at h2
  exact Ev.rounds (Ev.congr (f := fun k => (tree_Right.f k n.f0 n.f1 n.f2.f0 n.f2.f1 n.f3 n.f4).bind fun ok => if ok = true then declsW k n.f4 else some []) (fun k => rfl) (Ev.bind h1 (by simpa using h2)))
end Go.Proofs.YtahjkibjcibpgaaGreatDoor.L
end
section
namespace Go.Proofs.YtahjkibjcibpgaaGreatDoor.L
open Go.Proofs.YtahjkibjcibpgaaGreatDoor.U
abbrev nd (k : Int) (t : List UInt8) (a : Int) (l : List PTr.S26) : PTr.S26 := ⟨k, ⟨t.toArray⟩, ⟨0, 0⟩, a, l⟩
abbrev am (n d a : Int) : PTr.S26 := ⟨5, ⟨#[]⟩, ⟨n, d⟩, a, []⟩
def sm1 : ByteArray := ⟨#[108, 97, 107, 101, 32, 116, 111, 112, 32, 34, 85, 112, 112, 101, 114, 34, 32, 123, 32, 99, 97, 112, 32, 52, 32, 77, 76, 59, 32, 108, 101, 118, 101, 108, 32, 40, 48, 32, 108, 44, 32, 48, 32, 109, 109, 41, 32, 40, 52, 32, 77, 76, 44, 32, 51, 32, 109, 41, 59, 32, 125]⟩
def sm2 : ByteArray := ⟨#[120, 32, 123, 32, 121, 32, 53, 32, 109, 32, 122, 59, 32, 125]⟩
def sm3 : ByteArray := ⟨#[120, 32, 123, 32, 121, 32, 53, 32, 125]⟩
def sm4 : ByteArray := ⟨#[120, 32, 121]⟩
def sm5 : ByteArray := ⟨#[120, 32, 123, 32, 121, 32, 40, 41, 59, 32, 125]⟩
def sm6 : ByteArray := ⟨#[120, 32, 123, 32, 121, 32, 49, 46, 53, 32, 108, 59, 32, 125]⟩
def tr1k : List PTr.S26 := [nd 3 [116, 111, 112] 5 [], nd 4 [85, 112, 112, 101, 114] 9 [], nd 2 [99, 97, 112] 19 [am 4000000 1 23], nd 2 [108, 101, 118, 101, 108] 29 [nd 6 [] 35 [am 0 1 36, am 0 3 41], nd 6 [] 47 [am 4000000 1 48, am 3000 3 54]]]
def tr1 : List PTr.S26 := [nd 1 [108, 97, 107, 101] 0 tr1k]
def tr2p : List PTr.S26 := [am 5000 3 6, nd 3 [122] 10 []]
def tr2k : List PTr.S26 := [nd 2 [121] 4 tr2p]
def tr2 : List PTr.S26 := [nd 1 [120] 0 tr2k]
theorem sm1_ok : Ex.tree_Parse.f sm1 = some (0, ⟨#[]⟩, 0, 0, 0, tr1, 0, 0) := Ex.tree_Parse.f_ok (by kernel_rfl) (RL_of 40 0 [] (.ok (tr1, 25)) (by kernel_rfl))
theorem sm2_ok : Ex.tree_Parse.f sm2 = some (0, ⟨#[]⟩, 0, 0, 0, tr2, 0, 0) := Ex.tree_Parse.f_ok (by kernel_rfl) (RL_of 40 0 [] (.ok (tr2, 8)) (by kernel_rfl))
theorem sm3_no : Ex.tree_Parse.f sm3 = some (0, ⟨#[]⟩, 0, 0, 0, [], 2, 8) := Ex.tree_Parse.f_fault (e := (2, 8)) (by kernel_rfl) (RL_of 40 0 [] _ (by kernel_rfl))
theorem sm4_no : Ex.tree_Parse.f sm4 = some (0, ⟨#[]⟩, 0, 0, 0, [], 2, 3) := Ex.tree_Parse.f_fault (e := (2, 3)) (by kernel_rfl) (RL_of 40 0 [] _ (by kernel_rfl))
theorem sm5_no : Ex.tree_Parse.f sm5 = some (0, ⟨#[]⟩, 0, 0, 0, [], 2, 7) := Ex.tree_Parse.f_fault (e := (2, 7)) (by kernel_rfl) (RL_of 40 0 [] _ (by kernel_rfl))
theorem sm6_no : Ex.tree_Parse.f sm6 = some (0, ⟨#[]⟩, 0, 0, 0, [], 7, 6) := Ex.tree_Parse.f_fault (e := (7, 6)) (by kernel_rfl) (RL_of 40 0 [] _ (by kernel_rfl))
end Go.Proofs.YtahjkibjcibpgaaGreatDoor.L
end
section
namespace Go.Proofs.YtahjkibjcibpgaaGreatDoor.L
open Go.Proofs.YtahjkibjcibpgaaGreatDoor.U
def sm2w : ByteArray := ⟨#[120, 32, 123, 10, 32, 32, 121, 32, 53, 48, 48, 48, 32, 109, 109, 32, 122, 59, 10, 125, 10]⟩
theorem sm1_right : PTr.tree_Right.f 60 0 ⟨#[]⟩ 0 0 0 tr1 = some true := by kernel_rfl
theorem sm2_root : rootW 60 ⟨0, ⟨#[]⟩, ⟨0, 0⟩, 0, tr2⟩ = some sm2w.data.toList := by kernel_rfl
theorem sm2_write : Ex.tree_Write.f 0 ⟨#[]⟩ 0 0 0 tr2 = some sm2w := Ex.tree_Write.f_of (n := ⟨0, ⟨#[]⟩, ⟨0, 0⟩, 0, tr2⟩) sm2_root (by decide)
end Go.Proofs.YtahjkibjcibpgaaGreatDoor.L
end
section
namespace Go.Proofs.YtahjkibjcibpgaaGreatDoor.L
open Go.RowKit Go.Shelf Go.Lib Go.Proofs.YtahjkibjcibpgaaGreatDoor.U
open Go.Proofs.YtahjkibjcibpgaaGreatDoorW Go.Proofs.YtahjkibjcibpgaaGreatDoorW.PrintWords Go.Proofs.YtahjkibjcibpgaaGreatDoorW.PrintLast
attribute [local go_sem] Oper.semAt_some
theorem node_at {W : World} {base n cap g : Nat} {ok : Nat → Prop} {xs : List PTr.S26} (h : PTr.k26.R 26 W base ok (.slice (some ⟨g, 0, none⟩) n cap) xs) (i : Nat) (hi : i < n) :
    ∃ v5, (∀ j u, [.int .i64 (xs.getD i PTr.z26).f0, .string (xs.getD i PTr.z26).f1, .int .i64 (xs.getD i PTr.z26).f2.f0, .int .i64 (xs.getD i PTr.z26).f2.f1, .int .i64 (xs.getD i PTr.z26).f3, v5][j]? = some u → W.cell? ⟨g, i * 6 + j, none⟩ = some u) ∧
      PTr.k26.R 26 W base (fun _ => True) v5 (xs.getD i PTr.z26).f4 := by
  obtain ⟨c, _, hM, hc, _⟩ := Kd.R_elem h PTr.z26 (i : Int) (by omega) (by omega)
  obtain ⟨v5, rfl, hr⟩ := PTr.k26_openM hM
  exact ⟨v5, hc, Kd.R_mono hr (fun _ _ => trivial)⟩
set_option maxRecDepth 100000 in
set_option maxHeartbeats 4000000 in
theorem small_any (w : World) (hg : UW w) : Calls Tryz.prog 8 #[] w fun e w' => e = .returned (.bool true) ∧ Below w.heap.size w w' := by
  have HG := Lib.hid hg
  clear hg
  go_enter Tryz.func8, Tryz.ntmps8
  go_upto_region 2 with (first | (go_at_call 12; go_loud (refine (Ex.tree_Parse.calls sm1 0 ⟨#[]⟩ 0 0 0 tr1 0 0 _ (HG.out.step (Below.refl _ _)) sm1_ok).mono ?_; rintro e w1 ⟨v1, rfl, hR, hb⟩; have B0_1 := Lib.hid (below_step (Below.refl _ _) hb); have R1 := Lib.hid hR; obtain ⟨A1, c1, ev⟩ := Kd.R_slice hR; have ev2 : v1 = .slice A1 1 c1 := ev; clear ev; subst ev2; have BK1 := Lib.hid (blk_new w1 (.cells #[.int .i64 0, .string (⟨#[]⟩ : ByteArray), .int .i64 0, .int .i64 0, .int .i64 0, .slice A1 1 c1] 26)); clear hR hb)))
  go_upto_region 3 with (first | (go_at_call 12; go_loud (refine (Ex.tree_Parse.calls sm2 0 ⟨#[]⟩ 0 0 0 tr2 0 0 _ (HG.out.step (below_alloc B0_1.out _)) sm2_ok).mono ?_; rintro e w2 ⟨v2, rfl, hR, hb⟩; have B0_2 := Lib.hid (below_step (below_alloc B0_1.out _) hb); have B1_2 := Lib.hid (below_step (Below.refl _ _) hb); have R2 := Lib.hid hR; obtain ⟨A2, c2, ev⟩ := Kd.R_slice hR; have ev2 : v2 = .slice A2 1 c2 := ev; clear ev; subst ev2; have BK2 := Lib.hid (blk_new w2 (.cells #[.int .i64 0, .string (⟨#[]⟩ : ByteArray), .int .i64 0, .int .i64 0, .int .i64 0, .slice A2 1 c2] 26)); clear hR hb)))
  go_upto_region 4 with (first | (go_at_call 12; go_loud (refine (Ex.tree_Parse.calls sm3 0 ⟨#[]⟩ 0 0 0 [] 2 8 _ (HG.out.step (below_alloc B0_2.out _)) sm3_no).mono ?_; rintro e w3 ⟨v3, rfl, hR, hb⟩; have B0_3 := Lib.hid (below_step (below_alloc B0_2.out _) hb); have B1_3 := Lib.hid (below_step (below_alloc B1_2.out _) hb); have B2_3 := Lib.hid (below_step (Below.refl _ _) hb); have R3 := Lib.hid hR; obtain ⟨A3, c3, ev⟩ := Kd.R_slice hR; have ev2 : v3 = .slice A3 0 c3 := ev; clear ev; subst ev2; have BK3 := Lib.hid (blk_new w3 (.cells #[.int .i64 0, .string (⟨#[]⟩ : ByteArray), .int .i64 0, .int .i64 0, .int .i64 0, .slice A3 0 c3] 26)); clear hR hb)))
  go_upto_region 5 with (first | (go_at_call 12; go_loud (refine (Ex.tree_Parse.calls sm4 0 ⟨#[]⟩ 0 0 0 [] 2 3 _ (HG.out.step (below_alloc B0_3.out _)) sm4_no).mono ?_; rintro e w4 ⟨v4, rfl, hR, hb⟩; have B0_4 := Lib.hid (below_step (below_alloc B0_3.out _) hb); have B1_4 := Lib.hid (below_step (below_alloc B1_3.out _) hb); have B2_4 := Lib.hid (below_step (below_alloc B2_3.out _) hb); have R4 := Lib.hid hR; obtain ⟨A4, c4, ev⟩ := Kd.R_slice hR; have ev2 : v4 = .slice A4 0 c4 := ev; clear ev; subst ev2; have BK4 := Lib.hid (blk_new w4 (.cells #[.int .i64 0, .string (⟨#[]⟩ : ByteArray), .int .i64 0, .int .i64 0, .int .i64 0, .slice A4 0 c4] 26)); clear hR hb)))
  go_upto_region 6 with (first | (go_at_call 12; go_loud (refine (Ex.tree_Parse.calls sm5 0 ⟨#[]⟩ 0 0 0 [] 2 7 _ (HG.out.step (below_alloc B0_4.out _)) sm5_no).mono ?_; rintro e w5 ⟨v5, rfl, hR, hb⟩; have B0_5 := Lib.hid (below_step (below_alloc B0_4.out _) hb); have B1_5 := Lib.hid (below_step (below_alloc B1_4.out _) hb); have B2_5 := Lib.hid (below_step (below_alloc B2_4.out _) hb); have R5 := Lib.hid hR; obtain ⟨A5, c5, ev⟩ := Kd.R_slice hR; have ev2 : v5 = .slice A5 0 c5 := ev; clear ev; subst ev2; have BK5 := Lib.hid (blk_new w5 (.cells #[.int .i64 0, .string (⟨#[]⟩ : ByteArray), .int .i64 0, .int .i64 0, .int .i64 0, .slice A5 0 c5] 26)); clear hR hb)))
  go_upto_region 7 with (first | (go_at_call 12; go_loud (refine (Ex.tree_Parse.calls sm6 0 ⟨#[]⟩ 0 0 0 [] 7 6 _ (HG.out.step (below_alloc B0_5.out _)) sm6_no).mono ?_; rintro e w6 ⟨v6, rfl, hR, hb⟩; have B0_6 := Lib.hid (below_step (below_alloc B0_5.out _) hb); have B1_6 := Lib.hid (below_step (below_alloc B1_5.out _) hb); have B2_6 := Lib.hid (below_step (below_alloc B2_5.out _) hb); have R6 := Lib.hid hR; obtain ⟨A6, c6, ev⟩ := Kd.R_slice hR; have ev2 : v6 = .slice A6 0 c6 := ev; clear ev; subst ev2; have BK6 := Lib.hid (blk_new w6 (.cells #[.int .i64 0, .string (⟨#[]⟩ : ByteArray), .int .i64 0, .int .i64 0, .int .i64 0, .slice A6 0 c6] 26)); clear hR hb)))
  have D1 := below_alloc B1_6.out (.cells #[.int .i64 0, .string (⟨#[]⟩ : ByteArray), .int .i64 0, .int .i64 0, .int .i64 0, .slice A6 0 c6] 26)
  have D2 := below_alloc B2_6.out (.cells #[.int .i64 0, .string (⟨#[]⟩ : ByteArray), .int .i64 0, .int .i64 0, .int .i64 0, .slice A6 0 c6] 26)
  have k1 := blk_alloc (blk_below BK1.out B1_6.out) (.cells #[.int .i64 0, .string (⟨#[]⟩ : ByteArray), .int .i64 0, .int .i64 0, .int .i64 0, .slice A6 0 c6] 26)
  have k2 := blk_alloc (blk_below BK2.out B2_6.out) (.cells #[.int .i64 0, .string (⟨#[]⟩ : ByteArray), .int .i64 0, .int .i64 0, .int .i64 0, .slice A6 0 c6] 26)
  have R1' := Kd.R_below (Kd.R_alloc R1.out (.cells #[.int .i64 0, .string (⟨#[]⟩ : ByteArray), .int .i64 0, .int .i64 0, .int .i64 0, .slice A1 1 c1] 26)) D1
  have R2' := Kd.R_below (Kd.R_alloc R2.out (.cells #[.int .i64 0, .string (⟨#[]⟩ : ByteArray), .int .i64 0, .int .i64 0, .int .i64 0, .slice A2 1 c2] 26)) D2
  have D0 := below_alloc B0_6.out (.cells #[.int .i64 0, .string (⟨#[]⟩ : ByteArray), .int .i64 0, .int .i64 0, .int .i64 0, .slice A6 0 c6] 26)
  clear BK1 BK2 BK3 BK4 BK5 BK6 R1 R2 R3 R4 R5 R6 B0_1 B0_2 B0_3 B0_4 B0_5 B0_6 B1_2 B1_3 B1_4 B1_5 B1_6 B2_3 B2_4 B2_5 B2_6 D1 D2
  generalize w6.alloc (.cells #[.int .i64 0, .string (⟨#[]⟩ : ByteArray), .int .i64 0, .int .i64 0, .int .i64 0, .slice A6 0 c6] 26) = W at *
  obtain ⟨G1, s1, e1, -⟩ := Kd.R_form R1' (by decide)
  obtain ⟨G2, s2, e2, -⟩ := Kd.R_form R2' (by decide)
  have e1' : Value.slice A1 1 c1 = .slice (some ⟨G1, 0, none⟩) 1 s1 := e1
  have e2' : Value.slice A2 1 c2 = .slice (some ⟨G2, 0, none⟩) 1 s2 := e2
  injection e1' with x1 x2 x3
  clear x2
  injection e2' with y1 y2 y3
  clear y2
  subst x1 x3 y1 y3
  clear e1 e2
  -- the first tree: the declaration, its kids, the third one's kid, the fourth one's kids
  obtain ⟨va, ha, ra⟩ := node_at R1' 0 (by decide)
  obtain ⟨Ga, qa, ea, -⟩ := Kd.R_form ra (by decide)
  have ea' : va = .slice (some ⟨Ga, 0, none⟩) 4 qa := ea
  subst ea'
  obtain ⟨vb, hb, rb⟩ := node_at ra 1 (by decide)
  obtain ⟨vc, hc, rc⟩ := node_at ra 2 (by decide)
  obtain ⟨Gc, qc, ec, -⟩ := Kd.R_form rc (by decide)
  have ec' : vc = .slice (some ⟨Gc, 0, none⟩) 1 qc := ec
  subst ec'
  obtain ⟨vd, hd, rd⟩ := node_at ra 3 (by decide)
  obtain ⟨Gd, qd, ed, -⟩ := Kd.R_form rd (by decide)
  have ed' : vd = .slice (some ⟨Gd, 0, none⟩) 2 qd := ed
  subst ed'
  obtain ⟨vm, hm, rm⟩ := node_at rc 0 (by decide)
  obtain ⟨Am, qm, em⟩ := Kd.R_slice rm
  have em' : vm = .slice Am 0 qm := em
  subst em'
  -- the second tree
  obtain ⟨ve, he, re⟩ := node_at R2' 0 (by decide)
  obtain ⟨Ge, qe, ee, -⟩ := Kd.R_form re (by decide)
  have ee' : ve = .slice (some ⟨Ge, 0, none⟩) 1 qe := ee
  subst ee'
  obtain ⟨vf, hf, rf⟩ := node_at re 0 (by decide)
  obtain ⟨Gf, qf, ef, -⟩ := Kd.R_form rf (by decide)
  have ef' : vf = .slice (some ⟨Gf, 0, none⟩) 2 qf := ef
  subst ef'
  obtain ⟨vl, hl, rl⟩ := node_at rf 0 (by decide)
  obtain ⟨Al, ql, el⟩ := Kd.R_slice rl
  have el' : vl = .slice Al 0 ql := el
  subst el'
  obtain ⟨vz, hz, rz⟩ := node_at rf 1 (by decide)
  have p1 : W.cell? ⟨G1, 1, none⟩ = some (.string ⟨#[108, 97, 107, 101]⟩) := ha 1 _ rfl
  have p2 : W.cell? ⟨G1, 5, none⟩ = some (.slice (some ⟨Ga, 0, none⟩) 4 qa) := ha 5 _ rfl
  have p3 : W.cell? ⟨Ga, 7, none⟩ = some (.string ⟨#[85, 112, 112, 101, 114]⟩) := hb 1 _ rfl
  have p4 : W.cell? ⟨Ga, 17, none⟩ = some (.slice (some ⟨Gc, 0, none⟩) 1 qc) := hc 5 _ rfl
  have p5 : W.cell? ⟨Ga, 23, none⟩ = some (.slice (some ⟨Gd, 0, none⟩) 2 qd) := hd 5 _ rfl
  have p6 : W.cell? ⟨Gc, 0, none⟩ = some (.int .i64 5) := hm 0 _ rfl
  have p7 : W.cell? ⟨Gc, 1, none⟩ = some (.string ⟨#[]⟩) := hm 1 _ rfl
  have p8 : W.cell? ⟨Gc, 2, none⟩ = some (.int .i64 4000000) := hm 2 _ rfl
  have p9 : W.cell? ⟨Gc, 3, none⟩ = some (.int .i64 1) := hm 3 _ rfl
  have p10 : W.cell? ⟨Gc, 4, none⟩ = some (.int .i64 23) := hm 4 _ rfl
  have p11 : W.cell? ⟨Gc, 5, none⟩ = some (.slice Am 0 qm) := hm 5 _ rfl
  have q1 : W.cell? ⟨G2, 5, none⟩ = some (.slice (some ⟨Ge, 0, none⟩) 1 qe) := he 5 _ rfl
  have q2 : W.cell? ⟨Ge, 5, none⟩ = some (.slice (some ⟨Gf, 0, none⟩) 2 qf) := hf 5 _ rfl
  have q3 : W.cell? ⟨Gf, 0, none⟩ = some (.int .i64 5) := hl 0 _ rfl
  have q4 : W.cell? ⟨Gf, 1, none⟩ = some (.string ⟨#[]⟩) := hl 1 _ rfl
  have q5 : W.cell? ⟨Gf, 2, none⟩ = some (.int .i64 5000) := hl 2 _ rfl
  have q6 : W.cell? ⟨Gf, 3, none⟩ = some (.int .i64 3) := hl 3 _ rfl
  have q7 : W.cell? ⟨Gf, 4, none⟩ = some (.int .i64 6) := hl 4 _ rfl
  have q8 : W.cell? ⟨Gf, 5, none⟩ = some (.slice Al 0 ql) := hl 5 _ rfl
  have q9 : W.cell? ⟨Gf, 7, none⟩ = some (.string ⟨#[122]⟩) := hz 1 _ rfl
  have b10 : W.cell? ⟨w1.heap.size, 0, none⟩ = some (.int .i64 0) := blk_cell k1 0
  have b11 : W.cell? ⟨w1.heap.size, 1, none⟩ = some (.string ⟨#[]⟩) := blk_cell k1 1
  have b12 : W.cell? ⟨w1.heap.size, 2, none⟩ = some (.int .i64 0) := blk_cell k1 2
  have b13 : W.cell? ⟨w1.heap.size, 3, none⟩ = some (.int .i64 0) := blk_cell k1 3
  have b14 : W.cell? ⟨w1.heap.size, 4, none⟩ = some (.int .i64 0) := blk_cell k1 4
  have b15 : W.cell? ⟨w1.heap.size, 5, none⟩ = some (.slice (some ⟨G1, 0, none⟩) 1 c1) := blk_cell k1 5
  have b20 : W.cell? ⟨w2.heap.size, 0, none⟩ = some (.int .i64 0) := blk_cell k2 0
  have b21 : W.cell? ⟨w2.heap.size, 1, none⟩ = some (.string ⟨#[]⟩) := blk_cell k2 1
  have b22 : W.cell? ⟨w2.heap.size, 2, none⟩ = some (.int .i64 0) := blk_cell k2 2
  have b23 : W.cell? ⟨w2.heap.size, 3, none⟩ = some (.int .i64 0) := blk_cell k2 3
  have b24 : W.cell? ⟨w2.heap.size, 4, none⟩ = some (.int .i64 0) := blk_cell k2 4
  have b25 : W.cell? ⟨w2.heap.size, 5, none⟩ = some (.slice (some ⟨G2, 0, none⟩) 1 c2) := blk_cell k2 5
  clear ha hb hc hd hm he hf hl hz ra rb rc rd rm re rf rl rz
  have K1 := Lib.hid k1
  have K2 := Lib.hid k2
  have RR1 := Lib.hid R1'
  have RR2 := Lib.hid R2'
  have DD := Lib.hid D0
  clear k1 k2 R1' R2' D0
  go_upto_region 9 with (fail)
  go_upto_region 11 with (fail)
  go_upto_region 12 with (fail)
  have DA := below_alloc (Below.refl W.heap.size W) (.cells #[.int .i64 5, .string ⟨#[]⟩, .int .i64 4000000, .int .i64 1, .int .i64 23, .slice Am 0 qm] 26)
  have kA := blk_new W (.cells #[.int .i64 5, .string ⟨#[]⟩, .int .i64 4000000, .int .i64 1, .int .i64 23, .slice Am 0 qm] 26)
  replace p1 := pw_cell_below DA p1
  replace p2 := pw_cell_below DA p2
  replace p3 := pw_cell_below DA p3
  replace q1 := pw_cell_below DA q1
  replace q2 := pw_cell_below DA q2
  replace q9 := pw_cell_below DA q9
  replace q3 := pw_cell_below DA q3
  replace q4 := pw_cell_below DA q4
  replace q5 := pw_cell_below DA q5
  replace q6 := pw_cell_below DA q6
  replace q7 := pw_cell_below DA q7
  replace q8 := pw_cell_below DA q8
  replace b10 := pw_cell_below DA b10
  replace b11 := pw_cell_below DA b11
  replace b12 := pw_cell_below DA b12
  replace b13 := pw_cell_below DA b13
  replace b14 := pw_cell_below DA b14
  replace b15 := pw_cell_below DA b15
  replace b20 := pw_cell_below DA b20
  replace b21 := pw_cell_below DA b21
  replace b22 := pw_cell_below DA b22
  replace b23 := pw_cell_below DA b23
  replace b24 := pw_cell_below DA b24
  replace b25 := pw_cell_below DA b25
  have RR3 := Lib.hid (Kd.R_below RR1.out DA)
  have RR4 := Lib.hid (Kd.R_below RR2.out DA)
  have DD2 := Lib.hid (below_step DD.out DA)
  clear RR1 RR2 DD K1 K2 p4 p5 p6 p7 p8 p9 p10 p11
  have DA2 := Lib.hid DA
  clear DA
  generalize W.alloc (.cells #[.int .i64 5, .string ⟨#[]⟩, .int .i64 4000000, .int .i64 1, .int .i64 23, .slice Am 0 qm] 26) = X at *
  have m2 : X.cell? ⟨W.heap.size, 2, none⟩ = some (.int .i64 4000000) := blk_cell kA 2
  have m3 : X.cell? ⟨W.heap.size, 3, none⟩ = some (.int .i64 1) := blk_cell kA 3
  clear kA
  go_upto_region 13 with (fail)
  have DB := below_alloc (Below.refl X.heap.size X) (.cells #[.int .i64 5, .string ⟨#[]⟩, .int .i64 5000, .int .i64 3, .int .i64 6, .slice Al 0 ql] 26)
  have kB := blk_new X (.cells #[.int .i64 5, .string ⟨#[]⟩, .int .i64 5000, .int .i64 3, .int .i64 6, .slice Al 0 ql] 26)
  replace p1 := pw_cell_below DB p1
  replace p2 := pw_cell_below DB p2
  replace p3 := pw_cell_below DB p3
  replace q1 := pw_cell_below DB q1
  replace q2 := pw_cell_below DB q2
  replace q9 := pw_cell_below DB q9
  replace b10 := pw_cell_below DB b10
  replace b11 := pw_cell_below DB b11
  replace b12 := pw_cell_below DB b12
  replace b13 := pw_cell_below DB b13
  replace b14 := pw_cell_below DB b14
  replace b15 := pw_cell_below DB b15
  replace b20 := pw_cell_below DB b20
  replace b21 := pw_cell_below DB b21
  replace b22 := pw_cell_below DB b22
  replace b23 := pw_cell_below DB b23
  replace b24 := pw_cell_below DB b24
  replace b25 := pw_cell_below DB b25
  replace m2 := pw_cell_below DB m2
  replace m3 := pw_cell_below DB m3
  have RR5 := Lib.hid (Kd.R_below RR3.out DB)
  have RR6 := Lib.hid (Kd.R_below RR4.out DB)
  have DD3 := Lib.hid (below_step DD2.out DB)
  clear RR3 RR4 DD2 DA2 q3 q4 q5 q6 q7 q8 DB
  generalize X.alloc (.cells #[.int .i64 5, .string ⟨#[]⟩, .int .i64 5000, .int .i64 3, .int .i64 6, .slice Al 0 ql] 26) = Y at *
  have l2 : Y.cell? ⟨X.heap.size, 2, none⟩ = some (.int .i64 5000) := blk_cell kB 2
  have l3 : Y.cell? ⟨X.heap.size, 3, none⟩ = some (.int .i64 3) := blk_cell kB 3
  clear kB
  go_wp2_with (first | (go_at_call 11; go_loud (refine (PTr.tree_Right.calls 60 0 ⟨#[]⟩ 0 0 0 (some ⟨G1, 0, none⟩) c1 tr1 true _ (HG.out.step DD3.out) (Kd.R_reads' RR5.out).2.2 (Kd.R_reads' RR5.out).2.1 sm1_right).mono ?_; rintro e w7 ⟨rfl, hb⟩; have HB := Lib.hid (below_step DD3.out hb); have RR7 := Lib.hid (Kd.R_below RR6.out hb); replace b20 := pw_cell_below hb b20; replace b21 := pw_cell_below hb b21; replace b22 := pw_cell_below hb b22; replace b23 := pw_cell_below hb b23; replace b24 := pw_cell_below hb b24; replace b25 := pw_cell_below hb b25; clear hb)) | (go_at_call 10; go_loud (refine (Ex.tree_Write.calls 0 ⟨#[]⟩ 0 0 0 (some ⟨G2, 0, none⟩) c2 tr2 sm2w _ (HG.out.step HB.out) (Kd.R_reads' RR7.out).2.2 (Kd.R_reads' RR7.out).2.1 sm2_write).mono ?_; rintro e w8 ⟨rfl, hb⟩; have HC := Lib.hid (below_step HB.out hb); clear hb)))
  go_ret
  exact ⟨by kernel_rfl, HC.out⟩
end Go.Proofs.YtahjkibjcibpgaaGreatDoor.L
namespace Go.Proofs.YtahjkibjcibpgaaGreatDoor.Ex
open Go.RowKit Go.Proofs.YtahjkibjcibpgaaGreatDoor.U Go.Proofs.YtahjkibjcibpgaaGreatDoorW.PrintWords
def small15.f : Option Bool := some true
theorem small15.calls (r : Bool) (w : World) (hg : UW w) (h : small15.f = some r) : Calls Tryz.prog 8 #[] w fun e w' => e = .returned (.bool r) ∧ Below w.heap.size w w' := by
  obtain rfl : true = r := Option.some.inj h
  exact L.small_any w hg
end Go.Proofs.YtahjkibjcibpgaaGreatDoor.Ex
end
section
namespace Go.Proofs.YtahjkibjcibpgaaGreatDoor.PTr
open Go.RowKit Go.Proofs.YtahjkibjcibpgaaGreatDoorW.Sq Go.Proofs.YtahjkibjcibpgaaGreatDoorW.PrintWords Go.Proofs.YtahjkibjcibpgaaGreatDoorW.PrintLast Go.Proofs.YtahjkibjcibpgaaGreatDoorW.PrintMore
attribute [local go_sem] max2_int min2_int max_two min_two max_three min_three max_four min_four   -- for this text's walks alone
set_option linter.unusedVariables false
set_option linter.unusedSimpArgs false
attribute [local go_sem high] eqA23
mutual
def bournelaw15_same.j0 : Nat → Bool → Int → ByteArray → Int → Int → Int → List (S26) → Int → ByteArray → Int → Int → Int → List (S26) → Option (Bool)
  | 0, _, _, _, _, _, _, _, _, _, _, _, _, _ => none
  | k + 1, x33, x163000, x163001, x163002, x163003, x163004, x163005, x164000, x164001, x164002, x164003, x164004, x164005 => if x33 = true then (some false) else (bournelaw15_same.l0 k 0 x163000 x163001 x163002 x163003 x163004 x163005 x164000 x164001 x164002 x164003 x164004 x164005)
def bournelaw15_same.l0 : Nat → Int → Int → ByteArray → Int → Int → Int → List (S26) → Int → ByteArray → Int → Int → Int → List (S26) → Option (Bool)
  | 0, _, _, _, _, _, _, _, _, _, _, _, _, _ => none
  | k + 1, x5, x163000, x163001, x163002, x163003, x163004, x163005, x164000, x164001, x164002, x164003, x164004, x164005 => if x5 < (x163005.length : Int) then (if 0 ≤ x5 then (if x5 < (x164005.length : Int) then ((bournelaw15_same.f k ((rd_T26 x163005 x5).f0) ((rd_T26 x163005 x5).f1) ((rd_T26 x163005 x5).f2.f0) ((rd_T26 x163005 x5).f2.f1) ((rd_T26 x163005 x5).f3) ((rd_T26 x163005 x5).f4) ((rd_T26 x164005 x5).f0) ((rd_T26 x164005 x5).f1) ((rd_T26 x164005 x5).f2.f0) ((rd_T26 x164005 x5).f2.f1) ((rd_T26 x164005 x5).f3) ((rd_T26 x164005 x5).f4)).bind fun t166 => (if t166 = true then (bournelaw15_same.l0 k (wrap64 (x5 + 1)) x163000 x163001 x163002 x163003 x163004 x163005 x164000 x164001 x164002 x164003 x164004 x164005) else (some false))) else (none)) else (none)) else (some true)
def bournelaw15_same.f : Nat → Int → ByteArray → Int → Int → Int → List (S26) → Int → ByteArray → Int → Int → Int → List (S26) → Option (Bool)
  | 0, _, _, _, _, _, _, _, _, _, _, _, _ => none
  | k + 1, a0_0, a0_1, a0_2, a0_3, a0_4, l0_5, a1_0, a1_1, a1_2, a1_3, a1_4, l1_5 => if a0_0 = a1_0 then (if a0_1.toList = a1_1.toList then (if (!(a0_2 == a1_2) || (!(a0_3 == a1_3))) = true then (bournelaw15_same.j0 k true a0_0 a0_1 a0_2 a0_3 a0_4 l0_5 a1_0 a1_1 a1_2 a1_3 a1_4 l1_5) else (bournelaw15_same.j0 k ((l0_5.length : Int) != (l1_5.length : Int)) a0_0 a0_1 a0_2 a0_3 a0_4 l0_5 a1_0 a1_1 a1_2 a1_3 a1_4 l1_5)) else (bournelaw15_same.j0 k true a0_0 a0_1 a0_2 a0_3 a0_4 l0_5 a1_0 a1_1 a1_2 a1_3 a1_4 l1_5)) else (bournelaw15_same.j0 k true a0_0 a0_1 a0_2 a0_3 a0_4 l0_5 a1_0 a1_1 a1_2 a1_3 a1_4 l1_5)
end
theorem bournelaw15_same.mono_l : ∀ k, (∀ y0 y1 y2 y3 y4 y5 y6 y7 y8 y9 y10 y11, LeO (bournelaw15_same.f k y0 y1 y2 y3 y4 y5 y6 y7 y8 y9 y10 y11) (bournelaw15_same.f (k + 1) y0 y1 y2 y3 y4 y5 y6 y7 y8 y9 y10 y11)) ∧ (∀ y0 y1 y2 y3 y4 y5 y6 y7 y8 y9 y10 y11 y12, LeO (bournelaw15_same.j0 k y0 y1 y2 y3 y4 y5 y6 y7 y8 y9 y10 y11 y12) (bournelaw15_same.j0 (k + 1) y0 y1 y2 y3 y4 y5 y6 y7 y8 y9 y10 y11 y12)) ∧ (∀ y0 y1 y2 y3 y4 y5 y6 y7 y8 y9 y10 y11 y12, LeO (bournelaw15_same.l0 k y0 y1 y2 y3 y4 y5 y6 y7 y8 y9 y10 y11 y12) (bournelaw15_same.l0 (k + 1) y0 y1 y2 y3 y4 y5 y6 y7 y8 y9 y10 y11 y12))
  | 0 => ⟨fun _ _ _ _ _ _ _ _ _ _ _ _ r h => by simp [bournelaw15_same.f] at h, fun _ _ _ _ _ _ _ _ _ _ _ _ _ r h => by simp [bournelaw15_same.j0] at h, fun _ _ _ _ _ _ _ _ _ _ _ _ _ r h => by simp [bournelaw15_same.l0] at h⟩
  | k + 1 => by
    obtain ⟨ih0, ih1, ih2⟩ := bournelaw15_same.mono_l k
    refine ⟨?_, ?_, ?_⟩
    · intro y0 y1 y2 y3 y4 y5 y6 y7 y8 y9 y10 y11
      unfold bournelaw15_same.f
      repeat' first
      | (with_reducible exact ih0 _ _ _ _ _ _ _ _ _ _ _ _)
      | (with_reducible exact ih1 _ _ _ _ _ _ _ _ _ _ _ _ _)
      | (with_reducible exact ih2 _ _ _ _ _ _ _ _ _ _ _ _ _)
      | (with_reducible exact LeO.refl _)
      | (with_reducible exact LeO.none _)
      | (with_reducible refine LeO.ite ?_ ?_)
      | (with_reducible refine LeO.bind ?_ (fun _ => ?_))
      | exact ih0 _ _ _ _ _ _ _ _ _ _ _ _
      | exact ih1 _ _ _ _ _ _ _ _ _ _ _ _ _
      | exact ih2 _ _ _ _ _ _ _ _ _ _ _ _ _
      | exact LeO.none _
      | refine LeO.ite ?_ ?_
      | refine LeO.bind ?_ (fun _ => ?_)
    · intro y0 y1 y2 y3 y4 y5 y6 y7 y8 y9 y10 y11 y12
      unfold bournelaw15_same.j0
      repeat' first
      | (with_reducible exact ih0 _ _ _ _ _ _ _ _ _ _ _ _)
      | (with_reducible exact ih1 _ _ _ _ _ _ _ _ _ _ _ _ _)
      | (with_reducible exact ih2 _ _ _ _ _ _ _ _ _ _ _ _ _)
      | (with_reducible exact LeO.refl _)
      | (with_reducible exact LeO.none _)
      | (with_reducible refine LeO.ite ?_ ?_)
      | (with_reducible refine LeO.bind ?_ (fun _ => ?_))
      | exact ih0 _ _ _ _ _ _ _ _ _ _ _ _
      | exact ih1 _ _ _ _ _ _ _ _ _ _ _ _ _
      | exact ih2 _ _ _ _ _ _ _ _ _ _ _ _ _
      | exact LeO.none _
      | refine LeO.ite ?_ ?_
      | refine LeO.bind ?_ (fun _ => ?_)
    intro y0 y1 y2 y3 y4 y5 y6 y7 y8 y9 y10 y11 y12
    unfold bournelaw15_same.l0
    repeat' first
    | (with_reducible exact ih0 _ _ _ _ _ _ _ _ _ _ _ _)
    | (with_reducible exact ih1 _ _ _ _ _ _ _ _ _ _ _ _ _)
    | (with_reducible exact ih2 _ _ _ _ _ _ _ _ _ _ _ _ _)
    | (with_reducible exact LeO.refl _)
    | (with_reducible exact LeO.none _)
    | (with_reducible refine LeO.ite ?_ ?_)
    | (with_reducible refine LeO.bind ?_ (fun _ => ?_))
    | exact ih0 _ _ _ _ _ _ _ _ _ _ _ _
    | exact ih1 _ _ _ _ _ _ _ _ _ _ _ _ _
    | exact ih2 _ _ _ _ _ _ _ _ _ _ _ _ _
    | exact LeO.none _
    | refine LeO.ite ?_ ?_
    | refine LeO.bind ?_ (fun _ => ?_)
theorem bournelaw15_same.mono : ∀ a0 a1 a2 a3 a4 a5 a6 a7 a8 a9 a10 a11 k, LeO (bournelaw15_same.f k a0 a1 a2 a3 a4 a5 a6 a7 a8 a9 a10 a11) (bournelaw15_same.f (k + 1) a0 a1 a2 a3 a4 a5 a6 a7 a8 a9 a10 a11) := by
  intro a0 a1 a2 a3 a4 a5 a6 a7 a8 a9 a10 a11 k
  obtain ⟨ih0, ih1, ih2⟩ := bournelaw15_same.mono_l k
  exact ih0 a0 a1 a2 a3 a4 a5 a6 a7 a8 a9 a10 a11
def bournelaw15_same.T6 : Bool × List (List Nat × List Nat) := (true, [([], []), ([0], [0]), ([], []), ([1, 2], [1, 2]), ([3], [3]), ([], []), ([5], [5]), ([], []), ([6, 7], [6, 7]), ([8], [8]), ([4, 9], [4, 9]), ([10], [10])])
def bournelaw15_same.B6 : List Nat := [0, 1, 0, 7, 15, 0, 32, 0, 224, 480, 1023, 2047]
theorem bournelaw15_same.tab6 : rtab .any (opsOf Tryz.f13 6) = bournelaw15_same.T6 := by kernel_rfl
theorem bournelaw15_same.bits6 : waitsOk bournelaw15_same.T6.2 bournelaw15_same.B6 = true := by kernel_rfl
set_option maxHeartbeats 8000000 in
set_option maxRecDepth 100000 in
theorem bournelaw15_same.calls (k : Nat) : ∀ (a0_0 : Int) (a0_1 : ByteArray) (a0_2 : Int) (a0_3 : Int) (a0_4 : Int) (A0_5 : Option Addr) (c0_5 : Nat) (l0_5 : List (S26)) (a1_0 : Int) (a1_1 : ByteArray) (a1_2 : Int) (a1_3 : Int) (a1_4 : Int) (A1_5 : Option Addr) (c1_5 : Nat) (l1_5 : List (S26)) (r : Bool) (w : World) (hr0_5 : Kd.C k26 w A0_5 l0_5.length l0_5) (hc0_5 : l0_5.length ≤ c0_5) (hr1_5 : Kd.C k26 w A1_5 l1_5.length l1_5) (hc1_5 : l1_5.length ≤ c1_5) (h : bournelaw15_same.f k a0_0 a0_1 a0_2 a0_3 a0_4 l0_5 a1_0 a1_1 a1_2 a1_3 a1_4 l1_5 = some r),
    Calls Tryz.prog 13 #[.agg #[.int .i64 a0_0, .string a0_1, .int .i64 a0_2, .int .i64 a0_3, .int .i64 a0_4, .slice A0_5 l0_5.length c0_5], .agg #[.int .i64 a1_0, .string a1_1, .int .i64 a1_2, .int .i64 a1_3, .int .i64 a1_4, .slice A1_5 l1_5.length c1_5]] w fun e w' => e = .returned (.bool r) ∧ Below w.heap.size w w' := by
  induction k using Nat.strongRecOn with
  | _ k ih =>
  intro a0_0 a0_1 a0_2 a0_3 a0_4 A0_5 c0_5 l0_5 a1_0 a1_1 a1_2 a1_3 a1_4 A1_5 c1_5 l1_5 r w hr0_5 hc0_5 hr1_5 hc1_5 h
  cases k with
  | zero => exact absurd h (by simp [bournelaw15_same.f])
  | succ k =>
  simp only [bournelaw15_same.f] at h
  have hu26 := Tryz.underlying26
  have hu23 := Tryz.underlying23
  have HR0_5 := Aside0.mk hr0_5
  have HC0_5 := Aside0.mk hc0_5
  clear hr0_5 hc0_5
  have HR1_5 := Aside0.mk hr1_5
  have HC1_5 := Aside0.mk hc1_5
  clear hr1_5 hc1_5
  have HB := Aside0.mk (Below.refl w.heap.size w)
  have H : (if a0_0 = a1_0 then (if a0_1.toList = a1_1.toList then (if (!(a0_2 == a1_2) || (!(a0_3 == a1_3))) = true then (bournelaw15_same.j0 k true a0_0 a0_1 a0_2 a0_3 a0_4 l0_5 a1_0 a1_1 a1_2 a1_3 a1_4 l1_5) else (bournelaw15_same.j0 k ((l0_5.length : Int) != (l1_5.length : Int)) a0_0 a0_1 a0_2 a0_3 a0_4 l0_5 a1_0 a1_1 a1_2 a1_3 a1_4 l1_5)) else (bournelaw15_same.j0 k true a0_0 a0_1 a0_2 a0_3 a0_4 l0_5 a1_0 a1_1 a1_2 a1_3 a1_4 l1_5)) else (bournelaw15_same.j0 k true a0_0 a0_1 a0_2 a0_3 a0_4 l0_5 a1_0 a1_1 a1_2 a1_3 a1_4 l1_5)) = some r := h
  clear h
  have HC3 := Aside0.mk H
  clear H
  go_enter Tryz.func13, Tryz.ntmps13
  go_upto_region 1 with (first | ((with_reducible refine gate_dst (N := 2) rfl ?_); (try (refine gate_guard (by rfl) ?_; dsimp only)); refine box_event ?hg (N := 2) ?hd (cs := #[.int .i64 a0_0, .string a0_1, .int .i64 a0_2, .int .i64 a0_3, .int .i64 a0_4, .slice A0_5 l0_5.length c0_5]) (t := 26) ?hr ?_; (case hd => rfl); (case hg => rfl); (case hr => first | (go_simp; done) | (go_simp; rfl)); intro gb162 hg w4 hbox hb; have n0_ := Aside0.mk (below_step (by repeat with_reducible first|exact HB.out|apply ba|apply bN|apply bd) hb); have n1_ := Aside0.mk (hbox); have n2_ := Aside0.mk ((by rw [hg]; exact (below_size (by repeat with_reducible first|exact HB.out|apply ba|apply bN|apply bd)) : w.heap.size ≤ gb162)); have n3_ := Aside0.mk ((by rw [hg]; exact (below_size (by repeat with_reducible first|exact HB.out|apply ba|apply bN|apply bd)) : w.heap.size ≤ gb162)); clear HB; have HB := n0_; have BK162 := n1_; have GW162 := n2_; have GE162 := n3_; clear n0_ n1_ n2_ n3_; clear hb hbox hg) | ((with_reducible refine gate_dst (N := 3) rfl ?_); (try (refine gate_guard (by rfl) ?_; dsimp only)); refine box_event ?hg (N := 3) ?hd (cs := #[.int .i64 a1_0, .string a1_1, .int .i64 a1_2, .int .i64 a1_3, .int .i64 a1_4, .slice A1_5 l1_5.length c1_5]) (t := 26) ?hr ?_; (case hd => rfl); (case hg => rfl); (case hr => first | (go_simp; done) | (go_simp; rfl)); intro gb163 hg w5 hbox hb; have n0_ := Aside0.mk (blk_below (g := gb162) (o := .cells #[.int .i64 a0_0, .string a0_1, .int .i64 a0_2, .int .i64 a0_3, .int .i64 a0_4, .slice A0_5 l0_5.length c0_5] 26 (0, 0)) (by (with_reducible repeat first|refine kN ?_ _|refine kd ?_|refine ka ?_ _); exact BK162.out) hb); have n1_ := Aside0.mk (below_step (by repeat with_reducible first|exact HB.out|apply ba|apply bN|apply bd|refine below_set ?_ GE162.out) hb); have n2_ := Aside0.mk (hbox); have n3_ := Aside0.mk ((by rw [hg]; exact (below_size (by repeat with_reducible first|exact HB.out|apply ba|apply bN|apply bd|refine below_set ?_ GE162.out)) : w.heap.size ≤ gb163)); have n4_ := Aside0.mk ((by rw [hg]; exact (below_size (by repeat with_reducible first|exact HB.out|apply ba|apply bN|apply bd|refine below_set ?_ GE162.out)) : w.heap.size ≤ gb163)); have n5_ := Aside0.mk ((by rw [hg]; exact Nat.ne_of_lt (blk_lt (g := gb162) (o := .cells #[.int .i64 a0_0, .string a0_1, .int .i64 a0_2, .int .i64 a0_3, .int .i64 a0_4, .slice A0_5 l0_5.length c0_5] 26 (0, 0)) (by (with_reducible repeat first|refine kN ?_ _|refine kd ?_|refine ka ?_ _); exact BK162.out)) : gb162 ≠ gb163)); have n6_ := Aside0.mk ((by rw [hg]; exact Nat.ne_of_gt (blk_lt (g := gb162) (o := .cells #[.int .i64 a0_0, .string a0_1, .int .i64 a0_2, .int .i64 a0_3, .int .i64 a0_4, .slice A0_5 l0_5.length c0_5] 26 (0, 0)) (by (with_reducible repeat first|refine kN ?_ _|refine kd ?_|refine ka ?_ _); exact BK162.out)) : gb163 ≠ gb162)); clear BK162; clear HB; have BK162 := n0_; have HB := n1_; have BK163 := n2_; have GW163 := n3_; have GE163 := n4_; have NB162_163 := n5_; have NB163_162 := n6_; clear n0_ n1_ n2_ n3_ n4_ n5_ n6_; clear hb hbox hg))
  (try simp only [Act.put, List.setIfInBounds_toArray, List.set_cons_zero, List.set_cons_succ])
  go_cut [33] (fun v33 wc => ∃ (kq : Nat) (x33_2 : Bool), v33 = .bool x33_2 ∧ Aside0 (bournelaw15_same.j0 kq x33_2 a0_0 a0_1 a0_2 a0_3 a0_4 l0_5 a1_0 a1_1 a1_2 a1_3 a1_4 l1_5 = some r) ∧ Aside0 (kq ≤ k) ∧ Aside0 (wc.heap[gb162]? = some (.cells #[.int .i64 a0_0, .string a0_1, .int .i64 a0_2, .int .i64 a0_3, .int .i64 a0_4, (.slice A0_5 l0_5.length c0_5)] 26 (0, 0))) ∧ Aside0 (wc.heap[gb163]? = some (.cells #[.int .i64 a1_0, .string a1_1, .int .i64 a1_2, .int .i64 a1_3, .int .i64 a1_4, (.slice A1_5 l1_5.length c1_5)] 26 (0, 0))) ∧ Aside0 (Below w.heap.size w wc))
  case first =>
    have H := HC3.out
    clear HC3
    by_cases c6 : a0_0 = a1_0
    · rw [if_pos c6] at H
      have c6b0 : (a0_0 == a1_0) = true := beq_iff_eq.mpr c6
      have c6b1 : (a0_0 != a1_0) = false := bne_eq_false_iff_eq.mpr c6
      clear c6
      (first | rw [c6b0] | (simp only [i64_w, i32_w]; rw [c6b0]) | skip)
      by_cases c7 : a0_1.toList = a1_1.toList
      · rw [if_pos c7] at H
        have c7b0 : (a0_1.toList == a1_1.toList) = true := beq_iff_eq.mpr c7
        have c7b1 : (a0_1.toList != a1_1.toList) = false := bne_eq_false_iff_eq.mpr c7
        clear c7
        by_cases c8 : (!(a0_2 == a1_2) || (!(a0_3 == a1_3))) = true
        · rw [if_pos c8] at H
          have c8b0 : (!(a0_2 == a1_2) || (!(a0_3 == a1_3))) = true := c8
          clear c8
          have H' := Aside0.mk H
          clear H
          have hnb9 := NB162_163.out
          have hnc9 := NB163_162.out
          obtain ⟨hcz10_0, hcz10_1, hcz10_2, hcz10_3, hcz10_4, hcz10_5, hfz10_0, hfz10_1, hfz10_2, hfz10_3, hfz10_4, hfz10_5⟩ := cl6 BK162.out
          obtain ⟨hcz11_0, hcz11_1, hcz11_2, hcz11_3, hcz11_4, hcz11_5, hfz11_0, hfz11_1, hfz11_2, hfz11_3, hfz11_4, hfz11_5⟩ := cl6 BK163.out
          go_wp2
          go_meet
          case rel => exact ⟨_, (true), (by first|rfl|(simp;done)|(simp [*];done)), H', ⟨by first|omega|exact Nat.le_refl _⟩, ⟨by (with_reducible repeat first|refine kN ?_ _|refine kd ?_|refine ka ?_ _); exact BK162.out⟩, ⟨by (with_reducible repeat first|refine kN ?_ _|refine kd ?_|refine ka ?_ _); exact BK163.out⟩, ⟨by repeat with_reducible first|exact HB.out|apply ba|apply bN|apply bd|refine below_set ?_ GE162.out|refine below_set ?_ GE163.out⟩⟩
        rw [if_neg c8] at H
        have c8b0 : (!(a0_2 == a1_2) || (!(a0_3 == a1_3))) = false := by simpa using c8
        clear c8
        have H' := Aside0.mk H
        clear H
        have hnb12 := NB162_163.out
        have hnc12 := NB163_162.out
        obtain ⟨hcz13_0, hcz13_1, hcz13_2, hcz13_3, hcz13_4, hcz13_5, hfz13_0, hfz13_1, hfz13_2, hfz13_3, hfz13_4, hfz13_5⟩ := cl6 BK162.out
        obtain ⟨hcz14_0, hcz14_1, hcz14_2, hcz14_3, hcz14_4, hcz14_5, hfz14_0, hfz14_1, hfz14_2, hfz14_3, hfz14_4, hfz14_5⟩ := cl6 BK163.out
        go_wp2
        go_meet
        case rel => exact ⟨_, (((l0_5.length : Int) != (l1_5.length : Int))), (by first|rfl|(simp;done)|(simp [*];done)), H', ⟨by first|omega|exact Nat.le_refl _⟩, ⟨by (with_reducible repeat first|refine kN ?_ _|refine kd ?_|refine ka ?_ _); exact BK162.out⟩, ⟨by (with_reducible repeat first|refine kN ?_ _|refine kd ?_|refine ka ?_ _); exact BK163.out⟩, ⟨by repeat with_reducible first|exact HB.out|apply ba|apply bN|apply bd|refine below_set ?_ GE162.out|refine below_set ?_ GE163.out⟩⟩
      rw [if_neg c7] at H
      have c7b0 : (a0_1.toList == a1_1.toList) = false := beq_eq_false_iff_ne.mpr c7
      have c7b1 : (a0_1.toList != a1_1.toList) = true := bne_iff_ne.mpr c7
      have H' := Aside0.mk H
      clear H
      have hnb15 := NB162_163.out
      have hnc15 := NB163_162.out
      obtain ⟨hcz16_0, hcz16_1, hcz16_2, hcz16_3, hcz16_4, hcz16_5, hfz16_0, hfz16_1, hfz16_2, hfz16_3, hfz16_4, hfz16_5⟩ := cl6 BK162.out
      obtain ⟨hcz17_0, hcz17_1, hcz17_2, hcz17_3, hcz17_4, hcz17_5, hfz17_0, hfz17_1, hfz17_2, hfz17_3, hfz17_4, hfz17_5⟩ := cl6 BK163.out
      go_wp2
      go_meet
      case rel => exact ⟨_, (true), (by first|rfl|(simp;done)|(simp [*];done)), H', ⟨by first|omega|exact Nat.le_refl _⟩, ⟨by (with_reducible repeat first|refine kN ?_ _|refine kd ?_|refine ka ?_ _); exact BK162.out⟩, ⟨by (with_reducible repeat first|refine kN ?_ _|refine kd ?_|refine ka ?_ _); exact BK163.out⟩, ⟨by repeat with_reducible first|exact HB.out|apply ba|apply bN|apply bd|refine below_set ?_ GE162.out|refine below_set ?_ GE163.out⟩⟩
    rw [if_neg c6] at H
    have c6b0 : (a0_0 == a1_0) = false := beq_eq_false_iff_ne.mpr c6
    have c6b1 : (a0_0 != a1_0) = true := bne_iff_ne.mpr c6
    (first | rw [c6b0] | (simp only [i64_w, i32_w]; rw [c6b0]) | skip)
    have H' := Aside0.mk H
    clear H
    have hnb18 := NB162_163.out
    have hnc18 := NB163_162.out
    obtain ⟨hcz19_0, hcz19_1, hcz19_2, hcz19_3, hcz19_4, hcz19_5, hfz19_0, hfz19_1, hfz19_2, hfz19_3, hfz19_4, hfz19_5⟩ := cl6 BK162.out
    obtain ⟨hcz20_0, hcz20_1, hcz20_2, hcz20_3, hcz20_4, hcz20_5, hfz20_0, hfz20_1, hfz20_2, hfz20_3, hfz20_4, hfz20_5⟩ := cl6 BK163.out
    go_wp2
    go_meet
    case rel => exact ⟨_, (true), (by first|rfl|(simp;done)|(simp [*];done)), H', ⟨by first|omega|exact Nat.le_refl _⟩, ⟨by (with_reducible repeat first|refine kN ?_ _|refine kd ?_|refine ka ?_ _); exact BK162.out⟩, ⟨by (with_reducible repeat first|refine kN ?_ _|refine kd ?_|refine ka ?_ _); exact BK163.out⟩, ⟨by repeat with_reducible first|exact HB.out|apply ba|apply bN|apply bd|refine below_set ?_ GE162.out|refine below_set ?_ GE163.out⟩⟩
  case rest =>
    clear HC3
    try clear c1;try clear p2;try clear c6;try clear c6b0;try clear c6b1;try clear c7;try clear c7b0;try clear c7b1;try clear c8;try clear c8b0;try clear c9;try clear c12;try clear c13;try clear c15;try clear c18;try clear hcz10_0;try clear hcz10_1;try clear hcz10_2;try clear hcz10_3;try clear hcz10_4;try clear hcz10_5;try clear hcz11_0;try clear hcz11_1;try clear hcz11_2;try clear hcz11_3;try clear hcz11_4;try clear hcz11_5;try clear hcz13_0;try clear hcz13_1;try clear hcz13_2;try clear hcz13_3;try clear hcz13_4;try clear hcz13_5;try clear hcz14_0;try clear hcz14_1;try clear hcz14_2;try clear hcz14_3;try clear hcz14_4;try clear hcz14_5;try clear hcz16_0;try clear hcz16_1;try clear hcz16_2;try clear hcz16_3;try clear hcz16_4;try clear hcz16_5;try clear hcz17_0;try clear hcz17_1;try clear hcz17_2;try clear hcz17_3;try clear hcz17_4;try clear hcz17_5;try clear hcz19_0;try clear hcz19_1;try clear hcz19_2;try clear hcz19_3;try clear hcz19_4;try clear hcz19_5;try clear hcz20_0;try clear hcz20_1;try clear hcz20_2;try clear hcz20_3;try clear hcz20_4;try clear hcz20_5;try clear hfz10_0;try clear hfz10_1;try clear hfz10_2;try clear hfz10_3;try clear hfz10_4;try clear hfz10_5;try clear hfz11_0;try clear hfz11_1;try clear hfz11_2;try clear hfz11_3;try clear hfz11_4;try clear hfz11_5;try clear hfz13_0;try clear hfz13_1;try clear hfz13_2;try clear hfz13_3;try clear hfz13_4;try clear hfz13_5;try clear hfz14_0;try clear hfz14_1;try clear hfz14_2;try clear hfz14_3;try clear hfz14_4;try clear hfz14_5;try clear hfz16_0;try clear hfz16_1;try clear hfz16_2;try clear hfz16_3;try clear hfz16_4;try clear hfz16_5;try clear hfz17_0;try clear hfz17_1;try clear hfz17_2;try clear hfz17_3;try clear hfz17_4;try clear hfz17_5;try clear hfz19_0;try clear hfz19_1;try clear hfz19_2;try clear hfz19_3;try clear hfz19_4;try clear hfz19_5;try clear hfz20_0;try clear hfz20_1;try clear hfz20_2;try clear hfz20_3;try clear hfz20_4;try clear hfz20_5
    obtain ⟨kq, x33_2, rfl, HA, HJ2, BK162, BK163, HB⟩ := hcut
    cases kq with
    | zero => exact absurd HA.out (by simp [bournelaw15_same.j0])
    | succ kj2 =>
      have H := HA.out
      clear HA
      simp only [bournelaw15_same.j0] at H
      by_cases c21 : x33_2 = true
      · subst c21
        have H1 : (some false) = some r := by rw [if_pos rfl] at H; exact H
        clear H
        have H := H1
        clear H1
        obtain rfl := Option.some.inj H
        go_wp2
        go_ret
        exact ⟨by first|rfl|(simp<;>rfl)|(simp [*]<;>rfl), by repeat with_reducible first|exact HB.out|apply ba|apply bN|apply bd|refine below_set ?_ GE162.out|refine below_set ?_ GE163.out⟩
      replace c21 := Bool.eq_false_iff.mpr c21
      subst c21
      have H1 : (bournelaw15_same.l0 kj2 0 a0_0 a0_1 a0_2 a0_3 a0_4 l0_5 a1_0 a1_1 a1_2 a1_3 a1_4 l1_5) = some r := by rw [if_neg (show ¬ (false = true) by decide)] at H; exact H
      clear H
      have H := H1
      clear H1
      have H' := Aside0.mk H
      clear H
      go_wp2
      go_loopg [5] kj2 (fun kq v5 w' => ∃ (x5_2 : Int), v5 = .int .i64 x5_2 ∧ Aside0 (bournelaw15_same.l0 kq x5_2 a0_0 a0_1 a0_2 a0_3 a0_4 l0_5 a1_0 a1_1 a1_2 a1_3 a1_4 l1_5 = some r) ∧ Aside0 (kq ≤ kj2) ∧ Aside0 (w'.heap[gb162]? = some (.cells #[.int .i64 a0_0, .string a0_1, .int .i64 a0_2, .int .i64 a0_3, .int .i64 a0_4, (.slice A0_5 l0_5.length c0_5)] 26 (0, 0))) ∧ Aside0 (w'.heap[gb163]? = some (.cells #[.int .i64 a1_0, .string a1_1, .int .i64 a1_2, .int .i64 a1_3, .int .i64 a1_4, (.slice A1_5 l1_5.length c1_5)] 26 (0, 0))) ∧ Aside0 (Below w.heap.size w w'))
      case atStart => exact ⟨(0), (by first|rfl|(simp;done)|(simp [*];done)), H', ⟨Nat.le_refl _⟩, ⟨by (with_reducible repeat first|refine kN ?_ _|refine kd ?_|refine ka ?_ _); exact BK162.out⟩, ⟨by (with_reducible repeat first|refine kN ?_ _|refine kd ?_|refine ka ?_ _); exact BK163.out⟩, ⟨by repeat with_reducible first|exact HB.out|apply ba|apply bN|apply bd|refine below_set ?_ GE162.out|refine below_set ?_ GE163.out⟩⟩
      case round =>
        clear H'
        try clear c1;try clear c2;try clear p2;try clear c6;try clear c6b0;try clear c6b1;try clear c7;try clear c7b0;try clear c7b1;try clear c8;try clear c8b0;try clear c9;try clear c12;try clear c13;try clear c15;try clear c18;try clear c21;try clear hcz10_0;try clear hcz10_1;try clear hcz10_2;try clear hcz10_3;try clear hcz10_4;try clear hcz10_5;try clear hcz11_0;try clear hcz11_1;try clear hcz11_2;try clear hcz11_3;try clear hcz11_4;try clear hcz11_5;try clear hcz13_0;try clear hcz13_1;try clear hcz13_2;try clear hcz13_3;try clear hcz13_4;try clear hcz13_5;try clear hcz14_0;try clear hcz14_1;try clear hcz14_2;try clear hcz14_3;try clear hcz14_4;try clear hcz14_5;try clear hcz16_0;try clear hcz16_1;try clear hcz16_2;try clear hcz16_3;try clear hcz16_4;try clear hcz16_5;try clear hcz17_0;try clear hcz17_1;try clear hcz17_2;try clear hcz17_3;try clear hcz17_4;try clear hcz17_5;try clear hcz19_0;try clear hcz19_1;try clear hcz19_2;try clear hcz19_3;try clear hcz19_4;try clear hcz19_5;try clear hcz20_0;try clear hcz20_1;try clear hcz20_2;try clear hcz20_3;try clear hcz20_4;try clear hcz20_5;try clear hfz10_0;try clear hfz10_1;try clear hfz10_2;try clear hfz10_3;try clear hfz10_4;try clear hfz10_5;try clear hfz11_0;try clear hfz11_1;try clear hfz11_2;try clear hfz11_3;try clear hfz11_4;try clear hfz11_5;try clear hfz13_0;try clear hfz13_1;try clear hfz13_2;try clear hfz13_3;try clear hfz13_4;try clear hfz13_5;try clear hfz14_0;try clear hfz14_1;try clear hfz14_2;try clear hfz14_3;try clear hfz14_4;try clear hfz14_5;try clear hfz16_0;try clear hfz16_1;try clear hfz16_2;try clear hfz16_3;try clear hfz16_4;try clear hfz16_5;try clear hfz17_0;try clear hfz17_1;try clear hfz17_2;try clear hfz17_3;try clear hfz17_4;try clear hfz17_5;try clear hfz19_0;try clear hfz19_1;try clear hfz19_2;try clear hfz19_3;try clear hfz19_4;try clear hfz19_5;try clear hfz20_0;try clear hfz20_1;try clear hfz20_2;try clear hfz20_3;try clear hfz20_4;try clear hfz20_5;try clear p2
        obtain ⟨x5_2, rfl, HA, HK2, BK162, BK163, HB⟩ := hrel
        cases gk with
        | zero => exact absurd HA.out (by simp [bournelaw15_same.l0])
        | succ k2 =>
          have H := HA.out
          clear HA
          simp only [bournelaw15_same.l0] at H
          by_cases c22 : x5_2 < (l0_5.length : Int)
          · rw [if_pos c22] at H
            have c22b0 : decide (x5_2 < (l0_5.length : Int)) = true := decide_eq_true c22
            clear c22
            by_cases c23 : 0 ≤ x5_2
            · rw [if_pos c23] at H
              have c23b0 : decide (0 ≤ x5_2) = true := decide_eq_true c23
              clear c23
              by_cases c24 : x5_2 < (l1_5.length : Int)
              · rw [if_pos c24] at H
                have c24b0 : decide (x5_2 < (l1_5.length : Int)) = true := decide_eq_true c24
                clear c24
                replace H := Option.bind_eq_some_iff.mp H
                obtain ⟨t166, A250, H⟩ := H
                replace H : (if t166 = true then (bournelaw15_same.l0 k2 (wrap64 (x5_2 + 1)) a0_0 a0_1 a0_2 a0_3 a0_4 l0_5 a1_0 a1_1 a1_2 a1_3 a1_4 l1_5) else (some false)) = some r := H
                have A25 := Aside0.mk A250
                clear A250
                by_cases c26 : t166 = true
                · subst c26
                  have H1 : (bournelaw15_same.l0 k2 (wrap64 (x5_2 + 1)) a0_0 a0_1 a0_2 a0_3 a0_4 l0_5 a1_0 a1_1 a1_2 a1_3 a1_4 l1_5) = some r := by rw [if_pos rfl] at H; exact H
                  clear H
                  have H := H1
                  clear H1
                  have H' := Aside0.mk H
                  clear H
                  have hnb27 := NB162_163.out
                  have hnc27 := NB163_162.out
                  obtain ⟨hcz28_0, hcz28_1, hcz28_2, hcz28_3, hcz28_4, hcz28_5, hfz28_0, hfz28_1, hfz28_2, hfz28_3, hfz28_4, hfz28_5⟩ := cl6 BK162.out
                  try go_wp2
                  have n0_ := Aside0.mk (blk_drew BK162.out)
                  have n1_ := Aside0.mk (blk_drew BK163.out)
                  have n2_ := Aside0.mk (below_drew1 HB.out)
                  clear BK162
                  clear BK163
                  clear HB
                  have BK162 := n0_
                  have BK163 := n1_
                  have HB := n2_
                  clear n0_ n1_ n2_
                  have p164 : 0 ≤ (x5_2 : Int) := of_decide_eq_true (by first|with_reducible assumption|assumption)
                  have q164 : x5_2 < (l0_5.length : Int) := of_decide_eq_true (by first|with_reducible assumption|assumption)
                  obtain ⟨ad164, A164_5, c164_5, e164, hx164_0, hx164_1, hx164_2, hx164_3, hx164_4, hx164_5, hl164_5, hi164_5⟩ := at_T26 HR0_5.out x5_2 p164 q164
                  have hw164_5 := hx164_5
                  have hw164_4 := hx164_4
                  have hw164_3 := hx164_3
                  have hw164_2 := hx164_2
                  have hw164_1 := hx164_1
                  have hw164_0 := hx164_0
                  cases e164
                  replace hx164_0 := cb HB.out hx164_0
                  replace hx164_1 := cb HB.out hx164_1
                  replace hx164_2 := cb HB.out hx164_2
                  replace hx164_3 := cb HB.out hx164_3
                  replace hx164_4 := cb HB.out hx164_4
                  replace hx164_5 := cb HB.out hx164_5
                  have HR164_5 := Aside0.mk hi164_5
                  have HC164_5 := Aside0.mk hl164_5
                  clear hi164_5 hl164_5
                  replace p164 := eq_true p164
                  replace q164 := eq_true q164
                  have p165 : 0 ≤ (x5_2 : Int) := of_decide_eq_true (by first|with_reducible assumption|assumption)
                  have q165 : x5_2 < (l1_5.length : Int) := of_decide_eq_true (by first|with_reducible assumption|assumption)
                  obtain ⟨ad165, A165_5, c165_5, e165, hx165_0, hx165_1, hx165_2, hx165_3, hx165_4, hx165_5, hl165_5, hi165_5⟩ := at_T26 HR1_5.out x5_2 p165 q165
                  have hw165_5 := hx165_5
                  have hw165_4 := hx165_4
                  have hw165_3 := hx165_3
                  have hw165_2 := hx165_2
                  have hw165_1 := hx165_1
                  have hw165_0 := hx165_0
                  cases e165
                  replace hx165_0 := cb HB.out hx165_0
                  replace hx165_1 := cb HB.out hx165_1
                  replace hx165_2 := cb HB.out hx165_2
                  replace hx165_3 := cb HB.out hx165_3
                  replace hx165_4 := cb HB.out hx165_4
                  replace hx165_5 := cb HB.out hx165_5
                  have HR165_5 := Aside0.mk hi165_5
                  have HC165_5 := Aside0.mk hl165_5
                  clear hi165_5 hl165_5
                  replace p165 := eq_true p165
                  replace q165 := eq_true q165
                  refine start_ (n := 12) (S := fun w' => w'.cell? ⟨gb162, 0, none⟩ = some (.int .i64 a0_0) ∧ w'.cell? ⟨gb162, 1, none⟩ = some (.string a0_1) ∧ w'.cell? ⟨gb162, 2, none⟩ = some (.int .i64 a0_2) ∧ w'.cell? ⟨gb162, 3, none⟩ = some (.int .i64 a0_3) ∧ w'.cell? ⟨gb162, 4, none⟩ = some (.int .i64 a0_4) ∧ w'.cell? ⟨gb162, 5, none⟩ = some (.slice (some ad164) l0_5.length c0_5) ∧ w'.cell? ⟨gb163, 0, none⟩ = some (.int .i64 a1_0) ∧ w'.cell? ⟨gb163, 1, none⟩ = some (.string a1_1) ∧ w'.cell? ⟨gb163, 2, none⟩ = some (.int .i64 a1_2) ∧ w'.cell? ⟨gb163, 3, none⟩ = some (.int .i64 a1_3) ∧ w'.cell? ⟨gb163, 4, none⟩ = some (.int .i64 a1_4) ∧ w'.cell? ⟨gb163, 5, none⟩ = some (.slice (some ad165) l1_5.length c1_5) ∧ w'.cell? (ad164.add ((x5_2).toNat * 6)) = some (.int .i64 ((rd_T26 l0_5 x5_2).f0)) ∧ w'.cell? ⟨(ad164.add ((x5_2).toNat * 6)).block, (ad164.add ((x5_2).toNat * 6)).off + 1, none⟩ = some (.string ((rd_T26 l0_5 x5_2).f1)) ∧ w'.cell? ⟨(ad164.add ((x5_2).toNat * 6)).block, (ad164.add ((x5_2).toNat * 6)).off + 2, none⟩ = some (.int .i64 ((rd_T26 l0_5 x5_2).f2.f0)) ∧ w'.cell? ⟨(ad164.add ((x5_2).toNat * 6)).block, (ad164.add ((x5_2).toNat * 6)).off + 3, none⟩ = some (.int .i64 ((rd_T26 l0_5 x5_2).f2.f1)) ∧ w'.cell? ⟨(ad164.add ((x5_2).toNat * 6)).block, (ad164.add ((x5_2).toNat * 6)).off + 4, none⟩ = some (.int .i64 ((rd_T26 l0_5 x5_2).f3)) ∧ w'.cell? ⟨(ad164.add ((x5_2).toNat * 6)).block, (ad164.add ((x5_2).toNat * 6)).off + 5, none⟩ = some (.slice A164_5 ((rd_T26 l0_5 x5_2).f4).length c164_5) ∧ w'.cell? (ad165.add ((x5_2).toNat * 6)) = some (.int .i64 ((rd_T26 l1_5 x5_2).f0)) ∧ w'.cell? ⟨(ad165.add ((x5_2).toNat * 6)).block, (ad165.add ((x5_2).toNat * 6)).off + 1, none⟩ = some (.string ((rd_T26 l1_5 x5_2).f1)) ∧ w'.cell? ⟨(ad165.add ((x5_2).toNat * 6)).block, (ad165.add ((x5_2).toNat * 6)).off + 2, none⟩ = some (.int .i64 ((rd_T26 l1_5 x5_2).f2.f0)) ∧ w'.cell? ⟨(ad165.add ((x5_2).toNat * 6)).block, (ad165.add ((x5_2).toNat * 6)).off + 3, none⟩ = some (.int .i64 ((rd_T26 l1_5 x5_2).f2.f1)) ∧ w'.cell? ⟨(ad165.add ((x5_2).toNat * 6)).block, (ad165.add ((x5_2).toNat * 6)).off + 4, none⟩ = some (.int .i64 ((rd_T26 l1_5 x5_2).f3)) ∧ w'.cell? ⟨(ad165.add ((x5_2).toNat * 6)).block, (ad165.add ((x5_2).toNat * 6)).off + 5, none⟩ = some (.slice A165_5 ((rd_T26 l1_5 x5_2).f4).length c165_5)) (ds := []) #[false, false, false, false, false, false, false, false, false, false, false, false] (by kernel_rfl) rfl rfl ⟨(blk_cell BK162.out 0).trans rfl, (blk_cell BK162.out 1).trans rfl, (blk_cell BK162.out 2).trans rfl, (blk_cell BK162.out 3).trans rfl, (blk_cell BK162.out 4).trans rfl, (blk_cell BK162.out 5).trans rfl, (blk_cell BK163.out 0).trans rfl, (blk_cell BK163.out 1).trans rfl, (blk_cell BK163.out 2).trans rfl, (blk_cell BK163.out 3).trans rfl, (blk_cell BK163.out 4).trans rfl, (blk_cell BK163.out 5).trans rfl, ((HB.out.cell (World.block_lt_of_cell? w _ hw164_0)).trans hw164_0), ((HB.out.cell (World.block_lt_of_cell? w _ hw164_1)).trans hw164_1), ((HB.out.cell (World.block_lt_of_cell? w _ hw164_2)).trans hw164_2), ((HB.out.cell (World.block_lt_of_cell? w _ hw164_3)).trans hw164_3), ((HB.out.cell (World.block_lt_of_cell? w _ hw164_4)).trans hw164_4), ((HB.out.cell (World.block_lt_of_cell? w _ hw164_5)).trans hw164_5), ((HB.out.cell (World.block_lt_of_cell? w _ hw165_0)).trans hw165_0), ((HB.out.cell (World.block_lt_of_cell? w _ hw165_1)).trans hw165_1), ((HB.out.cell (World.block_lt_of_cell? w _ hw165_2)).trans hw165_2), ((HB.out.cell (World.block_lt_of_cell? w _ hw165_3)).trans hw165_3), ((HB.out.cell (World.block_lt_of_cell? w _ hw165_4)).trans hw165_4), ((HB.out.cell (World.block_lt_of_cell? w _ hw165_5)).trans hw165_5)⟩ (fun hHeld => ?_); refine with_tabW bournelaw15_same.tab6 bournelaw15_same.bits6 (fun HT_ HW_ => ?_)
                  generalize wr.drew = w29 at BK162 BK163 HB HR164_5 HR165_5 hx164_0 hx164_1 hx164_2 hx164_3 hx164_4 hx164_5 hx165_0 hx165_1 hx165_2 hx165_3 hx165_4 hx165_5 hHeld ⊢
                  refine pure_ (i := 0) (N := some 41) (v := ?_) (a' := ?_) #[true, false, false, false, false, false, false, false, false, false, false, false] rfl rfl (any_of HT_.out (by kernel_rfl)) (fun _ _ _ h => h) (Or.inl ⟨by rfl, ?_⟩) ?_ ?_
                  rotate_left
                  · intro w'
                    go_simp
                    with_reducible rfl
                  rotate_left
                  · simp only [Act.put, List.setIfInBounds_toArray, List.set_cons_zero, List.set_cons_succ, i64_w, i32_w]
                    rfl
                  refine pure_ (i := 2) (N := some 43) (v := ?_) (a' := ?_) #[true, false, true, false, false, false, false, false, false, false, false, false] rfl rfl (any_of HT_.out (by kernel_rfl)) (fun _ _ _ h => h) (Or.inl ⟨by rfl, ?_⟩) ?_ ?_
                  rotate_left
                  · intro w'
                    go_simp
                    with_reducible rfl
                  rotate_left
                  · simp only [Act.put, List.setIfInBounds_toArray, List.set_cons_zero, List.set_cons_succ, i64_w, i32_w]
                    rfl
                  refine pure_ (i := 5) (N := some 46) (v := ?_) (a' := ?_) #[true, false, true, false, false, true, false, false, false, false, false, false] rfl rfl (any_of HT_.out (by kernel_rfl)) (fun _ _ _ h => h) (Or.inl ⟨by rfl, ?_⟩) ?_ ?_
                  rotate_left
                  · intro w'
                    go_simp
                    with_reducible rfl
                  rotate_left
                  · simp only [Act.put, List.setIfInBounds_toArray, List.set_cons_zero, List.set_cons_succ, i64_w, i32_w]
                    rfl
                  refine pure_ (i := 7) (N := some 48) (v := ?_) (a' := ?_) #[true, false, true, false, false, true, false, true, false, false, false, false] rfl rfl (any_of HT_.out (by kernel_rfl)) (fun _ _ _ h => h) (Or.inl ⟨by rfl, ?_⟩) ?_ ?_
                  rotate_left
                  · intro w'
                    go_simp
                    with_reducible rfl
                  rotate_left
                  · simp only [Act.put, List.setIfInBounds_toArray, List.set_cons_zero, List.set_cons_succ, i64_w, i32_w]
                    rfl
                  refine take_ (i := 1) (N := some 42) (v := ?_) (a' := ?_) #[true, true, true, false, false, true, false, true, false, false, false, false] rfl rfl (take_ofW HT_.out HW_.out (by kernel_rfl)) (fun _ _ _ h => h) (Or.inl ⟨by rfl, ?_⟩) hHeld ?_ ?_
                  rotate_left
                  · rintro w' ⟨s0, s1, s2, s3, s4, s5, s6, s7, s8, s9, s10, s11, s12, s13, s14, s15, s16, s17, s18, s19, s20, s21, s22, s23⟩
                    go_simp
                    with_reducible rfl
                  rotate_left
                  · simp only [Act.put, List.setIfInBounds_toArray, List.set_cons_zero, List.set_cons_succ, i64_w, i32_w]
                    rfl
                  refine pure_ (i := 3) (N := some 44) (v := ?_) (a' := ?_) #[true, true, true, true, false, true, false, true, false, false, false, false] rfl rfl (any_of HT_.out (by kernel_rfl)) (fun _ _ _ h => h) (Or.inl ⟨by rfl, ?_⟩) ?_ ?_
                  rotate_left
                  · intro w'
                    go_simp
                    with_reducible rfl
                  rotate_left
                  · simp only [Act.put, List.setIfInBounds_toArray, List.set_cons_zero, List.set_cons_succ, i64_w, i32_w]
                    rfl
                  refine take_ (i := 4) (N := some 45) (v := ?_) (a' := ?_) #[true, true, true, true, true, true, false, true, false, false, false, false] rfl rfl (take_ofW HT_.out HW_.out (by kernel_rfl)) (fun _ _ _ h => h) (Or.inl ⟨by rfl, ?_⟩) hHeld ?_ ?_
                  rotate_left
                  · rintro w' ⟨s0, s1, s2, s3, s4, s5, s6, s7, s8, s9, s10, s11, s12, s13, s14, s15, s16, s17, s18, s19, s20, s21, s22, s23⟩
                    go_simp
                    with_reducible rfl
                  rotate_left
                  · simp only [Act.put, List.setIfInBounds_toArray, List.set_cons_zero, List.set_cons_succ, i64_w, i32_w]
                    rfl
                  refine take_ (i := 6) (N := some 47) (v := ?_) (a' := ?_) #[true, true, true, true, true, true, true, true, false, false, false, false] rfl rfl (take_ofW HT_.out HW_.out (by kernel_rfl)) (fun _ _ _ h => h) (Or.inl ⟨by rfl, ?_⟩) hHeld ?_ ?_
                  rotate_left
                  · rintro w' ⟨s0, s1, s2, s3, s4, s5, s6, s7, s8, s9, s10, s11, s12, s13, s14, s15, s16, s17, s18, s19, s20, s21, s22, s23⟩
                    go_simp
                    with_reducible rfl
                  rotate_left
                  · simp only [Act.put, List.setIfInBounds_toArray, List.set_cons_zero, List.set_cons_succ, i64_w, i32_w]
                    rfl
                  refine pure_ (i := 8) (N := some 49) (v := ?_) (a' := ?_) #[true, true, true, true, true, true, true, true, true, false, false, false] rfl rfl (any_of HT_.out (by kernel_rfl)) (fun _ _ _ h => h) (Or.inl ⟨by rfl, ?_⟩) ?_ ?_
                  rotate_left
                  · intro w'
                    go_simp
                    with_reducible rfl
                  rotate_left
                  · simp only [Act.put, List.setIfInBounds_toArray, List.set_cons_zero, List.set_cons_succ, i64_w, i32_w]
                    rfl
                  refine take_ (i := 9) (N := some 50) (v := ?_) (a' := ?_) #[true, true, true, true, true, true, true, true, true, true, false, false] rfl rfl (take_ofW HT_.out HW_.out (by kernel_rfl)) (fun _ _ _ h => h) (Or.inl ⟨by rfl, ?_⟩) hHeld ?_ ?_
                  rotate_left
                  · rintro w' ⟨s0, s1, s2, s3, s4, s5, s6, s7, s8, s9, s10, s11, s12, s13, s14, s15, s16, s17, s18, s19, s20, s21, s22, s23⟩
                    go_simp
                    with_reducible rfl
                  rotate_left
                  · simp only [Act.put, List.setIfInBounds_toArray, List.set_cons_zero, List.set_cons_succ, i64_w, i32_w]
                    rfl
                  refine one_ (i := 10) (N := some 51) #[true, true, true, true, true, true, true, true, true, true, true, false] rfl rfl (one_of HT_.out (by kernel_rfl)) (by decide) (fun K hK => ?_)
                  refine goes_ Tryz.func13 (by kernel_rfl) rfl #[.agg #[.int .i64 ((rd_T26 l0_5 x5_2).f0), .string ((rd_T26 l0_5 x5_2).f1), .int .i64 ((rd_T26 l0_5 x5_2).f2.f0), .int .i64 ((rd_T26 l0_5 x5_2).f2.f1), .int .i64 ((rd_T26 l0_5 x5_2).f3), .slice A164_5 ((rd_T26 l0_5 x5_2).f4).length c164_5], .agg #[.int .i64 ((rd_T26 l1_5 x5_2).f0), .string ((rd_T26 l1_5 x5_2).f1), .int .i64 ((rd_T26 l1_5 x5_2).f2.f0), .int .i64 ((rd_T26 l1_5 x5_2).f2.f1), .int .i64 ((rd_T26 l1_5 x5_2).f3), .slice A165_5 ((rd_T26 l1_5 x5_2).f4).length c165_5]] (by rfl) rfl rfl (by (try simp only [List.map_toArray, List.map_cons, List.map_nil]); first | done | rfl | (simp only [List.length_drop, List.length_take]; rfl) | (simp only [Int.toNat_natCast, ByteArray.extract_zero_size] <;> rfl) | (rw [Int.toNat_natCast, ByteArray.extract_zero_size] <;> rfl)) ?_
                  with_reducible refine (ih k2 (by have := HJ2.out; have := HK2.out; omega) ((rd_T26 l0_5 x5_2).f0) ((rd_T26 l0_5 x5_2).f1) ((rd_T26 l0_5 x5_2).f2.f0) ((rd_T26 l0_5 x5_2).f2.f1) ((rd_T26 l0_5 x5_2).f3) _ _ ((rd_T26 l0_5 x5_2).f4) ((rd_T26 l1_5 x5_2).f0) ((rd_T26 l1_5 x5_2).f1) ((rd_T26 l1_5 x5_2).f2.f0) ((rd_T26 l1_5 x5_2).f2.f1) ((rd_T26 l1_5 x5_2).f3) _ _ ((rd_T26 l1_5 x5_2).f4) true _ ?side1 ?side2 ?side3 ?side4 A25.out).mono ?_
                  (case side1 => repeat (first | exact (Kd.C_below HR164_5.out HB.out) | (with_reducible refine Kd.C_alloc ?_ _) | (with_reducible refine Kd.C_drewN ?_ _) | (with_reducible refine Kd.C_drew ?_)))
                  (case side2 => exact HC164_5.out)
                  (case side3 => repeat (first | exact (Kd.C_below HR165_5.out HB.out) | (with_reducible refine Kd.C_alloc ?_ _) | (with_reducible refine Kd.C_drewN ?_ _) | (with_reducible refine Kd.C_drew ?_)))
                  (case side4 => exact HC165_5.out)
                  rintro e w30 ⟨rfl, hb⟩
                  refine ⟨_, rfl, ?_⟩
                  have n0_ := Aside0.mk (blk_below (g := gb162) (o := .cells #[.int .i64 a0_0, .string a0_1, .int .i64 a0_2, .int .i64 a0_3, .int .i64 a0_4, .slice (some ad164) l0_5.length c0_5] 26 (0, 0)) (by (with_reducible repeat first|refine kN ?_ _|refine kd ?_|refine ka ?_ _); exact BK162.out) hb)
                  have n1_ := Aside0.mk (blk_below (g := gb163) (o := .cells #[.int .i64 a1_0, .string a1_1, .int .i64 a1_2, .int .i64 a1_3, .int .i64 a1_4, .slice (some ad165) l1_5.length c1_5] 26 (0, 0)) (by (with_reducible repeat first|refine kN ?_ _|refine kd ?_|refine ka ?_ _); exact BK163.out) hb)
                  have n2_ := Aside0.mk (below_step (by repeat with_reducible first|exact HB.out|apply ba|apply bN|apply bd|refine below_set ?_ GE162.out|refine below_set ?_ GE163.out) hb)
                  clear BK162
                  clear BK163
                  clear HB
                  have BK162 := n0_
                  have BK163 := n1_
                  have HB := n2_
                  clear n0_ n1_ n2_
                  (try clear hb)
                  (try clear hb2)
                  (try clear hk)
                  (try clear hi)
                  refine hK.out _ _ ⟨(blk_cell BK162.out 0).trans rfl, (blk_cell BK162.out 1).trans rfl, (blk_cell BK162.out 2).trans rfl, (blk_cell BK162.out 3).trans rfl, (blk_cell BK162.out 4).trans rfl, (blk_cell BK162.out 5).trans rfl, (blk_cell BK163.out 0).trans rfl, (blk_cell BK163.out 1).trans rfl, (blk_cell BK163.out 2).trans rfl, (blk_cell BK163.out 3).trans rfl, (blk_cell BK163.out 4).trans rfl, (blk_cell BK163.out 5).trans rfl, ((HB.out.cell (World.block_lt_of_cell? w _ hw164_0)).trans hw164_0), ((HB.out.cell (World.block_lt_of_cell? w _ hw164_1)).trans hw164_1), ((HB.out.cell (World.block_lt_of_cell? w _ hw164_2)).trans hw164_2), ((HB.out.cell (World.block_lt_of_cell? w _ hw164_3)).trans hw164_3), ((HB.out.cell (World.block_lt_of_cell? w _ hw164_4)).trans hw164_4), ((HB.out.cell (World.block_lt_of_cell? w _ hw164_5)).trans hw164_5), ((HB.out.cell (World.block_lt_of_cell? w _ hw165_0)).trans hw165_0), ((HB.out.cell (World.block_lt_of_cell? w _ hw165_1)).trans hw165_1), ((HB.out.cell (World.block_lt_of_cell? w _ hw165_2)).trans hw165_2), ((HB.out.cell (World.block_lt_of_cell? w _ hw165_3)).trans hw165_3), ((HB.out.cell (World.block_lt_of_cell? w _ hw165_4)).trans hw165_4), ((HB.out.cell (World.block_lt_of_cell? w _ hw165_5)).trans hw165_5)⟩ (fun hHeld => ?_)
                  clear hK K
                  refine norm_ (a' := ?_) ?_ ?_
                  rotate_left
                  · show Act.put _ (some 51) _ = _
                    simp only [Act.put, List.setIfInBounds_toArray, List.set_cons_zero, List.set_cons_succ, i64_w, i32_w]
                    rfl
                  refine pure_ (i := 11) (N := some 52) (v := ?_) (a' := ?_) #[true, true, true, true, true, true, true, true, true, true, true, true] rfl rfl (any_of HT_.out (by kernel_rfl)) (fun _ _ _ h => h) (Or.inl ⟨by rfl, ?_⟩) ?_ ?_
                  rotate_left
                  · intro w'
                    go_simp
                    with_reducible rfl
                  rotate_left
                  · simp only [Act.put, List.setIfInBounds_toArray, List.set_cons_zero, List.set_cons_succ, i64_w, i32_w]
                    rfl
                  refine done_ (done_of HT_.out (by kernel_rfl)) ?_
                  try go_wp2
                  go_roundg k2
                  case measure => have := HJ2.out; have := HK2.out; omega
                  case rel => exact ⟨(wrap64 (x5_2 + 1)), (by first|rfl|(simp;done)|(simp [*];done)), H', ⟨by have := HJ2.out; have := HK2.out; omega⟩, ⟨by (with_reducible repeat first|refine kN ?_ _|refine kd ?_|refine ka ?_ _); exact BK162.out⟩, ⟨by (with_reducible repeat first|refine kN ?_ _|refine kd ?_|refine ka ?_ _); exact BK163.out⟩, ⟨by repeat with_reducible first|exact HB.out|apply ba|apply bN|apply bd|refine below_set ?_ GE162.out|refine below_set ?_ GE163.out⟩⟩
                replace c26 := Bool.eq_false_iff.mpr c26
                subst c26
                have H1 : (some false) = some r := by rw [if_neg (show ¬ (false = true) by decide)] at H; exact H
                clear H
                have H := H1
                clear H1
                obtain rfl := Option.some.inj H
                have hnb31 := NB162_163.out
                have hnc31 := NB163_162.out
                obtain ⟨hcz32_0, hcz32_1, hcz32_2, hcz32_3, hcz32_4, hcz32_5, hfz32_0, hfz32_1, hfz32_2, hfz32_3, hfz32_4, hfz32_5⟩ := cl6 BK162.out
                try go_wp2
                have n0_ := Aside0.mk (blk_drew BK162.out)
                have n1_ := Aside0.mk (blk_drew BK163.out)
                have n2_ := Aside0.mk (below_drew1 HB.out)
                clear BK162
                clear BK163
                clear HB
                have BK162 := n0_
                have BK163 := n1_
                have HB := n2_
                clear n0_ n1_ n2_
                have p164 : 0 ≤ (x5_2 : Int) := of_decide_eq_true (by first|with_reducible assumption|assumption)
                have q164 : x5_2 < (l0_5.length : Int) := of_decide_eq_true (by first|with_reducible assumption|assumption)
                obtain ⟨ad164, A164_5, c164_5, e164, hx164_0, hx164_1, hx164_2, hx164_3, hx164_4, hx164_5, hl164_5, hi164_5⟩ := at_T26 HR0_5.out x5_2 p164 q164
                have hw164_5 := hx164_5
                have hw164_4 := hx164_4
                have hw164_3 := hx164_3
                have hw164_2 := hx164_2
                have hw164_1 := hx164_1
                have hw164_0 := hx164_0
                cases e164
                replace hx164_0 := cb HB.out hx164_0
                replace hx164_1 := cb HB.out hx164_1
                replace hx164_2 := cb HB.out hx164_2
                replace hx164_3 := cb HB.out hx164_3
                replace hx164_4 := cb HB.out hx164_4
                replace hx164_5 := cb HB.out hx164_5
                have HR164_5 := Aside0.mk hi164_5
                have HC164_5 := Aside0.mk hl164_5
                clear hi164_5 hl164_5
                replace p164 := eq_true p164
                replace q164 := eq_true q164
                have p165 : 0 ≤ (x5_2 : Int) := of_decide_eq_true (by first|with_reducible assumption|assumption)
                have q165 : x5_2 < (l1_5.length : Int) := of_decide_eq_true (by first|with_reducible assumption|assumption)
                obtain ⟨ad165, A165_5, c165_5, e165, hx165_0, hx165_1, hx165_2, hx165_3, hx165_4, hx165_5, hl165_5, hi165_5⟩ := at_T26 HR1_5.out x5_2 p165 q165
                have hw165_5 := hx165_5
                have hw165_4 := hx165_4
                have hw165_3 := hx165_3
                have hw165_2 := hx165_2
                have hw165_1 := hx165_1
                have hw165_0 := hx165_0
                cases e165
                replace hx165_0 := cb HB.out hx165_0
                replace hx165_1 := cb HB.out hx165_1
                replace hx165_2 := cb HB.out hx165_2
                replace hx165_3 := cb HB.out hx165_3
                replace hx165_4 := cb HB.out hx165_4
                replace hx165_5 := cb HB.out hx165_5
                have HR165_5 := Aside0.mk hi165_5
                have HC165_5 := Aside0.mk hl165_5
                clear hi165_5 hl165_5
                replace p165 := eq_true p165
                replace q165 := eq_true q165
                refine start_ (n := 12) (S := fun w' => w'.cell? ⟨gb162, 0, none⟩ = some (.int .i64 a0_0) ∧ w'.cell? ⟨gb162, 1, none⟩ = some (.string a0_1) ∧ w'.cell? ⟨gb162, 2, none⟩ = some (.int .i64 a0_2) ∧ w'.cell? ⟨gb162, 3, none⟩ = some (.int .i64 a0_3) ∧ w'.cell? ⟨gb162, 4, none⟩ = some (.int .i64 a0_4) ∧ w'.cell? ⟨gb162, 5, none⟩ = some (.slice (some ad164) l0_5.length c0_5) ∧ w'.cell? ⟨gb163, 0, none⟩ = some (.int .i64 a1_0) ∧ w'.cell? ⟨gb163, 1, none⟩ = some (.string a1_1) ∧ w'.cell? ⟨gb163, 2, none⟩ = some (.int .i64 a1_2) ∧ w'.cell? ⟨gb163, 3, none⟩ = some (.int .i64 a1_3) ∧ w'.cell? ⟨gb163, 4, none⟩ = some (.int .i64 a1_4) ∧ w'.cell? ⟨gb163, 5, none⟩ = some (.slice (some ad165) l1_5.length c1_5) ∧ w'.cell? (ad164.add ((x5_2).toNat * 6)) = some (.int .i64 ((rd_T26 l0_5 x5_2).f0)) ∧ w'.cell? ⟨(ad164.add ((x5_2).toNat * 6)).block, (ad164.add ((x5_2).toNat * 6)).off + 1, none⟩ = some (.string ((rd_T26 l0_5 x5_2).f1)) ∧ w'.cell? ⟨(ad164.add ((x5_2).toNat * 6)).block, (ad164.add ((x5_2).toNat * 6)).off + 2, none⟩ = some (.int .i64 ((rd_T26 l0_5 x5_2).f2.f0)) ∧ w'.cell? ⟨(ad164.add ((x5_2).toNat * 6)).block, (ad164.add ((x5_2).toNat * 6)).off + 3, none⟩ = some (.int .i64 ((rd_T26 l0_5 x5_2).f2.f1)) ∧ w'.cell? ⟨(ad164.add ((x5_2).toNat * 6)).block, (ad164.add ((x5_2).toNat * 6)).off + 4, none⟩ = some (.int .i64 ((rd_T26 l0_5 x5_2).f3)) ∧ w'.cell? ⟨(ad164.add ((x5_2).toNat * 6)).block, (ad164.add ((x5_2).toNat * 6)).off + 5, none⟩ = some (.slice A164_5 ((rd_T26 l0_5 x5_2).f4).length c164_5) ∧ w'.cell? (ad165.add ((x5_2).toNat * 6)) = some (.int .i64 ((rd_T26 l1_5 x5_2).f0)) ∧ w'.cell? ⟨(ad165.add ((x5_2).toNat * 6)).block, (ad165.add ((x5_2).toNat * 6)).off + 1, none⟩ = some (.string ((rd_T26 l1_5 x5_2).f1)) ∧ w'.cell? ⟨(ad165.add ((x5_2).toNat * 6)).block, (ad165.add ((x5_2).toNat * 6)).off + 2, none⟩ = some (.int .i64 ((rd_T26 l1_5 x5_2).f2.f0)) ∧ w'.cell? ⟨(ad165.add ((x5_2).toNat * 6)).block, (ad165.add ((x5_2).toNat * 6)).off + 3, none⟩ = some (.int .i64 ((rd_T26 l1_5 x5_2).f2.f1)) ∧ w'.cell? ⟨(ad165.add ((x5_2).toNat * 6)).block, (ad165.add ((x5_2).toNat * 6)).off + 4, none⟩ = some (.int .i64 ((rd_T26 l1_5 x5_2).f3)) ∧ w'.cell? ⟨(ad165.add ((x5_2).toNat * 6)).block, (ad165.add ((x5_2).toNat * 6)).off + 5, none⟩ = some (.slice A165_5 ((rd_T26 l1_5 x5_2).f4).length c165_5)) (ds := []) #[false, false, false, false, false, false, false, false, false, false, false, false] (by kernel_rfl) rfl rfl ⟨(blk_cell BK162.out 0).trans rfl, (blk_cell BK162.out 1).trans rfl, (blk_cell BK162.out 2).trans rfl, (blk_cell BK162.out 3).trans rfl, (blk_cell BK162.out 4).trans rfl, (blk_cell BK162.out 5).trans rfl, (blk_cell BK163.out 0).trans rfl, (blk_cell BK163.out 1).trans rfl, (blk_cell BK163.out 2).trans rfl, (blk_cell BK163.out 3).trans rfl, (blk_cell BK163.out 4).trans rfl, (blk_cell BK163.out 5).trans rfl, ((HB.out.cell (World.block_lt_of_cell? w _ hw164_0)).trans hw164_0), ((HB.out.cell (World.block_lt_of_cell? w _ hw164_1)).trans hw164_1), ((HB.out.cell (World.block_lt_of_cell? w _ hw164_2)).trans hw164_2), ((HB.out.cell (World.block_lt_of_cell? w _ hw164_3)).trans hw164_3), ((HB.out.cell (World.block_lt_of_cell? w _ hw164_4)).trans hw164_4), ((HB.out.cell (World.block_lt_of_cell? w _ hw164_5)).trans hw164_5), ((HB.out.cell (World.block_lt_of_cell? w _ hw165_0)).trans hw165_0), ((HB.out.cell (World.block_lt_of_cell? w _ hw165_1)).trans hw165_1), ((HB.out.cell (World.block_lt_of_cell? w _ hw165_2)).trans hw165_2), ((HB.out.cell (World.block_lt_of_cell? w _ hw165_3)).trans hw165_3), ((HB.out.cell (World.block_lt_of_cell? w _ hw165_4)).trans hw165_4), ((HB.out.cell (World.block_lt_of_cell? w _ hw165_5)).trans hw165_5)⟩ (fun hHeld => ?_); refine with_tabW bournelaw15_same.tab6 bournelaw15_same.bits6 (fun HT_ HW_ => ?_)
                generalize wr.drew = w33 at BK162 BK163 HB HR164_5 HR165_5 hx164_0 hx164_1 hx164_2 hx164_3 hx164_4 hx164_5 hx165_0 hx165_1 hx165_2 hx165_3 hx165_4 hx165_5 hHeld ⊢
                refine pure_ (i := 0) (N := some 41) (v := ?_) (a' := ?_) #[true, false, false, false, false, false, false, false, false, false, false, false] rfl rfl (any_of HT_.out (by kernel_rfl)) (fun _ _ _ h => h) (Or.inl ⟨by rfl, ?_⟩) ?_ ?_
                rotate_left
                · intro w'
                  go_simp
                  with_reducible rfl
                rotate_left
                · simp only [Act.put, List.setIfInBounds_toArray, List.set_cons_zero, List.set_cons_succ, i64_w, i32_w]
                  rfl
                refine pure_ (i := 2) (N := some 43) (v := ?_) (a' := ?_) #[true, false, true, false, false, false, false, false, false, false, false, false] rfl rfl (any_of HT_.out (by kernel_rfl)) (fun _ _ _ h => h) (Or.inl ⟨by rfl, ?_⟩) ?_ ?_
                rotate_left
                · intro w'
                  go_simp
                  with_reducible rfl
                rotate_left
                · simp only [Act.put, List.setIfInBounds_toArray, List.set_cons_zero, List.set_cons_succ, i64_w, i32_w]
                  rfl
                refine pure_ (i := 5) (N := some 46) (v := ?_) (a' := ?_) #[true, false, true, false, false, true, false, false, false, false, false, false] rfl rfl (any_of HT_.out (by kernel_rfl)) (fun _ _ _ h => h) (Or.inl ⟨by rfl, ?_⟩) ?_ ?_
                rotate_left
                · intro w'
                  go_simp
                  with_reducible rfl
                rotate_left
                · simp only [Act.put, List.setIfInBounds_toArray, List.set_cons_zero, List.set_cons_succ, i64_w, i32_w]
                  rfl
                refine pure_ (i := 7) (N := some 48) (v := ?_) (a' := ?_) #[true, false, true, false, false, true, false, true, false, false, false, false] rfl rfl (any_of HT_.out (by kernel_rfl)) (fun _ _ _ h => h) (Or.inl ⟨by rfl, ?_⟩) ?_ ?_
                rotate_left
                · intro w'
                  go_simp
                  with_reducible rfl
                rotate_left
                · simp only [Act.put, List.setIfInBounds_toArray, List.set_cons_zero, List.set_cons_succ, i64_w, i32_w]
                  rfl
                refine take_ (i := 1) (N := some 42) (v := ?_) (a' := ?_) #[true, true, true, false, false, true, false, true, false, false, false, false] rfl rfl (take_ofW HT_.out HW_.out (by kernel_rfl)) (fun _ _ _ h => h) (Or.inl ⟨by rfl, ?_⟩) hHeld ?_ ?_
                rotate_left
                · rintro w' ⟨s0, s1, s2, s3, s4, s5, s6, s7, s8, s9, s10, s11, s12, s13, s14, s15, s16, s17, s18, s19, s20, s21, s22, s23⟩
                  go_simp
                  with_reducible rfl
                rotate_left
                · simp only [Act.put, List.setIfInBounds_toArray, List.set_cons_zero, List.set_cons_succ, i64_w, i32_w]
                  rfl
                refine pure_ (i := 3) (N := some 44) (v := ?_) (a' := ?_) #[true, true, true, true, false, true, false, true, false, false, false, false] rfl rfl (any_of HT_.out (by kernel_rfl)) (fun _ _ _ h => h) (Or.inl ⟨by rfl, ?_⟩) ?_ ?_
                rotate_left
                · intro w'
                  go_simp
                  with_reducible rfl
                rotate_left
                · simp only [Act.put, List.setIfInBounds_toArray, List.set_cons_zero, List.set_cons_succ, i64_w, i32_w]
                  rfl
                refine take_ (i := 4) (N := some 45) (v := ?_) (a' := ?_) #[true, true, true, true, true, true, false, true, false, false, false, false] rfl rfl (take_ofW HT_.out HW_.out (by kernel_rfl)) (fun _ _ _ h => h) (Or.inl ⟨by rfl, ?_⟩) hHeld ?_ ?_
                rotate_left
                · rintro w' ⟨s0, s1, s2, s3, s4, s5, s6, s7, s8, s9, s10, s11, s12, s13, s14, s15, s16, s17, s18, s19, s20, s21, s22, s23⟩
                  go_simp
                  with_reducible rfl
                rotate_left
                · simp only [Act.put, List.setIfInBounds_toArray, List.set_cons_zero, List.set_cons_succ, i64_w, i32_w]
                  rfl
                refine take_ (i := 6) (N := some 47) (v := ?_) (a' := ?_) #[true, true, true, true, true, true, true, true, false, false, false, false] rfl rfl (take_ofW HT_.out HW_.out (by kernel_rfl)) (fun _ _ _ h => h) (Or.inl ⟨by rfl, ?_⟩) hHeld ?_ ?_
                rotate_left
                · rintro w' ⟨s0, s1, s2, s3, s4, s5, s6, s7, s8, s9, s10, s11, s12, s13, s14, s15, s16, s17, s18, s19, s20, s21, s22, s23⟩
                  go_simp
                  with_reducible rfl
                rotate_left
                · simp only [Act.put, List.setIfInBounds_toArray, List.set_cons_zero, List.set_cons_succ, i64_w, i32_w]
                  rfl
                refine pure_ (i := 8) (N := some 49) (v := ?_) (a' := ?_) #[true, true, true, true, true, true, true, true, true, false, false, false] rfl rfl (any_of HT_.out (by kernel_rfl)) (fun _ _ _ h => h) (Or.inl ⟨by rfl, ?_⟩) ?_ ?_
                rotate_left
                · intro w'
                  go_simp
                  with_reducible rfl
                rotate_left
                · simp only [Act.put, List.setIfInBounds_toArray, List.set_cons_zero, List.set_cons_succ, i64_w, i32_w]
                  rfl
                refine take_ (i := 9) (N := some 50) (v := ?_) (a' := ?_) #[true, true, true, true, true, true, true, true, true, true, false, false] rfl rfl (take_ofW HT_.out HW_.out (by kernel_rfl)) (fun _ _ _ h => h) (Or.inl ⟨by rfl, ?_⟩) hHeld ?_ ?_
                rotate_left
                · rintro w' ⟨s0, s1, s2, s3, s4, s5, s6, s7, s8, s9, s10, s11, s12, s13, s14, s15, s16, s17, s18, s19, s20, s21, s22, s23⟩
                  go_simp
                  with_reducible rfl
                rotate_left
                · simp only [Act.put, List.setIfInBounds_toArray, List.set_cons_zero, List.set_cons_succ, i64_w, i32_w]
                  rfl
                refine one_ (i := 10) (N := some 51) #[true, true, true, true, true, true, true, true, true, true, true, false] rfl rfl (one_of HT_.out (by kernel_rfl)) (by decide) (fun K hK => ?_)
                refine goes_ Tryz.func13 (by kernel_rfl) rfl #[.agg #[.int .i64 ((rd_T26 l0_5 x5_2).f0), .string ((rd_T26 l0_5 x5_2).f1), .int .i64 ((rd_T26 l0_5 x5_2).f2.f0), .int .i64 ((rd_T26 l0_5 x5_2).f2.f1), .int .i64 ((rd_T26 l0_5 x5_2).f3), .slice A164_5 ((rd_T26 l0_5 x5_2).f4).length c164_5], .agg #[.int .i64 ((rd_T26 l1_5 x5_2).f0), .string ((rd_T26 l1_5 x5_2).f1), .int .i64 ((rd_T26 l1_5 x5_2).f2.f0), .int .i64 ((rd_T26 l1_5 x5_2).f2.f1), .int .i64 ((rd_T26 l1_5 x5_2).f3), .slice A165_5 ((rd_T26 l1_5 x5_2).f4).length c165_5]] (by rfl) rfl rfl (by (try simp only [List.map_toArray, List.map_cons, List.map_nil]); first | done | rfl | (simp only [List.length_drop, List.length_take]; rfl) | (simp only [Int.toNat_natCast, ByteArray.extract_zero_size] <;> rfl) | (rw [Int.toNat_natCast, ByteArray.extract_zero_size] <;> rfl)) ?_
                with_reducible refine (ih k2 (by have := HJ2.out; have := HK2.out; omega) ((rd_T26 l0_5 x5_2).f0) ((rd_T26 l0_5 x5_2).f1) ((rd_T26 l0_5 x5_2).f2.f0) ((rd_T26 l0_5 x5_2).f2.f1) ((rd_T26 l0_5 x5_2).f3) _ _ ((rd_T26 l0_5 x5_2).f4) ((rd_T26 l1_5 x5_2).f0) ((rd_T26 l1_5 x5_2).f1) ((rd_T26 l1_5 x5_2).f2.f0) ((rd_T26 l1_5 x5_2).f2.f1) ((rd_T26 l1_5 x5_2).f3) _ _ ((rd_T26 l1_5 x5_2).f4) false _ ?side1 ?side2 ?side3 ?side4 A25.out).mono ?_
                (case side1 => repeat (first | exact (Kd.C_below HR164_5.out HB.out) | (with_reducible refine Kd.C_alloc ?_ _) | (with_reducible refine Kd.C_drewN ?_ _) | (with_reducible refine Kd.C_drew ?_)))
                (case side2 => exact HC164_5.out)
                (case side3 => repeat (first | exact (Kd.C_below HR165_5.out HB.out) | (with_reducible refine Kd.C_alloc ?_ _) | (with_reducible refine Kd.C_drewN ?_ _) | (with_reducible refine Kd.C_drew ?_)))
                (case side4 => exact HC165_5.out)
                rintro e w34 ⟨rfl, hb⟩
                refine ⟨_, rfl, ?_⟩
                have n0_ := Aside0.mk (blk_below (g := gb162) (o := .cells #[.int .i64 a0_0, .string a0_1, .int .i64 a0_2, .int .i64 a0_3, .int .i64 a0_4, .slice (some ad164) l0_5.length c0_5] 26 (0, 0)) (by (with_reducible repeat first|refine kN ?_ _|refine kd ?_|refine ka ?_ _); exact BK162.out) hb)
                have n1_ := Aside0.mk (blk_below (g := gb163) (o := .cells #[.int .i64 a1_0, .string a1_1, .int .i64 a1_2, .int .i64 a1_3, .int .i64 a1_4, .slice (some ad165) l1_5.length c1_5] 26 (0, 0)) (by (with_reducible repeat first|refine kN ?_ _|refine kd ?_|refine ka ?_ _); exact BK163.out) hb)
                have n2_ := Aside0.mk (below_step (by repeat with_reducible first|exact HB.out|apply ba|apply bN|apply bd|refine below_set ?_ GE162.out|refine below_set ?_ GE163.out) hb)
                clear BK162
                clear BK163
                clear HB
                have BK162 := n0_
                have BK163 := n1_
                have HB := n2_
                clear n0_ n1_ n2_
                (try clear hb)
                (try clear hb2)
                (try clear hk)
                (try clear hi)
                refine hK.out _ _ ⟨(blk_cell BK162.out 0).trans rfl, (blk_cell BK162.out 1).trans rfl, (blk_cell BK162.out 2).trans rfl, (blk_cell BK162.out 3).trans rfl, (blk_cell BK162.out 4).trans rfl, (blk_cell BK162.out 5).trans rfl, (blk_cell BK163.out 0).trans rfl, (blk_cell BK163.out 1).trans rfl, (blk_cell BK163.out 2).trans rfl, (blk_cell BK163.out 3).trans rfl, (blk_cell BK163.out 4).trans rfl, (blk_cell BK163.out 5).trans rfl, ((HB.out.cell (World.block_lt_of_cell? w _ hw164_0)).trans hw164_0), ((HB.out.cell (World.block_lt_of_cell? w _ hw164_1)).trans hw164_1), ((HB.out.cell (World.block_lt_of_cell? w _ hw164_2)).trans hw164_2), ((HB.out.cell (World.block_lt_of_cell? w _ hw164_3)).trans hw164_3), ((HB.out.cell (World.block_lt_of_cell? w _ hw164_4)).trans hw164_4), ((HB.out.cell (World.block_lt_of_cell? w _ hw164_5)).trans hw164_5), ((HB.out.cell (World.block_lt_of_cell? w _ hw165_0)).trans hw165_0), ((HB.out.cell (World.block_lt_of_cell? w _ hw165_1)).trans hw165_1), ((HB.out.cell (World.block_lt_of_cell? w _ hw165_2)).trans hw165_2), ((HB.out.cell (World.block_lt_of_cell? w _ hw165_3)).trans hw165_3), ((HB.out.cell (World.block_lt_of_cell? w _ hw165_4)).trans hw165_4), ((HB.out.cell (World.block_lt_of_cell? w _ hw165_5)).trans hw165_5)⟩ (fun hHeld => ?_)
                clear hK K
                refine norm_ (a' := ?_) ?_ ?_
                rotate_left
                · show Act.put _ (some 51) _ = _
                  simp only [Act.put, List.setIfInBounds_toArray, List.set_cons_zero, List.set_cons_succ, i64_w, i32_w]
                  rfl
                refine pure_ (i := 11) (N := some 52) (v := ?_) (a' := ?_) #[true, true, true, true, true, true, true, true, true, true, true, true] rfl rfl (any_of HT_.out (by kernel_rfl)) (fun _ _ _ h => h) (Or.inl ⟨by rfl, ?_⟩) ?_ ?_
                rotate_left
                · intro w'
                  go_simp
                  with_reducible rfl
                rotate_left
                · simp only [Act.put, List.setIfInBounds_toArray, List.set_cons_zero, List.set_cons_succ, i64_w, i32_w]
                  rfl
                refine done_ (done_of HT_.out (by kernel_rfl)) ?_
                try go_wp2
                go_ret
                exact ⟨by first|rfl|(simp<;>rfl)|(simp [*]<;>rfl), by repeat with_reducible first|exact HB.out|apply ba|apply bN|apply bd|refine below_set ?_ GE162.out|refine below_set ?_ GE163.out⟩
              rw [if_neg c24] at H
              exact absurd H (by simp)
            rw [if_neg c23] at H
            exact absurd H (by simp)
          rw [if_neg c22] at H
          have c22b0 : decide (x5_2 < (l0_5.length : Int)) = false := decide_eq_false c22
          clear c22
          obtain rfl := Option.some.inj H
          have hnb35 := NB162_163.out
          have hnc35 := NB163_162.out
          obtain ⟨hcz36_0, hcz36_1, hcz36_2, hcz36_3, hcz36_4, hcz36_5, hfz36_0, hfz36_1, hfz36_2, hfz36_3, hfz36_4, hfz36_5⟩ := cl6 BK162.out
          go_wp2
          go_ret
          exact ⟨by first|rfl|(simp<;>rfl)|(simp [*]<;>rfl), by repeat with_reducible first|exact HB.out|apply ba|apply bN|apply bd|refine below_set ?_ GE162.out|refine below_set ?_ GE163.out⟩
end Go.Proofs.YtahjkibjcibpgaaGreatDoor.PTr
end
section
namespace Go.Proofs.YtahjkibjcibpgaaGreatDoor.L
open Go.RowKit Go.Shelf Go.Lib Go.Proofs.YtahjkibjcibpgaaGreatDoor.U
open Go.Proofs.YtahjkibjcibpgaaGreatDoorW Go.Proofs.YtahjkibjcibpgaaGreatDoorW.PrintWords Go.Proofs.YtahjkibjcibpgaaGreatDoorW.PrintLast
attribute [local go_sem] Oper.semAt_some
set_option maxRecDepth 100000 in
set_option maxHeartbeats 4000000 in
theorem reads_long (s : ByteArray) (hb0 : decide (2000 < (s.size : Int)) = true) (w : World) (HG : Hid (UW w)) : Calls Tryz.prog 4 #[.string s] w fun e w' => e = .returned (.bool true) ∧ Below w.heap.size w w' := by
  go_enter Tryz.func4, Tryz.ntmps4
  go_wp2_with ((go_at_call 8; go_loud (refine (Ex.small15.calls true _ HG.out rfl).mono ?_; rintro e w1 ⟨rfl, hb⟩; have D1 := Lib.hid hb; clear hb)))
  go_ret
  exact ⟨rfl, D1.out⟩
set_option maxRecDepth 100000 in
set_option maxHeartbeats 4000000 in
theorem reads_err (s : ByteArray) (hb0 : decide (2000 < (s.size : Int)) = false) (e a : Int) (he3 : (e != 0) = true) (hp : Hid (Ex.tree_Parse.f s = some (0, ⟨#[]⟩, 0, 0, 0, [], e, a))) (T : List PTr.S41) (f p : Int) (hsc : Hid (Ex.lex_Scan.f s = some (T, f, p))) (w : World) (HG : Hid (UW w)) : Calls Tryz.prog 4 #[.string s] w fun e w' => e = .returned (.bool true) ∧ Below w.heap.size w w' := by
  go_enter Tryz.func4, Tryz.ntmps4
  go_upto_region 2 with ((go_at_call 8; go_loud (refine (Ex.small15.calls true _ HG.out rfl).mono ?_; rintro e w1 ⟨rfl, hb⟩; have D1 := Lib.hid hb; clear hb)))
  go_upto_region 5 with ((go_at_call 12; go_loud (refine (Ex.tree_Parse.calls s 0 ⟨#[]⟩ 0 0 0 ([] : List PTr.S26) e a _ (HG.out.step D1.out) hp.out).mono ?_; rintro e w2 ⟨v0, rfl, hR, hb⟩; have D2 := Lib.hid (below_step D1.out hb); have Ra := Lib.hid hR; obtain ⟨Aa, ca, ev⟩ := Kd.R_slice hR; subst ev; have Ka := Lib.hid (blk_new w2 (.cells #[.int .i64 0, .string (⟨#[]⟩ : ByteArray), .int .i64 0, .int .i64 0, .int .i64 0, .slice Aa ([] : List PTr.S26).length ca] 26)); clear hR; clear hb)))
  have hA := below_alloc (Below.refl w2.heap.size w2) (.cells #[.int .i64 0, .string (⟨#[]⟩ : ByteArray), .int .i64 0, .int .i64 0, .int .i64 0, .slice Aa ([] : List PTr.S26).length ca] 26)
  have D3 := Lib.hid (below_step D2.out hA)
  have La := Lib.hid (Kd.C_below (Kd.R_reads' Ra.out).2.2 hA)
  have hca := Lib.hid (Kd.R_reads' Ra.out).2.1
  clear hA Ra
  have ka := Ka.out
  clear Ka
  generalize w2.alloc (.cells #[.int .i64 0, .string (⟨#[]⟩ : ByteArray), .int .i64 0, .int .i64 0, .int .i64 0, .slice Aa ([] : List PTr.S26).length ca] 26) = Xa at *
  generalize w2.heap.size = ba at *
  have an0 : Xa.cell? ⟨ba, 0, none⟩ = some (.int .i64 0) := blk_cell ka 0
  have an1 : Xa.cell? ⟨ba, 1, none⟩ = some (.string ⟨#[]⟩) := blk_cell ka 1
  have an2 : Xa.cell? ⟨ba, 2, none⟩ = some (.int .i64 0) := blk_cell ka 2
  have an3 : Xa.cell? ⟨ba, 3, none⟩ = some (.int .i64 0) := blk_cell ka 3
  have an4 : Xa.cell? ⟨ba, 4, none⟩ = some (.int .i64 0) := blk_cell ka 4
  have an5 : Xa.cell? ⟨ba, 5, none⟩ = some (.slice Aa ([] : List PTr.S26).length ca) := blk_cell ka 5
  clear ka
  go_wp2_with ((go_at_call 14; go_loud (refine (Ex.lex_Scan.calls s T f p _ (HG.out.step D3.out) hsc.out).mono ?_; rintro e w3 ⟨v0, rfl, hR, hb⟩; have D4 := Lib.hid (below_step D3.out hb); replace an0 := pw_cell_below hb an0; replace an1 := pw_cell_below hb an1; replace an2 := pw_cell_below hb an2; replace an3 := pw_cell_below hb an3; replace an4 := pw_cell_below hb an4; replace an5 := pw_cell_below hb an5; replace La := Lib.hid (Kd.C_below La.out hb); have Rt := Lib.hid hR; obtain ⟨At, ct, ev⟩ := Kd.R_slice hR; subst ev; clear hR; clear hb)))
  go_ret
  exact ⟨rfl, D4.out⟩
set_option maxRecDepth 100000 in
set_option maxHeartbeats 4000000 in
theorem reads_all (s : ByteArray) (hb0 : decide (2000 < (s.size : Int)) = false) (k : Nat) (l l2 l3 : List PTr.S26) (T : List PTr.S41) (x y : ByteArray) (hp : Hid (Ex.tree_Parse.f s = some (0, ⟨#[]⟩, 0, 0, 0, l, 0, 0))) (hsc : Hid (Ex.lex_Scan.f s = some (T, 0, 0))) (hlx : Hid (PTr.lex_Write.f k T = some x)) (hp2 : Hid (Ex.tree_Parse.f x = some (0, ⟨#[]⟩, 0, 0, 0, l2, 0, 0))) (hwf : Hid (Ex.tree_Write.f 0 ⟨#[]⟩ 0 0 0 l = some y)) (hp3 : Hid (Ex.tree_Parse.f y = some (0, ⟨#[]⟩, 0, 0, 0, l3, 0, 0))) (hr : Hid (PTr.tree_Right.f k 0 ⟨#[]⟩ 0 0 0 l = some true)) (hs2 : Hid (PTr.bournelaw15_same.f k 0 ⟨#[]⟩ 0 0 0 l 0 ⟨#[]⟩ 0 0 0 l2 = some true)) (hs3 : Hid (PTr.bournelaw15_same.f k 0 ⟨#[]⟩ 0 0 0 l 0 ⟨#[]⟩ 0 0 0 l3 = some true)) (w : World) (HG : Hid (UW w)) : Calls Tryz.prog 4 #[.string s] w fun e w' => e = .returned (.bool true) ∧ Below w.heap.size w w' := by
  go_enter Tryz.func4, Tryz.ntmps4
  go_upto_region 2 with ((go_at_call 8; go_loud (refine (Ex.small15.calls true _ HG.out rfl).mono ?_; rintro e w1 ⟨rfl, hb⟩; have D1 := Lib.hid hb; clear hb)))
  go_upto_region 5 with ((go_at_call 12; go_loud (refine (Ex.tree_Parse.calls s 0 ⟨#[]⟩ 0 0 0 l 0 0 _ (HG.out.step D1.out) hp.out).mono ?_; rintro e w2 ⟨v0, rfl, hR, hb⟩; have D2 := Lib.hid (below_step D1.out hb); have Ra := Lib.hid hR; obtain ⟨Aa, ca, ev⟩ := Kd.R_slice hR; subst ev; have Ka := Lib.hid (blk_new w2 (.cells #[.int .i64 0, .string (⟨#[]⟩ : ByteArray), .int .i64 0, .int .i64 0, .int .i64 0, .slice Aa l.length ca] 26)); clear hR; clear hb)))
  have hA := below_alloc (Below.refl w2.heap.size w2) (.cells #[.int .i64 0, .string (⟨#[]⟩ : ByteArray), .int .i64 0, .int .i64 0, .int .i64 0, .slice Aa l.length ca] 26)
  have D3 := Lib.hid (below_step D2.out hA)
  have La := Lib.hid (Kd.C_below (Kd.R_reads' Ra.out).2.2 hA)
  have hca := Lib.hid (Kd.R_reads' Ra.out).2.1
  clear hA Ra
  have ka := Ka.out
  clear Ka
  generalize w2.alloc (.cells #[.int .i64 0, .string (⟨#[]⟩ : ByteArray), .int .i64 0, .int .i64 0, .int .i64 0, .slice Aa l.length ca] 26) = Xa at *
  generalize w2.heap.size = ba at *
  have an0 : Xa.cell? ⟨ba, 0, none⟩ = some (.int .i64 0) := blk_cell ka 0
  have an1 : Xa.cell? ⟨ba, 1, none⟩ = some (.string ⟨#[]⟩) := blk_cell ka 1
  have an2 : Xa.cell? ⟨ba, 2, none⟩ = some (.int .i64 0) := blk_cell ka 2
  have an3 : Xa.cell? ⟨ba, 3, none⟩ = some (.int .i64 0) := blk_cell ka 3
  have an4 : Xa.cell? ⟨ba, 4, none⟩ = some (.int .i64 0) := blk_cell ka 4
  have an5 : Xa.cell? ⟨ba, 5, none⟩ = some (.slice Aa l.length ca) := blk_cell ka 5
  clear ka
  go_upto_region 6 with ((go_at_call 14; go_loud (refine (Ex.lex_Scan.calls s T 0 0 _ (HG.out.step D3.out) hsc.out).mono ?_; rintro e w3 ⟨v0, rfl, hR, hb⟩; have D4 := Lib.hid (below_step D3.out hb); replace an0 := pw_cell_below hb an0; replace an1 := pw_cell_below hb an1; replace an2 := pw_cell_below hb an2; replace an3 := pw_cell_below hb an3; replace an4 := pw_cell_below hb an4; replace an5 := pw_cell_below hb an5; replace La := Lib.hid (Kd.C_below La.out hb); have Rt := Lib.hid hR; obtain ⟨At, ct, ev⟩ := Kd.R_slice hR; subst ev; clear hR; clear hb)))
  have Lt := Lib.hid (Kd.R_reads' Rt.out).2.2
  have hct := Lib.hid (Kd.R_reads' Rt.out).2.1
  clear Rt
  go_upto_region 9 with (first | (go_at_call 15; go_loud (refine (PTr.lex_Write.calls k At ct T x _ (HG.out.step D4.out) Lt.out hct.out hlx.out).mono ?_; rintro e w4 ⟨rfl, hb⟩; have D5 := Lib.hid (below_step D4.out hb); replace an0 := pw_cell_below hb an0; replace an1 := pw_cell_below hb an1; replace an2 := pw_cell_below hb an2; replace an3 := pw_cell_below hb an3; replace an4 := pw_cell_below hb an4; replace an5 := pw_cell_below hb an5; replace La := Lib.hid (Kd.C_below La.out hb); replace Lt := Lib.hid (Kd.C_below Lt.out hb); clear hb)) | (go_at_call 12; go_loud (refine (Ex.tree_Parse.calls x 0 ⟨#[]⟩ 0 0 0 l2 0 0 _ (HG.out.step D5.out) hp2.out).mono ?_; rintro e w5 ⟨v0, rfl, hR, hb⟩; have D6 := Lib.hid (below_step D5.out hb); replace an0 := pw_cell_below hb an0; replace an1 := pw_cell_below hb an1; replace an2 := pw_cell_below hb an2; replace an3 := pw_cell_below hb an3; replace an4 := pw_cell_below hb an4; replace an5 := pw_cell_below hb an5; replace La := Lib.hid (Kd.C_below La.out hb); replace Lt := Lib.hid (Kd.C_below Lt.out hb); have Rc := Lib.hid hR; obtain ⟨Ac, cc, ev⟩ := Kd.R_slice hR; subst ev; have Kc := Lib.hid (blk_new w5 (.cells #[.int .i64 0, .string (⟨#[]⟩ : ByteArray), .int .i64 0, .int .i64 0, .int .i64 0, .slice Ac l2.length cc] 26)); clear hR; clear hb)))
  have hA := below_alloc (Below.refl w5.heap.size w5) (.cells #[.int .i64 0, .string (⟨#[]⟩ : ByteArray), .int .i64 0, .int .i64 0, .int .i64 0, .slice Ac l2.length cc] 26)
  replace an0 := pw_cell_below hA an0
  replace an1 := pw_cell_below hA an1
  replace an2 := pw_cell_below hA an2
  replace an3 := pw_cell_below hA an3
  replace an4 := pw_cell_below hA an4
  replace an5 := pw_cell_below hA an5
  replace La := Lib.hid (Kd.C_below La.out hA)
  replace Lt := Lib.hid (Kd.C_below Lt.out hA)
  have D7 := Lib.hid (below_step D6.out hA)
  have Lc := Lib.hid (Kd.C_below (Kd.R_reads' Rc.out).2.2 hA)
  have hcc := Lib.hid (Kd.R_reads' Rc.out).2.1
  clear hA Rc
  have kc := Kc.out
  clear Kc
  generalize w5.alloc (.cells #[.int .i64 0, .string (⟨#[]⟩ : ByteArray), .int .i64 0, .int .i64 0, .int .i64 0, .slice Ac l2.length cc] 26) = Xc at *
  generalize w5.heap.size = bc at *
  have cn0 : Xc.cell? ⟨bc, 0, none⟩ = some (.int .i64 0) := blk_cell kc 0
  have cn1 : Xc.cell? ⟨bc, 1, none⟩ = some (.string ⟨#[]⟩) := blk_cell kc 1
  have cn2 : Xc.cell? ⟨bc, 2, none⟩ = some (.int .i64 0) := blk_cell kc 2
  have cn3 : Xc.cell? ⟨bc, 3, none⟩ = some (.int .i64 0) := blk_cell kc 3
  have cn4 : Xc.cell? ⟨bc, 4, none⟩ = some (.int .i64 0) := blk_cell kc 4
  have cn5 : Xc.cell? ⟨bc, 5, none⟩ = some (.slice Ac l2.length cc) := blk_cell kc 5
  clear kc
  go_upto_region 10 with (first | (go_at_call 10; go_loud (refine (Ex.tree_Write.calls 0 ⟨#[]⟩ 0 0 0 Aa ca l y _ (HG.out.step D7.out) La.out hca.out hwf.out).mono ?_; rintro e w6 ⟨rfl, hb⟩; have D8 := Lib.hid (below_step D7.out hb); replace an0 := pw_cell_below hb an0; replace an1 := pw_cell_below hb an1; replace an2 := pw_cell_below hb an2; replace an3 := pw_cell_below hb an3; replace an4 := pw_cell_below hb an4; replace an5 := pw_cell_below hb an5; replace cn0 := pw_cell_below hb cn0; replace cn1 := pw_cell_below hb cn1; replace cn2 := pw_cell_below hb cn2; replace cn3 := pw_cell_below hb cn3; replace cn4 := pw_cell_below hb cn4; replace cn5 := pw_cell_below hb cn5; replace La := Lib.hid (Kd.C_below La.out hb); replace Lt := Lib.hid (Kd.C_below Lt.out hb); replace Lc := Lib.hid (Kd.C_below Lc.out hb); clear hb)) | (go_at_call 12; go_loud (refine (Ex.tree_Parse.calls y 0 ⟨#[]⟩ 0 0 0 l3 0 0 _ (HG.out.step D8.out) hp3.out).mono ?_; rintro e w7 ⟨v0, rfl, hR, hb⟩; have D9 := Lib.hid (below_step D8.out hb); replace an0 := pw_cell_below hb an0; replace an1 := pw_cell_below hb an1; replace an2 := pw_cell_below hb an2; replace an3 := pw_cell_below hb an3; replace an4 := pw_cell_below hb an4; replace an5 := pw_cell_below hb an5; replace cn0 := pw_cell_below hb cn0; replace cn1 := pw_cell_below hb cn1; replace cn2 := pw_cell_below hb cn2; replace cn3 := pw_cell_below hb cn3; replace cn4 := pw_cell_below hb cn4; replace cn5 := pw_cell_below hb cn5; replace La := Lib.hid (Kd.C_below La.out hb); replace Lt := Lib.hid (Kd.C_below Lt.out hb); replace Lc := Lib.hid (Kd.C_below Lc.out hb); have Rz := Lib.hid hR; obtain ⟨Az, cz, ev⟩ := Kd.R_slice hR; subst ev; have Kz := Lib.hid (blk_new w7 (.cells #[.int .i64 0, .string (⟨#[]⟩ : ByteArray), .int .i64 0, .int .i64 0, .int .i64 0, .slice Az l3.length cz] 26)); clear hR; clear hb)))
  have hA := below_alloc (Below.refl w7.heap.size w7) (.cells #[.int .i64 0, .string (⟨#[]⟩ : ByteArray), .int .i64 0, .int .i64 0, .int .i64 0, .slice Az l3.length cz] 26)
  replace an0 := pw_cell_below hA an0
  replace an1 := pw_cell_below hA an1
  replace an2 := pw_cell_below hA an2
  replace an3 := pw_cell_below hA an3
  replace an4 := pw_cell_below hA an4
  replace an5 := pw_cell_below hA an5
  replace cn0 := pw_cell_below hA cn0
  replace cn1 := pw_cell_below hA cn1
  replace cn2 := pw_cell_below hA cn2
  replace cn3 := pw_cell_below hA cn3
  replace cn4 := pw_cell_below hA cn4
  replace cn5 := pw_cell_below hA cn5
  replace La := Lib.hid (Kd.C_below La.out hA)
  replace Lt := Lib.hid (Kd.C_below Lt.out hA)
  replace Lc := Lib.hid (Kd.C_below Lc.out hA)
  have D10 := Lib.hid (below_step D9.out hA)
  have Lz := Lib.hid (Kd.C_below (Kd.R_reads' Rz.out).2.2 hA)
  have hcz := Lib.hid (Kd.R_reads' Rz.out).2.1
  clear hA Rz
  have kz := Kz.out
  clear Kz
  generalize w7.alloc (.cells #[.int .i64 0, .string (⟨#[]⟩ : ByteArray), .int .i64 0, .int .i64 0, .int .i64 0, .slice Az l3.length cz] 26) = Xz at *
  generalize w7.heap.size = bz at *
  have zn0 : Xz.cell? ⟨bz, 0, none⟩ = some (.int .i64 0) := blk_cell kz 0
  have zn1 : Xz.cell? ⟨bz, 1, none⟩ = some (.string ⟨#[]⟩) := blk_cell kz 1
  have zn2 : Xz.cell? ⟨bz, 2, none⟩ = some (.int .i64 0) := blk_cell kz 2
  have zn3 : Xz.cell? ⟨bz, 3, none⟩ = some (.int .i64 0) := blk_cell kz 3
  have zn4 : Xz.cell? ⟨bz, 4, none⟩ = some (.int .i64 0) := blk_cell kz 4
  have zn5 : Xz.cell? ⟨bz, 5, none⟩ = some (.slice Az l3.length cz) := blk_cell kz 5
  clear kz
  have tok1 : True := trivial
  go_wp2_with (first | (go_at_call 11; go_loud (refine (PTr.tree_Right.calls k 0 ⟨#[]⟩ 0 0 0 Aa ca l true _ (HG.out.step D10.out) La.out hca.out hr.out).mono ?_; rintro e w8 ⟨rfl, hb⟩; have D11 := Lib.hid (below_step D10.out hb); replace an0 := pw_cell_below hb an0; replace an1 := pw_cell_below hb an1; replace an2 := pw_cell_below hb an2; replace an3 := pw_cell_below hb an3; replace an4 := pw_cell_below hb an4; replace an5 := pw_cell_below hb an5; replace cn0 := pw_cell_below hb cn0; replace cn1 := pw_cell_below hb cn1; replace cn2 := pw_cell_below hb cn2; replace cn3 := pw_cell_below hb cn3; replace cn4 := pw_cell_below hb cn4; replace cn5 := pw_cell_below hb cn5; replace zn0 := pw_cell_below hb zn0; replace zn1 := pw_cell_below hb zn1; replace zn2 := pw_cell_below hb zn2; replace zn3 := pw_cell_below hb zn3; replace zn4 := pw_cell_below hb zn4; replace zn5 := pw_cell_below hb zn5; replace La := Lib.hid (Kd.C_below La.out hb); replace Lt := Lib.hid (Kd.C_below Lt.out hb); replace Lc := Lib.hid (Kd.C_below Lc.out hb); replace Lz := Lib.hid (Kd.C_below Lz.out hb); clear hb)) | (go_at_call 13; have _t := tok1; go_loud (refine (PTr.bournelaw15_same.calls k 0 ⟨#[]⟩ 0 0 0 Aa ca l 0 ⟨#[]⟩ 0 0 0 Ac cc l2 true _ La.out hca.out Lc.out hcc.out hs2.out).mono ?_; rintro e w9 ⟨rfl, hb⟩; have D12 := Lib.hid (below_step D11.out hb); replace an0 := pw_cell_below hb an0; replace an1 := pw_cell_below hb an1; replace an2 := pw_cell_below hb an2; replace an3 := pw_cell_below hb an3; replace an4 := pw_cell_below hb an4; replace an5 := pw_cell_below hb an5; replace cn0 := pw_cell_below hb cn0; replace cn1 := pw_cell_below hb cn1; replace cn2 := pw_cell_below hb cn2; replace cn3 := pw_cell_below hb cn3; replace cn4 := pw_cell_below hb cn4; replace cn5 := pw_cell_below hb cn5; replace zn0 := pw_cell_below hb zn0; replace zn1 := pw_cell_below hb zn1; replace zn2 := pw_cell_below hb zn2; replace zn3 := pw_cell_below hb zn3; replace zn4 := pw_cell_below hb zn4; replace zn5 := pw_cell_below hb zn5; replace La := Lib.hid (Kd.C_below La.out hb); replace Lt := Lib.hid (Kd.C_below Lt.out hb); replace Lc := Lib.hid (Kd.C_below Lc.out hb); replace Lz := Lib.hid (Kd.C_below Lz.out hb); clear tok1; clear hb)) | (go_at_call 13; go_loud (refine (PTr.bournelaw15_same.calls k 0 ⟨#[]⟩ 0 0 0 Aa ca l 0 ⟨#[]⟩ 0 0 0 Az cz l3 true _ La.out hca.out Lz.out hcz.out hs3.out).mono ?_; rintro e w10 ⟨rfl, hb⟩; have D13 := Lib.hid (below_step D12.out hb); replace an0 := pw_cell_below hb an0; replace an1 := pw_cell_below hb an1; replace an2 := pw_cell_below hb an2; replace an3 := pw_cell_below hb an3; replace an4 := pw_cell_below hb an4; replace an5 := pw_cell_below hb an5; replace cn0 := pw_cell_below hb cn0; replace cn1 := pw_cell_below hb cn1; replace cn2 := pw_cell_below hb cn2; replace cn3 := pw_cell_below hb cn3; replace cn4 := pw_cell_below hb cn4; replace cn5 := pw_cell_below hb cn5; replace zn0 := pw_cell_below hb zn0; replace zn1 := pw_cell_below hb zn1; replace zn2 := pw_cell_below hb zn2; replace zn3 := pw_cell_below hb zn3; replace zn4 := pw_cell_below hb zn4; replace zn5 := pw_cell_below hb zn5; replace La := Lib.hid (Kd.C_below La.out hb); replace Lt := Lib.hid (Kd.C_below Lt.out hb); replace Lc := Lib.hid (Kd.C_below Lc.out hb); replace Lz := Lib.hid (Kd.C_below Lz.out hb); clear hb)))
  go_ret
  exact ⟨rfl, D13.out⟩
end Go.Proofs.YtahjkibjcibpgaaGreatDoor.L
end
