/- From what a row lists to what the walks of the layer unit ask of the world; the frame of a row. -/
import Derived.Test.YtahjkibjcibpgaaDoorCards
import Derived.Test.YtahjkibjcibpgaaDoorTie
import Derived.Test.YtahjkibjcibpgaaDoorUnWalkA
import Derived.ProofKit
import Derived.OpenShut
import Derived.ShutString
import Derived.SizedLaws
import Derived.MakeChecks
import Derived.Lay
import Derived.LaidMore
import Derived.Lib.LaidU8
import Derived.Stop.LaidErr
import Derived.Shelf.Vars
import Derived.Deep.DeepHandedRow
import Derived.SevenTiedAt
namespace Go.Proofs.YtahjkibjcibpgaaDoor.U
open Go.ChangeShapes Go.WideShapes Go.ChangeAt Go.RowKit

theorem own : ownKnob Tryd.prog.godebug = none := by kernel_rfl

theorem heap_of_var {P : Program} {W : World} {n : String} {g : Nat} {cs : Array Value} (hg : P.globalNamed n = some g) (h : W.var? P n = some cs) : ∃ t fr, W.heap[g]? = some (.cells cs t fr) := by
  unfold World.var? at h
  simp only [hg, Option.bind_some] at h
  split at h
  · rename_i c t fr he
    have := Option.some.inj h
    subst this
    exact ⟨t, fr, he⟩
  · cases h

/-- a struct of a string and three integers that reads as these holds them, cell for cell -/
theorem struct4 {fuel : Nat} {P : Program} {w : World} {base : Nat} {sp : Nat → Bool} {held : Bool} {t : TypeId} {f0 f1 f2 f3 : Field} {k1 k2 k3 : IntKind} {cs : List Value} {s : List UInt8} {a b c : Int} {p : List MemPlace}
    (ht : P.underlying t = some (.struct #[f0, f1, f2, f3])) (h0 : P.underlying f0.type = some .string) (h1 : P.underlying f1.type = some (.int k1)) (h2 : P.underlying f2.type = some (.int k2)) (h3 : P.underlying f3.type = some (.int k3))
    (ho : f0.offset = 0 ∧ f1.offset = 1 ∧ f2.offset = 2 ∧ f3.offset = 3) (hc : P.cellsOf f0.type = 1 ∧ P.cellsOf f1.type = 1 ∧ P.cellsOf f2.type = 1 ∧ P.cellsOf f3.type = 1) (hct : P.cellsOf t = 4)
    (h : DataW.trod (fun _ => ()) P w base sp held fuel t cs = some (.agg [.lit (.string s), .lit (.int k1 a), .lit (.int k2 b), .lit (.int k3 c)], p)) :
    cs = [Value.string ⟨s.toArray⟩, .int k1 a, .int k2 b, .int k3 c] := by
  obtain ⟨xs, n, rfl, hx, hl, hxl, hall⟩ := DataW.trod_struct ht h
  rw [hct] at hl
  obtain ⟨c0, c1, c2, c3, rfl⟩ : ∃ c0 c1 c2 c3, cs = [c0, c1, c2, c3] := by
    match cs, hl with
    | [a, b, c, d], _ => exact ⟨a, b, c, d, rfl⟩
  obtain ⟨x0, x1, x2, x3, rfl⟩ : ∃ x0 x1 x2 x3, xs = [x0, x1, x2, x3] := by
    match xs, hxl with
    | [a, b, c, d], _ => exact ⟨a, b, c, d, rfl⟩
  obtain ⟨o0, o1, o2, o3⟩ := ho
  obtain ⟨e0, e1, e2, e3⟩ := hc
  have g0 := hall 0 f0 rfl
  have g1 := hall 1 f1 rfl
  have g2 := hall 2 f2 rfl
  have g3 := hall 3 f3 rfl
  rw [o0, e0] at g0
  rw [o1, e1] at g1
  rw [o2, e2] at g2
  rw [o3, e3] at g3
  obtain ⟨s', i0, j0, _⟩ := DataW.trod_string h0 g0
  obtain ⟨n1, i1, j1, _⟩ := DataW.trod_int h1 g1
  obtain ⟨n2, i2, j2, _⟩ := DataW.trod_int h2 g2
  obtain ⟨n3, i3, j3, _⟩ := DataW.trod_int h3 g3
  simp at i0 i1 i2 i3 hx
  obtain ⟨⟨k0, k1, k2, k3⟩, _⟩ := hx
  subst j0 j1 j2 j3
  simp at k0 k1 k2 k3
  subst i0 i1 i2 i3 k1 k2 k3
  subst k0
  rfl

def rowOf (u : List UInt8 × Nat × Nat × Nat) : List Value := [Value.string ⟨u.1.toArray⟩, .int .i64 (u.2.1 : Nat), .int .u64 (u.2.2.1 : Nat), .int .u64 (u.2.2.2 : Nat)]
def dataOf (u : List UInt8 × Nat × Nat × Nat) : DataW Unit := .agg [.lit (.string u.1), .lit (.int .i64 (u.2.1 : Nat)), .lit (.int .u64 (u.2.2.1 : Nat)), .lit (.int .u64 (u.2.2.2 : Nat))]
theorem flat4 (us : List (List UInt8 × Nat × Nat × Nat)) : ∀ cs : List Value, cs.length = 4 * us.length → (∀ i u, us[i]? = some u → (cs.drop (i * 4)).take 4 = rowOf u) → cs = us.flatMap rowOf := by
  induction us with
  | nil => intro cs h _; simpa using h
  | cons u r ih =>
    intro cs hl h
    have h0 := h 0 u rfl
    have h1 := ih (cs.drop 4) (by simp at hl ⊢; omega) (fun i v hv => by
      have := h (i + 1) v (by simpa using hv)
      rw [List.drop_drop]
      rw [show 4 + i * 4 = (i + 1) * 4 by omega]
      exact this)
    rw [List.flatMap_cons, ← h1, ← h0]
    simp
theorem units_data : (Rows.laid_bourne_unit_units : DataW Unit) = .agg (units.map dataOf) := rfl
theorem units_of {W : World} (h : Lib.VarReads Tryd.prog W "bourne/unit.units" Rows.laid_bourne_unit_units) : ∃ t fr, W.heap[0]? = some (.cells unitCells t fr) := by
  obtain ⟨g, t, cs, fuel, p, hg, hty, hvar, hd⟩ := h
  obtain rfl := Option.some.inj ((show Tryd.prog.globalNamed "bourne/unit.units" = some 0 by kernel_rfl).symm.trans hg)
  obtain rfl := Option.some.inj ((show (Tryd.prog.globals[0]?).map (·.type) = some 50 by kernel_rfl).symm.trans hty)
  have hu : Tryd.prog.underlying 50 = some (.array 19 49) := by kernel_rfl
  have hc4 : Tryd.prog.cellsOf 49 = 4 := by kernel_rfl
  rw [units_data] at hd
  have hlen : cs.toList.length = 76 := by
    have h76 : Tryd.prog.cellsOf 50 = 76 := by kernel_rfl
    obtain ⟨xs, m, _, _, hl, _, _⟩ := DataW.trod_array hu hd
    rw [h76] at hl
    exact hl
  have hcs : cs.toList = units.flatMap rowOf := by
    refine flat4 units cs.toList (by rw [hlen]; rfl) fun i u hi => ?_
    have hi19 : i < 19 := by
      have := (List.getElem?_eq_some_iff.1 hi).1
      exact this
    obtain ⟨f', d, q, hds, hr⟩ := Lib.array_elem hu hd i hi19
    rw [hc4] at hr
    rw [List.getElem?_map, hi] at hds
    have := Option.some.inj hds
    subst this
    exact struct4 Tryd.underlying49 (by kernel_rfl) (by kernel_rfl) (by kernel_rfl) (by kernel_rfl) ⟨rfl, rfl, rfl, rfl⟩ ⟨by kernel_rfl, by kernel_rfl, by kernel_rfl, by kernel_rfl⟩ hc4 hr
  have hcells : cs = unitCells := by
    apply Array.toList_inj.1
    rw [hcs]
    unfold unitCells
    rw [List.flatMap_def]
    rfl
  subst hcells
  exact heap_of_var hg hvar

theorem uw_of {W : World} (hu : Lib.VarReads Tryd.prog W "bourne/unit.units" Rows.laid_bourne_unit_units) (he : Lib.VarReads Tryd.prog W "strconv.ErrRange" Rows.laid_strconv_ErrRange)
    (hp : Lib.VarReads Tryd.prog W "internal/strconv.uint64pow10" Rows.laid_internal_strconv_uint64pow10) (hs : W.ShapedOpen Tryd.prog) : UW W := by
  refine ⟨units_of hu, ?_, ?_, ?_⟩
  · exact cell_of_shapedOpen_int (zero := #[.int .i64 0]) (t := 3) hs (of_decide_eq_true (by kernel_rfl)) (by kernel_rfl) rfl (by kernel_rfl) (by kernel_rfl) (by kernel_rfl)
  · obtain ⟨g, t, cs, fuel, p, hg, hty, hvar, hd⟩ := he
    obtain rfl := Option.some.inj ((show Tryd.prog.globalNamed "strconv.ErrRange" = some 8 by kernel_rfl).symm.trans hg)
    obtain rfl := Option.some.inj ((show (Tryd.prog.globals[8]?).map (·.type) = some 74 by kernel_rfl).symm.trans hty)
    obtain ⟨f', u, v, e, _, _⟩ := iface_of_trod Tryd.underlying74 hd
    have := World.var?_cell hg hvar 0
    rw [Array.eq_one_of_toList e] at this
    exact ⟨u, v, by simpa using this⟩
  · obtain ⟨g, t, cs, fuel, p, hg, hty, hvar, hd⟩ := hp
    obtain rfl := Option.some.inj ((show Tryd.prog.globalNamed "internal/strconv.uint64pow10" = some 4 by kernel_rfl).symm.trans hg)
    obtain rfl := Option.some.inj ((show (Tryd.prog.globals[4]?).map (·.type) = some 102 by kernel_rfl).symm.trans hty)
    have hd2 : DataW.trod (fun _ => ()) Tryd.prog W 0 (fun _ => true) false fuel 102 cs.toList = some (Lib.tabData .u64 Lib.pow10Tab, p) := hd
    have := Lib.cells_of_tab (n := 20) (e := 47) (by kernel_rfl) (by kernel_rfl) (by kernel_rfl) (by kernel_rfl) hd2
    unfold Lib.TabIs
    rw [hvar, ← this]
end Go.Proofs.YtahjkibjcibpgaaDoor.U
