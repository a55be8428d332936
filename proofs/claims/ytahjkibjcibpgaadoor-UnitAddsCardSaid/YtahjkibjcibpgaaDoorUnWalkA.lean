/- What the package variables hold that the layer unit reads; unit.digits and unit.value, walked. -/
import Derived.Test.YtahjkibjcibpgaaDoorUnPlain
import Derived.Test.YtahjkibjcibpgaaDoorShelf
import Derived.WalkKit
import Derived.BigQuiet
import Derived.Lib.Hide
import Derived.Lib.SmallJoins
import Derived.Laws.Rows
import Derived.Laws.Externs
namespace Go.Proofs.YtahjkibjcibpgaaDoor.U
open Go.RowKit Go.Shelf Go.Lib

def unitCells : Array Value := ((units.map fun u => [Value.string ⟨u.1.toArray⟩, .int .i64 (u.2.1 : Nat), .int .u64 (u.2.2.1 : Nat), .int .u64 (u.2.2.2 : Nat)]).flatten).toArray

/-- what the package variables hold -/
structure UW (w : World) : Prop where
  units : ∃ t fr, w.heap[0]? = some (.cells unitCells t fr)
  most : ∃ m, w.cell? ⟨3, 0, none⟩ = some (.int .i64 m)
  err : ∃ tp p, w.cell? ⟨8, 0, none⟩ = some (.iface tp p)
  pow : Lib.TabIs Tryd.prog w "internal/strconv.uint64pow10" .u64 Lib.pow10Tab

theorem lt_of_heap {w : World} {g : Nat} {o : Obj} (h : w.heap[g]? = some o) : g < w.heap.size := (Array.getElem?_eq_some_iff.1 h).1
theorem heap_below {w w' : World} {B g : Nat} {o : Obj} (hb : Below B w w') (hB : w.heap.size ≤ B) (h : w.heap[g]? = some o) : w'.heap[g]? = some o := (hb.block g (Nat.lt_of_lt_of_le (lt_of_heap h) hB)).trans h
theorem cell_below {w w' : World} {B g : Nat} {v : Value} (hb : Below B w w') (hB : w.heap.size ≤ B) (h : w.cell? ⟨g, 0, none⟩ = some v) : w'.cell? ⟨g, 0, none⟩ = some v :=
  (hb.cell (p := ⟨g, 0, none⟩) (Nat.lt_of_lt_of_le (World.block_lt_of_cell? _ _ h) hB)).trans h

theorem UW.below {w w' : World} {B : Nat} (h : UW w) (hb : Below B w w') (hB : w.heap.size ≤ B) : UW w' :=
  ⟨let ⟨t, fr, e⟩ := h.units; ⟨t, fr, heap_below hb hB e⟩, let ⟨m, e⟩ := h.most; ⟨m, cell_below hb hB e⟩, let ⟨t, p, e⟩ := h.err; ⟨t, p, cell_below hb hB e⟩, Joins.tab_stays (g := 4) (by kernel_rfl) h.pow hb hB⟩
theorem UW.step {w w' : World} (h : UW w) (hb : Below w.heap.size w w') : UW w' := h.below hb (Nat.le_refl _)

/-! ### digits -/
theorem data_nil {s : ByteArray} (h : s.data.toList = []) : s = ⟨#[]⟩ := by
  cases s with | mk d => cases d with | mk l => simp at h; subst h; rfl

set_option maxHeartbeats 1000000 in
theorem digits_any (s : ByteArray) (most : Int) (w : World) (hs : s.size ≤ 9223372036854775807) :
    Calls Tryd.prog 20 #[.string s, .int .i64 most] w fun e w' => e = .returned (.bool (digsOk s.data.toList most)) ∧ Below w.heap.size w w' := by
  have hcon := Any.strings_Trim_laid Tryd.lays160 (by kernel_rfl) s ⟨#[48, 49, 50, 51, 52, 53, 54, 55, 56, 57]⟩ w hs (by decide) (ascii_of_all (by decide))
  change Calls Tryd.prog 26 _ _ (fun e w' => e = .returned (.string ⟨(Lib.trimS s.data.toList cs10).toArray⟩) ∧ Below w.heap.size w w') at hcon
  have ht := trim_digits s.data.toList
  have hz : (s.size : Int) = (s.data.toList.length : Int) := by rw [Lib.size_eq]
  unfold digsOk
  generalize Lib.trimS s.data.toList cs10 = r at hcon ht
  by_cases he : s.data.toList = []
  · have he1 : s.toList.isEmpty = true := by rw [Lib.toList_data, he]; rfl
    clear hcon
    go_enter Tryd.func20, Tryd.ntmps20
    go_wp2_with fail
    go_ret
    exact ⟨by rw [he]; rfl, Below.refl _ _⟩
  · have he1 : s.toList.isEmpty = false := by rw [Lib.toList_data]; cases h : s.data.toList with | nil => exact absurd h he | cons _ _ => rfl
    have he2 : s.data.toList.isEmpty = false := by rw [← Lib.toList_data]; exact he1
    rw [he2]
    clear he he2
    by_cases hm : (s.size : Int) ≤ most
    · have hm1 : decide ((s.size : Int) ≤ most) = true := decide_eq_true hm
      rw [hz] at hm
      have hm2 : decide ((s.data.toList.length : Int) ≤ most) = true := decide_eq_true hm
      rw [hm2]
      clear hm hm2 hz
      by_cases hr : r = []
      · subst hr
        rw [show s.data.toList.all isDig = true from ht.1 rfl]
        clear ht
        go_enter Tryd.func20, Tryd.ntmps20
        go_wp2_with (go_at_call 26; refine hcon.mono ?_; rintro e w' ⟨rfl, hB⟩)
        go_ret
        exact ⟨rfl, hB⟩
      · have hr1 : s.data.toList.all isDig = false := by
          cases h : s.data.toList.all isDig with
          | false => rfl
          | true => exact absurd (ht.2 h) hr
        rw [hr1]
        have hr2 : r.isEmpty = false := by cases r with | nil => exact absurd rfl hr | cons _ _ => rfl
        have hr3 : (⟨r.toArray⟩ : ByteArray).toList.isEmpty = false := by rw [Lib.toList_data]; exact hr2
        clear ht hr hr1
        generalize (⟨r.toArray⟩ : ByteArray) = r' at hcon hr3
        clear hr2
        go_enter Tryd.func20, Tryd.ntmps20
        go_wp2_with (go_at_call 26; refine hcon.mono ?_; rintro e w' ⟨rfl, hB⟩)
        go_ret
        exact ⟨rfl, hB⟩
    · have hm1 : decide ((s.size : Int) ≤ most) = false := decide_eq_false hm
      rw [hz] at hm
      have hm2 : decide ((s.data.toList.length : Int) ≤ most) = false := decide_eq_false hm
      rw [hm2]
      clear hm hm2 hz hcon ht
      go_enter Tryd.func20, Tryd.ntmps20
      go_wp2_with fail
      go_ret
      exact ⟨rfl, Below.refl _ _⟩

/-! ### value -/
theorem bytes_below {w w' : World} {t : TypeId} {s : ByteArray} (h : w' = w ∨ w' = Lib.bytesWorld w t s) : Below w.heap.size w w' := by
  rcases h with rfl | rfl
  · exact Below.refl _ _
  · exact Lib.bytesWorld_below _ _ _

theorem value_small (s : ByteArray) (hs : s.size ≤ 281474976710656) (hne : s.data.toList ≠ []) (hd : s.data.toList.all isDig = true) (hv : val s.data.toList ≤ 54043195528445952) (w : World) :
    Calls Tryd.prog 27 #[.string s] w fun e w' => e = .returned (.int .u64 (val s.data.toList : Nat)) ∧ Below w.heap.size w w' := by
  have hp := parse64 s.data.toList hne hd
  rw [if_pos (by omega)] at hp
  have hcon := Tryd.strconv_ParseUint_10_at64_ok s (by omega) _ hp w
  generalize val s.data.toList = v at hcon hv ⊢
  clear hp hd hne
  have h1 : decide ((54043195528445952 : Int) < (v : Int)) = false := decide_eq_false (by omega)
  go_enter Tryd.func27, Tryd.ntmps27
  go_wp2_with (go_at_call 41; refine hcon.mono ?_; rintro e w' ⟨rfl, hB⟩)
  go_ret
  exact ⟨rfl, bytes_below hB⟩

theorem value_mid (s : ByteArray) (hs : s.size ≤ 281474976710656) (hne : s.data.toList ≠ []) (hd : s.data.toList.all isDig = true) (hv : ¬ val s.data.toList ≤ 54043195528445952) (hv2 : val s.data.toList ≤ 18446744073709551615) (w : World) :
    Calls Tryd.prog 27 #[.string s] w fun e w' => e = .returned (.int .u64 54043195528445952) ∧ Below w.heap.size w w' := by
  have hp := parse64 s.data.toList hne hd
  rw [if_pos hv2] at hp
  have hcon := Tryd.strconv_ParseUint_10_at64_ok s (by omega) _ hp w
  generalize val s.data.toList = v at hcon hv hv2
  clear hp hd hne hv2
  have h1 : decide ((54043195528445952 : Int) < (v : Int)) = true := decide_eq_true (by omega)
  go_enter Tryd.func27, Tryd.ntmps27
  go_wp2_with (go_at_call 41; refine hcon.mono ?_; rintro e w' ⟨rfl, hB⟩)
  go_ret
  exact ⟨rfl, bytes_below hB⟩

theorem value_great (s : ByteArray) (hs : s.size ≤ 281474976710656) (hne : s.data.toList ≠ []) (hd : s.data.toList.all isDig = true) (hv : ¬ val s.data.toList ≤ 18446744073709551615) (w : World) (hw : UW w) :
    Calls Tryd.prog 27 #[.string s] w fun e w' => e = .returned (.int .u64 54043195528445952) ∧ Below w.heap.size w w' := by
  have hp := parse64 s.data.toList hne hd
  rw [if_neg hv] at hp
  obtain ⟨tp, p, hc⟩ := hw.err
  have hcon := Tryd.strconv_ParseUint_10_at64_range s hs hp (.iface tp p) w hc (Or.inr ⟨tp, p, rfl⟩)
  clear hp hd hne hv hc
  generalize (18446744073709551615 : Int) = big at hcon
  go_enter Tryd.func27, Tryd.ntmps27
  go_wp2_with (go_at_call 41; refine hcon.mono ?_; rintro e w' ⟨N, rfl, _, _, hB⟩)
  go_ret
  exact ⟨rfl, hB⟩

/-- unit.value at digits -/
theorem value_any (s : ByteArray) (hs : s.size ≤ 281474976710656) (hne : s.data.toList ≠ []) (hd : s.data.toList.all isDig = true) (w : World) (hw : UW w) :
    Calls Tryd.prog 27 #[.string s] w fun e w' => e = .returned (.int .u64 (cap (val s.data.toList) : Nat)) ∧ Below w.heap.size w w' := by
  unfold cap
  by_cases h1 : val s.data.toList ≤ 54043195528445952
  · rw [if_pos h1]; exact value_small s hs hne hd h1 w
  · rw [if_neg h1]
    by_cases h2 : val s.data.toList ≤ 18446744073709551615
    · exact value_mid s hs hne hd h1 h2 w
    · exact value_great s hs hne hd h2 w hw

/-! ### Add64 -/
theorem add64 (x y c : Nat) (hx : x < 18446744073709551616) (hy : y < 18446744073709551616) (hc : c ≤ 1) (w : World) :
    (callFunc 29 #[.int .u64 x, .int .u64 y, .int .u64 c]).run Tryd.prog w =
      .ok (.value (.tuple #[.int .u64 (((x + y + c) % 18446744073709551616 : Nat) : Int), .int .u64 (((x + y + c) / 18446744073709551616 : Nat) : Int)])) w := by
  rw [run_callFunc_extern Tryd.func29 (by kernel_rfl) (by kernel_rfl) (by kernel_rfl) (e := add64Entry) (by kernel_rfl), run_add64 x y c (by omega) (by omega) (by omega) (by omega)]
  simp only [Result.andThen]
  congr 5 <;> omega
end Go.Proofs.YtahjkibjcibpgaaDoor.U
