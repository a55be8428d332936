/- What this claim's texts prove on the way, joined by program (wip/tools/merge.py), without what no text of the claim names. -/
import Derived.Test.YtahjkibjcibpgaaGreatDoorMU0
import Derived.WalkKit
import Derived.BigQuiet
import Derived.Lib.Hide
import Derived.Laws.Rows
import Derived.Laws.Externs
import Derived.Deep.CutBlock
import Derived.Deep.DeepCutAuto
import Derived.Shelf.Strings.SlTrimAscii
import Derived.LoopTactic
import Derived.RangeFuncNested
import Derived.RangeFuncBound
import Derived.RangeFuncCalls
import Derived.RangeFuncLeaves
import Derived.Shelf.Abstract
import Derived.Shelf.RegionOpen
import Derived.OwnWalkIn
import Derived.TacticsInMore
import Derived.LoopNIn
import Derived.LoopIn
import Derived.Stop.LaidErr
import Derived.RangeFuncWrites
import Derived.Lib.Walk
import Derived.Lib.ItoaNum
import Derived.Laws.Bits64b
import Derived.WalkSmall
import Derived.Outline
import Derived.Laws.RangeAny
import Derived.Deep.RegionHeld3
import Derived.Lib.AppendIntMem
import Derived.Lib.ItoaLen
import Derived.Maps.AppendAt
import Derived.DataReads
import Derived.Test.YtahjkibjcibpgaaGreatDoorProg
import Derived.Below
import Derived.Deep.Draws
import Derived.Deep.AppendLies
import Derived.OwnWalk
import Derived.Laws.BytesArg
import Derived.Laws.MakeOwn
import Derived.Laws.OwnMore
import Derived.Deep.OwnRows
import Derived.Tactics
import Derived.Lib.ConvBytes
import Derived.Laws.Slices
import Derived.KernelRfl
import Derived.RowKit3
import Derived.Deep.LoopGhost
import Derived.Deep.QuietTactic
import Derived.WideLaws
import Derived.Lib.AppendStr
import Derived.ArgAppend
import Derived.Laws.IdiomCopy
import Derived.OrdersHeld
import Derived.Laws.BitsLemmas
import Derived.RowKit
section
namespace Go.Proofs.YtahjkibjcibpgaaGreatDoor.U
def num (n : Int) : List UInt8 := Lib.decDigits n.toNat
def bases : List (List UInt8) := [[], [108], [108, 112, 104], [109, 109], [104], [109, 50], [112, 101, 114, 109, 105, 108, 108, 101]]
def base (d : Int) : List UInt8 := bases.getD d.toNat []
end Go.Proofs.YtahjkibjcibpgaaGreatDoor.U
end
section
namespace Go.Proofs.YtahjkibjcibpgaaGreatDoor.L
open Go.Proofs.YtahjkibjcibpgaaGreatDoor.U
abbrev Pcs := List (Nat × List UInt8 × List UInt8)
def gtok (k : Nat) (x : List UInt8) : Prop := okTok (k, x) = true ∧ firstL x = (k, x)
section
variable {T : List PTr.S41}
theorem isP_of {i : Nat} {x : List UInt8} (h : (tokAt T i).f0 = 3) (h2 : (tokAt T i).f1.data.toList = x) : isP T i ⟨x.toArray⟩ = true := by
  unfold isP
  rw [ByteArray.toList_eq, ByteArray.toList_eq, h, h2]
  simp
theorem bytes_ext {a b : ByteArray} (h : a.data.toList = b.data.toList) : a = b := by
  cases a; cases b; exact congrArg ByteArray.mk (Array.toList_inj.1 h)
end
end Go.Proofs.YtahjkibjcibpgaaGreatDoor.L
end
section
namespace Go.Proofs.YtahjkibjcibpgaaGreatDoor.L
open Go.Proofs.YtahjkibjcibpgaaGreatDoor.U
section
variable {T : List PTr.S41}
end
end Go.Proofs.YtahjkibjcibpgaaGreatDoor.L
end
section
namespace Go.Proofs.YtahjkibjcibpgaaGreatDoor.L
open Go.Proofs.YtahjkibjcibpgaaGreatDoor.U
def noeq (r : List UInt8) : Prop := r.head? ≠ some 61
def safe (r : List UInt8) : Prop := out nameB r ∧ r.head? ≠ some 46 ∧ noeq r
theorem safe_bnd {r : List UInt8} (h : safe r) (k : Nat) : bnd k r := by
  refine ⟨fun _ => h.1, fun _ => ⟨fun c hc => ?_, h.2.1⟩, fun _ => h.2.2⟩
  have := h.1 c hc
  unfold nameB at this
  simp only [Bool.or_eq_false_iff] at this
  exact this.1.2
theorem safe_cons (c : UInt8) (r : List UInt8) (h : nameB c = false ∧ c ≠ 46 ∧ c ≠ 61) : safe (c :: r) := by
  refine ⟨fun d hd => ?_, ?_, ?_⟩
  · simp at hd; subst hd; exact h.1
  · simp; exact h.2.1
  · unfold noeq; simp; exact h.2.2
theorem bnd3 {r : List UInt8} (h : noeq r) : bnd 3 r := ⟨fun h => by omega, fun h => by omega, fun _ => h⟩
theorem sp32 : ∀ c ∈ ([32] : List UInt8), cs4.contains c = true := by decide
theorem sp0 : ∀ c ∈ ([] : List UInt8), cs4.contains c = true := by decide
theorem g59 : gtok 3 [59] := by unfold gtok; decide +kernel
theorem g123 : gtok 3 [123] := by unfold gtok; decide +kernel
theorem g125 : gtok 3 [125] := by unfold gtok; decide +kernel
end Go.Proofs.YtahjkibjcibpgaaGreatDoor.L
end
section
namespace Go.Proofs.YtahjkibjcibpgaaGreatDoor.L
open Go.Proofs.YtahjkibjcibpgaaGreatDoor.U
section
variable {T T2 : List PTr.S41} (hs : ∀ i, (tokAt T2 i).f0 = (tokAt T i).f0 ∧ (tokAt T2 i).f1 = (tokAt T i).f1)
include hs
end
def GoodT (T : List PTr.S41) : Prop := ∀ i, ((tokAt T i).f0 = 0 → 0 < i + 1 → (tokAt T i).f1.data.toList ≠ [] → gtok 0 (tokAt T i).f1.data.toList) ∧ ((tokAt T i).f0 = 2 → gtok 2 (34 :: ((tokAt T i).f1.data.toList ++ [34])))
def NameT (T : List PTr.S41) (n : Nat) : Prop := ∀ i, i ≤ n → (tokAt T i).f0 = 0 → (tokAt T i).f1.data.toList ≠ []
section
variable {T : List PTr.S41} {n : Nat} (hE : EndT T n) (hg : GoodT T) (hn : NameT T n)
include hE hg hn
end
end Go.Proofs.YtahjkibjcibpgaaGreatDoor.L
end
section
namespace Go.Proofs.YtahjkibjcibpgaaGreatDoor.L
open Go.RowKit Go.Shelf Go.Lib Go.Proofs.YtahjkibjcibpgaaGreatDoor.U
theorem or32 (c : UInt8) : bits .or .u8 (c.toNat : Int) 32 = (((c ||| 32).toNat : Nat) : Int) := by
  have h : ∀ n : Fin 256, bits .or .u8 ((UInt8.ofNat n.val).toNat : Int) 32 = (((UInt8.ofNat n.val ||| 32).toNat : Nat) : Int) := by decide +kernel
  exact of_all_u8 (fun c => bits .or .u8 (c.toNat : Int) 32 = (((c ||| 32).toNat : Nat) : Int)) h c
theorem letter_any (c : UInt8) (w : World) : Calls Tryz.prog 61 #[.int .u8 (c.toNat : Int)] w fun e w' => e = .returned (.bool (letterB c)) ∧ w' = w := by
  have hb := or32 c
  unfold letterB
  generalize (c ||| 32).toNat = d at hb
  cases h1 : decide (97 ≤ d) with
  | false =>
    go_enter Tryz.func61, Tryz.ntmps61
    go_wp2_with fail
    all_goals (rw [hb] at *)
    all_goals go_ret
    all_goals first
      | exact ⟨rfl, rfl⟩
      | (exfalso; simp at h1; omega)
  | true =>
    go_enter Tryz.func61, Tryz.ntmps61
    go_wp2_with fail
    all_goals (rw [hb] at *)
    all_goals go_ret
    all_goals first
      | (exfalso; simp at h1; omega)
      | (refine ⟨?_, rfl⟩; rw [Bool.true_and, show decide ((d : Int) ≤ 122) = decide (d ≤ 122) from decide_eq_decide.2 (by omega)]; rfl)
theorem dig_dec (c : UInt8) : isDig c = (decide ((48 : Int) ≤ (c.toNat : Int)) && decide ((c.toNat : Int) ≤ 57)) := by
  unfold isDig
  congr 1 <;> exact decide_eq_decide.2 (by omega)
theorem digit_any (c : UInt8) (w : World) : Calls Tryz.prog 64 #[.int .u8 (c.toNat : Int)] w fun e w' => e = .returned (.bool (isDig c)) ∧ w' = w := by
  rw [dig_dec]
  go_enter Tryz.func64, Tryz.ntmps64
  go_wp2_with fail
  all_goals go_ret
  all_goals (refine ⟨?_, rfl⟩; simp; omega)
theorem name_any (c : UInt8) (w : World) : Calls Tryz.prog 63 #[.int .u8 (c.toNat : Int)] w fun e w' => e = .returned (.bool (nameB c)) ∧ w' = w := by
  have e95 : (c == 95) = ((c.toNat : Int) == 95) := by
    rw [Bool.eq_iff_iff]; simp only [beq_iff_eq]
    constructor
    · rintro rfl; rfl
    · intro h; exact UInt8.toNat_inj.1 (show c.toNat = 95 by omega)
  unfold nameB
  rw [e95]
  have hl := letter_any c w
  have hd := digit_any c w
  cases h1 : letterB c <;> cases h2 : isDig c <;> rw [h1] at hl <;> rw [h2] at hd
  all_goals
    go_enter Tryz.func63, Tryz.ntmps63
    go_wp2_with (first | (go_at_call 61; refine hl.mono ?_; rintro e w' ⟨rfl, rfl⟩) | (go_at_call 64; refine hd.mono ?_; rintro e w' ⟨rfl, rfl⟩))
    all_goals go_ret
    all_goals exact ⟨rfl, rfl⟩
theorem text_dec (c : UInt8) : textB c = (decide (32 ≤ (c.toNat : Int)) && decide ((c.toNat : Int) ≤ 126) && ((c.toNat : Int) != 34) && ((c.toNat : Int) != 92)) := by
  have h : ∀ n : Fin 256, textB (UInt8.ofNat n.val) = (decide (32 ≤ ((UInt8.ofNat n.val).toNat : Int)) && decide (((UInt8.ofNat n.val).toNat : Int) ≤ 126) && (((UInt8.ofNat n.val).toNat : Int) != 34) && (((UInt8.ofNat n.val).toNat : Int) != 92)) := by decide +kernel
  exact of_all_u8 (fun c => textB c = (decide (32 ≤ (c.toNat : Int)) && decide ((c.toNat : Int) ≤ 126) && ((c.toNat : Int) != 34) && ((c.toNat : Int) != 92))) h c
theorem text_any (c : UInt8) (w : World) : Calls Tryz.prog 66 #[.int .u8 (c.toNat : Int)] w fun e w' => e = .returned (.bool (textB c)) ∧ w' = w := by
  rw [text_dec]
  cases h1 : decide (32 ≤ (c.toNat : Int)) <;> cases h2 : decide ((c.toNat : Int) ≤ 126) <;> cases h3 : ((c.toNat : Int) != 34)
  all_goals
    go_enter Tryz.func66, Tryz.ntmps66
    go_wp2_with fail
    all_goals go_ret
    all_goals first
      | exact ⟨rfl, rfl⟩
      | (simp at *; omega)
theorem ext_list {a b : ByteArray} (h : a.data.toList = b.data.toList) : a = b := by
  cases a; cases b; exact congrArg ByteArray.mk (Array.toList_inj.1 h)
theorem take_at (p : UInt8 → Bool) (l : List UInt8) (i : Nat) (h : ∀ (j : Nat) (c : UInt8), j < i → l[j]? = some c → p c = true) (hi : i < l.length) (hp : p (l[i]'hi) = false) : l.takeWhile p = l.take i := by
  induction l generalizing i with
  | nil => simp at hi
  | cons c r ih =>
    cases i with
    | zero => simp at hp; simp [List.takeWhile, hp]
    | succ i =>
      have hc : p c = true := h 0 c (by omega) rfl
      rw [List.takeWhile_cons, if_pos hc, List.take_succ_cons]
      congr 1
      exact ih i (fun j c hj hc => h (j + 1) c (by omega) (by simpa using hc)) (by simpa using hi) (by simpa using hp)
theorem take_all (p : UInt8 → Bool) (l : List UInt8) (h : ∀ (j : Nat) (c : UInt8), l[j]? = some c → p c = true) : l.takeWhile p = l := by
  induction l with
  | nil => rfl
  | cons c r ih =>
    have hc : p c = true := h 0 c rfl
    rw [List.takeWhile_cons, if_pos hc]
    congr 1
    exact ih (fun j c hc => h (j + 1) c (by simpa using hc))
theorem byte_at (s : ByteArray) (i : Nat) (h : i < s.size) : ∃ c, s.data.toList[i]? = some c ∧ ∀ h : i < s.size, ((s[i]'h).toNat : Int) = (c.toNat : Int) := by
  have hl : i < s.data.toList.length := by rw [← Lib.size_eq]; exact h
  exact ⟨s.data.toList[i], List.getElem?_eq_getElem hl, fun _ => rfl⟩
set_option maxHeartbeats 2000000 in
theorem prefix_digit_ (s R : ByteArray) (hR : Hid (R = ⟨(s.data.toList.takeWhile isDig).toArray⟩)) (hs : s.size ≤ 65536) (w : World) :
    Calls Tryz.prog 62 #[.string s, .func (.func 64) #[] #[]] w fun e w' => e = .returned (.string R) ∧ w' = w := by
  have HS := Lib.hid (Lib.size_eq s)
  go_enter Tryz.func62, Tryz.ntmps62
  go_wp2_with fail
  go_loop [8] (fun t => ∃ i : Nat, t = .int .i64 (i : Int) ∧ i ≤ s.size ∧ Hid (∀ (j : Nat) (c : UInt8), j < i → s.data.toList[j]? = some c → isDig c = true)) (fun t => s.size - (Go.RowKit.intOf t).toNat)
  case atStart => exact ⟨0, rfl, by omega, Lib.hid (fun j c h => absurd h (by omega))⟩
  case round =>
    obtain ⟨i, rfl, hi, hall⟩ := hrel
    by_cases hlt : i < s.size
    · have h1 : decide ((i : Int) < (s.size : Int)) = true := decide_eq_true (by omega)
      obtain ⟨c, hc0, hx⟩ := byte_at s i hlt
      have HC := Lib.hid hc0
      have hc := digit_any c w
      clear hc0
      cases hpc : isDig c with
      | true =>
        rw [hpc] at hc
        go_wp2_with (first | (go_at_call 64; refine hc.mono ?_; rintro e w' ⟨rfl, rfl⟩))
        go_round
        case rel => exact ⟨i + 1, by go_num, by omega, Lib.hid (fun j d hj hd => by
          by_cases h : j = i
          · subst h; rw [HC.out] at hd; cases hd; exact hpc
          · exact hall.out j d (by omega) hd)⟩
        case measure => simp [Go.RowKit.intOf]; omega
      | false =>
        rw [hpc] at hc
        have ht : R = s.extract 0 i := by
          obtain ⟨hl, h2⟩ := List.getElem?_eq_some_iff.1 HC.out
          rw [hR.out, take_at isDig s.data.toList i hall.out hl (by rw [h2]; exact hpc)]
          apply ext_list
          simp
        have HT := Lib.hid ht
        clear ht
        go_wp2_with (first | (go_at_call 64; refine hc.mono ?_; rintro e w' ⟨rfl, rfl⟩))
        go_ret
        exact ⟨by rw [HT.out]; rfl, rfl⟩
    · have h1 : decide ((i : Int) < (s.size : Int)) = false := decide_eq_false (by omega)
      have ht : R = s := by
        rw [hR.out, take_all isDig s.data.toList (fun j c hc => hall.out j c (by have := (List.getElem?_eq_some_iff.1 hc).1; rw [← HS.out] at this; omega) hc)]
      have HT := Lib.hid ht
      clear ht
      go_wp2_with fail
      go_ret
      exact ⟨by rw [HT.out]; rfl, rfl⟩
theorem prefix_digit (s : ByteArray) (hs : s.size ≤ 65536) (w : World) :
    Calls Tryz.prog 62 #[.string s, .func (.func 64) #[] #[]] w fun e w' => e = .returned (.string ⟨(s.data.toList.takeWhile isDig).toArray⟩) ∧ w' = w :=
  prefix_digit_ s _ (Lib.hid rfl) hs w
set_option maxHeartbeats 2000000 in
theorem prefix_name_ (s R : ByteArray) (hR : Hid (R = ⟨(s.data.toList.takeWhile nameB).toArray⟩)) (hs : s.size ≤ 65536) (w : World) :
    Calls Tryz.prog 62 #[.string s, .func (.func 63) #[] #[]] w fun e w' => e = .returned (.string R) ∧ w' = w := by
  have HS := Lib.hid (Lib.size_eq s)
  go_enter Tryz.func62, Tryz.ntmps62
  go_wp2_with fail
  go_loop [8] (fun t => ∃ i : Nat, t = .int .i64 (i : Int) ∧ i ≤ s.size ∧ Hid (∀ (j : Nat) (c : UInt8), j < i → s.data.toList[j]? = some c → nameB c = true)) (fun t => s.size - (Go.RowKit.intOf t).toNat)
  case atStart => exact ⟨0, rfl, by omega, Lib.hid (fun j c h => absurd h (by omega))⟩
  case round =>
    obtain ⟨i, rfl, hi, hall⟩ := hrel
    by_cases hlt : i < s.size
    · have h1 : decide ((i : Int) < (s.size : Int)) = true := decide_eq_true (by omega)
      obtain ⟨c, hc0, hx⟩ := byte_at s i hlt
      have HC := Lib.hid hc0
      have hc := name_any c w
      clear hc0
      cases hpc : nameB c with
      | true =>
        rw [hpc] at hc
        go_wp2_with (first | (go_at_call 63; refine hc.mono ?_; rintro e w' ⟨rfl, rfl⟩))
        go_round
        case rel => exact ⟨i + 1, by go_num, by omega, Lib.hid (fun j d hj hd => by
          by_cases h : j = i
          · subst h; rw [HC.out] at hd; cases hd; exact hpc
          · exact hall.out j d (by omega) hd)⟩
        case measure => simp [Go.RowKit.intOf]; omega
      | false =>
        rw [hpc] at hc
        have ht : R = s.extract 0 i := by
          obtain ⟨hl, h2⟩ := List.getElem?_eq_some_iff.1 HC.out
          rw [hR.out, take_at nameB s.data.toList i hall.out hl (by rw [h2]; exact hpc)]
          apply ext_list
          simp
        have HT := Lib.hid ht
        clear ht
        go_wp2_with (first | (go_at_call 63; refine hc.mono ?_; rintro e w' ⟨rfl, rfl⟩))
        go_ret
        exact ⟨by rw [HT.out]; rfl, rfl⟩
    · have h1 : decide ((i : Int) < (s.size : Int)) = false := decide_eq_false (by omega)
      have ht : R = s := by
        rw [hR.out, take_all nameB s.data.toList (fun j c hc => hall.out j c (by have := (List.getElem?_eq_some_iff.1 hc).1; rw [← HS.out] at this; omega) hc)]
      have HT := Lib.hid ht
      clear ht
      go_wp2_with fail
      go_ret
      exact ⟨by rw [HT.out]; rfl, rfl⟩
theorem prefix_name (s : ByteArray) (hs : s.size ≤ 65536) (w : World) :
    Calls Tryz.prog 62 #[.string s, .func (.func 63) #[] #[]] w fun e w' => e = .returned (.string ⟨(s.data.toList.takeWhile nameB).toArray⟩) ∧ w' = w :=
  prefix_name_ s _ (Lib.hid rfl) hs w
set_option maxHeartbeats 2000000 in
theorem prefix_text_ (s R : ByteArray) (hR : Hid (R = ⟨(s.data.toList.takeWhile textB).toArray⟩)) (hs : s.size ≤ 65536) (w : World) :
    Calls Tryz.prog 62 #[.string s, .func (.func 66) #[] #[]] w fun e w' => e = .returned (.string R) ∧ w' = w := by
  have HS := Lib.hid (Lib.size_eq s)
  go_enter Tryz.func62, Tryz.ntmps62
  go_wp2_with fail
  go_loop [8] (fun t => ∃ i : Nat, t = .int .i64 (i : Int) ∧ i ≤ s.size ∧ Hid (∀ (j : Nat) (c : UInt8), j < i → s.data.toList[j]? = some c → textB c = true)) (fun t => s.size - (Go.RowKit.intOf t).toNat)
  case atStart => exact ⟨0, rfl, by omega, Lib.hid (fun j c h => absurd h (by omega))⟩
  case round =>
    obtain ⟨i, rfl, hi, hall⟩ := hrel
    by_cases hlt : i < s.size
    · have h1 : decide ((i : Int) < (s.size : Int)) = true := decide_eq_true (by omega)
      obtain ⟨c, hc0, hx⟩ := byte_at s i hlt
      have HC := Lib.hid hc0
      have hc := text_any c w
      clear hc0
      cases hpc : textB c with
      | true =>
        rw [hpc] at hc
        go_wp2_with (first | (go_at_call 66; refine hc.mono ?_; rintro e w' ⟨rfl, rfl⟩))
        go_round
        case rel => exact ⟨i + 1, by go_num, by omega, Lib.hid (fun j d hj hd => by
          by_cases h : j = i
          · subst h; rw [HC.out] at hd; cases hd; exact hpc
          · exact hall.out j d (by omega) hd)⟩
        case measure => simp [Go.RowKit.intOf]; omega
      | false =>
        rw [hpc] at hc
        have ht : R = s.extract 0 i := by
          obtain ⟨hl, h2⟩ := List.getElem?_eq_some_iff.1 HC.out
          rw [hR.out, take_at textB s.data.toList i hall.out hl (by rw [h2]; exact hpc)]
          apply ext_list
          simp
        have HT := Lib.hid ht
        clear ht
        go_wp2_with (first | (go_at_call 66; refine hc.mono ?_; rintro e w' ⟨rfl, rfl⟩))
        go_ret
        exact ⟨by rw [HT.out]; rfl, rfl⟩
    · have h1 : decide ((i : Int) < (s.size : Int)) = false := decide_eq_false (by omega)
      have ht : R = s := by
        rw [hR.out, take_all textB s.data.toList (fun j c hc => hall.out j c (by have := (List.getElem?_eq_some_iff.1 hc).1; rw [← HS.out] at this; omega) hc)]
      have HT := Lib.hid ht
      clear ht
      go_wp2_with fail
      go_ret
      exact ⟨by rw [HT.out]; rfl, rfl⟩
theorem prefix_text (s : ByteArray) (hs : s.size ≤ 65536) (w : World) :
    Calls Tryz.prog 62 #[.string s, .func (.func 66) #[] #[]] w fun e w' => e = .returned (.string ⟨(s.data.toList.takeWhile textB).toArray⟩) ∧ w' = w :=
  prefix_text_ s _ (Lib.hid rfl) hs w
end Go.Proofs.YtahjkibjcibpgaaGreatDoor.L
end
section
namespace Go.Proofs.YtahjkibjcibpgaaGreatDoor.L
open Go.RowKit Go.Shelf Go.Lib Go.Proofs.YtahjkibjcibpgaaGreatDoor.U
open Go.Proofs.YtahjkibjcibpgaaGreatDoorW.PrintWords (below_step)
theorem drop_le (p : UInt8 → Bool) (l : List UInt8) : (l.dropWhile p).length ≤ l.length := by
  induction l with
  | nil => simp
  | cons c r ih =>
    rw [List.dropWhile_cons]
    split
    · simp; omega
    · simp
theorem idx10 (l : List UInt8) : (Lib.indexByte l 10 = -1 ∧ l.dropWhile (· != 10) = []) ∨ ∃ i : Nat, Lib.indexByte l 10 = (i : Int) ∧ i ≤ l.length ∧ l.dropWhile (· != 10) = l.drop i := by
  induction l with
  | nil => exact Or.inl ⟨rfl, rfl⟩
  | cons c r ih =>
    by_cases hc : c = 10
    · subst hc
      exact Or.inr ⟨0, rfl, by omega, rfl⟩
    · have h1 : (c == 10) = false := by simpa using hc
      have h2 : (c != 10) = true := by simp [hc]
      rcases ih with ⟨h3, h4⟩ | ⟨i, h3, h4, h5⟩
      · left
        refine ⟨?_, ?_⟩
        · unfold Lib.indexByte; rw [h1, h3]; rfl
        · rw [List.dropWhile_cons, h2]; exact h4
      · right
        refine ⟨i + 1, ?_, by simp; omega, ?_⟩
        · unfold Lib.indexByte
          rw [h1, h3]
          have : ((i : Int) == -1) = false := by rw [beq_eq_false_iff_ne]; omega
          simp [this]
        · rw [List.dropWhile_cons, h2, List.drop_succ_cons]; exact h5
theorem pre35 (l : List UInt8) : Lib.hasPrefix l [35] = (match l with | 35 :: _ => true | _ => false) := by
  unfold Lib.hasPrefix
  cases l with
  | nil => rfl
  | cons c r =>
    by_cases hc : c = 35
    · subst hc; simp [List.isPrefixOf]
    · have h : (35 == c) = false := by rw [beq_eq_false_iff_ne]; exact fun h => hc h.symm
      simp only [List.isPrefixOf, h, Bool.false_and]
      split
      · rename_i h2; injection h2 with h3; exact absurd h3 hc
      · rfl
theorem size_nil : (⟨#[]⟩ : ByteArray).size = 0 := rfl
theorem size_mk (l : List UInt8) : (⟨l.toArray⟩ : ByteArray).size = l.length := by
  show l.toArray.size = l.length
  simp
theorem skip_stop (F : Nat) (t : List UInt8) (h0 : 0 < F) (h : ∀ r, t.dropWhile (cs4.contains ·) ≠ 35 :: r) : skipL F t = t.dropWhile (cs4.contains ·) := by
  obtain ⟨F, rfl⟩ : ∃ G, F = G + 1 := ⟨F - 1, by omega⟩
  unfold skipL
  split
  · rename_i r hr; exact absurd hr (h r)
  · rfl
theorem skip_more (F : Nat) (t r : List UInt8) (h : t.dropWhile (cs4.contains ·) = 35 :: r) : skipL (F + 1) t = skipL F ((35 :: r).dropWhile (· != 10)) := by
  conv => lhs; unfold skipL
  rw [h]
  rfl
set_option maxHeartbeats 2000000 in
theorem space_any_ (s : ByteArray) (hs : s.size ≤ 65536) (N : Int) (R : List UInt8) (hR : Hid (R = skipL (s.data.toList.length + 1) s.data.toList)) (hN : Hid (N = (s.size : Int) - (R.length : Int))) (w : World) :
    Calls Tryz.prog 43 #[.string s] w fun e w' => e = .returned (.int .i64 N) ∧ Below w.heap.size w w' := by
  have HS := Lib.hid (Lib.size_eq s)
  go_enter Tryz.func43, Tryz.ntmps43
  go_wp2_with fail
  go_loopw [3] (fun r wr => ∃ t : ByteArray, r = .string t ∧ t.size ≤ s.size ∧ Hid (∃ F, t.size < F ∧ skipL F t.data.toList = R) ∧ Below w.heap.size w wr) (fun r _ => match r with | .string t => t.size | _ => 0)
  case atStart => exact ⟨s, rfl, by omega, Lib.hid ⟨_, by rw [Lib.size_eq]; omega, hR.out.symm⟩, Below.refl _ _⟩
  case round =>
    obtain ⟨t, rfl, ht, hF, hB⟩ := hrel
    have hcon := Any.strings_TrimLeft_laid Tryz.lays161 (by kernel_rfl) t ⟨#[32, 9, 13, 10]⟩ wr (by decide) (ascii_of_all (by decide))
    change Calls Tryz.prog 58 _ _ (fun e w' => e = .returned (.string ⟨(t.data.toList.dropWhile (cs4.contains ·)).toArray⟩) ∧ Below wr.heap.size wr w') at hcon
    have hle := drop_le (cs4.contains ·) t.data.toList
    have hts := Lib.size_eq t
    obtain ⟨u, hu⟩ : ∃ u : ByteArray, u = ⟨(t.data.toList.dropWhile (cs4.contains ·)).toArray⟩ := ⟨_, rfl⟩
    rw [← hu] at hcon
    have hul : u.data.toList = t.data.toList.dropWhile (cs4.contains ·) := by rw [hu]
    have hus : u.size = u.data.toList.length := Lib.size_eq u
    have hut : u.size ≤ t.size := by rw [hus, hul, hts]; exact hle
    have hpre := Tryz.strings_HasPrefix u ⟨#[35]⟩
    rw [show (⟨#[35]⟩ : ByteArray).data.toList = [35] from rfl, pre35] at hpre
    have HU := Lib.hid hul
    have HUS := Lib.hid hus
    clear hu hul hus hle hts
    by_cases h35 : ∃ r, u.data.toList = 35 :: r
    · obtain ⟨r, hr⟩ := h35
      rw [hr] at hpre
      have hidx : ∀ w, Calls Tryz.prog 60 #[.string u, .int .u8 10] w fun e w' => e = .returned (.int .i64 (Lib.indexByte u.data.toList 10)) ∧ w' = w := fun w => Tryz.strings_IndexByte u 10 w
      have h1u : 1 ≤ u.size := by rw [HUS.out, hr]; simp
      obtain ⟨F, hF1, hF2⟩ := hF.out
      obtain ⟨F, rfl⟩ : ∃ G, F = G + 1 := ⟨F - 1, by omega⟩
      rw [skip_more F _ r (by rw [← HU.out, hr]), ← hr] at hF2
      rcases idx10 u.data.toList with ⟨i1, i2⟩ | ⟨i, i1, i2, i3⟩
      · rw [i1] at hidx
        rw [i2] at hF2
        have HF2 := Lib.hid hF2
        clear hF2 i1 i2 hr
        go_wp2_with (first | (go_at_call 58; refine hcon.mono ?_; rintro e w5 ⟨rfl, h5⟩) | (go_at_call 59; refine (hpre _).mono ?_; rintro e w6 ⟨rfl, hw6⟩; rw [hw6]) | (go_at_call 60; refine (hidx _).mono ?_; rintro e w6 ⟨rfl, hw6⟩; rw [hw6]))
        go_roundw
        case rel => exact ⟨⟨#[]⟩, rfl, by rw [size_nil]; omega, Lib.hid ⟨F, by rw [size_nil]; omega, HF2.out⟩, below_step hB h5⟩
        case measure => first | (rw [size_nil]; omega) | (simp only [size_nil]; omega)
      · rw [i1] at hidx
        rw [i3] at hF2
        have hi1 : 1 ≤ i := by
          rcases Nat.eq_zero_or_pos i with h0 | h0
          · subst h0
            rw [hr] at i3
            exact absurd i3 (by
              intro h
              have := congrArg List.length h
              rw [List.dropWhile_cons] at this
              have h2 := drop_le (· != 10) r
              simp at this h2
              omega)
          · exact h0
        rw [← HUS.out] at i2
        have hsl : (u.extract i u.size).data.toList = u.data.toList.drop i := Lib.extract_to_end u i
        have hsz : (u.extract i u.size).size = u.size - i := by rw [Lib.size_eq, hsl, List.length_drop, ← HUS.out]
        have HF2 := Lib.hid hF2
        have HSL := Lib.hid hsl
        have hd : decide ((0 : Int) ≤ (i : Int)) = true := decide_eq_true (by omega)
        clear hF2 i1 i3 hr hsl
        go_wp2_with (first | (go_at_call 58; refine hcon.mono ?_; rintro e w5 ⟨rfl, h5⟩) | (go_at_call 59; refine (hpre _).mono ?_; rintro e w6 ⟨rfl, hw6⟩; rw [hw6]) | (go_at_call 60; refine (hidx _).mono ?_; rintro e w6 ⟨rfl, hw6⟩; rw [hw6]))
        go_roundw
        case rel => exact ⟨_, rfl, by rw [hsz]; omega, Lib.hid ⟨F, by rw [hsz]; omega, by rw [HSL.out]; exact HF2.out⟩, below_step hB h5⟩
        case measure => simp only [hsz]; omega
    · have hpre2 : ∀ w, Calls Tryz.prog 59 #[.string u, .string ⟨#[35]⟩] w fun e w' => e = .returned (.bool false) ∧ w' = w := fun w => by
        have := hpre w
        split at this
        · rename_i r hr; exact absurd ⟨r, hr⟩ h35
        · exact this
      clear hpre
      have hres : N = (s.size : Int) - (u.size : Int) := by
        obtain ⟨F, hF1, hF2⟩ := hF.out
        rw [hN.out, ← hF2, skip_stop F _ (by omega) (fun r hr => h35 ⟨r, by rw [HU.out]; exact hr⟩), ← HU.out, ← HUS.out]
      have HR := Lib.hid hres
      clear hres h35
      go_wp2_with (first | (go_at_call 58; refine hcon.mono ?_; rintro e w5 ⟨rfl, h5⟩) | (go_at_call 59; refine (hpre2 _).mono ?_; rintro e w6 ⟨rfl, hw6⟩; rw [hw6]))
      go_ret
      exact ⟨by rw [HR.out]; rfl, below_step hB h5⟩
theorem space_any (s : ByteArray) (hs : s.size ≤ 65536) (w : World) :
    Calls Tryz.prog 43 #[.string s] w fun e w' => e = .returned (.int .i64 (spaceL s.data.toList : Nat)) ∧ Below w.heap.size w w' := by
  refine space_any_ s hs _ _ (Lib.hid rfl) (Lib.hid ?_) w
  have hl : ∀ (F : Nat) (t : List UInt8), (skipL F t).length ≤ t.length := by
    intro F
    induction F with
    | zero => intro t; exact Nat.le_refl _
    | succ F ih =>
      intro t
      have h1 := drop_le (cs4.contains ·) t
      unfold skipL
      split
      · rename_i r hr
        have h2 := ih ((35 :: r).dropWhile (· != 10))
        have h3 := drop_le (· != 10) (35 :: r)
        rw [hr] at h1
        omega
      · exact h1
  have h := hl (s.data.toList.length + 1) s.data.toList
  unfold spaceL
  rw [Lib.size_eq]
  omega
end Go.Proofs.YtahjkibjcibpgaaGreatDoor.L
end
section
namespace Go.Proofs.YtahjkibjcibpgaaGreatDoor.L
open Go.RowKit Go.Shelf Go.Lib Go.Proofs.YtahjkibjcibpgaaGreatDoor.U
attribute [local go_sem] Oper.semAt_some
theorem first_byte (s : ByteArray) (c : UInt8) (r : List UInt8) (h : s.data.toList = c :: r) : ∀ h : 0 < s.size, ((s[0]'h).toNat : Int) = (c.toNat : Int) := by
  intro h0
  have : s[0]'h0 = s.data.toList[0]'(by rw [h]; simp) := rfl
  rw [this]
  simp [h]
theorem results44 {W : World} {tmps : Array Value} {b2 b3 : Nat} {v2 v3 : Value} (h2 : tmps.getD 2 undef = .pointer (some ⟨b2, 0, none⟩)) (h3 : tmps.getD 3 undef = .pointer (some ⟨b3, 0, none⟩))
    (c2 : W.cell? ⟨b2, 0, none⟩ = some v2) (c3 : W.cell? ⟨b3, 0, none⟩ = some v3) : (results Tryz.f44 tmps).run Tryz.prog W = .ok (.tuple #[v2, v3]) W := by
  simp only [Array.getD_eq_getD_getElem?] at h2 h3
  simp [results, Tryz.f44, go_sem, h2, h3, c2, c3]
theorem end44 {W : World} {R : Ending → World → Prop} {tmps : Array Value} {b2 b3 : Nat} {v2 v3 : Value} (h2 : tmps.getD 2 undef = .pointer (some ⟨b2, 0, none⟩)) (h3 : tmps.getD 3 undef = .pointer (some ⟨b3, 0, none⟩))
    (c2 : W.cell? ⟨b2, 0, none⟩ = some v2) (c3 : W.cell? ⟨b3, 0, none⟩ = some v3) (hR : R (.returned (.tuple #[v2, v3])) W) : bodyPostM Fence.wide 3 Tryz.prog Tryz.f44 R .ret { tmps := tmps, defers := [] } W :=
  ⟨_, results44 h2 h3 c2 c3, hR⟩
theorem cellNew (W : World) (v : Value) (t : TypeId) : (W.alloc (.cells #[v] t)).cell? ⟨W.heap.size, 0, none⟩ = some v := by
  unfold World.cell?
  rw [World.alloc_heap_new]
  rfl
theorem cells3 (w : World) (x y z : Value) (tx ty tz : TypeId) : ∃ W, W = ((w.alloc (.cells #[x] tx)).alloc (.cells #[y] ty)).alloc (.cells #[z] tz) ∧ W.cell? ⟨w.heap.size, 0, none⟩ = some x ∧ W.cell? ⟨w.heap.size + 1, 0, none⟩ = some y ∧ W.cell? ⟨w.heap.size + 1 + 1, 0, none⟩ = some z ∧ Below w.heap.size w W := by
  refine ⟨_, rfl, ?_, ?_, ?_, ?_⟩
  · exact cell?_alloc_old _ (cell?_alloc_old _ (cellNew w x tx))
  · have := cellNew (w.alloc (.cells #[x] tx)) y ty
    rw [World.size_alloc] at this
    exact cell?_alloc_old _ this
  · have := cellNew ((w.alloc (.cells #[x] tx)).alloc (.cells #[y] ty)) z tz
    rw [World.size_alloc, World.size_alloc] at this
    exact this
  · exact (((Below.refl _ w).alloc (Nat.le_refl _) _).alloc (by simp) _).alloc (by simp; omega) _
set_option maxRecDepth 100000 in
set_option maxHeartbeats 2000000 in
theorem first_letter (s : ByteArray) (c : UInt8) (r : List UInt8) (hs : s.size ≤ 65536) (h : s.data.toList = c :: r) (hc : letterB c = true) (w : World) :
    Calls Tryz.prog 44 #[.string s] w fun e w' => e = .returned (.tuple #[.int .i64 0, .string ⟨(s.data.toList.takeWhile nameB).toArray⟩]) ∧ Below w.heap.size w w' := by
  have hsz : 0 < s.size := by rw [Lib.size_eq, h]; simp
  have hx := first_byte s c r h
  have hl := letter_any c
  rw [hc] at hl
  have hp := prefix_name s hs
  generalize (⟨(s.data.toList.takeWhile nameB).toArray⟩ : ByteArray) = R at hp
  refine (callsIn_wide (n := 3)).1 ?_
  refine callsIn_of_wp_marks Tryz.func44 rfl trivial ?_ rfl
  simp only [Tryz.ntmps44, List.size_toArray, List.length_cons, List.length_nil, Nat.reduceAdd, Nat.reduceSub, Array.replicate_succ, Array.replicate_zero, List.push_toArray, List.append_toArray, List.nil_append, List.cons_append]
  clear h hc
  gi_wp2_with (first | (refine ⟨trivial, ?_⟩; gi_at_call 61; refine (callsIn_wide.2 (hl _)).mono ?_; rintro e w' ⟨rfl, hw⟩; rw [hw]; clear hw) | (refine ⟨trivial, ?_⟩; gi_at_call 62; refine (callsIn_wide.2 (hp _)).mono ?_; rintro e w' ⟨rfl, hw⟩; rw [hw]; clear hw))
  obtain ⟨W, hW, c0, c1, c2, hB⟩ := cells3 w (.string s) (.int .i64 0) (.string R) 9 3 9
  rw [← hW]
  exact end44 rfl rfl c1 c2 ⟨rfl, hB⟩
theorem drop_take (p : UInt8 → Bool) (l : List UInt8) : l.drop (l.takeWhile p).length = l.dropWhile p := by
  induction l with
  | nil => rfl
  | cons c r ih =>
    rw [List.takeWhile_cons, List.dropWhile_cons]
    split
    · rw [List.length_cons, List.drop_succ_cons]; exact ih
    · rfl
theorem take_len (p : UInt8 → Bool) (l : List UInt8) : (l.takeWhile p).length ≤ l.length := (List.takeWhile_prefix p).length_le
theorem take_take (p : UInt8 → Bool) (l : List UInt8) : l.take (l.takeWhile p).length = l.takeWhile p := by
  induction l with
  | nil => rfl
  | cons c r ih =>
    rw [List.takeWhile_cons]
    split
    · rw [List.length_cons, List.take_succ_cons, ih]
    · rfl
theorem pre46 (l : List UInt8) : Lib.hasPrefix l [46] = (match l with | 46 :: _ => true | _ => false) := by
  unfold Lib.hasPrefix
  cases l with
  | nil => rfl
  | cons c r =>
    by_cases hc : c = 46
    · subst hc; simp [List.isPrefixOf]
    · have h : (46 == c) = false := by rw [beq_eq_false_iff_ne]; exact fun h => hc h.symm
      simp only [List.isPrefixOf, h, Bool.false_and]
      split
      · rename_i h2; injection h2 with h3; exact absurd h3 hc
      · rfl
set_option maxRecDepth 100000 in
set_option maxHeartbeats 4000000 in
theorem first_digit (s R : ByteArray) (c : UInt8) (r : List UInt8) (hs : s.size ≤ 65536) (h : s.data.toList = c :: r) (hl0 : letterB c = false) (hc : isDig c = true) (hR : Hid (R = ⟨(numL s.data.toList).toArray⟩)) (w : World) :
    Calls Tryz.prog 44 #[.string s] w fun e w' => e = .returned (.tuple #[.int .i64 1, .string R]) ∧ Below w.heap.size w w' := by
  have hsz : 0 < s.size := by rw [Lib.size_eq, h]; simp
  have hx := first_byte s c r h
  have hl := letter_any c
  rw [hl0] at hl
  have hd := digit_any c
  rw [hc] at hd
  have hp := prefix_digit s hs
  obtain ⟨wh, hwh⟩ : ∃ wh : ByteArray, wh = ⟨(s.data.toList.takeWhile isDig).toArray⟩ := ⟨_, rfl⟩
  rw [← hwh] at hp
  have hwl : wh.data.toList = s.data.toList.takeWhile isDig := by rw [hwh]
  have hws : wh.size = (s.data.toList.takeWhile isDig).length := by rw [Lib.size_eq, hwl]
  have hle : wh.size ≤ s.size := by rw [hws, Lib.size_eq]; exact take_len _ _
  have htl : (s.extract wh.size s.size).data.toList = s.data.toList.dropWhile isDig := by rw [Lib.extract_to_end, hws, drop_take]
  obtain ⟨t, ht⟩ : ∃ t : ByteArray, t = s.extract wh.size s.size := ⟨_, rfl⟩
  rw [← ht] at htl
  have HT := Lib.hid ht
  have HTL := Lib.hid htl
  have HWL := Lib.hid hwl
  have HWS := Lib.hid hws
  have hcp := Tryz.strings_CutPrefix t ⟨#[46]⟩
  rw [show (⟨#[46]⟩ : ByteArray).data.toList = [46] from rfl, pre46] at hcp
  have hts : s.extract wh.size s.size = t := ht.symm
  clear ht htl hwl hws hwh
  by_cases h46 : ∃ q, t.data.toList = 46 :: q
  · obtain ⟨q, hq⟩ := h46
    have htr : Lib.trimPrefix t.data.toList [46] = q := by rw [hq]; simp [Lib.trimPrefix, Lib.hasPrefix, List.isPrefixOf]
    have hcp2 : ∀ w, Calls Tryz.prog 65 #[.string t, .string ⟨#[46]⟩] w fun e w' => e = .returned (.tuple #[.string ⟨q.toArray⟩, .bool true]) ∧ w' = w := fun w => by
      have := hcp w
      rw [htr] at this
      simp only [hq] at this
      exact this
    clear hcp htr
    have hqs : (⟨q.toArray⟩ : ByteArray).size = q.length := size_mk q
    have hqt : wh.size + 1 + q.length = s.size := by
      have h1 := congrArg List.length HTL.out
      rw [hq, ← drop_take, List.length_drop, ← HWS.out, ← Lib.size_eq] at h1
      simp at h1
      omega
    have hp2 := prefix_digit ⟨q.toArray⟩ (by omega)
    obtain ⟨pa, hpa⟩ : ∃ pa : ByteArray, pa = ⟨(q.takeWhile isDig).toArray⟩ := ⟨_, rfl⟩
    have hp3 : ∀ w, Calls Tryz.prog 62 #[.string ⟨q.toArray⟩, .func (.func 64) #[] #[]] w fun e w' => e = .returned (.string pa) ∧ w' = w := by rw [hpa]; exact hp2
    have hpl : pa.data.toList = q.takeWhile isDig := by rw [hpa]
    have hps : pa.size ≤ q.length := by rw [Lib.size_eq, hpl]; exact take_len _ _
    clear hp2 hpa
    by_cases hpn : q.takeWhile isDig = []
    · have hRw : R = wh := by
        rw [hR.out]
        apply ext_list
        rw [HWL.out]
        unfold numL
        rw [← HTL.out, hq]
        simp only [hpn, if_true]
      subst hRw
      have hpe : pa.toList.isEmpty = true := by rw [Lib.toList_data, hpl, hpn]; rfl
      clear hR hq hpn hpl
      refine (callsIn_wide (n := 3)).1 ?_
      refine callsIn_of_wp_marks Tryz.func44 rfl trivial ?_ rfl
      simp only [Tryz.ntmps44, List.size_toArray, List.length_cons, List.length_nil, Nat.reduceAdd, Nat.reduceSub, Array.replicate_succ, Array.replicate_zero, List.push_toArray, List.append_toArray, List.nil_append, List.cons_append]
      clear h hc
      gi_wp2_with (first | (refine ⟨trivial, ?_⟩; gi_at_call 61; refine (callsIn_wide.2 (hl _)).mono ?_; rintro e w' ⟨rfl, hw⟩; rw [hw]; clear hw) | (refine ⟨trivial, ?_⟩; gi_at_call 64; refine (callsIn_wide.2 (hd _)).mono ?_; rintro e w' ⟨rfl, hw⟩; rw [hw]; clear hw) | (refine ⟨trivial, ?_⟩; gi_at_call 62; refine (callsIn_wide.2 (hp _)).mono ?_; clear hp; rintro e w' ⟨rfl, hw⟩; rw [hw]; clear hw) | (refine ⟨trivial, ?_⟩; gi_at_call 62; refine (callsIn_wide.2 (hp3 _)).mono ?_; rintro e w' ⟨rfl, hw⟩; rw [hw]; clear hw) | (refine ⟨trivial, ?_⟩; gi_at_call 65; refine (callsIn_wide.2 (hcp2 _)).mono ?_; rintro e w' ⟨rfl, hw⟩; rw [hw]; clear hw))
      obtain ⟨W, hW, c0, c1, c2, hB⟩ := cells3 w (.string s) (.int .i64 1) (.string R) 9 3 9
      rw [← hW]
      exact end44 rfl rfl c1 c2 ⟨rfl, hB⟩
    · have hpe : pa.toList.isEmpty = false := by
        rw [Lib.toList_data, hpl]
        cases hh : q.takeWhile isDig with
        | nil => exact absurd hh hpn
        | cons => rfl
      have hRw : R = s.extract 0 (wh.size + 1 + pa.size) := by
        rw [hR.out]
        apply ext_list
        have e1 : (s.extract 0 (wh.size + 1 + pa.size)).data.toList = s.data.toList.take (wh.size + 1 + pa.size) := by simp
        rw [e1]
        have e2 : s.data.toList = s.data.toList.takeWhile isDig ++ (46 :: q) := by
          rw [← hq, HTL.out, List.takeWhile_append_dropWhile]
        have e3 : pa.size = (q.takeWhile isDig).length := by rw [Lib.size_eq, hpl]
        unfold numL
        rw [← HTL.out, hq]
        simp only [hpn, if_false]
        conv => rhs; rw [e2]
        rw [HWS.out, e3, Nat.add_assoc, List.take_length_add_append, Nat.add_comm 1, List.take_succ_cons, take_take]
      have HRW := Lib.hid hRw
      clear hR hq hpn hpl hRw
      have hn1 : wh.size + 1 + pa.size ≤ s.size := by omega
      have hn2 : (wh.size : Int) + 1 + (pa.size : Int) ≤ (s.size : Int) := by omega
      have hn3 : wrap64 ((wh.size : Int) + 1 + (pa.size : Int)) = (wh.size : Int) + 1 + (pa.size : Int) := by unfold wrap64; omega
      refine (callsIn_wide (n := 3)).1 ?_
      refine callsIn_of_wp_marks Tryz.func44 rfl trivial ?_ rfl
      simp only [Tryz.ntmps44, List.size_toArray, List.length_cons, List.length_nil, Nat.reduceAdd, Nat.reduceSub, Array.replicate_succ, Array.replicate_zero, List.push_toArray, List.append_toArray, List.nil_append, List.cons_append]
      clear h hc
      gi_wp2_with (first | (refine ⟨trivial, ?_⟩; gi_at_call 61; refine (callsIn_wide.2 (hl _)).mono ?_; rintro e w' ⟨rfl, hw⟩; rw [hw]; clear hw) | (refine ⟨trivial, ?_⟩; gi_at_call 64; refine (callsIn_wide.2 (hd _)).mono ?_; rintro e w' ⟨rfl, hw⟩; rw [hw]; clear hw) | (refine ⟨trivial, ?_⟩; gi_at_call 62; refine (callsIn_wide.2 (hp _)).mono ?_; clear hp; rintro e w' ⟨rfl, hw⟩; rw [hw]; clear hw) | (refine ⟨trivial, ?_⟩; gi_at_call 62; refine (callsIn_wide.2 (hp3 _)).mono ?_; rintro e w' ⟨rfl, hw⟩; rw [hw]; clear hw) | (refine ⟨trivial, ?_⟩; gi_at_call 65; refine (callsIn_wide.2 (hcp2 _)).mono ?_; rintro e w' ⟨rfl, hw⟩; rw [hw]; clear hw))
      gi_region
      all_goals gi_wp2
      obtain ⟨W, hW, c0, c1, c2, hB⟩ := cells3 w (.string s) (.int .i64 1) (.string (s.extract 0 (wh.size + 1 + pa.size))) 9 3 9
      rw [← hW, HRW.out]
      exact end44 (W := W.drew) rfl rfl c1 c2 ⟨rfl, hB.drew⟩
  · have hcp2 : ∀ w, Calls Tryz.prog 65 #[.string t, .string ⟨#[46]⟩] w fun e w' => e = .returned (.tuple #[.string ⟨(Lib.trimPrefix t.data.toList [46]).toArray⟩, .bool false]) ∧ w' = w := fun w => by
      have := hcp w
      split at this
      · rename_i q hq; exact absurd ⟨q, hq⟩ h46
      · exact this
    have hRw : R = wh := by
      rw [hR.out]
      apply ext_list
      rw [HWL.out]
      unfold numL
      rw [← HTL.out]
      split
      · rename_i q hq; exact absurd ⟨q, hq⟩ h46
      · rfl
    subst hRw
    clear hcp h46 hR
    refine (callsIn_wide (n := 3)).1 ?_
    refine callsIn_of_wp_marks Tryz.func44 rfl trivial ?_ rfl
    simp only [Tryz.ntmps44, List.size_toArray, List.length_cons, List.length_nil, Nat.reduceAdd, Nat.reduceSub, Array.replicate_succ, Array.replicate_zero, List.push_toArray, List.append_toArray, List.nil_append, List.cons_append]
    clear h hc
    gi_wp2_with (first | (refine ⟨trivial, ?_⟩; gi_at_call 61; refine (callsIn_wide.2 (hl _)).mono ?_; rintro e w' ⟨rfl, hw⟩; rw [hw]; clear hw) | (refine ⟨trivial, ?_⟩; gi_at_call 64; refine (callsIn_wide.2 (hd _)).mono ?_; rintro e w' ⟨rfl, hw⟩; rw [hw]; clear hw) | (refine ⟨trivial, ?_⟩; gi_at_call 62; refine (callsIn_wide.2 (hp _)).mono ?_; rintro e w' ⟨rfl, hw⟩; rw [hw]; clear hw) | (refine ⟨trivial, ?_⟩; gi_at_call 65; refine (callsIn_wide.2 (hcp2 _)).mono ?_; rintro e w' ⟨rfl, hw⟩; rw [hw]; clear hw))
    obtain ⟨W, hW, c0, c1, c2, hB⟩ := cells3 w (.string s) (.int .i64 1) (.string R) 9 3 9
    rw [← hW]
    exact end44 rfl rfl c1 c2 ⟨rfl, hB⟩
theorem pre34 (l : List UInt8) : Lib.hasPrefix l [34] = (match l with | 34 :: _ => true | _ => false) := by
  unfold Lib.hasPrefix
  cases l with
  | nil => rfl
  | cons c r =>
    by_cases hc : c = 34
    · subst hc; simp [List.isPrefixOf]
    · have h : (34 == c) = false := by rw [beq_eq_false_iff_ne]; exact fun h => hc h.symm
      simp only [List.isPrefixOf, h, Bool.false_and]
      split
      · rename_i h2; injection h2 with h3; exact absurd h3 hc
      · rfl
set_option maxRecDepth 100000 in
set_option maxHeartbeats 4000000 in
theorem first_quote (s R : ByteArray) (r : List UInt8) (hs : s.size ≤ 65536) (h : s.data.toList = 34 :: r) (hR : Hid (R = ⟨(strL r).toArray⟩)) (w : World) :
    Calls Tryz.prog 44 #[.string s] w fun e w' => e = .returned (.tuple #[.int .i64 2, .string R]) ∧ Below w.heap.size w w' := by
  have hsz : 0 < s.size := by rw [Lib.size_eq, h]; simp
  have hsr : s.size = r.length + 1 := by rw [Lib.size_eq, h]; simp
  have hx : ∀ h : 0 < s.size, ((s[0]'h).toNat : Int) = 34 := first_byte s 34 r h
  have hl : ∀ w, Calls Tryz.prog 61 #[.int .u8 34] w fun e w' => e = .returned (.bool false) ∧ w' = w := letter_any 34
  have hd : ∀ w, Calls Tryz.prog 64 #[.int .u8 34] w fun e w' => e = .returned (.bool false) ∧ w' = w := digit_any 34
  obtain ⟨t, ht⟩ : ∃ t : ByteArray, t = s.extract 1 s.size := ⟨_, rfl⟩
  have htl : t.data.toList = r := by rw [ht, Lib.extract_to_end, h]; rfl
  have htz : t.size = r.length := by rw [Lib.size_eq, htl]
  have hp := prefix_text t (by omega)
  rw [htl] at hp
  obtain ⟨te, hte⟩ : ∃ te : ByteArray, te = ⟨(r.takeWhile textB).toArray⟩ := ⟨_, rfl⟩
  rw [← hte] at hp
  have htel : te.data.toList = r.takeWhile textB := by rw [hte]
  have htes : te.size = (r.takeWhile textB).length := by rw [Lib.size_eq, htel]
  have htele : te.size ≤ r.length := by rw [htes]; exact take_len _ _
  obtain ⟨u, hu⟩ : ∃ u : ByteArray, u = s.extract (1 + te.size) s.size := ⟨_, rfl⟩
  have hul : u.data.toList = r.dropWhile textB := by rw [hu, Lib.extract_to_end, h, Nat.add_comm 1, List.drop_succ_cons, htes, drop_take]
  have hpre := Tryz.strings_HasPrefix u ⟨#[34]⟩
  rw [show (⟨#[34]⟩ : ByteArray).data.toList = [34] from rfl, pre34, hul] at hpre
  have hts : s.extract 1 s.size = t := ht.symm
  have hus : s.extract (1 + te.size) s.size = u := hu.symm
  have hn1 : (1 : Int) + (te.size : Int) ≤ (s.size : Int) := by omega
  have hn3 : wrap64 ((1 : Int) + (te.size : Int)) = (1 : Int) + (te.size : Int) := by unfold wrap64; omega
  clear ht hte htl hu
  by_cases h34 : ∃ q, r.dropWhile textB = 34 :: q
  · obtain ⟨q, hq⟩ := h34
    rw [hq] at hpre
    have hRw : R = s.extract 0 (te.size + 2) := by
      rw [hR.out]
      apply ext_list
      have e1 : (s.extract 0 (te.size + 2)).data.toList = s.data.toList.take (te.size + 2) := by simp
      have e2 : r = r.takeWhile textB ++ 34 :: q := by rw [← hq, List.takeWhile_append_dropWhile]
      rw [e1, h]
      unfold strL
      rw [hq, List.take_succ_cons]
      conv => rhs; rw [e2]
      rw [htes, List.take_length_add_append]
      rfl
    have hq2 : te.size + 2 ≤ s.size := by
      have h1 := congrArg List.length hq
      rw [← drop_take, List.length_drop, ← htes] at h1
      simp at h1
      omega
    have hn2 : (te.size : Int) + 2 ≤ (s.size : Int) := by omega
    have hn4 : wrap64 ((te.size : Int) + 2) = (te.size : Int) + 2 := by unfold wrap64; omega
    have HRW := Lib.hid hRw
    clear hR hq hRw htel htes hul hsr htz htele
    refine (callsIn_wide (n := 3)).1 ?_
    refine callsIn_of_wp_marks Tryz.func44 rfl trivial ?_ rfl
    simp only [Tryz.ntmps44, List.size_toArray, List.length_cons, List.length_nil, Nat.reduceAdd, Nat.reduceSub, Array.replicate_succ, Array.replicate_zero, List.push_toArray, List.append_toArray, List.nil_append, List.cons_append]
    clear h
    gi_wp2_with (first | (refine ⟨trivial, ?_⟩; gi_at_call 61; refine (callsIn_wide.2 (hl _)).mono ?_; rintro e w' ⟨rfl, hw⟩; rw [hw]; clear hw) | (refine ⟨trivial, ?_⟩; gi_at_call 64; refine (callsIn_wide.2 (hd _)).mono ?_; rintro e w' ⟨rfl, hw⟩; rw [hw]; clear hw) | (refine ⟨trivial, ?_⟩; gi_at_call 62; refine (callsIn_wide.2 (hp _)).mono ?_; rintro e w' ⟨rfl, hw⟩; rw [hw]; clear hw) | (refine ⟨trivial, ?_⟩; gi_at_call 59; refine (callsIn_wide.2 (hpre _)).mono ?_; rintro e w' ⟨rfl, hw⟩; rw [hw]; clear hw))
    gi_region
    all_goals gi_wp2
    obtain ⟨W, hW, c0, c1, c2, hB⟩ := cells3 w (.string s) (.int .i64 2) (.string (s.extract 0 (te.size + 2))) 9 3 9
    rw [← hW, HRW.out]
    exact end44 (W := W.drew) rfl rfl c1 c2 ⟨rfl, hB.drew⟩
  · have hpre2 : ∀ w, Calls Tryz.prog 59 #[.string u, .string ⟨#[34]⟩] w fun e w' => e = .returned (.bool false) ∧ w' = w := fun w => by
      have := hpre w
      split at this
      · rename_i q hq; exact absurd ⟨q, hq⟩ h34
      · exact this
    have hRw : R = ⟨#[]⟩ := by
      rw [hR.out]
      unfold strL
      split
      · rename_i q hq; exact absurd ⟨q, hq⟩ h34
      · rfl
    subst hRw
    clear hpre h34 hR htel htes hul hsr htz htele
    refine (callsIn_wide (n := 3)).1 ?_
    refine callsIn_of_wp_marks Tryz.func44 rfl trivial ?_ rfl
    simp only [Tryz.ntmps44, List.size_toArray, List.length_cons, List.length_nil, Nat.reduceAdd, Nat.reduceSub, Array.replicate_succ, Array.replicate_zero, List.push_toArray, List.append_toArray, List.nil_append, List.cons_append]
    clear h
    gi_wp2_with (first | (refine ⟨trivial, ?_⟩; gi_at_call 61; refine (callsIn_wide.2 (hl _)).mono ?_; rintro e w' ⟨rfl, hw⟩; rw [hw]; clear hw) | (refine ⟨trivial, ?_⟩; gi_at_call 64; refine (callsIn_wide.2 (hd _)).mono ?_; rintro e w' ⟨rfl, hw⟩; rw [hw]; clear hw) | (refine ⟨trivial, ?_⟩; gi_at_call 62; refine (callsIn_wide.2 (hp _)).mono ?_; rintro e w' ⟨rfl, hw⟩; rw [hw]; clear hw) | (refine ⟨trivial, ?_⟩; gi_at_call 59; refine (callsIn_wide.2 (hpre2 _)).mono ?_; rintro e w' ⟨rfl, hw⟩; rw [hw]; clear hw))
    obtain ⟨W, hW, c0, c1, c2, hB⟩ := cells3 w (.string s) (.int .i64 2) (.string ⟨#[]⟩) 9 3 9
    rw [← hW]
    exact end44 rfl rfl c1 c2 ⟨rfl, hB⟩
end Go.Proofs.YtahjkibjcibpgaaGreatDoor.L
end
section
namespace Go.Proofs.YtahjkibjcibpgaaGreatDoor.L
open Go.RowKit Go.Shelf Go.Lib Go.Proofs.YtahjkibjcibpgaaGreatDoor.U
attribute [local go_sem] Oper.semAt_some
def restL : List (List UInt8) → List UInt8
  | [] => []
  | [g] => g
  | g :: r => g ++ 32 :: restL r
def sg (i : Nat) : ByteArray := ⟨(signs.getD i []).toArray⟩
def rs (i : Nat) : ByteArray := ⟨(restL (signs.drop i)).toArray⟩
def gl (i : Nat) : Nat := (signs.getD i []).length
theorem rs_more : ∀ i, i < 18 → Lib.indexByte (rs i).data.toList 32 = ((gl i : Nat) : Int) ∧ (rs i).extract 0 (gl i) = sg i ∧ (rs i).extract (gl i + 1) (rs i).size = rs (i + 1) ∧ gl i + 1 ≤ (rs i).size ∧ (rs (i + 1)).size < (rs i).size ∧ gl i ≤ 2 ∧ (rs i).size ≤ 100 := by decide +kernel
theorem rs_last : Lib.indexByte (rs 18).data.toList 32 = -1 ∧ rs 18 = sg 18 := by decide +kernel
set_option maxRecDepth 100000 in
set_option maxHeartbeats 4000000 in
theorem split_iter (l b1 b2 b3 : Nat) (I : Nat → World → Prop) (Ix : World → Prop)
    (hI : ∀ i W, I i W → W.cell? ⟨b1, 0, none⟩ = some (.string ⟨#[32]⟩) ∧ W.cell? ⟨b3, 0, none⟩ = some (.int .i64 0) ∧ W.frozen? ⟨b2, 0, none⟩ = false)
    (hset : ∀ i W v, I i W → I i (W.setCell ⟨b2, 0, none⟩ v))
    (hY : ∀ i W, i < 19 → I i W → YieldAt Fence.wide 1 Tryz.prog l #[.string (sg i)] W fun e W' => (e = .returned (.bool true) ∧ I (i + 1) W' ∧ W'.cell? ⟨b2, 0, none⟩ = W.cell? ⟨b2, 0, none⟩) ∨ (e = .returned (.bool false) ∧ Ix W'))
    (W : World) (h0 : I 0 W) (hc : W.cell? ⟨b2, 0, none⟩ = some (.string (rs 0))) :
    CallsIn Fence.wide 2 Tryz.prog 99 #[.func (.yield l) #[] #[], .pointer (some ⟨b1, 0, none⟩), .pointer (some ⟨b2, 0, none⟩), .pointer (some ⟨b3, 0, none⟩)] W fun e W' => (∃ v, e = .returned v) ∧ (I 19 W' ∨ Ix W') := by
  refine callsIn_of_wp Tryz.func99 rfl trivial ?_ rfl
  simp only [Tryz.ntmps99, List.size_toArray, List.length_cons, List.length_nil, Nat.reduceAdd, Nat.reduceSub, Array.replicate_succ, Array.replicate_zero, List.push_toArray, List.append_toArray, List.nil_append, List.cons_append]
  obtain ⟨k1, k3, kf⟩ := hI 0 W h0
  have HI := Lib.hid hI
  have HS := Lib.hid hset
  have HY := Lib.hid hY
  clear hI hset hY
  gi_wp2
  gi_loopw [7] (fun _ wr => ∃ i : Nat, i ≤ 18 ∧ I i wr ∧ wr.cell? ⟨b2, 0, none⟩ = some (.string (rs i))) (fun _ wr => match wr.cell? ⟨b2, 0, none⟩ with | some (.string t) => t.size | _ => 0)
  case atStart => exact ⟨0, by omega, h0, hc⟩
  case round =>
    clear h0 hc k1 k3 kf
    obtain ⟨i, hi, hIw, hcw⟩ := hrel
    obtain ⟨k1, k3, kf⟩ := HI.out i wr hIw
    obtain ⟨fn, tmps, assign, body, hy, hR⟩ := HY.out i wr (by omega) hIw
    by_cases hlt : i < 18
    · obtain ⟨f1, f2, f3, f4, f5, f6, f7⟩ := rs_more i hlt
      have hidx := Tryz.strings_Index_one (rs i) 32
      rw [f1] at hidx
      have n1 : decide ((gl i : Int) < 0) = false := decide_eq_false (by omega)
      have F3 := Lib.hid f3
      have F5 := Lib.hid f5
      clear f1 f3 f5
      gi_wp2_with (first | (refine ⟨trivial, ?_⟩; gi_at_call 100; refine (callsIn_wide.2 (hidx _)).mono ?_; rintro e w' ⟨rfl, hw⟩; rw [hw]; clear hw))
      refine hR.mono ?_
      rintro e W3 (⟨rfl, hI3, hc3⟩ | ⟨rfl, hx⟩)
      · obtain ⟨j1, j3, jf⟩ := HI.out (i + 1) W3 hI3
        have hc4 := hc3.trans hcw
        have g4 : (gl i : Int) + 1 ≤ ((rs i).size : Int) := by omega
        gi_wp2
        have hcs : (W3.setCell ⟨b2, 0, none⟩ (.string ((rs i).extract (gl i + 1) (rs i).size))).cell? ⟨b2, 0, none⟩ = some (.string (rs (i + 1))) := by
          rw [F3.out]
          exact World.cell?_setCell_same' _ _ _ (by rw [hc4]; rfl)
        refine ⟨⟨i + 1, by omega, HS.out _ _ _ hI3, hcs⟩, ?_⟩
        rw [hcs, hcw]
        exact F5.out
      · gi_wp2
        refine bodyPost_ret (results_none rfl _ _ _) rfl ?_
        exact ⟨⟨_, rfl⟩, Or.inr hx⟩
    · obtain rfl : i = 18 := by omega
      obtain ⟨f1, f2⟩ := rs_last
      have hidx := Tryz.strings_Index_one (rs 18) 32
      rw [f1] at hidx
      gi_wp2_with (first | (refine ⟨trivial, ?_⟩; gi_at_call 100; refine (callsIn_wide.2 (hidx _)).mono ?_; rintro e w' ⟨rfl, hw⟩; rw [hw]; clear hw))
      refine hR.mono ?_
      rintro e W3 (⟨rfl, hI3, hc3⟩ | ⟨rfl, hx⟩)
      · gi_wp2
        go_end0
        exact ⟨⟨_, rfl⟩, Or.inl hI3⟩
      · gi_wp2
        go_end0
        exact ⟨⟨_, rfl⟩, Or.inr hx⟩
end Go.Proofs.YtahjkibjcibpgaaGreatDoor.L
end
section
namespace Go.Proofs.YtahjkibjcibpgaaGreatDoor.L
open Go.RowKit Go.Shelf Go.Lib Go.Proofs.YtahjkibjcibpgaaGreatDoor.U
open Go.Proofs.YtahjkibjcibpgaaGreatDoorW.PrintWords (blk_cell blk_frozen blk_put)
attribute [local go_sem] Oper.semAt_some
structure Mach (n0 B b2 : Nat) (W W' : World) : Prop where
  low : Below n0 W W'
  same : ∀ k, k < B → k ≠ b2 → W'.heap[k]? = W.heap[k]?
theorem Mach.put {n0 B b2 : Nat} {W : World} {l : Nat} {o : Obj} (o' : Obj) (hn : n0 ≤ B) (hl : B ≤ l) (h : W.heap[l]? = some o) (hc : o.isCells = false) (hw : o.isWalk = false) : Mach n0 B b2 W (W.putObj l o') :=
  ⟨belowK_b (w := { W with heap := (W.heap.extract 0 B) }) (by have := (Array.getElem?_eq_some_iff.1 h).1; simp; omega) W l o o' (by simp; omega) h hc hw, fun k hk _ => World.putObj_heap_other (by omega)⟩
theorem Mach.set {n0 B b2 : Nat} (W : World) (v : Value) (hn : n0 ≤ b2) : Mach n0 B b2 W (W.setCell ⟨b2, 0, none⟩ v) :=
  ⟨(Below.refl n0 W).setCell (p := ⟨b2, 0, none⟩) hn _, fun k _ hk => Below.heap_setCell W ⟨b2, 0, none⟩ v k hk⟩
theorem Mach.alloc {n0 B b2 : Nat} (W : World) (o : Obj) (hn : n0 ≤ W.heap.size) (hB : B ≤ W.heap.size) : Mach n0 B b2 W (W.alloc o) :=
  ⟨(Below.refl n0 W).alloc hn _, fun k hk _ => Below.heap_alloc W o k (by omega)⟩
theorem Mach.trans {n0 B b2 : Nat} {X Y Z : World} (h : Mach n0 B b2 X Y) (k : Mach n0 B b2 Y Z) : Mach n0 B b2 X Z :=
  ⟨h.low.trans k.low, fun i hi hn => (k.same i hi hn).trans (h.same i hi hn)⟩
def bodyPostS (J : Nat → World → Prop) (Jx : World → Prop) (B i : Nat) (W : World) : Exit → Act → World → Prop
  | .normal, _, W' => W' = W ∧ J (i + 1) W
  | .ret, _, W' => W.heap.size ≤ W'.heap.size ∧ (∀ k, B ≤ k → k < W.heap.size → W'.heap[k]? = W.heap[k]?) ∧ Jx W'
  | _, _, _ => False
theorem range_split {g : Operand} {p : Tmp} {assign body : Code} {Q : Exit → Act → World → Prop} {a : Act} {w : World} (n0 b1 b2 b3 : Nat)
    (hg : a.eval g = .func (.func 99) #[] #[.pointer (some ⟨b1, 0, none⟩), .pointer (some ⟨b2, 0, none⟩), .pointer (some ⟨b3, 0, none⟩)])
    (h12 : b1 ≠ b2) (h32 : b3 ≠ b2) (hn : n0 ≤ b2) (hb1 : b1 < w.heap.size) (hb2 : b2 < w.heap.size) (hb3 : b3 < w.heap.size)
    (c1 : w.cell? ⟨b1, 0, none⟩ = some (.string ⟨#[32]⟩)) (c2 : w.cell? ⟨b2, 0, none⟩ = some (.string (rs 0))) (c3 : w.cell? ⟨b3, 0, none⟩ = some (.int .i64 0)) (fz : w.frozen? ⟨b2, 0, none⟩ = false)
    (J : Nat → World → Prop) (Jx : World → Prop) (hJ : ∀ i W W', J i W → Mach n0 w.heap.size b2 W W' → J i W') (hJx : ∀ W W', Jx W → Mach n0 w.heap.size b2 W W' → Jx W') (h0 : J 0 w)
    (a₁ : Nat → Act)
    (hassign : ∀ (l i : Nat) (W : World) (K : Act → World → Prop), K (a₁ i) W → assign.wpIn (Fence.wide.inRound l) 1 Tryz.prog (Exit.then K (fun _ _ _ => False)) { tmps := a.tmps.setIfInBounds p (.string (sg i)), defers := [] } W)
    (hbody : ∀ (l i : Nat) (W : World), J i W → i < 19 → body.wpIn (Fence.wide.inRound l) 1 Tryz.prog (bodyPostS J Jx w.heap.size i W) (a₁ i) W)
    (hdone : ∀ (D : Nat) (W : World), w.heap.size ≤ D → J 19 W → W.heap[D]? = some (.deferred (some [])) → Q .normal { a with defers := { target := .collected D, args := #[] } :: a.defers } W)
    (hstop : ∀ (D : Nat) (W : World), w.heap.size ≤ D → Jx W → W.heap[D]? = some (.deferred (some [])) → Code.ret.wpIn Fence.wide 3 Tryz.prog Q { a with defers := { target := .collected D, args := #[] } :: a.defers } W) :
    (Code.rangeFunc g #[p] assign body).wpIn Fence.wide 3 Tryz.prog Q a w := by
  have hn0 : n0 ≤ w.heap.size := by omega
  refine wpIn_rangeFunc fun fn _ => ?_
  obtain ⟨rec, hrec⟩ : ∃ rec : LoopState → Option Code → Loop, rec = fun st pe => { state := st, pending := pe, fn, tmps := a.tmps, params := #[p], assign, body, defers := w.heap.size } := ⟨_, rfl⟩
  obtain ⟨W1, hW1⟩ : ∃ W1, (w.alloc (.deferred (some []))).alloc (.loop (rec .ready none)) = W1 := ⟨_, rfl⟩
  have hL1 : W1.heap[w.heap.size + 1]? = some (.loop (rec .ready none)) := by
    rw [← hW1]; have := World.alloc_heap_new (w.alloc (.deferred (some []))) (.loop (rec .ready none)); rwa [World.size_alloc] at this
  have hK1 : W1.heap[w.heap.size]? = some (.deferred (some [])) := by
    rw [← hW1]; exact (Below.heap_alloc _ _ _ (by simp)).trans (World.alloc_heap_new w _)
  have hm1 : Mach n0 w.heap.size b2 w W1 := by
    rw [← hW1]; exact (Mach.alloc w _ hn0 (Nat.le_refl _)).trans (Mach.alloc _ _ (by simp; omega) (by simp))
  have old : ∀ k, k < w.heap.size → W1.heap[k]? = w.heap[k]? := fun k hk => by
    rw [← hW1]; exact (Below.heap_alloc _ _ k (by simp; omega)).trans (Below.heap_alloc _ _ k hk)
  -- the invariant with the loop's blocks beside it
  obtain ⟨I, hI⟩ : ∃ I : Nat → World → Prop, I = fun i W => J i W ∧ W.heap[w.heap.size + 1]? = some (.loop (rec .ready none)) ∧ W.heap[w.heap.size]? = some (.deferred (some [])) ∧
      W.cell? ⟨b1, 0, none⟩ = some (.string ⟨#[32]⟩) ∧ W.cell? ⟨b3, 0, none⟩ = some (.int .i64 0) ∧ W.frozen? ⟨b2, 0, none⟩ = false := ⟨_, rfl⟩
  obtain ⟨Ix, hIx⟩ : ∃ Ix : World → Prop, Ix = fun W => Jx W ∧ W.heap[w.heap.size + 1]? = some (.loop (rec .done (some .ret))) ∧ W.heap[w.heap.size]? = some (.deferred (some [])) := ⟨_, rfl⟩
  refine ⟨w.heap.size + 1, [{ target := .collected w.heap.size, args := #[] }], W1, { target := .fn (.func 99) #[.pointer (some ⟨b1, 0, none⟩), .pointer (some ⟨b2, 0, none⟩), .pointer (some ⟨b3, 0, none⟩)], args := #[.func (.yield (w.heap.size + 1)) #[] #[]] }, W1, 99,
    #[.func (.yield (w.heap.size + 1)) #[] #[], .pointer (some ⟨b1, 0, none⟩), .pointer (some ⟨b2, 0, none⟩), .pointer (some ⟨b3, 0, none⟩)], W1, ?_, ?_, fun _ _ => trivial, ?_, fun _ => by decide, ?_⟩
  · rw [← hW1, hrec]; exact run_enterLoop_outer _ _ _ _ _
  · simp only [resolve, hg]
    simp [go_sem]
  · simp [invoke, go_sem]
  · refine (split_iter (w.heap.size + 1) b1 b2 b3 I Ix ?_ ?_ ?_ W1 ?_ ?_).mono ?_
    · rw [hI]; rintro i W ⟨_, _, _, k1, k3, kf⟩; exact ⟨k1, k3, kf⟩
    · rw [hI]; rintro i W v ⟨hj, hl, hk, k1, k3, kf⟩
      refine ⟨hJ i W _ hj (Mach.set W v hn), (Below.heap_setCell W ⟨b2, 0, none⟩ v _ (by simp; omega)).trans hl, (Below.heap_setCell W ⟨b2, 0, none⟩ v _ (by simp; omega)).trans hk, ?_, ?_, ?_⟩
      · rw [World.cell?_setCell_other _ _ _ _ (by intro e; injection e with e1; exact h12 e1.symm)]; exact k1
      · rw [World.cell?_setCell_other _ _ _ _ (by intro e; injection e with e1; exact h32 e1.symm)]; exact k3
      · rw [World.frozen?_setCell]; exact kf
    · rw [hI, hIx]
      rintro i W hi ⟨hj, hl, hk, k1, k3, kf⟩
      have hlt : w.heap.size + 1 < W.heap.size := (Array.getElem?_eq_some_iff.1 hl).1
      have hy := run_yield (P := Tryz.prog) (args := #[.string (sg i)]) hl (by rw [hrec]; rfl)
      rw [hrec] at hy
      refine ⟨fn, _, assign, body, hy, roundIn_of_wpIn trivial ?_⟩
      have ef : (#[p].zip #[Value.string (sg i)]).foldl (fun tmps (t, a) => tmps.setIfInBounds t a) a.tmps = a.tmps.setIfInBounds p (.string (sg i)) := by simp
      rw [ef]
      refine hassign _ i W _ ?_
      refine ⟨_, run_beginRound hl (by rw [hrec]), ?_⟩
      obtain ⟨W2, hW2⟩ : ∃ W2, W2 = W.putObj (w.heap.size + 1) (.loop { rec .ready none with state := .busy }) := ⟨_, rfl⟩
      rw [← hW2]
      have hl2 : W2.heap[w.heap.size + 1]? = some (.loop { rec .ready none with state := .busy }) := by rw [hW2]; exact World.putObj_heap_same hlt
      have hm2 : Mach n0 w.heap.size b2 W W2 := by rw [hW2]; exact Mach.put _ hn0 (by omega) hl rfl rfl
      have hs2 : ∀ k, k ≠ w.heap.size + 1 → W2.heap[k]? = W.heap[k]? := fun k hk => by rw [hW2]; exact World.putObj_heap_other hk
      have hk2 := (hs2 w.heap.size (by omega)).trans hk
      have hz2 : W2.heap.size = W.heap.size := by rw [hW2]; simp [World.putObj]
      refine wpIn_mono (hbody _ i W2 (hJ i W W2 hj hm2) hi) ?_
      rintro e a3 W3 hp
      cases e with
      | normal =>
        obtain ⟨rfl, hj3⟩ := hp
        have hr := run_endRound (P := Tryz.prog) none hl2
        have hs4 : ∀ k, k ≠ w.heap.size + 1 → (W3.putObj (w.heap.size + 1) (.loop { rec .ready none with state := .ready, pending := none })).heap[k]? = W.heap[k]? := fun k hk => (World.putObj_heap_other hk).trans (hs2 k hk)
        refine ⟨_, _, hr, .inl ⟨rfl, ⟨hJ _ _ _ hj3 (Mach.put _ hn0 (by omega) hl2 rfl rfl), ?_, (hs4 _ (by omega)).trans hk, ?_, ?_, ?_⟩, ?_⟩⟩
        · have := World.putObj_heap_same (w := W3) (o := .loop { rec .ready none with state := .ready, pending := none }) (Array.getElem?_eq_some_iff.1 hl2).1
          rw [hrec] at this ⊢
          exact this
        · exact (World.cell?_of_block (hs4 b1 (by omega))).trans k1
        · exact (World.cell?_of_block (hs4 b3 (by omega))).trans k3
        · exact (World.frozen?_of_block (hs4 b2 (by omega))).trans kf
        · exact World.cell?_of_block (hs4 b2 (by omega))
      | ret =>
        obtain ⟨hz3, hs3, hx3⟩ := hp
        have hl3 : W3.heap[w.heap.size + 1]? = some (.loop { rec .ready none with state := .busy }) := (hs3 _ (by omega) (by omega)).trans hl2
        have hk3 : W3.heap[w.heap.size]? = some (.deferred (some [])) := (hs3 _ (Nat.le_refl _) (by omega)).trans hk2
        have hr := run_endRound (P := Tryz.prog) (some .ret) hl3
        refine ⟨_, _, hr, .inr ⟨rfl, hJx _ _ hx3 (Mach.put _ hn0 (by omega) hl3 rfl rfl), ?_, (World.putObj_heap_other (by omega)).trans hk3⟩⟩
        have := World.putObj_heap_same (w := W3) (o := .loop { rec .ready none with state := .done, pending := some .ret }) (Array.getElem?_eq_some_iff.1 hl3).1
        rw [hrec] at this ⊢
        exact this
      | exit id => exact hp.elim
      | goto t => exact hp.elim
      | panic ch => exact hp.elim
      | outgrown => exact hp.elim
    · rw [hI]
      exact ⟨hJ 0 w W1 h0 hm1, hL1, hK1, (World.cell?_of_block (old b1 hb1)).trans c1, (World.cell?_of_block (old b3 hb3)).trans c3, (World.frozen?_of_block (old b2 hb2)).trans fz⟩
    · exact (World.cell?_of_block (old b2 hb2)).trans c2
    · rw [hI, hIx]
      rintro e W2 ⟨⟨v, rfl⟩, (⟨hj, hl, hk, _⟩ | ⟨hx, hl, hk⟩)⟩
      · exact ⟨none, _, by have := run_endLoop (P := Tryz.prog) hl (by rw [hrec]; simp); rw [hrec] at this; exact this, hdone _ _ (Nat.le_refl _) (hJ _ _ _ hj (Mach.put _ hn0 (by omega) hl rfl rfl)) ((World.putObj_heap_other (by omega)).trans hk)⟩
      · exact ⟨some .ret, _, by have := run_endLoop (P := Tryz.prog) hl (by rw [hrec]; simp); rw [hrec] at this; exact this, hstop _ _ (Nat.le_refl _) (hJx _ _ hx (Mach.put _ hn0 (by omega) hl rfl rfl)) ((World.putObj_heap_other (by omega)).trans hk)⟩
def signsB : ByteArray := ⟨#[60, 61, 32, 62, 61, 32, 61, 61, 32, 33, 61, 32, 123, 32, 125, 32, 40, 32, 41, 32, 44, 32, 59, 32, 58, 32, 61, 32, 43, 32, 45, 32, 42, 32, 47, 32, 37, 32, 60, 32, 62]⟩
theorem signsB_rs : signsB = rs 0 := by decide +kernel
theorem splitseq_any (s sep : ByteArray) (w : World) : Calls Tryz.prog 67 #[.string s, .string sep] w fun e w' =>
    e = .returned (.func (.func 99) #[] #[.pointer (some ⟨w.heap.size + 1, 0, none⟩), .pointer (some ⟨w.heap.size, 0, none⟩), .pointer (some ⟨w.heap.size + 1 + 1, 0, none⟩)]) ∧
    w' = ((w.alloc (.cells #[.string s] 9)).alloc (.cells #[.string sep] 9)).alloc (.cells #[.int .i64 0] 3) := by
  go_enter Tryz.func67, Tryz.ntmps67
  go_wp2
  go_ret
  exact ⟨rfl, rfl⟩
theorem heap6 (w : World) (o0 o1 o2 o3 o4 o5 : Obj) : ∃ W, (((((w.alloc o0).alloc o1).alloc o2).alloc o3).alloc o4).alloc o5 = W ∧ W.heap.size = w.heap.size + 6 ∧ Below w.heap.size w W ∧
    W.heap[w.heap.size]? = some o0 ∧ W.heap[w.heap.size + 1]? = some o1 ∧ W.heap[w.heap.size + 1 + 1]? = some o2 ∧ W.heap[w.heap.size + 1 + 1 + 1]? = some o3 ∧ W.heap[w.heap.size + 1 + 1 + 1 + 1]? = some o4 ∧ W.heap[w.heap.size + 1 + 1 + 1 + 1 + 1]? = some o5 := by
  obtain ⟨w1, h1⟩ : ∃ w1, w1 = w.alloc o0 := ⟨_, rfl⟩
  obtain ⟨w2, h2⟩ : ∃ w2, w2 = w1.alloc o1 := ⟨_, rfl⟩
  obtain ⟨w3, h3⟩ : ∃ w3, w3 = w2.alloc o2 := ⟨_, rfl⟩
  obtain ⟨w4, h4⟩ : ∃ w4, w4 = w3.alloc o3 := ⟨_, rfl⟩
  obtain ⟨w5, h5⟩ : ∃ w5, w5 = w4.alloc o4 := ⟨_, rfl⟩
  have s1 : w1.heap.size = w.heap.size + 1 := by rw [h1, World.size_alloc]
  have s2 : w2.heap.size = w.heap.size + 1 + 1 := by rw [h2, World.size_alloc, s1]
  have s3 : w3.heap.size = w.heap.size + 1 + 1 + 1 := by rw [h3, World.size_alloc, s2]
  have s4 : w4.heap.size = w.heap.size + 1 + 1 + 1 + 1 := by rw [h4, World.size_alloc, s3]
  have s5 : w5.heap.size = w.heap.size + 1 + 1 + 1 + 1 + 1 := by rw [h5, World.size_alloc, s4]
  refine ⟨w5.alloc o5, by rw [h5, h4, h3, h2, h1], by rw [World.size_alloc, s5], ?_, ?_, ?_, ?_, ?_, ?_, ?_⟩
  · have b1 := (Below.refl w.heap.size w).alloc (Nat.le_refl _) o0
    rw [← h1] at b1
    have b2 := b1.alloc (by omega) o1
    rw [← h2] at b2
    have b3 := b2.alloc (by omega) o2
    rw [← h3] at b3
    have b4 := b3.alloc (by omega) o3
    rw [← h4] at b4
    have b5 := b4.alloc (by omega) o4
    rw [← h5] at b5
    exact b5.alloc (by omega) o5
  · have e1 : w1.heap[w.heap.size]? = some o0 := by rw [h1]; exact World.alloc_heap_new w o0
    rw [Below.heap_alloc w5 o5 _ (by omega), h5, Below.heap_alloc w4 o4 _ (by omega), h4, Below.heap_alloc w3 o3 _ (by omega), h3, Below.heap_alloc w2 o2 _ (by omega), h2, Below.heap_alloc w1 o1 _ (by omega)]
    exact e1
  · have e1 : w2.heap[w1.heap.size]? = some o1 := by rw [h2]; exact World.alloc_heap_new w1 o1
    rw [s1] at e1
    rw [Below.heap_alloc w5 o5 _ (by omega), h5, Below.heap_alloc w4 o4 _ (by omega), h4, Below.heap_alloc w3 o3 _ (by omega), h3, Below.heap_alloc w2 o2 _ (by omega)]
    exact e1
  · have e1 : w3.heap[w2.heap.size]? = some o2 := by rw [h3]; exact World.alloc_heap_new w2 o2
    rw [s2] at e1
    rw [Below.heap_alloc w5 o5 _ (by omega), h5, Below.heap_alloc w4 o4 _ (by omega), h4, Below.heap_alloc w3 o3 _ (by omega)]
    exact e1
  · have e1 : w4.heap[w3.heap.size]? = some o3 := by rw [h4]; exact World.alloc_heap_new w3 o3
    rw [s3] at e1
    rw [Below.heap_alloc w5 o5 _ (by omega), h5, Below.heap_alloc w4 o4 _ (by omega)]
    exact e1
  · have e1 : w5.heap[w4.heap.size]? = some o4 := by rw [h5]; exact World.alloc_heap_new w4 o4
    rw [s4] at e1
    rw [Below.heap_alloc w5 o5 _ (by omega)]
    exact e1
  · have e1 := World.alloc_heap_new w5 o5
    rw [s5] at e1
    exact e1
theorem find_some_sign (l : List UInt8) (i : Nat) (hi : i < 19) (hne : ∀ j, j < i → (signs.getD j []).isPrefixOf l = false) (he : (signs.getD i []).isPrefixOf l = true) : signL l = signs.getD i [] := by
  unfold signL
  have key : ∀ (gs : List (List UInt8)) (i : Nat), i < gs.length → (∀ j, j < i → (gs.getD j []).isPrefixOf l = false) → (gs.getD i []).isPrefixOf l = true → gs.find? (fun g => g.isPrefixOf l) = some (gs.getD i []) := by
    intro gs
    induction gs with
    | nil => intro i hi; simp at hi
    | cons g r ih =>
      intro i hi hne he
      cases i with
      | zero => simp at he ⊢; simp [he]
      | succ i =>
        have h0 := hne 0 (by omega)
        simp at h0
        rw [List.find?_cons, h0]
        have := ih i (by simpa using hi) (fun j hj => by have := hne (j + 1) (by omega); simpa using this) (by simpa using he)
        simpa using this
  rw [key signs i hi hne he]
  rfl
theorem find_no_sign (l : List UInt8) (hne : ∀ j, j < 19 → (signs.getD j []).isPrefixOf l = false) : signL l = [] := by
  unfold signL
  have : signs.find? (fun g => g.isPrefixOf l) = none := by
    rw [List.find?_eq_none]
    intro g hg
    obtain ⟨j, hj, e⟩ := List.mem_iff_getElem.1 hg
    have h1 := hne j hj
    rw [List.getD_eq_getElem?_getD, List.getElem?_eq_getElem hj, Option.getD_some, e] at h1
    simp [h1]
  rw [this]; rfl
set_option maxRecDepth 100000 in
set_option maxHeartbeats 4000000 in
theorem first_sign (s R : ByteArray) (c : UInt8) (r : List UInt8) (h : s.data.toList = c :: r) (hc1 : letterB c = false) (hc2 : isDig c = false) (hc3 : c ≠ 34) (hR : Hid (R = ⟨(signL s.data.toList).toArray⟩)) (w : World) :
    Calls Tryz.prog 44 #[.string s] w fun e w' => e = .returned (.tuple #[.int .i64 3, .string R]) ∧ Below w.heap.size w w' := by
  have hsz : 0 < s.size := by rw [Lib.size_eq, h]; simp
  have hx := first_byte s c r h
  have hl := letter_any c
  rw [hc1] at hl
  have hd := digit_any c
  rw [hc2] at hd
  have h34 : ((c.toNat : Int) == 34) = false := by
    rw [beq_eq_false_iff_ne]; intro e; exact hc3 (UInt8.toNat_inj.1 (show c.toNat = 34 by omega))
  refine (callsIn_wide (n := 3)).1 ?_
  refine callsIn_of_wp_marks Tryz.func44 rfl trivial ?_ rfl
  simp only [Tryz.ntmps44, List.size_toArray, List.length_cons, List.length_nil, Nat.reduceAdd, Nat.reduceSub, Array.replicate_succ, Array.replicate_zero, List.push_toArray, List.append_toArray, List.nil_append, List.cons_append]
  gi_wp2_with (first | (refine ⟨trivial, ?_⟩; gi_at_call 61; refine (callsIn_wide.2 (hl _)).mono ?_; rintro e w' ⟨rfl, hw⟩; rw [hw]; clear hw) | (refine ⟨trivial, ?_⟩; gi_at_call 64; refine (callsIn_wide.2 (hd _)).mono ?_; rintro e w' ⟨rfl, hw⟩; rw [hw]; clear hw) | (refine ⟨trivial, ?_⟩; gi_at_call 67; refine (callsIn_wide.2 (splitseq_any _ _ _)).mono ?_; rintro e w' ⟨rfl, hw⟩; rw [hw]; clear hw))
  obtain ⟨W0, hW0, hz, hB0, k0, k1, k2, k3, k4, k5⟩ := heap6 w (.cells #[.string s] 9) (.cells #[.int .i64 0] 3) (.cells #[.string ⟨#[]⟩] 9) (.cells #[.string signsB] 9) (.cells #[.string ⟨#[32]⟩] 9) (.cells #[.int .i64 0] 3)
  unfold signsB at hW0
  rw [hW0]
  rw [signsB_rs] at k3
  have hpre : ∀ i w, Calls Tryz.prog 59 #[.string s, .string (sg i)] w fun e w' => e = .returned (.bool ((signs.getD i []).isPrefixOf s.data.toList)) ∧ w' = w := fun i w => Tryz.strings_HasPrefix s (sg i) w
  have HP := Lib.hid hpre
  clear hpre hx hl hd h34 h hc1 hc2 hc3 hsz
  refine range_split (a₁ := fun i => { tmps := #[.string s, .pointer (some ⟨w.heap.size, 0, none⟩), .pointer (some ⟨w.heap.size + 1, 0, none⟩), .pointer (some ⟨w.heap.size + 1 + 1, 0, none⟩), .int .u8 (c.toNat : Int), undef, undef, undef, undef, undef, .string (sg i), .string s, .int .u8 (c.toNat : Int), .bool false, .int .u8 (c.toNat : Int), .bool false, undef, undef, .bool false, .int .u8 (c.toNat : Int), .bool false, undef, undef, undef, undef, undef, undef, undef, undef, undef, undef, undef, undef, undef, undef, undef, undef, undef, undef, undef, undef, undef, undef, undef, undef, .bool false, .int .u8 (c.toNat : Int), .bool false, undef, undef, undef, undef, undef, undef, undef, undef, undef, undef, undef, undef, undef, undef, .func (.func 99) #[] #[.pointer (some ⟨w.heap.size + 1 + 1 + 1 + 1, 0, none⟩), .pointer (some ⟨w.heap.size + 1 + 1 + 1, 0, none⟩), .pointer (some ⟨w.heap.size + 1 + 1 + 1 + 1 + 1, 0, none⟩)], .string (sg i), undef, undef, undef, undef], defers := [] }) w.heap.size (w.heap.size + 1 + 1 + 1 + 1) (w.heap.size + 1 + 1 + 1) (w.heap.size + 1 + 1 + 1 + 1 + 1) rfl (by omega) (by omega) (by omega) (by omega) (by omega) (by omega)
    (blk_cell k4 0) (blk_cell k3 0) (blk_cell k5 0) (blk_frozen k3 0)
    (fun i W => (∀ j, j < i → (signs.getD j []).isPrefixOf s.data.toList = false) ∧ W.heap[w.heap.size]? = some (.cells #[.string s] 9 (0, 0)) ∧ W.heap[w.heap.size + 1]? = some (.cells #[.int .i64 0] 3 (0, 0)) ∧ W.heap[w.heap.size + 1 + 1]? = some (.cells #[.string ⟨#[]⟩] 9 (0, 0)) ∧ Below w.heap.size w W)
    (fun W => ∃ i, i < 19 ∧ (∀ j, j < i → (signs.getD j []).isPrefixOf s.data.toList = false) ∧ (signs.getD i []).isPrefixOf s.data.toList = true ∧ W.heap[w.heap.size + 1]? = some (.cells #[.int .i64 3] 3 (0, 0)) ∧ W.heap[w.heap.size + 1 + 1]? = some (.cells #[.string (sg i)] 9 (0, 0)) ∧ Below w.heap.size w W)
    ?hJ ?hJx ⟨fun j hj => absurd hj (by omega), k0, k1, k2, hB0⟩ ?assign ?body ?done ?stop
  case hJ =>
    rintro i W W' ⟨e0, e1, e2, e3, e4⟩ hm
    exact ⟨e0, (hm.same _ (by omega) (by omega)).trans e1, (hm.same _ (by omega) (by omega)).trans e2, (hm.same _ (by omega) (by omega)).trans e3, e4.trans hm.low⟩
  case hJx =>
    rintro W W' ⟨i, hi, e0, e1, e2, e3, e4⟩ hm
    exact ⟨i, hi, e0, e1, (hm.same _ (by omega) (by omega)).trans e2, (hm.same _ (by omega) (by omega)).trans e3, e4.trans hm.low⟩
  case assign =>
    intro l i W K hK
    gi_wp2
    exact hK
  case body =>
    rintro l i W ⟨e0, e1, e2, e3, e4⟩ hi
    have hp := HP.out i
    have d0 := blk_cell e1 0
    cases hpi : (signs.getD i []).isPrefixOf s.data.toList with
    | false =>
      rw [hpi] at hp
      gi_wp2_with (first | (refine ⟨trivial, ?_⟩; gi_at_call 59; refine (CallsIn.inRound l (callsIn_wide.2 (hp _))).mono ?_; rintro e w' ⟨rfl, hw⟩; rw [hw]; clear hw))
      exact ⟨rfl, fun j hj => by
        by_cases h : j = i
        · subst h; exact hpi
        · exact e0 j (by omega), e1, e2, e3, e4⟩
    | true =>
      rw [hpi] at hp
      have d1 := blk_cell e2 0
      have d2 := blk_cell e3 0
      have z1 := blk_frozen e2 0
      have z2 := blk_frozen e3 0
      gi_wp2_with (first | (refine ⟨trivial, ?_⟩; gi_at_call 59; refine (CallsIn.inRound l (callsIn_wide.2 (hp _))).mono ?_; rintro e w' ⟨rfl, hw⟩; rw [hw]; clear hw))
      refine ⟨by simp [World.setCell], fun k hk1 hk2 => ?_, i, hi, e0, hpi, ?_, ?_, ?_⟩
      · exact (Below.heap_setCell _ _ _ k (by simp; omega)).trans (Below.heap_setCell _ _ _ k (by simp; omega))
      · exact (Below.heap_setCell _ _ _ _ (by simp)).trans (blk_put e2 0 _ rfl)
      · exact blk_put (cs := #[.string ⟨#[]⟩]) ((Below.heap_setCell _ _ _ _ (by simp)).trans e3) 0 _ rfl
      · exact (e4.setCell (p := ⟨w.heap.size + 1, 0, none⟩) (by simp) _).setCell (p := ⟨w.heap.size + 1 + 1, 0, none⟩) (by simp; omega) _
  case done =>
    rintro D W hD ⟨e0, e1, e2, e3, e4⟩ hK
    have hRe : R = ⟨#[]⟩ := by rw [hR.out, find_no_sign _ e0]
    subst hRe
    have d1 := blk_cell e2 0
    have d2 := blk_cell e3 0
    have z1 := blk_frozen e2 0
    have z2 := blk_frozen e3 0
    gi_wp2
    have g1 := (Below.heap_setCell (W.setCell ⟨w.heap.size + 1, 0, none⟩ (.int .i64 3)) ⟨w.heap.size + 1 + 1, 0, none⟩ (.string ⟨#[]⟩) (w.heap.size + 1) (by simp)).trans (blk_put e2 0 (.int .i64 3) rfl)
    have g2 := blk_put (cs := #[.string ⟨#[]⟩]) ((Below.heap_setCell W ⟨w.heap.size + 1, 0, none⟩ (.int .i64 3) (w.heap.size + 1 + 1) (by simp)).trans e3) 0 (.string ⟨#[]⟩) rfl
    have hb := (e4.setCell (p := ⟨w.heap.size + 1, 0, none⟩) (by simp) (.int .i64 3)).setCell (p := ⟨w.heap.size + 1 + 1, 0, none⟩) (by simp; omega) (.string ⟨#[]⟩)
    have hK' := ((Below.heap_setCell (W.setCell ⟨w.heap.size + 1, 0, none⟩ (.int .i64 3)) ⟨w.heap.size + 1 + 1, 0, none⟩ (.string ⟨#[]⟩) D (by simp; omega)).trans (Below.heap_setCell W ⟨w.heap.size + 1, 0, none⟩ (.int .i64 3) D (by simp; omega))).trans hK
    generalize (W.setCell ⟨w.heap.size + 1, 0, none⟩ (.int .i64 3)).setCell ⟨w.heap.size + 1 + 1, 0, none⟩ (.string ⟨#[]⟩) = W9 at g1 g2 hb hK'
    refine ⟨by simp, .inl ⟨_, _, rfl, run_takeDeferred hK', ?_⟩⟩
    have m9 := Mach.put (n0 := w.heap.size) (B := W0.heap.size) (b2 := w.heap.size + 1 + 1 + 1) (.deferred none) (by omega) hD hK' rfl rfl
    exact ⟨_, results44 rfl rfl (blk_cell ((m9.same _ (by omega) (by omega)).trans g1) 0) (blk_cell ((m9.same _ (by omega) (by omega)).trans g2) 0), rfl, hb.trans m9.low⟩
  case stop =>
    rintro D W hD ⟨i, hi, e0, e1, e2, e3, e4⟩ hK
    have hRe : R = sg i := by rw [hR.out, find_some_sign _ i hi e0 e1]; rfl
    subst hRe
    gi_wp2
    refine ⟨by simp, .inl ⟨_, _, rfl, run_takeDeferred hK, ?_⟩⟩
    have m9 := Mach.put (n0 := w.heap.size) (B := W0.heap.size) (b2 := w.heap.size + 1 + 1 + 1) (.deferred none) (by omega) hD hK rfl rfl
    exact ⟨_, results44 rfl rfl (blk_cell ((m9.same _ (by omega) (by omega)).trans e2) 0) (blk_cell ((m9.same _ (by omega) (by omega)).trans e3) 0), rfl, e4.trans m9.low⟩
theorem first_any (s : ByteArray) (hs : s.size ≤ 65536) (h0 : s.data.toList ≠ []) (w : World) :
    Calls Tryz.prog 44 #[.string s] w fun e w' => e = .returned (.tuple #[.int .i64 ((firstL s.data.toList).1 : Nat), .string ⟨(firstL s.data.toList).2.toArray⟩]) ∧ Below w.heap.size w w' := by
  cases h : s.data.toList with
  | nil => exact absurd h h0
  | cons c r =>
    cases h1 : letterB c with
    | true =>
      have := first_letter s c r hs h h1 w
      rw [h] at this
      rw [show firstL (c :: r) = (0, (c :: r).takeWhile nameB) by simp [firstL, h1]]
      exact this
    | false =>
      cases h2 : isDig c with
      | true =>
        have := first_digit s _ c r hs h h1 h2 (Lib.hid rfl) w
        rw [h] at this
        rw [show firstL (c :: r) = (1, numL (c :: r)) by simp [firstL, h1, h2]]
        exact this
      | false =>
        by_cases h3 : c = 34
        · subst h3
          rw [show firstL (34 :: r) = (2, strL r) by simp [firstL, h1, h2]]
          exact first_quote s _ r hs h (Lib.hid rfl) w
        · have := first_sign s _ c r h h1 h2 h3 (Lib.hid rfl) w
          rw [h] at this
          rw [show firstL (c :: r) = (3, signL (c :: r)) by simp [firstL, h1, h2, h3]]
          exact this
end Go.Proofs.YtahjkibjcibpgaaGreatDoor.L
end
section
namespace Go.Proofs.YtahjkibjcibpgaaGreatDoor.L
open Go.RowKit Go.Shelf Go.Lib Go.Proofs.YtahjkibjcibpgaaGreatDoor.U
open Go.Proofs.YtahjkibjcibpgaaGreatDoorW.PrintWords (blk_cell blk_frozen blk_put below_step)
attribute [local go_sem] Oper.semAt_some
def tokV (t : Tok) : Value := .agg #[.int .i64 (t.kind : Nat), .string ⟨t.text.toArray⟩, .int .i64 (t.at_ : Nat)]
theorem skip_le (t : List UInt8) : spaceL t ≤ t.length := by unfold spaceL; omega
theorem first_two (l : List UInt8) (h1 : (firstL l).1 = 2) (h2 : (firstL l).2 ≠ []) : 2 ≤ (firstL l).2.length := by
  cases l with
  | nil => simp [firstL] at h1
  | cons c r =>
    simp only [firstL] at h1 h2 ⊢
    split at h1
    · simp at h1
    · split at h1
      · simp at h1
      · split at h1
        · rename_i g1 g2 g3
          rw [if_neg g1, if_neg g2, if_pos g3] at h2 ⊢
          unfold strL at h2 ⊢
          simp only at h2 ⊢
          split
          · simp
          · rename_i hh
            split at h2
            · rename_i hq; exact absurd hq (hh _)
            · exact absurd rfl h2
        · simp at h1
theorem first_le (l : List UInt8) : (firstL l).2.length ≤ l.length := by
  cases l with
  | nil => simp [firstL]
  | cons c r =>
    simp only [firstL]
    split
    · exact take_len _ _
    · split
      · unfold numL
        split
        · rename_i q hq
          split
          · exact take_len _ _
          · have h1 := congrArg List.length (List.takeWhile_append_dropWhile (p := isDig) (l := c :: r))
            rw [hq] at h1
            have h2 := take_len isDig q
            simp only [List.length_append, List.length_cons] at h1 ⊢
            omega
        · exact take_len _ _
      · split
        · unfold strL
          split
          · rename_i q hq
            have h1 := congrArg List.length (List.takeWhile_append_dropWhile (p := textB) (l := r))
            rw [hq] at h1
            simp only [List.length_append, List.length_cons, List.length_nil] at h1 ⊢
            omega
          · simp
        · unfold signL
          cases hf : signs.find? (fun g => g.isPrefixOf (c :: r)) with
          | none => simp
          | some g =>
            have := List.find?_some hf
            simp only [Option.getD_some]
            exact (List.isPrefixOf_iff_prefix.1 this).length_le
set_option maxRecDepth 100000 in
set_option maxHeartbeats 4000000 in
theorem tok_iter (s : ByteArray) (hs : s.size ≤ 65536) (l b1 : Nat) (I : Nat → World → Prop) (Ix : World → Prop) (Y : List (Tok × Bool)) (hYs : Hid (Y = visits s.data.toList))
    (hI : ∀ i W, I i W → W.cell? ⟨b1, 0, none⟩ = some (.string s))
    (hB : ∀ i W W', I i W → Below W.heap.size W W' → I i W')
    (hY : ∀ i y W, Y[i]? = some y → I i W → YieldAt Fence.wide 1 Tryz.prog l #[tokV y.1, .bool y.2] W fun e W' => (e = .returned (.bool true) ∧ I (i + 1) W') ∨ (e = .returned (.bool false) ∧ Ix W'))
    (W : World) (h0 : I 0 W) :
    CallsIn Fence.wide 2 Tryz.prog 42 #[.func (.yield l) #[] #[], .pointer (some ⟨b1, 0, none⟩)] W fun e W' => (∃ v, e = .returned v) ∧ (I Y.length W' ∨ Ix W') := by
  refine callsIn_of_wp Tryz.func42 rfl trivial ?_ rfl
  simp only [Tryz.ntmps42, List.size_toArray, List.length_cons, List.length_nil, Nat.reduceAdd, Nat.reduceSub, Array.replicate_succ, Array.replicate_zero, List.push_toArray, List.append_toArray, List.nil_append, List.cons_append]
  have k1 := hI 0 W h0
  have HI := Lib.hid hI
  have HB := Lib.hid hB
  have HY := Lib.hid hY
  have hsp := space_any s hs
  clear hI hB hY
  gi_wp2_with (first | (refine ⟨trivial, ?_⟩; gi_at_call 43; refine (callsIn_wide.2 (hsp _)).mono ?_; rintro e w' ⟨rfl, hb⟩))
  have h1 := HB.out 0 W _ h0 hb
  gi_loopw [3] (fun a wr => ∃ i p : Nat, a = .int .i64 (p : Int) ∧ p ≤ s.size ∧ I i wr ∧ Hid (i ≤ Y.length ∧ ∃ F, s.size < F + p ∧ ysL s.data.toList F p = Y.drop i)) (fun a _ => s.size - (Go.RowKit.intOf a).toNat)
  case atStart =>
    exact ⟨0, _, rfl, by have := skip_le s.data.toList; have := Lib.size_eq s; omega, h1, Lib.hid ⟨by omega, s.data.toList.length + 1, by have := Lib.size_eq s; omega, by rw [hYs.out]; rfl⟩⟩
  case round =>
    clear h0 k1 h1 hb hsp
    obtain ⟨i, p, rfl, hp, hIw, hF⟩ := hrel
    have k1 := HI.out i wr hIw
    by_cases hlt : p < s.size
    · have q1 : decide ((p : Int) < (s.size : Int)) = true := decide_eq_true (by omega)
      obtain ⟨u, hu⟩ : ∃ u : ByteArray, u = s.extract p s.size := ⟨_, rfl⟩
      have hus : s.extract p s.size = u := hu.symm
      have hul : u.data.toList = s.data.toList.drop p := by rw [hu, Lib.extract_to_end]
      have huz : u.size ≤ 65536 := by rw [Lib.size_eq, hul, List.length_drop, ← Lib.size_eq]; omega
      have hune : u.data.toList ≠ [] := by
        rw [hul]; intro h; have := List.drop_eq_nil_iff.1 h; rw [← Lib.size_eq] at this; omega
      have hfi := first_any u huz hune
      rw [hul] at hfi
      obtain ⟨t, htok⟩ : ∃ t, t = firstL (s.data.toList.drop p) := ⟨_, rfl⟩
      rw [← htok] at hfi
      obtain ⟨T, hT⟩ : ∃ T : ByteArray, T = ⟨t.2.toArray⟩ := ⟨_, rfl⟩
      rw [← hT] at hfi
      have hTl : T.data.toList = t.2 := by rw [hT]
      have hTz : T.size = t.2.length := by rw [Lib.size_eq, hTl]
      have hTp : t.2.length + p ≤ s.size := by
        have := first_le (s.data.toList.drop p)
        rw [← htok, List.length_drop, ← Lib.size_eq] at this
        omega
      have HTL := Lib.hid hTl
      have HTZ := Lib.hid hTz
      have HTOK := Lib.hid htok
      obtain ⟨hil, F, hF1, hF2⟩ := hF.out
      obtain ⟨F, rfl⟩ : ∃ G, F = G + 1 := ⟨F - 1, by omega⟩
      have hys : ysL s.data.toList (F + 1) p = if okTok t then (tokOf t p, true) :: ysL s.data.toList F (p + t.2.length + spaceL (s.data.toList.drop (p + t.2.length))) else [(tokOf t p, false)] := by
        conv => lhs; unfold ysL
        rw [if_neg (by rw [← Lib.size_eq]; omega), ← htok]
      rw [hys] at hF2
      have HF2 := Lib.hid hF2
      clear hu hul hune hF2
      by_cases hk : t.1 = 2
      · by_cases hT0 : t.2 = []
        · have e0 : T.toList.isEmpty = true := by rw [Lib.toList_data, hTl, hT0]; rfl
          have hval : tokV (tokOf t p) = .agg #[.int .i64 2, .string T, .int .i64 (p : Int)] := by
            unfold tokV tokOf
            rw [if_neg (fun h => h.2 hT0), hT]; simp only [hk]; rfl
          have hok : okTok t = false := by
            unfold okTok
            rw [hT0]; rfl
          have HYT := HY.out i (tokOf t p, false)
          simp only [hval] at HYT
          have HH := Lib.hid HYT
          have hyi : Y[i]? = some (tokOf t p, false) := by
            have := congrArg (·[0]?) HF2.out
            simp only [hok, Bool.false_eq_true, if_false, List.getElem?_cons_zero, List.getElem?_drop, Nat.add_zero] at this
            exact this.symm
          have hlen : i + 1 = Y.length := by
            have := congrArg List.length HF2.out
            simp only [hok, Bool.false_eq_true, if_false, List.length_singleton, List.length_drop] at this
            omega
          have HYI := Lib.hid hyi
          have HLN := Lib.hid hlen
          clear HYT hok hT hTl hTz htok hys hyi hlen hF hF1 hval
          gi_wp2_with (first | (refine ⟨trivial, ?_⟩; gi_at_call 44; refine (callsIn_wide.2 (hfi _)).mono ?_; rintro e w5 ⟨rfl, h5⟩; have hI5 := HB.out i wr w5 hIw h5; have k5 := HI.out i w5 hI5))
          obtain ⟨fn, tmps, assign, body, hy, hR⟩ := HH.out _ HYI.out (HB.out i w5 _ hI5 ((Below.refl w5.heap.size w5).alloc (Nat.le_refl _) (.cells #[.int .i64 2, .string T, .int .i64 (p : Int)] 41)))
          rw [hy, Oper.uponIn_round]
          refine ⟨fun _ => by decide, hR.mono ?_⟩
          rintro e W7 (⟨rfl, hI7⟩ | ⟨rfl, hx⟩)
          · gi_wp2
            refine bodyPost_ret (results_none rfl _ _ _) rfl ?_
            rw [HLN.out] at hI7
            exact ⟨⟨_, rfl⟩, Or.inl hI7⟩
          · gi_wp2
            refine bodyPost_ret (results_none rfl _ _ _) rfl ?_
            exact ⟨⟨_, rfl⟩, Or.inr hx⟩
        · have h2 : 2 ≤ t.2.length := by
            rw [htok] at hk hT0 ⊢
            exact first_two _ hk hT0
          have h2T : 2 ≤ T.size := by omega
          obtain ⟨X, hX⟩ : ∃ X : ByteArray, X = T.extract 1 (T.size - 1) := ⟨_, rfl⟩
          have hXs : T.extract 1 (T.size - 1) = X := hX.symm
          have hXl : X.data.toList = (t.2.take (t.2.length - 1)).drop 1 := by
            rw [hX, ← hTl, ← Lib.size_eq]
            simp
            rw [← List.drop_one, ← List.drop_one, List.drop_take]
          have hw1 : wrap64 ((T.size : Int) - 1) = (T.size : Int) - 1 := by unfold wrap64; omega
          have hw2 : (1 : Int) ≤ (T.size : Int) - 1 := by omega
          have hw3 : ((T.size : Int) - 1).toNat = T.size - 1 := by omega
          have hsl : ∀ W, (Instr.slice 9 (.string T) (some (.int .i64 1)) (some (.int .i64 ((T.size : Int) - 1))) none).run Tryz.prog W = .ok (.string X) W := fun W => by
            have := run_slice_string (P := Tryz.prog) W 9 T .i64 .i64 1 ((T.size : Int) - 1) Tryz.underlying9 (by omega) (by omega) (by omega)
            rw [this, hw3, show (1 : Int).toNat = 1 from rfl, hXs]
          have hT6 : T.size ≤ 65536 := by omega
          clear hX
          by_cases hl : t.2.length ≤ 502
          · have e0 : T.toList.isEmpty = false := by rw [Lib.toList_data, hTl]; cases hh : t.2 with | nil => exact absurd hh hT0 | cons => rfl
            have hval : tokV (tokOf t p) = .agg #[.int .i64 2, .string X, .int .i64 (p : Int)] := by
              unfold tokV tokOf
              rw [if_pos ⟨hk, hT0⟩, ← hXl]; simp only [hk]; rfl
            have hok : okTok t = true := by
              unfold okTok
              rw [if_pos hk, decide_eq_true hl]
              cases hh : t.2 with | nil => exact absurd hh hT0 | cons => rfl
            have l0 : decide ((T.size : Int) ≤ 502) = true := decide_eq_true (by omega)
            have HYT := HY.out i (tokOf t p, true)
            simp only [hval] at HYT
            have HH := Lib.hid HYT
            have hyi : Y[i]? = some (tokOf t p, true) := by
              have := congrArg (·[0]?) HF2.out
              simp only [hok, if_true, List.getElem?_cons_zero, List.getElem?_drop, Nat.add_zero] at this
              exact this.symm
            have hin : i + 1 ≤ Y.length := (List.getElem?_eq_some_iff.1 hyi).1
            obtain ⟨v, hv⟩ : ∃ v : ByteArray, v = s.extract (p + T.size) s.size := ⟨_, rfl⟩
            have hvs : s.extract (p + T.size) s.size = v := hv.symm
            have hvl : v.data.toList = s.data.toList.drop (p + t.2.length) := by rw [hv, Lib.extract_to_end, hTz]
            have hvz : v.size = s.size - (p + T.size) := by rw [Lib.size_eq, hvl, List.length_drop, ← Lib.size_eq, hTz]
            have hsv := space_any v (by omega)
            obtain ⟨z, hz⟩ : ∃ z, z = spaceL v.data.toList := ⟨_, rfl⟩
            rw [← hz] at hsv
            have hzl : z + (p + T.size) ≤ s.size := by
              have := skip_le v.data.toList
              rw [← hz, ← Lib.size_eq] at this
              omega
            have hnext : ysL s.data.toList F (p + t.2.length + z) = Y.drop (i + 1) := by
              have := congrArg List.tail HF2.out
              rw [hok, if_pos rfl, List.tail_cons, List.tail_drop] at this
              rw [hz, hvl]
              exact this
            have HN := Lib.hid hnext
            have hTpos : 1 ≤ T.size := by
              have : 1 ≤ t.2.length := by cases hh : t.2 with | nil => exact absurd hh hT0 | cons => simp
              omega
            have HIL := Lib.hid hil
            have HTP := Lib.hid hTp
            have HYI := Lib.hid hyi
            have g1 : (p : Int) + (T.size : Int) ≤ (s.size : Int) := by omega
            have g2 : (p : Int) + (T.size : Int) + (z : Int) ≤ (s.size : Int) := by omega
            have HF1 := Lib.hid hF1
            clear HYT hok hT hTl hTz htok hys hv hvl hvz hz hnext hyi hil hTp hF hF1 hval
            gi_wp2_with (first | (refine ⟨trivial, ?_⟩; gi_at_call 44; refine (callsIn_wide.2 (hfi _)).mono ?_; rintro e w5 ⟨rfl, h5⟩; have hI5 := HB.out i wr w5 hIw h5; have k5 := HI.out i w5 hI5))
            obtain ⟨fn, tmps, assign, body, hy, hR⟩ := HH.out _ HYI.out (HB.out i w5 _ hI5 ((Below.refl w5.heap.size w5).alloc (Nat.le_refl _) (.cells #[.int .i64 2, .string X, .int .i64 (p : Int)] 41)))
            rw [hy, Oper.uponIn_round]
            refine ⟨fun _ => by decide, hR.mono ?_⟩
            rintro e W7 (⟨rfl, hI7⟩ | ⟨rfl, hx⟩)
            · have k7 := HI.out (i + 1) W7 hI7
              gi_wp2_with (first | (refine ⟨trivial, ?_⟩; gi_at_call 43; refine (callsIn_wide.2 (hsv _)).mono ?_; rintro e w8 ⟨rfl, h8⟩))
              have hI8 := HB.out (i + 1) W7 _ hI7 h8
              have ez := HTZ.out
              refine ⟨⟨i + 1, p + t.2.length + z, by rw [← ez]; go_num, by omega, hI8, Lib.hid ⟨hin, F, ?_, HN.out⟩⟩, ?_⟩
              · have := HF1.out; omega
              · simp [Go.RowKit.intOf]; omega
            · gi_wp2
              refine bodyPost_ret (results_none rfl _ _ _) rfl ?_
              exact ⟨⟨_, rfl⟩, Or.inr hx⟩
          · have e0 : T.toList.isEmpty = false := by rw [Lib.toList_data, hTl]; cases hh : t.2 with | nil => exact absurd hh hT0 | cons => rfl
            have hval : tokV (tokOf t p) = .agg #[.int .i64 2, .string X, .int .i64 (p : Int)] := by
              unfold tokV tokOf
              rw [if_pos ⟨hk, hT0⟩, ← hXl]; simp only [hk]; rfl
            have hok : okTok t = false := by
              unfold okTok
              rw [if_pos hk, decide_eq_false hl, Bool.and_false]
            have l0 : decide ((T.size : Int) ≤ 502) = false := decide_eq_false (by omega)
            have HYT := HY.out i (tokOf t p, false)
            simp only [hval] at HYT
            have HH := Lib.hid HYT
            have hyi : Y[i]? = some (tokOf t p, false) := by
              have := congrArg (·[0]?) HF2.out
              simp only [hok, Bool.false_eq_true, if_false, List.getElem?_cons_zero, List.getElem?_drop, Nat.add_zero] at this
              exact this.symm
            have hlen : i + 1 = Y.length := by
              have := congrArg List.length HF2.out
              simp only [hok, Bool.false_eq_true, if_false, List.length_singleton, List.length_drop] at this
              omega
            have HYI := Lib.hid hyi
            have HLN := Lib.hid hlen
            clear HYT hok hT hTl hTz htok hys hyi hlen hF hF1 hval
            gi_wp2_with (first | (refine ⟨trivial, ?_⟩; gi_at_call 44; refine (callsIn_wide.2 (hfi _)).mono ?_; rintro e w5 ⟨rfl, h5⟩; have hI5 := HB.out i wr w5 hIw h5; have k5 := HI.out i w5 hI5))
            obtain ⟨fn, tmps, assign, body, hy, hR⟩ := HH.out _ HYI.out (HB.out i w5 _ hI5 ((Below.refl w5.heap.size w5).alloc (Nat.le_refl _) (.cells #[.int .i64 2, .string X, .int .i64 (p : Int)] 41)))
            rw [hy, Oper.uponIn_round]
            refine ⟨fun _ => by decide, hR.mono ?_⟩
            rintro e W7 (⟨rfl, hI7⟩ | ⟨rfl, hx⟩)
            · gi_wp2
              refine bodyPost_ret (results_none rfl _ _ _) rfl ?_
              rw [HLN.out] at hI7
              exact ⟨⟨_, rfl⟩, Or.inl hI7⟩
            · gi_wp2
              refine bodyPost_ret (results_none rfl _ _ _) rfl ?_
              exact ⟨⟨_, rfl⟩, Or.inr hx⟩
      · have k2 : ((t.1 : Int) == 2) = false := by rw [beq_eq_false_iff_ne]; omega
        by_cases hT0 : t.2 = []
        · have e0 : T.toList.isEmpty = true := by rw [Lib.toList_data, hTl, hT0]; rfl
          have hval : tokV (tokOf t p) = .agg #[.int .i64 (t.1 : Int), .string T, .int .i64 (p : Int)] := by
            unfold tokV tokOf
            rw [if_neg (fun h => hk h.1), hT]
          have hok : okTok t = false := by
            unfold okTok
            rw [hT0]; rfl
          have HYT := HY.out i (tokOf t p, false)
          simp only [hval] at HYT
          have HH := Lib.hid HYT
          have hyi : Y[i]? = some (tokOf t p, false) := by
            have := congrArg (·[0]?) HF2.out
            simp only [hok, Bool.false_eq_true, if_false, List.getElem?_cons_zero, List.getElem?_drop, Nat.add_zero] at this
            exact this.symm
          have hlen : i + 1 = Y.length := by
            have := congrArg List.length HF2.out
            simp only [hok, Bool.false_eq_true, if_false, List.length_singleton, List.length_drop] at this
            omega
          have HYI := Lib.hid hyi
          have HLN := Lib.hid hlen
          clear HYT hok hT hTl hTz htok hys hyi hlen hF hF1 hval
          gi_wp2_with (first | (refine ⟨trivial, ?_⟩; gi_at_call 44; refine (callsIn_wide.2 (hfi _)).mono ?_; rintro e w5 ⟨rfl, h5⟩; have hI5 := HB.out i wr w5 hIw h5; have k5 := HI.out i w5 hI5))
          obtain ⟨fn, tmps, assign, body, hy, hR⟩ := HH.out _ HYI.out (HB.out i w5 _ hI5 ((Below.refl w5.heap.size w5).alloc (Nat.le_refl _) (.cells #[.int .i64 (t.1 : Int), .string T, .int .i64 (p : Int)] 41)))
          rw [hy, Oper.uponIn_round]
          refine ⟨fun _ => by decide, hR.mono ?_⟩
          rintro e W7 (⟨rfl, hI7⟩ | ⟨rfl, hx⟩)
          · gi_wp2
            refine bodyPost_ret (results_none rfl _ _ _) rfl ?_
            rw [HLN.out] at hI7
            exact ⟨⟨_, rfl⟩, Or.inl hI7⟩
          · gi_wp2
            refine bodyPost_ret (results_none rfl _ _ _) rfl ?_
            exact ⟨⟨_, rfl⟩, Or.inr hx⟩
        · by_cases hl : t.2.length ≤ 24
          · have e0 : T.toList.isEmpty = false := by rw [Lib.toList_data, hTl]; cases hh : t.2 with | nil => exact absurd hh hT0 | cons => rfl
            have hval : tokV (tokOf t p) = .agg #[.int .i64 (t.1 : Int), .string T, .int .i64 (p : Int)] := by
              unfold tokV tokOf
              rw [if_neg (fun h => hk h.1), hT]
            have hok : okTok t = true := by
              unfold okTok
              rw [if_neg hk, decide_eq_true hl]
              cases hh : t.2 with | nil => exact absurd hh hT0 | cons => rfl
            have l0 : decide ((T.size : Int) ≤ 24) = true := decide_eq_true (by omega)
            have HYT := HY.out i (tokOf t p, true)
            simp only [hval] at HYT
            have HH := Lib.hid HYT
            have hyi : Y[i]? = some (tokOf t p, true) := by
              have := congrArg (·[0]?) HF2.out
              simp only [hok, if_true, List.getElem?_cons_zero, List.getElem?_drop, Nat.add_zero] at this
              exact this.symm
            have hin : i + 1 ≤ Y.length := (List.getElem?_eq_some_iff.1 hyi).1
            obtain ⟨v, hv⟩ : ∃ v : ByteArray, v = s.extract (p + T.size) s.size := ⟨_, rfl⟩
            have hvs : s.extract (p + T.size) s.size = v := hv.symm
            have hvl : v.data.toList = s.data.toList.drop (p + t.2.length) := by rw [hv, Lib.extract_to_end, hTz]
            have hvz : v.size = s.size - (p + T.size) := by rw [Lib.size_eq, hvl, List.length_drop, ← Lib.size_eq, hTz]
            have hsv := space_any v (by omega)
            obtain ⟨z, hz⟩ : ∃ z, z = spaceL v.data.toList := ⟨_, rfl⟩
            rw [← hz] at hsv
            have hzl : z + (p + T.size) ≤ s.size := by
              have := skip_le v.data.toList
              rw [← hz, ← Lib.size_eq] at this
              omega
            have hnext : ysL s.data.toList F (p + t.2.length + z) = Y.drop (i + 1) := by
              have := congrArg List.tail HF2.out
              rw [hok, if_pos rfl, List.tail_cons, List.tail_drop] at this
              rw [hz, hvl]
              exact this
            have HN := Lib.hid hnext
            have hTpos : 1 ≤ T.size := by
              have : 1 ≤ t.2.length := by cases hh : t.2 with | nil => exact absurd hh hT0 | cons => simp
              omega
            have HIL := Lib.hid hil
            have HTP := Lib.hid hTp
            have HYI := Lib.hid hyi
            have g1 : (p : Int) + (T.size : Int) ≤ (s.size : Int) := by omega
            have g2 : (p : Int) + (T.size : Int) + (z : Int) ≤ (s.size : Int) := by omega
            have HF1 := Lib.hid hF1
            clear HYT hok hT hTl hTz htok hys hv hvl hvz hz hnext hyi hil hTp hF hF1 hval
            gi_wp2_with (first | (refine ⟨trivial, ?_⟩; gi_at_call 44; refine (callsIn_wide.2 (hfi _)).mono ?_; rintro e w5 ⟨rfl, h5⟩; have hI5 := HB.out i wr w5 hIw h5; have k5 := HI.out i w5 hI5))
            obtain ⟨fn, tmps, assign, body, hy, hR⟩ := HH.out _ HYI.out (HB.out i w5 _ hI5 ((Below.refl w5.heap.size w5).alloc (Nat.le_refl _) (.cells #[.int .i64 (t.1 : Int), .string T, .int .i64 (p : Int)] 41)))
            rw [hy, Oper.uponIn_round]
            refine ⟨fun _ => by decide, hR.mono ?_⟩
            rintro e W7 (⟨rfl, hI7⟩ | ⟨rfl, hx⟩)
            · have k7 := HI.out (i + 1) W7 hI7
              gi_wp2_with (first | (refine ⟨trivial, ?_⟩; gi_at_call 43; refine (callsIn_wide.2 (hsv _)).mono ?_; rintro e w8 ⟨rfl, h8⟩))
              have hI8 := HB.out (i + 1) W7 _ hI7 h8
              have ez := HTZ.out
              refine ⟨⟨i + 1, p + t.2.length + z, by rw [← ez]; go_num, by omega, hI8, Lib.hid ⟨hin, F, ?_, HN.out⟩⟩, ?_⟩
              · have := HF1.out; omega
              · simp [Go.RowKit.intOf]; omega
            · gi_wp2
              refine bodyPost_ret (results_none rfl _ _ _) rfl ?_
              exact ⟨⟨_, rfl⟩, Or.inr hx⟩
          · have e0 : T.toList.isEmpty = false := by rw [Lib.toList_data, hTl]; cases hh : t.2 with | nil => exact absurd hh hT0 | cons => rfl
            have hval : tokV (tokOf t p) = .agg #[.int .i64 (t.1 : Int), .string T, .int .i64 (p : Int)] := by
              unfold tokV tokOf
              rw [if_neg (fun h => hk h.1), hT]
            have hok : okTok t = false := by
              unfold okTok
              rw [if_neg hk, decide_eq_false hl, Bool.and_false]
            have l0 : decide ((T.size : Int) ≤ 24) = false := decide_eq_false (by omega)
            have HYT := HY.out i (tokOf t p, false)
            simp only [hval] at HYT
            have HH := Lib.hid HYT
            have hyi : Y[i]? = some (tokOf t p, false) := by
              have := congrArg (·[0]?) HF2.out
              simp only [hok, Bool.false_eq_true, if_false, List.getElem?_cons_zero, List.getElem?_drop, Nat.add_zero] at this
              exact this.symm
            have hlen : i + 1 = Y.length := by
              have := congrArg List.length HF2.out
              simp only [hok, Bool.false_eq_true, if_false, List.length_singleton, List.length_drop] at this
              omega
            have HYI := Lib.hid hyi
            have HLN := Lib.hid hlen
            clear HYT hok hT hTl hTz htok hys hyi hlen hF hF1 hval
            gi_wp2_with (first | (refine ⟨trivial, ?_⟩; gi_at_call 44; refine (callsIn_wide.2 (hfi _)).mono ?_; rintro e w5 ⟨rfl, h5⟩; have hI5 := HB.out i wr w5 hIw h5; have k5 := HI.out i w5 hI5))
            obtain ⟨fn, tmps, assign, body, hy, hR⟩ := HH.out _ HYI.out (HB.out i w5 _ hI5 ((Below.refl w5.heap.size w5).alloc (Nat.le_refl _) (.cells #[.int .i64 (t.1 : Int), .string T, .int .i64 (p : Int)] 41)))
            rw [hy, Oper.uponIn_round]
            refine ⟨fun _ => by decide, hR.mono ?_⟩
            rintro e W7 (⟨rfl, hI7⟩ | ⟨rfl, hx⟩)
            · gi_wp2
              refine bodyPost_ret (results_none rfl _ _ _) rfl ?_
              rw [HLN.out] at hI7
              exact ⟨⟨_, rfl⟩, Or.inl hI7⟩
            · gi_wp2
              refine bodyPost_ret (results_none rfl _ _ _) rfl ?_
              exact ⟨⟨_, rfl⟩, Or.inr hx⟩
    · have q1 : decide ((p : Int) < (s.size : Int)) = false := decide_eq_false (by omega)
      have hend : i = Y.length := by
        obtain ⟨h2, F, hF1, hF2⟩ := hF.out
        have h3 : ysL s.data.toList F p = [] := by
          cases F with
          | zero => rfl
          | succ F => unfold ysL; rw [if_pos (by rw [← Lib.size_eq]; omega)]
        rw [h3] at hF2
        have := List.drop_eq_nil_iff.1 hF2.symm
        omega
      subst hend
      gi_wp2
      go_end0
      exact ⟨⟨_, rfl⟩, Or.inl hIw⟩
end Go.Proofs.YtahjkibjcibpgaaGreatDoor.L
end
section
namespace Go.Proofs.YtahjkibjcibpgaaGreatDoor.L
open Go.RowKit Go.Shelf Go.Lib Go.Proofs.YtahjkibjcibpgaaGreatDoor.U
open Go.Proofs.YtahjkibjcibpgaaGreatDoorW.PrintWords (blk_cell blk_frozen blk_put below_step)
attribute [local go_sem] Oper.semAt_some
def tokC (t : Tok) : Array Value := #[.int .i64 (t.kind : Nat), .string ⟨t.text.toArray⟩, .int .i64 (t.at_ : Nat)]
def bodyPostT (J : Nat → World → Prop) (Jx : World → Prop) (i : Nat) (W : World) : Exit → Act → World → Prop
  | .normal, _, W' => KeepsOthers W W' ∧ J (i + 1) W'
  | .ret, _, W' => KeepsOthers W W' ∧ Jx W'
  | _, _, _ => False
theorem range_toks {g : Operand} {p1 p2 : Tmp} {assign body : Code} {Q : Exit → Act → World → Prop} {a : Act} {w : World} (s : ByteArray) (hs : s.size ≤ 65536) (b1 : Nat)
    (hg : a.eval g = .func (.func 42) #[] #[.pointer (some ⟨b1, 0, none⟩)])
    (J : Nat → World → Prop) (Jx : World → Prop) (hJc : ∀ i W, J i W → W.cell? ⟨b1, 0, none⟩ = some (.string s))
    (hJB : ∀ i W W', J i W → Below W.heap.size W W' → J i W')
    (hJp : ∀ i W l o o', J i W → w.heap.size ≤ l → W.heap[l]? = some o → o.isCells = false → J i (W.putObj l o')) (hJxp : ∀ W l o o', Jx W → w.heap.size ≤ l → W.heap[l]? = some o → o.isCells = false → Jx (W.putObj l o')) (h0 : J 0 w)
    (a₁ : Tok × Bool → Nat → Act)
    (hassign : ∀ (l : Nat) (y : Tok × Bool) (W : World) (K : Act → World → Prop), K (a₁ y W.heap.size) (W.alloc (.cells (tokC y.1) 41)) → assign.wpIn (Fence.wide.inRound l) 1 Tryz.prog (Exit.then K (fun _ _ _ => False)) { tmps := (a.tmps.setIfInBounds p1 (tokV y.1)).setIfInBounds p2 (.bool y.2), defers := [] } W)
    (hbody : ∀ (l i : Nat) (y : Tok × Bool) (B : Nat) (W : World), (visits s.data.toList)[i]? = some y → J i W → W.heap[B]? = some (.cells (tokC y.1) 41 (0, 0)) → body.wpIn (Fence.wide.inRound l) 1 Tryz.prog (bodyPostT J Jx i W) (a₁ y B) W)
    (hdone : ∀ (D : Nat) (W : World), w.heap.size ≤ D → J (visits s.data.toList).length W → W.heap[D]? = some (.deferred (some [])) → Q .normal { a with defers := { target := .collected D, args := #[] } :: a.defers } W)
    (hstop : ∀ (D : Nat) (W : World), w.heap.size ≤ D → Jx W → W.heap[D]? = some (.deferred (some [])) → Code.ret.wpIn Fence.wide 3 Tryz.prog Q { a with defers := { target := .collected D, args := #[] } :: a.defers } W) :
    (Code.rangeFunc g #[p1, p2] assign body).wpIn Fence.wide 3 Tryz.prog Q a w := by
  refine wpIn_rangeFunc fun fn _ => ?_
  obtain ⟨rec, hrec⟩ : ∃ rec : LoopState → Option Code → Loop, rec = fun st pe => { state := st, pending := pe, fn, tmps := a.tmps, params := #[p1, p2], assign, body, defers := w.heap.size } := ⟨_, rfl⟩
  obtain ⟨W1, hW1⟩ : ∃ W1, (w.alloc (.deferred (some []))).alloc (.loop (rec .ready none)) = W1 := ⟨_, rfl⟩
  have hL1 : W1.heap[w.heap.size + 1]? = some (.loop (rec .ready none)) := by
    rw [← hW1]; have := World.alloc_heap_new (w.alloc (.deferred (some []))) (.loop (rec .ready none)); rwa [World.size_alloc] at this
  have hK1 : W1.heap[w.heap.size]? = some (.deferred (some [])) := by
    rw [← hW1]; exact (Below.heap_alloc _ _ _ (by simp)).trans (World.alloc_heap_new w _)
  have hB1 : Below w.heap.size w W1 := by
    rw [← hW1]; exact ((Below.refl _ w).alloc (Nat.le_refl _) _).alloc (by simp) _
  obtain ⟨I, hI⟩ : ∃ I : Nat → World → Prop, I = fun i W => J i W ∧ W.heap[w.heap.size + 1]? = some (.loop (rec .ready none)) ∧ W.heap[w.heap.size]? = some (.deferred (some [])) := ⟨_, rfl⟩
  obtain ⟨Ix, hIx⟩ : ∃ Ix : World → Prop, Ix = fun W => Jx W ∧ W.heap[w.heap.size + 1]? = some (.loop (rec .done (some .ret))) ∧ W.heap[w.heap.size]? = some (.deferred (some [])) := ⟨_, rfl⟩
  refine ⟨w.heap.size + 1, [{ target := .collected w.heap.size, args := #[] }], W1, { target := .fn (.func 42) #[.pointer (some ⟨b1, 0, none⟩)], args := #[.func (.yield (w.heap.size + 1)) #[] #[]] }, W1, 42,
    #[.func (.yield (w.heap.size + 1)) #[] #[], .pointer (some ⟨b1, 0, none⟩)], W1, ?_, ?_, fun _ _ => trivial, ?_, fun _ => by decide, ?_⟩
  · rw [← hW1, hrec]; exact run_enterLoop_outer _ _ _ _ _
  · simp only [resolve, hg]
    simp [go_sem]
  · simp [invoke, go_sem]
  · refine (tok_iter s hs (w.heap.size + 1) b1 I Ix _ (Lib.hid rfl) ?_ ?_ ?_ W1 ?_).mono ?_
    · rw [hI]; rintro i W ⟨hj, _⟩; exact hJc i W hj
    · rw [hI]; rintro i W W' ⟨hj, hl, hk⟩ hb
      exact ⟨hJB i W W' hj hb, (hb.block _ (Array.getElem?_eq_some_iff.1 hl).1).trans hl, (hb.block _ (Array.getElem?_eq_some_iff.1 hk).1).trans hk⟩
    · rw [hI, hIx]
      rintro i y W hi ⟨hj, hl, hk⟩
      have hlt : w.heap.size + 1 < W.heap.size := (Array.getElem?_eq_some_iff.1 hl).1
      have hy := run_yield (P := Tryz.prog) (args := #[tokV y.1, .bool y.2]) hl (by rw [hrec]; rfl)
      rw [hrec] at hy
      refine ⟨fn, _, assign, body, hy, roundIn_of_wpIn trivial ?_⟩
      have ef : (#[p1, p2].zip #[tokV y.1, Value.bool y.2]).foldl (fun tmps (t, a) => tmps.setIfInBounds t a) a.tmps = (a.tmps.setIfInBounds p1 (tokV y.1)).setIfInBounds p2 (.bool y.2) := by simp
      rw [ef]
      refine hassign _ y W _ ?_
      obtain ⟨Wa, hWa⟩ : ∃ Wa, Wa = W.alloc (.cells (tokC y.1) 41) := ⟨_, rfl⟩
      have hba : Below W.heap.size W Wa := by rw [hWa]; exact (Below.refl _ W).alloc (Nat.le_refl _) _
      have hnew : Wa.heap[W.heap.size]? = some (.cells (tokC y.1) 41 (0, 0)) := by rw [hWa]; exact World.alloc_heap_new W _
      rw [← hWa]
      have hla := (hba.block _ hlt).trans hl
      have hka := (hba.block _ (Array.getElem?_eq_some_iff.1 hk).1).trans hk
      have hja := hJB i W Wa hj hba
      refine ⟨_, run_beginRound hla (by rw [hrec]), ?_⟩
      obtain ⟨W2, hW2⟩ : ∃ W2, W2 = Wa.putObj (w.heap.size + 1) (.loop { rec .ready none with state := .busy }) := ⟨_, rfl⟩
      rw [← hW2]
      have hl2 : W2.heap[w.heap.size + 1]? = some (.loop { rec .ready none with state := .busy }) := by rw [hW2]; exact World.putObj_heap_same (Array.getElem?_eq_some_iff.1 hla).1
      have hs2 : ∀ k, k ≠ w.heap.size + 1 → W2.heap[k]? = Wa.heap[k]? := fun k hk => by rw [hW2]; exact World.putObj_heap_other hk
      have hk2 := (hs2 w.heap.size (by omega)).trans hka
      have hj2 : J i W2 := by rw [hW2]; exact hJp i Wa _ _ _ hja (by omega) hla rfl
      have hn2 := (hs2 W.heap.size (by omega)).trans hnew
      refine wpIn_mono (hbody _ i y W.heap.size W2 hi hj2 hn2) ?_
      rintro e a3 W3 hp
      cases e with
      | normal =>
        obtain ⟨hk3, hj3⟩ := hp
        have hl3 := hk3.same _ _ hl2 rfl
        have hr := run_endRound (P := Tryz.prog) none hl3
        refine ⟨_, _, hr, .inl ⟨rfl, hJp _ _ _ _ _ hj3 (by omega) hl3 rfl, ?_, (World.putObj_heap_other (by omega)).trans (hk3.same _ _ hk2 rfl)⟩⟩
        have := World.putObj_heap_same (w := W3) (o := .loop { rec .ready none with state := .ready, pending := none }) (Array.getElem?_eq_some_iff.1 hl3).1
        rw [hrec] at this ⊢
        exact this
      | ret =>
        obtain ⟨hk3, hx3⟩ := hp
        have hl3 := hk3.same _ _ hl2 rfl
        have hr := run_endRound (P := Tryz.prog) (some .ret) hl3
        refine ⟨_, _, hr, .inr ⟨rfl, hJxp _ _ _ _ hx3 (by omega) hl3 rfl, ?_, (World.putObj_heap_other (by omega)).trans (hk3.same _ _ hk2 rfl)⟩⟩
        have := World.putObj_heap_same (w := W3) (o := .loop { rec .ready none with state := .done, pending := some .ret }) (Array.getElem?_eq_some_iff.1 hl3).1
        rw [hrec] at this ⊢
        exact this
      | exit id => exact hp.elim
      | goto t => exact hp.elim
      | panic ch => exact hp.elim
      | outgrown => exact hp.elim
    · rw [hI]
      exact ⟨hJB 0 w W1 h0 hB1, hL1, hK1⟩
    · rw [hI, hIx]
      rintro e W2 ⟨⟨v, rfl⟩, (⟨hj, hl, hk⟩ | ⟨hx, hl, hk⟩)⟩
      · exact ⟨none, _, by have := run_endLoop (P := Tryz.prog) hl (by rw [hrec]; simp); rw [hrec] at this; exact this, hdone _ _ (Nat.le_refl _) (hJp _ _ _ _ _ hj (by omega) hl rfl) ((World.putObj_heap_other (by omega)).trans hk)⟩
      · exact ⟨some .ret, _, by have := run_endLoop (P := Tryz.prog) hl (by rw [hrec]; simp); rw [hrec] at this; exact this, hstop _ _ (Nat.le_refl _) (hJxp _ _ _ _ hx (by omega) hl rfl) ((World.putObj_heap_other (by omega)).trans hk)⟩
end Go.Proofs.YtahjkibjcibpgaaGreatDoor.L
end
section
namespace Go.Proofs.YtahjkibjcibpgaaGreatDoor.U
theorem scale_parts (h l b : Nat) (_hl : l < 18446744073709551616) (hP : (h * 18446744073709551616 + l) * b < 340282366920938463463374607431768211456) :
    h * b / 18446744073709551616 = 0 ∧ h * b % 18446744073709551616 = h * b ∧ l * b % 18446744073709551616 = (h * 18446744073709551616 + l) * b % 18446744073709551616 ∧
    h * b + l * b / 18446744073709551616 = (h * 18446744073709551616 + l) * b / 18446744073709551616 ∧ h * b + l * b / 18446744073709551616 < 18446744073709551616 := by
  have e : (h * 18446744073709551616 + l) * b = h * b * 18446744073709551616 + l * b := by rw [Nat.add_mul, Nat.mul_right_comm]
  rw [e] at hP ⊢
  generalize h * b = x at *
  generalize l * b = y at *
  omega
def Digit (u y1 y0 c Q : Nat) : Prop := ∀ q r : Nat, q * y1 + r = u →
  (4294967296 ≤ q → Q < q) ∧ (q < 4294967296 → 4294967296 * r + c < q * y0 → Q < q) ∧
  (q < 4294967296 → q * y0 ≤ 4294967296 * r + c → q ≤ Q) ∧ (q ≤ 4294967296 → 4294967296 ≤ r → q ≤ Q)
theorem Digit.back {q y1 r u : Nat} (h : q * y1 + r = u) (hq : 1 ≤ q) : (q - 1) * y1 + (r + y1) = u := by
  obtain ⟨p, rfl⟩ : ∃ p, q = p + 1 := ⟨q - 1, by omega⟩
  rw [Nat.add_mul] at h
  have e : p + 1 - 1 = p := by omega
  rw [e]
  omega
theorem lin1 (u c Y : Nat) (hu : u < Y) (hc : c < 4294967296) : u * 4294967296 + c < 4294967296 * Y := by omega
theorem lin2 (Q u c y1 y0 : Nat) (hQ : Q * (y1 * 4294967296 + y0) ≤ u * 4294967296 + c) (hc : c < 4294967296) : Q * y1 ≤ u := by
  rw [Nat.mul_add, ← Nat.mul_assoc] at hQ
  omega
theorem digit_of (u y1 y0 c : Nat) (hy0 : y0 < 4294967296) (hy1 : 2147483648 ≤ y1) (hu : u < y1 * 4294967296 + y0) (hc : c < 4294967296) :
    Digit u y1 y0 c ((u * 4294967296 + c) / (y1 * 4294967296 + y0)) ∧ (u * 4294967296 + c) / (y1 * 4294967296 + y0) < 4294967296 ∧
    (u * 4294967296 + c) / (y1 * 4294967296 + y0) ≤ u / y1 ∧ u / y1 ≤ 4294967297 ∧ u / y1 * y1 + u % y1 = u := by
  have hpos : 0 < y1 * 4294967296 + y0 := by omega
  have hlt : (u * 4294967296 + c) / (y1 * 4294967296 + y0) < 4294967296 := by
    rw [Nat.div_lt_iff_lt_mul hpos]
    exact lin1 u c _ hu hc
  have hdm : u / y1 * y1 + u % y1 = u := Nat.div_add_mod' u y1
  refine ⟨?_, hlt, ?_, ?_, hdm⟩
  · intro q r hqr
    have key : q * (y1 * 4294967296 + y0) + r * 4294967296 = u * 4294967296 + q * y0 := by
      rw [← hqr, Nat.mul_add, Nat.add_mul, Nat.mul_assoc]; omega
    have le_iff : q ≤ (u * 4294967296 + c) / (y1 * 4294967296 + y0) ↔ q * (y1 * 4294967296 + y0) ≤ u * 4294967296 + c := Nat.le_div_iff_mul_le hpos
    refine ⟨fun h => by omega, fun _ h => ?_, fun _ h => ?_, fun h1 h2 => ?_⟩
    · refine Nat.lt_of_not_le (fun hle => ?_)
      have := le_iff.1 hle
      omega
    · refine le_iff.2 ?_
      omega
    · refine le_iff.2 ?_
      have h3 : q * y0 ≤ 4294967296 * y0 := Nat.mul_le_mul_right _ h1
      omega
  · have hQ := Nat.div_mul_le_self (u * 4294967296 + c) (y1 * 4294967296 + y0)
    rw [Nat.le_div_iff_mul_le (by omega)]
    exact lin2 _ _ _ _ _ hQ hc
  · have : u / y1 < 4294967298 := by
      rw [Nat.div_lt_iff_lt_mul (by omega)]
      omega
    omega
theorem norm (y : Nat) (h0 : 0 < y) (hy : y < 18446744073709551616) :
    ∃ s : Nat, s ≤ 63 ∧ (64 - (Lib.bitLen y : Int)) = (s : Int) ∧ 9223372036854775808 ≤ y * 2 ^ s ∧ y * 2 ^ s < 18446744073709551616 := by
  obtain ⟨b1, b2, b3⟩ := Lib.bitLenAux_bounds 64 y (by omega) (by omega)
  change 1 ≤ Lib.bitLen y at b1
  change 2 ^ (Lib.bitLen y - 1) ≤ y at b2
  change y < 2 ^ Lib.bitLen y at b3
  have b4 : Lib.bitLen y ≤ 64 := Lib.bitLen_le y 64 (by omega) (by omega)
  refine ⟨64 - Lib.bitLen y, by omega, by omega, ?_, ?_⟩
  · have : 2 ^ (Lib.bitLen y - 1) * 2 ^ (64 - Lib.bitLen y) ≤ y * 2 ^ (64 - Lib.bitLen y) := Nat.mul_le_mul_right _ b2
    rw [← Nat.pow_add] at this
    have e : Lib.bitLen y - 1 + (64 - Lib.bitLen y) = 63 := by omega
    rw [e] at this
    exact this
  · have : y * 2 ^ (64 - Lib.bitLen y) < 2 ^ Lib.bitLen y * 2 ^ (64 - Lib.bitLen y) := Nat.mul_lt_mul_of_pos_right b3 (Nat.two_pow_pos _)
    rw [← Nat.pow_add] at this
    have e : Lib.bitLen y + (64 - Lib.bitLen y) = 64 := by omega
    rw [e] at this
    exact this
theorem pow_split (s : Nat) (hs : s ≤ 63) : 2 ^ (64 - s) * 2 ^ s = 18446744073709551616 := by
  rw [← Nat.pow_add]
  have e : 64 - s + s = 64 := by omega
  rw [e]
theorem lin4 (a b c d : Nat) (h1 : a + d ≤ c) (h2 : b / 18446744073709551616 < d) (hc : c < 18446744073709551616) :
    a < 18446744073709551616 ∧ b / 18446744073709551616 < d ∧ a + b / 18446744073709551616 = (a * 18446744073709551616 + b) / 18446744073709551616 ∧ b % 18446744073709551616 = (a * 18446744073709551616 + b) % 18446744073709551616 ∧ (a * 18446744073709551616 + b) / 18446744073709551616 < c :=
  ⟨by omega, h2, by omega, by omega, by omega⟩
theorem upper (h l y s : Nat) (hhy : h < y) (hl : l < 18446744073709551616) (hs : s ≤ 63) (hY : y * 2 ^ s < 18446744073709551616) :
    h * 2 ^ s < 18446744073709551616 ∧ l / 2 ^ (64 - s) < 2 ^ s ∧ (h * 2 ^ s) ||| (l / 2 ^ (64 - s)) = (h * 18446744073709551616 + l) * 2 ^ s / 18446744073709551616 ∧
    l * 2 ^ s % 18446744073709551616 = (h * 18446744073709551616 + l) * 2 ^ s % 18446744073709551616 ∧ (h * 18446744073709551616 + l) * 2 ^ s / 18446744073709551616 < y * 2 ^ s := by
  have e : (h * 18446744073709551616 + l) * 2 ^ s = h * 2 ^ s * 18446744073709551616 + l * 2 ^ s := by rw [Nat.add_mul, Nat.mul_right_comm]
  have h1 : h * 2 ^ s + 2 ^ s ≤ y * 2 ^ s := by
    have : (h + 1) * 2 ^ s ≤ y * 2 ^ s := Nat.mul_le_mul_right _ (by omega)
    rw [Nat.add_mul, Nat.one_mul] at this
    exact this
  have hp : 0 < 2 ^ s := Nat.two_pow_pos _
  have h2 : l / 2 ^ (64 - s) < 2 ^ s := by
    rw [Nat.div_lt_iff_lt_mul (Nat.two_pow_pos _), Nat.mul_comm, pow_split s hs]
    exact hl
  have h3 : l * 2 ^ s / 18446744073709551616 = l / 2 ^ (64 - s) := by
    rw [← pow_split s hs, Nat.mul_div_mul_right _ _ hp]
  have h4 : (h * 2 ^ s) ||| (l / 2 ^ (64 - s)) = h * 2 ^ s + l / 2 ^ (64 - s) := by
    rw [Nat.mul_comm h, ← Nat.two_pow_add_eq_or_of_lt h2]
  rw [h4, e, ← h3]
  rw [← h3] at h2
  exact lin4 _ _ _ _ h1 h2 hY
theorem lin3 (B X a b u u1 u0 R1 R0 : Nat) (hX : X = (u * B + u1) * B + u0) (h1 : u * B + u1 = a + R1) (h0 : R1 * B + u0 = b + R0) : X = a * B + b + R0 := by
  rw [hX, h1, Nat.add_mul, Nat.add_assoc, h0, Nat.add_assoc]
theorem two_digits (B U : Nat) : U = (U / (B * B) * B + U % (B * B) / B) * B + U % (B * B) % B := by
  rw [Nat.add_mul, Nat.mul_assoc, Nat.add_assoc, Nat.div_add_mod' (U % (B * B)) B, Nat.div_add_mod' U (B * B)]
theorem join (N y d q0 q1 R1 R0 u u1 u0 : Nat) (hd : 0 < d) (hU : N * d = (u * 4294967296 + u1) * 4294967296 + u0)
    (h1 : u * 4294967296 + u1 = q1 * (y * d) + R1) (h0 : R1 * 4294967296 + u0 = q0 * (y * d) + R0) (hR : R0 < y * d) :
    q1 * 4294967296 + q0 = N / y ∧ R0 / d = N % y := by
  have e : N * d = (q1 * 4294967296 + q0) * (y * d) + R0 := by
    rw [Nat.add_mul, Nat.mul_right_comm]
    exact lin3 _ _ _ _ _ _ _ _ _ hU h1 h0
  have h3 : N * d / (y * d) = q1 * 4294967296 + q0 := by
    rw [e, Nat.add_comm, Nat.add_mul_div_right _ _ (by omega), Nat.div_eq_of_lt hR, Nat.zero_add]
  have h4 : N * d % (y * d) = R0 := by
    rw [e, Nat.mul_add_mod_self_right, Nat.mod_eq_of_lt hR]
  rw [Nat.mul_div_mul_right _ _ hd] at h3
  rw [Nat.mul_mod_mul_right] at h4
  refine ⟨h3.symm, ?_⟩
  rw [← h4, Nat.mul_div_cancel _ hd]
theorem mul_small (a b : Nat) (ha : a < 4294967296) (hb : b < 4294967296) : a * b < 18446744073709551616 := by
  have h1 : a * b ≤ 4294967295 * b := Nat.mul_le_mul_right _ (by omega)
  omega
end Go.Proofs.YtahjkibjcibpgaaGreatDoor.U
end
section
namespace Go.Proofs.YtahjkibjcibpgaaGreatDoor.U
open Go.RowKit Go.Shelf Go.Lib
set_option maxHeartbeats 1000000 in
theorem scaled_any (h l b : Nat) (hh : h < 18446744073709551616) (hl : l < 18446744073709551616) (hb : b < 18446744073709551616)
    (hP : (h * 18446744073709551616 + l) * b < 340282366920938463463374607431768211456) (w : World) :
    Calls Tryz.prog 51 #[.int .u64 h, .int .u64 l, .int .u64 b] w fun e w' =>
      e = .returned (.tuple #[.agg #[.int .u64 ((h * 18446744073709551616 + l) * b / 18446744073709551616 : Nat), .int .u64 ((h * 18446744073709551616 + l) * b % 18446744073709551616 : Nat)], .bool false]) ∧ Below w.heap.size w w' := by
  obtain ⟨e1, e2, e3, e4, e5⟩ := scale_parts h l b hl hP
  have m1 := Tryz.bits_Mul64 h b hh hb
  have m2 := Tryz.bits_Mul64 l b hl hb
  rw [e1, e2] at m1
  rw [e3] at m2
  rw [← e4]
  clear e1 e2 e3 e4 hP
  generalize (h * 18446744073709551616 + l) * b % 18446744073709551616 = lo at m2
  have h3 : l * b / 18446744073709551616 < 18446744073709551616 := by omega
  have h4 : h * b < 18446744073709551616 := by omega
  generalize l * b / 18446744073709551616 = ca at m2 e5 h3
  generalize h * b = up at m1 e5 h4
  have ha0 := fun w => add64 up ca 0 h4 h3 (by omega) w
  have q1 : (up + ca + 0) % 18446744073709551616 = up + ca := by omega
  have q2 : (up + ca + 0) / 18446744073709551616 = 0 := by omega
  rw [q1, q2] at ha0
  clear q1 q2 e5 h3 h4
  generalize up + ca = s at ha0
  have ha : ∀ w, (callFunc 50 #[.int .u64 (up : Int), .int .u64 (ca : Int), .int .u64 0]).run Tryz.prog w = .ok (.value (.tuple #[.int .u64 (s : Int), .int .u64 0])) w := ha0
  clear ha0
  go_enter Tryz.func51, Tryz.ntmps51
  go_wp2_with fail
  refine (m1 _).mono ?_
  rintro e w' ⟨rfl, hw1⟩
  rw [hw1]
  go_wp2_with fail
  refine (m2 _).mono ?_
  rintro e w2 ⟨rfl, hw2⟩
  rw [hw2]
  go_wp2
  refine bodyPost_ret (v := .tuple #[.agg #[.int .u64 (s : Int), .int .u64 (lo : Int)], .bool false]) (by simp [results, Tryz.results51, go_sem]) rfl ⟨rfl, ?_⟩
  exact (Below.refl _ _).alloc (Nat.le_refl _) _
set_option maxHeartbeats 4000000 in
set_option maxRecDepth 100000 in
theorem div_core (h l y s Y y1 y0 u u1 u0 lo q r Q1 a1 a2 a3 R1 p r2 Q0 b1 b2 b3 R0 rem : Nat) (hh : 0 < h) (hhy : h < y) (hs : s ≤ 63)
    (hz : ∀ w, Calls Tryz.prog 78 #[.int .u64 (y : Int)] w fun e w' => e = .returned (.int .i64 (s : Int)) ∧ w' = w)
    (hy1 : 1 ≤ y1) (hy1m : y1 < 4294967296) (hu1 : u1 < 4294967296) (hu0 : u0 < 4294967296)
    (e1 : IntKind.u64.wrap ((y : Int) * 2 ^ s) = (Y : Int)) (e2 : (Y : Int) / 4294967296 = (y1 : Int)) (e3 : bits .and .u64 (Y : Int) 4294967295 = (y0 : Int))
    (e4 : bits .or .u64 (IntKind.u64.wrap ((h : Int) * 2 ^ s)) ((l : Int) / 2 ^ (64 - s)) = (u : Int))
    (e5 : IntKind.u64.wrap ((l : Int) * 2 ^ s) = (lo : Int)) (e6 : (lo : Int) / 4294967296 = (u1 : Int)) (e7 : bits .and .u64 (lo : Int) 4294967295 = (u0 : Int))
    (e8 : (u : Int) / (y1 : Int) = (q : Int)) (e9 : IntKind.u64.wrap ((q : Int) * (y1 : Int)) = (q : Int) * (y1 : Int)) (e10 : (u : Int) - (q : Int) * (y1 : Int) = (r : Int))
    (hq : q ≤ 4294967297) (hr : r < 4294967296) (hqr : Hid (q * y1 + r = u)) (hQq : Q1 ≤ q) (hQ : Q1 < 4294967296) (D1 : Hid (Digit u y1 y0 u1 Q1))
    (f1 : IntKind.u64.wrap ((u : Int) * 4294967296) = (a1 : Int)) (f2 : IntKind.u64.wrap ((a1 : Int) + (u1 : Int)) = (a2 : Int)) (f3 : IntKind.u64.wrap ((Q1 : Int) * (Y : Int)) = (a3 : Int)) (f4 : IntKind.u64.wrap ((a2 : Int) - (a3 : Int)) = (R1 : Int))
    (f8 : (R1 : Int) / (y1 : Int) = (p : Int)) (f9 : IntKind.u64.wrap ((p : Int) * (y1 : Int)) = (p : Int) * (y1 : Int)) (f10 : (R1 : Int) - (p : Int) * (y1 : Int) = (r2 : Int))
    (hq2 : p ≤ 4294967297) (hr2 : r2 < 4294967296) (hqr2 : Hid (p * y1 + r2 = R1)) (hQq2 : Q0 ≤ p) (hQ0 : Q0 < 4294967296) (D2 : Hid (Digit R1 y1 y0 u0 Q0))
    (f11 : IntKind.u64.wrap ((R1 : Int) * 4294967296) = (b1 : Int)) (f12 : IntKind.u64.wrap ((b1 : Int) + (u0 : Int)) = (b2 : Int)) (f13 : IntKind.u64.wrap ((Q0 : Int) * (Y : Int)) = (b3 : Int)) (f14 : IntKind.u64.wrap ((b2 : Int) - (b3 : Int)) = (R0 : Int))
    (f15 : (R0 : Int) / 2 ^ s = (rem : Int))
    (hm : ∀ q : Nat, q < 4294967296 → IntKind.u64.wrap ((q : Int) * (y0 : Int)) = (q : Int) * (y0 : Int))
    (w : World) :
    Calls Tryz.prog 52 #[.int .u64 h, .int .u64 l, .int .u64 y] w fun e w' =>
      e = .returned (.tuple #[.int .u64 ((Q1 : Int) * 4294967296 + (Q0 : Int)), .int .u64 (rem : Int)]) ∧ Below w.heap.size w w' := by
  have h1 : ((y : Int) == 0) = false := beq_eq_false_iff_ne.2 (by omega)
  have h2 : decide ((y : Int) ≤ (h : Int)) = false := decide_eq_false (by omega)
  have h3 : ((h : Int) == 0) = false := beq_eq_false_iff_ne.2 (by omega)
  have HM := Lib.hid hm
  clear hm
  go_enter Tryz.func52, Tryz.ntmps52
  go_wp2_with fail
  refine (hz _).mono ?_
  rintro e w' ⟨rfl, hw1⟩
  rw [hw1]
  go_upto_block 0 with fail
  clear e1 e2 e3 e4 e5 e6 e7 e8 e9 e10
  go_cut [15] (fun a wx => a = .int .u64 Q1 ∧ wx = w)
  case first =>
    go_wp2_with fail
    go_loop [15, 16] (fun a b => ∃ q r : Nat, a = .int .u64 q ∧ b = .int .u64 r ∧ Hid (q * y1 + r = u) ∧ Q1 ≤ q ∧ q ≤ 4294967297 ∧ r < 4294967296) (fun a _ => (Go.RowKit.intOf a).toNat)
    case atStart => exact ⟨q, r, rfl, rfl, hqr, hQq, hq, hr⟩
    case round =>
      clear hqr hQq hq hr
      obtain ⟨q, r, rfl, rfl, hqr, hQq, hq, hr⟩ := hrel
      obtain ⟨F1, F2, F3, F4⟩ := D1.out q r hqr.out
      by_cases hA : 4294967296 ≤ q
      · have hA1 : decide ((4294967296 : Int) ≤ (q : Int)) = true := decide_eq_true (by omega)
        have hlt := F1 hA
        clear F1 F2 F3 F4
        have hb := Lib.hid (Digit.back hqr.out (by omega))
        by_cases hB : 4294967296 ≤ r + y1
        · have hq1 : (q : Int) - 1 = (Q1 : Int) := by
            have := (D1.out _ _ hb.out).2.2.2 (by omega) hB
            omega
          have hB1 : decide ((4294967296 : Int) ≤ (r : Int) + (y1 : Int)) = true := decide_eq_true (by omega)
          clear hb hqr
          go_wp2_with fail
          go_meet
          exact ⟨rfl, rfl⟩
        · have hB1 : decide ((4294967296 : Int) ≤ (r : Int) + (y1 : Int)) = false := decide_eq_false (by omega)
          go_wp2_with fail
          go_round
          case rel => exact ⟨q - 1, r + y1, by go_num, by go_num, hb, by omega, by omega, by omega⟩
          case measure => simp [Go.RowKit.intOf]; omega
      · have hA1 : decide ((4294967296 : Int) ≤ (q : Int)) = false := decide_eq_false (by omega)
        have hw := HM.out q (by omega)
        by_cases hC : 4294967296 * r + u1 < q * y0
        · have hC0 : (4294967296 : Int) * (r : Int) + (u1 : Int) < (q : Int) * (y0 : Int) := by
            have : ((4294967296 * r + u1 : Nat) : Int) < ((q * y0 : Nat) : Int) := by exact_mod_cast hC
            simpa using this
          have hC1 := decide_eq_true hC0
          have hlt := F2 (by omega) hC
          clear F1 F2 F3 F4 hC hC0
          have hb := Lib.hid (Digit.back hqr.out (by omega))
          by_cases hB : 4294967296 ≤ r + y1
          · have hq1 : (q : Int) - 1 = (Q1 : Int) := by
              have := (D1.out _ _ hb.out).2.2.2 (by omega) hB
              omega
            have hB1 : decide ((4294967296 : Int) ≤ (r : Int) + (y1 : Int)) = true := decide_eq_true (by omega)
            clear hb hqr
            go_wp2_with fail
            go_meet
            exact ⟨rfl, rfl⟩
          · have hB1 : decide ((4294967296 : Int) ≤ (r : Int) + (y1 : Int)) = false := decide_eq_false (by omega)
            go_wp2_with fail
            go_round
            case rel => exact ⟨q - 1, r + y1, by go_num, by go_num, hb, by omega, by omega, by omega⟩
            case measure => simp [Go.RowKit.intOf]; omega
        · have hC0 : ¬ (4294967296 : Int) * (r : Int) + (u1 : Int) < (q : Int) * (y0 : Int) := by
            intro h
            apply hC
            have : ((4294967296 * r + u1 : Nat) : Int) < ((q * y0 : Nat) : Int) := by simpa using h
            exact_mod_cast this
          have hC1 := decide_eq_false hC0
          obtain rfl : Q1 = q := by
            have := F3 (by omega) (by omega)
            omega
          clear F1 F2 F3 F4 hC hC0
          go_wp2_with fail
          go_meet
          exact ⟨rfl, rfl⟩
  case rest =>
    obtain ⟨rfl, rfl⟩ := hcut
    clear hqr hQq hq hr D1
    go_upto_block 2 with fail
    clear f1 f2 f3 f4 f8 f9 f10
    go_cut [18] (fun a wx => a = .int .u64 Q0 ∧ wx = wc)
    case first =>
      go_wp2_with fail
      go_loop [18, 16] (fun a b => ∃ q r : Nat, a = .int .u64 q ∧ b = .int .u64 r ∧ Hid (q * y1 + r = R1) ∧ Q0 ≤ q ∧ q ≤ 4294967297 ∧ r < 4294967296) (fun a _ => (Go.RowKit.intOf a).toNat)
      case atStart => exact ⟨p, r2, rfl, rfl, hqr2, hQq2, hq2, hr2⟩
      case round =>
        clear hqr2 hQq2 hq2 hr2
        obtain ⟨q, r, rfl, rfl, hqr, hQq, hq, hr⟩ := hrel
        obtain ⟨F1, F2, F3, F4⟩ := D2.out q r hqr.out
        by_cases hA : 4294967296 ≤ q
        · have hA1 : decide ((4294967296 : Int) ≤ (q : Int)) = true := decide_eq_true (by omega)
          have hlt := F1 hA
          clear F1 F2 F3 F4
          have hb := Lib.hid (Digit.back hqr.out (by omega))
          by_cases hB : 4294967296 ≤ r + y1
          · have hq1 : (q : Int) - 1 = (Q0 : Int) := by
              have := (D2.out _ _ hb.out).2.2.2 (by omega) hB
              omega
            have hB1 : decide ((4294967296 : Int) ≤ (r : Int) + (y1 : Int)) = true := decide_eq_true (by omega)
            clear hb hqr
            go_wp2_with fail
            go_meet
            exact ⟨rfl, rfl⟩
          · have hB1 : decide ((4294967296 : Int) ≤ (r : Int) + (y1 : Int)) = false := decide_eq_false (by omega)
            go_wp2_with fail
            go_round
            case rel => exact ⟨q - 1, r + y1, by go_num, by go_num, hb, by omega, by omega, by omega⟩
            case measure => simp [Go.RowKit.intOf]; omega
        · have hA1 : decide ((4294967296 : Int) ≤ (q : Int)) = false := decide_eq_false (by omega)
          have hw := HM.out q (by omega)
          by_cases hC : 4294967296 * r + u0 < q * y0
          · have hC0 : (4294967296 : Int) * (r : Int) + (u0 : Int) < (q : Int) * (y0 : Int) := by
              have : ((4294967296 * r + u0 : Nat) : Int) < ((q * y0 : Nat) : Int) := by exact_mod_cast hC
              simpa using this
            have hC1 := decide_eq_true hC0
            have hlt := F2 (by omega) hC
            clear F1 F2 F3 F4 hC hC0
            have hb := Lib.hid (Digit.back hqr.out (by omega))
            by_cases hB : 4294967296 ≤ r + y1
            · have hq1 : (q : Int) - 1 = (Q0 : Int) := by
                have := (D2.out _ _ hb.out).2.2.2 (by omega) hB
                omega
              have hB1 : decide ((4294967296 : Int) ≤ (r : Int) + (y1 : Int)) = true := decide_eq_true (by omega)
              clear hb hqr
              go_wp2_with fail
              go_meet
              exact ⟨rfl, rfl⟩
            · have hB1 : decide ((4294967296 : Int) ≤ (r : Int) + (y1 : Int)) = false := decide_eq_false (by omega)
              go_wp2_with fail
              go_round
              case rel => exact ⟨q - 1, r + y1, by go_num, by go_num, hb, by omega, by omega, by omega⟩
              case measure => simp [Go.RowKit.intOf]; omega
          · have hC0 : ¬ (4294967296 : Int) * (r : Int) + (u0 : Int) < (q : Int) * (y0 : Int) := by
              intro h
              apply hC
              have : ((4294967296 * r + u0 : Nat) : Int) < ((q * y0 : Nat) : Int) := by simpa using h
              exact_mod_cast this
            have hC1 := decide_eq_false hC0
            obtain rfl : Q0 = q := by
              have := F3 (by omega) (by omega)
              omega
            clear F1 F2 F3 F4 hC hC0
            go_wp2_with fail
            go_meet
            exact ⟨rfl, rfl⟩
    case rest =>
      obtain ⟨rfl, hcw⟩ := hcut
      clear hqr2 hQq2 hq2 hr2 D2
      rw [hcw]
      go_wp2_with fail
      go_ret2
      exact ⟨rfl, Below.refl _ _⟩
theorem div_low (l y : Nat) (hy0 : 0 < y) (hl : l < 18446744073709551616) (hy : y < 18446744073709551616) (w : World) :
    Calls Tryz.prog 52 #[.int .u64 0, .int .u64 l, .int .u64 y] w fun e w' =>
      e = .returned (.tuple #[.int .u64 ((l : Int) / (y : Int)), .int .u64 ((l : Int) % (y : Int))]) ∧ Below w.heap.size w w' := by
  have h1 : ((y : Int) == 0) = false := beq_eq_false_iff_ne.2 (by omega)
  have h2 : decide ((y : Int) ≤ 0) = false := decide_eq_false (by omega)
  have h3 : IntKind.u64.wrap ((l : Int) / (y : Int)) = (l : Int) / (y : Int) := by
    have e : (l : Int) / (y : Int) = ((l / y : Nat) : Int) := (Int.natCast_ediv l y).symm
    have b : l / y < 18446744073709551616 := Nat.lt_of_le_of_lt (Nat.div_le_self _ _) hl
    rw [e, IntKind.wrap_u64]
    exact Int.emod_eq_of_lt (Int.natCast_nonneg _) (Int.ofNat_lt.2 b)
  go_enter Tryz.func52, Tryz.ntmps52
  go_wp2_with fail
  go_quiet (fail)
  go_wp2
  go_ret2
  exact ⟨rfl, Go.below_drewN (Below.refl _ _) _⟩
theorem wrapN (a : Nat) (ha : a < 18446744073709551616) : IntKind.u64.wrap (a : Int) = (a : Int) := by rw [IntKind.wrap_u64]; omega
theorem wrapM (a : Nat) : IntKind.u64.wrap (a : Int) = ((a % 18446744073709551616 : Nat) : Int) := by rw [IntKind.wrap_u64]; omega
theorem wrap_back (D X r : Nat) (h : D = X + r) (hr : r < 18446744073709551616) : IntKind.u64.wrap (((D % 18446744073709551616 : Nat) : Int) - ((X % 18446744073709551616 : Nat) : Int)) = (r : Int) := by
  rw [IntKind.wrap_u64]; omega
theorem wrap_two (a c : Nat) : (a % 18446744073709551616 + c) % 18446744073709551616 = (a + c) % 18446744073709551616 := by omega
theorem div_mid (h l y s N Y u lo u1 u0 y1 y0 : Nat) (hh : 0 < h) (hhy : h < y) (hs : s ≤ 63)
    (hz : ∀ w, Calls Tryz.prog 78 #[.int .u64 (y : Int)] w fun e w' => e = .returned (.int .i64 (s : Int)) ∧ w' = w)
    (hY : Y = y * 2 ^ s) (hY2 : Y < 18446744073709551616) (eY : Y = y1 * 4294967296 + y0) (hy1 : 2147483648 ≤ y1) (hy1m : y1 < 4294967296) (hy0 : y0 < 4294967296) (hu1 : u1 < 4294967296) (hu0 : u0 < 4294967296) (hu : u < Y)
    (hU : N * 2 ^ s = (u * 4294967296 + u1) * 4294967296 + u0)
    (e1 : IntKind.u64.wrap ((y : Int) * 2 ^ s) = (Y : Int)) (e2 : (Y : Int) / 4294967296 = (y1 : Int)) (e3 : bits .and .u64 (Y : Int) 4294967295 = (y0 : Int))
    (e4 : bits .or .u64 (IntKind.u64.wrap ((h : Int) * 2 ^ s)) ((l : Int) / 2 ^ (64 - s)) = (u : Int))
    (e5 : IntKind.u64.wrap ((l : Int) * 2 ^ s) = (lo : Int)) (e6 : (lo : Int) / 4294967296 = (u1 : Int)) (e7 : bits .and .u64 (lo : Int) 4294967295 = (u0 : Int)) (w : World) :
    Calls Tryz.prog 52 #[.int .u64 h, .int .u64 l, .int .u64 y] w fun e w' =>
      e = .returned (.tuple #[.int .u64 (N / y : Nat), .int .u64 (N % y : Nat)]) ∧ Below w.heap.size w w' := by
  have hd : 0 < 2 ^ s := Nat.two_pow_pos _
  obtain ⟨D1, Q1l, Q1q, q1l, q1e⟩ := digit_of u y1 y0 u1 hy0 hy1 (by rw [← eY]; exact hu) hu1
  have x1 := Nat.div_add_mod' (u * 4294967296 + u1) (y1 * 4294967296 + y0)
  have x1l := Nat.mod_lt (u * 4294967296 + u1) (show 0 < y1 * 4294967296 + y0 by omega)
  obtain ⟨Q1, hQ1⟩ : ∃ Q, Q = (u * 4294967296 + u1) / (y1 * 4294967296 + y0) := ⟨_, rfl⟩
  obtain ⟨R1, hR1⟩ : ∃ R, R = (u * 4294967296 + u1) % (y1 * 4294967296 + y0) := ⟨_, rfl⟩
  rw [← hQ1] at D1 Q1l Q1q x1
  rw [← hR1] at x1 x1l
  obtain ⟨D2, Q0l, Q0q, q0l, q0e⟩ := digit_of R1 y1 y0 u0 hy0 hy1 x1l hu0
  have x0 := Nat.div_add_mod' (R1 * 4294967296 + u0) (y1 * 4294967296 + y0)
  have x0l := Nat.mod_lt (R1 * 4294967296 + u0) (show 0 < y1 * 4294967296 + y0 by omega)
  obtain ⟨Q0, hQ0⟩ : ∃ Q, Q = (R1 * 4294967296 + u0) / (y1 * 4294967296 + y0) := ⟨_, rfl⟩
  obtain ⟨R0, hR0⟩ : ∃ R, R = (R1 * 4294967296 + u0) % (y1 * 4294967296 + y0) := ⟨_, rfl⟩
  rw [← hQ0] at D2 Q0l Q0q x0
  rw [← hR0] at x0 x0l
  rw [← eY] at x1 x1l x0 x0l
  obtain ⟨j1, j2⟩ := join N y (2 ^ s) Q0 Q1 R1 R0 u u1 u0 hd hU (by rw [← hY]; exact x1.symm) (by rw [← hY]; exact x0.symm) (by rw [← hY]; exact x0l)
  clear hQ1 hR1 hQ0 hR0 hU hY
  have m1 : u % y1 < y1 := Nat.mod_lt _ (by omega)
  have m0 : R1 % y1 < y1 := Nat.mod_lt _ (by omega)
  obtain ⟨q, hq⟩ : ∃ q, q = u / y1 := ⟨_, rfl⟩
  obtain ⟨r, hr⟩ : ∃ r, r = u % y1 := ⟨_, rfl⟩
  obtain ⟨p, hp⟩ : ∃ q, q = R1 / y1 := ⟨_, rfl⟩
  obtain ⟨r2, hr2⟩ : ∃ r, r = R1 % y1 := ⟨_, rfl⟩
  have i1 : (u : Int) / (y1 : Int) = (q : Int) := by rw [hq]; exact (Int.natCast_ediv u y1).symm
  have i0 : (R1 : Int) / (y1 : Int) = (p : Int) := by rw [hp]; exact (Int.natCast_ediv R1 y1).symm
  rw [← hq] at Q1q q1l q1e
  rw [← hr] at q1e m1
  rw [← hp] at Q0q q0l q0e
  rw [← hr2] at q0e m0
  clear hq hr hp hr2
  have c1 : ((q * y1 : Nat) : Int) = (q : Int) * (y1 : Int) := Int.natCast_mul q y1
  have c0 : ((p * y1 : Nat) : Int) = (p : Int) * (y1 : Int) := Int.natCast_mul p y1
  have cQ1 : ((Q1 * Y : Nat) : Int) = (Q1 : Int) * (Y : Int) := Int.natCast_mul Q1 Y
  have cQ0 : ((Q0 * Y : Nat) : Int) = (Q0 : Int) * (Y : Int) := Int.natCast_mul Q0 Y
  have w1 := wrapN (q * y1) (by omega)
  have w0 := wrapN (p * y1) (by omega)
  rw [c1] at w1
  rw [c0] at w0
  have v1 := wrapM (u * 4294967296)
  have v2 := wrapM (u * 4294967296 % 18446744073709551616 + u1)
  have v3 := wrapM (Q1 * Y)
  have v4 := wrap_back (u * 4294967296 + u1) (Q1 * Y) R1 x1.symm (by omega)
  have v5 := wrapM (R1 * 4294967296)
  have v6 := wrapM (R1 * 4294967296 % 18446744073709551616 + u0)
  have v7 := wrapM (Q0 * Y)
  have v8 := wrap_back (R1 * 4294967296 + u0) (Q0 * Y) R0 x0.symm (by omega)
  rw [wrap_two, Int.natCast_add] at v2 v6
  rw [Int.natCast_mul] at v1 v5
  rw [cQ1] at v3
  rw [cQ0] at v7
  have k1 : (u : Int) - (q : Int) * (y1 : Int) = (r : Int) := by rw [← c1]; omega
  have k0 : (R1 : Int) - (p : Int) * (y1 : Int) = (r2 : Int) := by rw [← c0]; omega
  have z : (R0 : Int) / 2 ^ s = ((R0 / 2 ^ s : Nat) : Int) := by push_cast; rfl
  have hm : ∀ q : Nat, q < 4294967296 → IntKind.u64.wrap ((q : Int) * (y0 : Int)) = (q : Int) * (y0 : Int) := fun q hq => by
    have := wrapN (q * y0) (mul_small q y0 hq hy0)
    rw [Int.natCast_mul] at this
    exact this
  have hc := div_core h l y s Y y1 y0 u u1 u0 lo q r Q1 (u * 4294967296 % 18446744073709551616) ((u * 4294967296 + u1) % 18446744073709551616) (Q1 * Y % 18446744073709551616) R1 p r2 Q0
    (R1 * 4294967296 % 18446744073709551616) ((R1 * 4294967296 + u0) % 18446744073709551616) (Q0 * Y % 18446744073709551616) R0 (R0 / 2 ^ s) hh hhy hs hz (by omega) hy1m hu1 hu0 e1 e2 e3 e4 e5 e6 e7
    i1 w1 k1 q1l (by omega) (Lib.hid q1e) Q1q Q1l (Lib.hid D1) v1 v2 v3 v4 i0 w0 k0 q0l (by omega) (Lib.hid q0e) Q0q Q0l (Lib.hid D2) v5 v6 v7 v8 z hm w
  rw [← j1, ← j2]
  have e : ((Q1 * 4294967296 + Q0 : Nat) : Int) = (Q1 : Int) * 4294967296 + (Q0 : Int) := by rw [Int.natCast_add, Int.natCast_mul]; rfl
  rw [e]
  exact hc
theorem div_any (h l y : Nat) (hhy : h < y) (hl : l < 18446744073709551616) (hy : y < 18446744073709551616) (w : World) :
    Calls Tryz.prog 52 #[.int .u64 h, .int .u64 l, .int .u64 y] w fun e w' =>
      e = .returned (.tuple #[.int .u64 ((h * 18446744073709551616 + l) / y : Nat), .int .u64 ((h * 18446744073709551616 + l) % y : Nat)]) ∧ Below w.heap.size w w' := by
  by_cases h0 : h = 0
  · subst h0
    have e1 : (((0 * 18446744073709551616 + l) / y : Nat) : Int) = (l : Int) / (y : Int) := by rw [Nat.zero_mul, Nat.zero_add]; exact Int.natCast_ediv l y
    have e2 : (((0 * 18446744073709551616 + l) % y : Nat) : Int) = (l : Int) % (y : Int) := by rw [Nat.zero_mul, Nat.zero_add]; exact Int.natCast_emod l y
    rw [e1, e2]
    exact div_low l y (by omega) hl hy w
  · obtain ⟨s, hs, hs2, hY1, hY2⟩ := norm y (by omega) hy
    obtain ⟨g1, g2, g3, g4, g5⟩ := upper h l y s hhy hl hs hY2
    have hz : ∀ w, Calls Tryz.prog 78 #[.int .u64 (y : Int)] w fun e w' => e = .returned (.int .i64 (s : Int)) ∧ w' = w := by
      intro w
      have := Tryz.bits_LeadingZeros64 (y : Int) w (by omega) (by omega)
      rw [Int.toNat_natCast, hs2] at this
      exact this
    have hU := two_digits 4294967296 ((h * 18446744073709551616 + l) * 2 ^ s)
    rw [show 4294967296 * 4294967296 = 18446744073709551616 from rfl] at hU
    obtain ⟨U, hUd⟩ : ∃ U, U = (h * 18446744073709551616 + l) * 2 ^ s := ⟨_, rfl⟩
    rw [← hUd] at hU g3 g4 g5
    obtain ⟨u, hu⟩ : ∃ u, u = U / 18446744073709551616 := ⟨_, rfl⟩
    obtain ⟨lo, hlo⟩ : ∃ u, u = U % 18446744073709551616 := ⟨_, rfl⟩
    have hlo2 : lo < 18446744073709551616 := by rw [hlo]; exact Nat.mod_lt _ (by omega)
    rw [← hu] at hU g3 g5
    rw [← hlo] at hU g4
    obtain ⟨Y, hY⟩ : ∃ Y, Y = y * 2 ^ s := ⟨_, rfl⟩
    have hYy : (y : Int) * 2 ^ s = ((y * 2 ^ s : Nat) : Int) := by push_cast; rfl
    have hHh : (h : Int) * 2 ^ s = ((h * 2 ^ s : Nat) : Int) := by push_cast; rfl
    have hLl : (l : Int) * 2 ^ s = ((l * 2 ^ s : Nat) : Int) := by push_cast; rfl
    have hLd : (l : Int) / 2 ^ (64 - s) = ((l / 2 ^ (64 - s) : Nat) : Int) := by push_cast; rfl
    have hl1 : l / 2 ^ (64 - s) < 18446744073709551616 := Nat.lt_of_le_of_lt (Nat.div_le_self _ _) hl
    have e1 : IntKind.u64.wrap ((y : Int) * 2 ^ s) = (Y : Int) := by rw [hYy, wrapN _ hY2, hY]
    have e4 : bits .or .u64 (IntKind.u64.wrap ((h : Int) * 2 ^ s)) ((l : Int) / 2 ^ (64 - s)) = (u : Int) := by
      rw [hHh, hLd, wrapN _ g1, bits_or_u64_nat _ _ g1 hl1, g3]
    have e5 : IntKind.u64.wrap ((l : Int) * 2 ^ s) = (lo : Int) := by
      rw [hLl, wrapM, g4]
    rw [← hY] at hY1 hY2 g5
    have hmask : Y &&& 4294967295 = Y % 4294967296 := Nat.and_two_pow_sub_one_eq_mod Y 32
    have lmask : lo &&& 4294967295 = lo % 4294967296 := Nat.and_two_pow_sub_one_eq_mod lo 32
    have e3 : bits .and .u64 (Y : Int) 4294967295 = ((Y % 4294967296 : Nat) : Int) := by
      have := bits_and_u64_nat Y 4294967295 hY2 (by omega)
      rw [hmask] at this
      exact this
    have e7 : bits .and .u64 (lo : Int) 4294967295 = ((lo % 4294967296 : Nat) : Int) := by
      have := bits_and_u64_nat lo 4294967295 hlo2 (by omega)
      rw [lmask] at this
      exact this
    rw [hUd] at hU
    exact div_mid h l y s (h * 18446744073709551616 + l) Y u lo (lo / 4294967296) (lo % 4294967296) (Y / 4294967296) (Y % 4294967296) (by omega) hhy hs hz hY hY2 (Nat.div_add_mod' Y 4294967296).symm
      (by omega) (by omega) (by omega) (by omega) (by omega) g5 hU e1 (by omega) e3 e4 e5 (by omega) e7 w
end Go.Proofs.YtahjkibjcibpgaaGreatDoor.U
end
section
namespace Go.Proofs.YtahjkibjcibpgaaGreatDoor.U
open Go.RowKit Go.Shelf Go.Proofs.YtahjkibjcibpgaaGreatDoorW.PrintWords
theorem decode_dig (s : ByteArray) (hd : s.data.toList.all isDig = true) (pos : Nat) (h : pos < s.size) : (Utf8.decode s pos).2 = 1 := by
  have hz : s.size = s.data.toList.length := Lib.size_eq s
  have hm : (s[pos]'h) ∈ s.data.toList := by
    have : (s[pos]'h) = s.data.toList[pos]'(by omega) := rfl
    rw [this]; exact List.getElem_mem _
  have := dig_lt (List.all_eq_true.1 hd _ hm)
  rw [decode_ascii s pos h (by omega)]
structure Bx (B : Nat) (name : ByteArray) (dim num den : Nat) (r0 r1 : Int) (w wx : World) : Prop where
  unit : wx.heap[B]? = some (.cells #[.string name, .int .i64 dim, .int .u64 num, .int .u64 den] 73 (0, 0))
  res : wx.heap[B + 1]? = some (.cells #[.int .i64 r0, .int .i64 r1] 23 (0, 0))
  below : Below w.heap.size w wx
theorem Bx.step {B : Nat} {name : ByteArray} {dim num den : Nat} {r0 r1 : Int} {w wx wy : World} (h : Bx B name dim num den r0 r1 w wx) (hb : Below wx.heap.size wx wy) : Bx B name dim num den r0 r1 w wy :=
  ⟨blk_below h.unit hb, blk_below h.res hb, below_step h.below hb⟩
theorem Bx.lt {B : Nat} {name : ByteArray} {dim num den : Nat} {r0 r1 : Int} {w wx : World} (h : Bx B name dim num den r0 r1 w wx) : B + 1 < wx.heap.size := lt_of_heap h.res
structure Told (W P F num den hi1 lo1 lo2 c hi2 t1 t0 y q rest : Nat) : Prop where
  mul : ∀ w, Calls Tryz.prog 49 #[.int .u64 (W : Int), .int .u64 (P : Int)] w fun e w' => e = .returned (.tuple #[.int .u64 (hi1 : Int), .int .u64 (lo1 : Int)]) ∧ w' = w
  add : ∀ w, (callFunc 50 #[.int .u64 (lo1 : Int), .int .u64 (F : Int), .int .u64 0]).run Tryz.prog w = .ok (.value (.tuple #[.int .u64 (lo2 : Int), .int .u64 (c : Int)])) w
  high : IntKind.u64.wrap ((hi1 : Int) + (c : Int)) = (hi2 : Int)
  scaled : ∀ w, Calls Tryz.prog 51 #[.int .u64 (hi2 : Int), .int .u64 (lo2 : Int), .int .u64 (num : Int)] w fun e w' => e = .returned (.tuple #[.agg #[.int .u64 (t1 : Int), .int .u64 (t0 : Int)], .bool false]) ∧ Below w.heap.size w w'
  scale : IntKind.u64.wrap ((P : Int) * (den : Int)) = (y : Int)
  div : t1 < y → ∀ w, Calls Tryz.prog 52 #[.int .u64 (t1 : Int), .int .u64 (t0 : Int), .int .u64 (y : Int)] w fun e w' => e = .returned (.tuple #[.int .u64 (q : Int), .int .u64 (rest : Int)]) ∧ Below w.heap.size w w'
set_option maxHeartbeats 4000000 in
set_option maxRecDepth 100000 in
theorem amount_core (name : ByteArray) (dim num den P F W hi1 lo1 lo2 c hi2 t1 t0 y q rest : Nat) (R0 R1 R2 : Int) (hR : Hid ((R0, R1, R2) = if y ≤ t1 ∨ rest ≠ 0 ∨ 1125899906842624 < q then ((0, 0, 7) : Int × Int × Int) else ((q : Int), (dim : Int), 0)))
    (whole fr : ByteArray) (hfd : Hid (fr.data.toList.all isDig = true)) (hfs : fr.size ≤ 9) (hP : Hid (P = 10 ^ fr.size)) (hF : Hid (F = val fr.data.toList)) (hcF : Hid (cap F = F))
    (hwh : whole.size ≤ 281474976710656) (hwn : whole.data.toList ≠ []) (hwd : Hid (whole.data.toList.all isDig = true)) (hW : Hid (W = cap (val whole.data.toList))) (T : Told W P F num den hi1 lo1 lo2 c hi2 t1 t0 y q rest) (w : World) (hw : UW w) :
    Calls Tryz.prog 30 #[.agg #[.string name, .int .i64 dim, .int .u64 num, .int .u64 den], .string whole, .string fr] w fun e w' => e = .returned (.tuple #[.agg #[.int .i64 R0, .int .i64 R1], .int .i64 R2]) ∧ Below w.heap.size w w' := by
  go_enter Tryz.func30, Tryz.ntmps30
  go_upto_block 0 with fail
  go_cut [8] (fun a wx => a = .int .u64 P ∧ Bx w.heap.size name dim num den 0 0 w wx)
  case first =>
    obtain ⟨W1, hW1⟩ : ∃ W1 : World, W1 = ((w.alloc (Obj.cells #[Value.string name, Value.int IntKind.i64 ↑dim, Value.int IntKind.u64 ↑num, Value.int IntKind.u64 ↑den] 73)).alloc (Obj.cells #[Value.int IntKind.i64 0, Value.int IntKind.i64 0] 23)) := ⟨_, rfl⟩
    have HZ := Lib.hid (show W1.heap.size = w.heap.size + 1 + 1 by rw [hW1]; simp)
    rw [← hW1]
    have hbx : ∀ pos, Bx w.heap.size name dim num den 0 0 w (W1.iter fr pos) := by
      intro pos
      rw [hW1]
      refine ⟨blk_alloc (blk_alloc (blk_new _ _) _) _, ?_, (((Below.refl _ _).alloc (Nat.le_refl _) _).alloc (by simp) _).alloc (by simp; omega) _⟩
      refine blk_alloc ?_ _
      have := blk_new (w.alloc (Obj.cells #[Value.string name, Value.int IntKind.i64 ↑dim, Value.int IntKind.u64 ↑num, Value.int IntKind.u64 ↑den] 73)) (Obj.cells #[Value.int IntKind.i64 0, Value.int IntKind.i64 0] 23)
      simpa using this
    have HB := Lib.hid hbx
    clear hbx hW1
    go_wp2_with fail
    go_loopw [8] (fun n wr => ∃ pos p : Nat, pos ≤ fr.size ∧ wr = W1.iter fr pos ∧ n = .int .u64 p ∧ Hid (p = 10 ^ pos)) (fun _ wr => fr.size - wr.iterPos (w.heap.size + 1 + 1))
    case atStart => exact ⟨0, 1, Nat.zero_le _, rfl, rfl, Lib.hid rfl⟩
    case round =>
      obtain ⟨pos, p, hp, rfl, rfl, hpp⟩ := hrel
      by_cases hlt : pos < fr.size
      · have hnx := fun ty => run_next_any (P := Tryz.prog) W1 fr pos ty hlt
        rw [decode_dig fr hfd.out pos hlt, HZ.out] at hnx
        have hp2 : p ≤ 100000000 := by
          rw [hpp.out]
          exact Nat.le_trans (Nat.pow_le_pow_right (by omega) (show pos ≤ 8 by omega)) (by decide)
        go_wp2
        go_roundw
        case rel => exact ⟨pos + 1, p * 10, hlt, rfl, by go_num, Lib.hid (by rw [hpp.out, Nat.pow_succ])⟩
        case measure =>
          have q1 := World.iterPos_iter W1 fr pos
          have q2 := World.iterPos_iter W1 fr (pos + 1)
          rw [HZ.out] at q1 q2
          rw [q1, q2]; omega
      · have hnx := fun ty => run_next_end (P := Tryz.prog) W1 fr pos ty hlt
        rw [HZ.out] at hnx
        obtain rfl : p = P := by rw [hpp.out, hP.out, show pos = fr.size by omega]
        go_wp2
        go_meet
        exact ⟨rfl, HB.out _⟩
  case rest =>
    obtain ⟨rfl, hbx⟩ := hcut
    go_upto_if 24 with (fail)
    go_cut [9] (fun a wx => a = .int .u64 F ∧ Bx w.heap.size name dim num den 0 0 w wx)
    case first =>
      by_cases he : fr.data.toList = []
      · have he1 : fr.toList.isEmpty = true := by rw [Lib.toList_data, he]; rfl
        have he2 : (!fr.toList.isEmpty) = false := by rw [he1]; rfl
        obtain rfl : F = 0 := by rw [hF.out, he]; rfl
        rw [he2]
        clear he he1 he2
        go_wp2_with fail
        go_meet
        exact ⟨rfl, hbx⟩
      · have he1 : fr.toList.isEmpty = false := by rw [Lib.toList_data]; cases h : fr.data.toList with | nil => exact absurd h he | cons _ _ => rfl
        have hv := value_any fr (by omega) he hfd.out wc (hw.step hbx.below)
        rw [← hF.out, hcF.out] at hv
        have he2 : (!fr.toList.isEmpty) = true := by rw [he1]; rfl
        rw [he2]
        clear he he1 he2
        go_wp2_with fail
        refine hv.mono ?_
        rintro e w' ⟨rfl, hB⟩
        go_wp2_with fail
        go_meet
        exact ⟨rfl, hbx.step hB⟩
    case rest =>
      clear hbx
      obtain ⟨rfl, hbx⟩ := hcut
      rename_i wd _ _ _
      have hv := value_any whole hwh hwn hwd.out _ (hw.step hbx.below)
      rw [← hW.out] at hv
      go_wp2_with fail
      refine hv.mono ?_
      rintro e w2 ⟨rfl, hB⟩
      have hbx2 := hbx.step hB
      clear hbx hB hv
      have ha := T.add
      have hs := T.high
      have hc2 := blk_cell hbx2.unit 2
      have hc2' : w2.cell? ⟨w.heap.size, 2, none⟩ = some (.int .u64 (num : Int)) := hc2
      clear hc2
      go_wp2_with fail
      refine (T.mul _).mono ?_
      rintro e w3 ⟨rfl, h3⟩
      rw [h3]
      go_wp2_with fail
      refine (T.scaled _).mono ?_
      rintro e w4 ⟨rfl, h4⟩
      have hbx4 := hbx2.step h4
      clear hbx2 hc2' h3 h4 ha hs
      have l4 := hbx4.lt
      have hbx5 : Bx w.heap.size name dim num den 0 0 w (w4.alloc (.cells #[.int .u64 (t1 : Int), .int .u64 (t0 : Int)] 95)) := hbx4.step ((Below.refl _ _).alloc (Nat.le_refl _) _)
      have hwd5 := blk_new w4 (.cells #[.int .u64 (t1 : Int), .int .u64 (t0 : Int)] 95)
      go_upto_region 11 with fail
      generalize w4.alloc (.cells #[.int .u64 (t1 : Int), .int .u64 (t0 : Int)] 95) = w5 at hbx5 hwd5 ⊢
      generalize w4.heap.size = B5 at hwd5 ⊢
      clear hbx4 l4
      have d0 : w5.cell? ⟨B5, 0, none⟩ = some (.int .u64 (t1 : Int)) := blk_cell hwd5 0
      have d1 : w5.cell? ⟨B5, 1, none⟩ = some (.int .u64 (t0 : Int)) := blk_cell hwd5 1
      have c3 : w5.cell? ⟨w.heap.size, 3, none⟩ = some (.int .u64 (den : Int)) := blk_cell hbx5.unit 3
      have r0 : w5.cell? ⟨w.heap.size + 1, 0, none⟩ = some (.int .i64 0) := blk_cell hbx5.res 0
      have r1 : w5.cell? ⟨w.heap.size + 1, 1, none⟩ = some (.int .i64 0) := blk_cell hbx5.res 1
      have z0 : w5.frozen? ⟨w.heap.size + 1, 0, none⟩ = false := blk_frozen hbx5.res 0
      have z1 : w5.frozen? ⟨w.heap.size + 1, 1, none⟩ = false := blk_frozen hbx5.res 1
      have hsc := T.scale
      by_cases hA : y ≤ t1
      · have hA1 : decide ((y : Int) ≤ (t1 : Int)) = true := decide_eq_true (by omega)
        have hR2 := hR.out
        rw [if_pos (Or.inl hA)] at hR2
        simp only [Prod.mk.injEq] at hR2
        obtain ⟨rfl, rfl, rfl⟩ := hR2
        go_wp2_with fail
        refine bodyPost_ret (results_ct rfl _ _ (w.heap.size + 1) 23 #[.int .i64 0, .int .i64 0] (0, 0) _ rfl (blk_put (cs := #[.int .i64 0, .int .i64 0]) (blk_put (cs := #[.int .i64 0, .int .i64 0]) hbx5.res 0 _ rfl) 1 _ rfl) Tryz.underlying23 rfl (by kernel_rfl)) rfl ?_
        exact ⟨rfl, below_set (below_set hbx5.below (by omega)) (by omega)⟩
      · have hA1 : decide ((y : Int) ≤ (t1 : Int)) = false := decide_eq_false (by omega)
        have hdv := T.div (by omega) w5
        clear hA1
        go_wp2_with fail
        refine hdv.mono ?_
        rintro e w6 ⟨rfl, h6⟩
        have hbx6 := hbx5.step h6
        clear d0 d1 c3 r0 r1 z0 z1 hdv h6 hbx5 hwd5 hsc
        have c1 : w6.cell? ⟨w.heap.size, 1, none⟩ = some (.int .i64 (dim : Int)) := blk_cell hbx6.unit 1
        have r0 : w6.cell? ⟨w.heap.size + 1, 0, none⟩ = some (.int .i64 0) := blk_cell hbx6.res 0
        have r1 : w6.cell? ⟨w.heap.size + 1, 1, none⟩ = some (.int .i64 0) := blk_cell hbx6.res 1
        have z0 : w6.frozen? ⟨w.heap.size + 1, 0, none⟩ = false := blk_frozen hbx6.res 0
        have z1 : w6.frozen? ⟨w.heap.size + 1, 1, none⟩ = false := blk_frozen hbx6.res 1
        have hR2 := hR.out
        by_cases hB : rest = 0
        · subst hB
          by_cases hC : 1125899906842624 < q
          · rw [if_pos (Or.inr (Or.inr hC))] at hR2
            simp only [Prod.mk.injEq] at hR2
            obtain ⟨rfl, rfl, rfl⟩ := hR2
            have hC1 : decide ((1125899906842624 : Int) < (q : Int)) = true := decide_eq_true (by omega)
            clear hC
            go_wp2_with fail
            refine bodyPost_ret (results_ct rfl _ _ (w.heap.size + 1) 23 #[.int .i64 0, .int .i64 0] (0, 0) _ rfl (blk_put (cs := #[.int .i64 0, .int .i64 0]) (blk_put (cs := #[.int .i64 0, .int .i64 0]) hbx6.res 0 _ rfl) 1 _ rfl) Tryz.underlying23 rfl (by kernel_rfl)) rfl ?_
            exact ⟨rfl, below_set (below_set hbx6.below (by omega)) (by omega)⟩
          · rw [if_neg (by omega)] at hR2
            simp only [Prod.mk.injEq] at hR2
            obtain ⟨rfl, rfl, rfl⟩ := hR2
            have hC1 : decide ((1125899906842624 : Int) < (q : Int)) = false := decide_eq_false (by omega)
            go_wp2_with fail
            refine bodyPost_ret (results_ct rfl _ _ (w.heap.size + 1) 23 #[.int .i64 (q : Int), .int .i64 (dim : Int)] (0, 0) _ rfl (blk_put (cs := #[.int .i64 (q : Int), .int .i64 0]) (blk_put (cs := #[.int .i64 0, .int .i64 0]) hbx6.res 0 _ rfl) 1 _ rfl) Tryz.underlying23 rfl (by kernel_rfl)) rfl ?_
            exact ⟨rfl, below_set (below_set hbx6.below (by omega)) (by omega)⟩
        · have hB1 : ((rest : Int) != 0) = true := by rw [bne_iff_ne]; omega
          have hB2 : ((rest : Int) == 0) = false := beq_eq_false_iff_ne.2 (by omega)
          rw [if_pos (Or.inr (Or.inl hB))] at hR2
          simp only [Prod.mk.injEq] at hR2
          obtain ⟨rfl, rfl, rfl⟩ := hR2
          clear hB
          go_wp2_with fail
          refine bodyPost_ret (results_ct rfl _ _ (w.heap.size + 1) 23 #[.int .i64 0, .int .i64 0] (0, 0) _ rfl (blk_put (cs := #[.int .i64 0, .int .i64 0]) (blk_put (cs := #[.int .i64 0, .int .i64 0]) hbx6.res 0 _ rfl) 1 _ rfl) Tryz.underlying23 rfl (by kernel_rfl)) rfl ?_
          exact ⟨rfl, below_set (below_set hbx6.below (by omega)) (by omega)⟩
theorem told_bounds (W P F num : Nat) (hW : W ≤ 54043195528445952) (hP : P ≤ 1000000000) (hF : F < P) (hn : num ≤ 1000000000) :
    W * P ≤ 54043195528445952000000000 ∧ (W * P + F) * num < 340282366920938463463374607431768211456 := by
  have h1 : W * P ≤ 54043195528445952 * P := Nat.mul_le_mul_right _ hW
  have h2 : W * P ≤ 54043195528445952000000000 := by omega
  have h3 : (W * P + F) * num ≤ (W * P + F) * 1000000000 := Nat.mul_le_mul_left _ hn
  exact ⟨h2, by omega⟩
theorem told (W P F num den : Nat) (hW : W ≤ 54043195528445952) (hP : P ≤ 1000000000) (hF : F < P) (hn : num ≤ 1000000000) (hd2 : den ≤ 24) :
    Told W P F num den (W * P / 18446744073709551616) (W * P % 18446744073709551616) ((W * P + F) % 18446744073709551616) ((W * P % 18446744073709551616 + F) / 18446744073709551616) ((W * P + F) / 18446744073709551616)
      ((W * P + F) * num / 18446744073709551616) ((W * P + F) * num % 18446744073709551616) (P * den) ((W * P + F) * num / (P * den)) ((W * P + F) * num % (P * den)) := by
  obtain ⟨b1, b2⟩ := told_bounds W P F num hW hP hF hn
  have hPd : P * den ≤ P * 24 := Nat.mul_le_mul_left _ hd2
  refine ⟨fun w => Tryz.bits_Mul64 W P (by omega) (by omega) w, ?_, ?_, ?_, ?_, ?_⟩
  · intro w
    have h := add64 (W * P % 18446744073709551616) F 0 (Nat.mod_lt _ (by omega)) (by omega) (by omega) w
    have e1 : (W * P % 18446744073709551616 + F + 0) % 18446744073709551616 = (W * P + F) % 18446744073709551616 := by
      generalize W * P = x at *
      omega
    rw [e1] at h
    exact h
  · have e : W * P / 18446744073709551616 + (W * P % 18446744073709551616 + F) / 18446744073709551616 = (W * P + F) / 18446744073709551616 := by
      generalize W * P = x at *
      omega
    rw [← Int.natCast_add, e]
    exact wrapN _ (by generalize W * P = x at *; omega)
  · intro w
    have e : (W * P + F) / 18446744073709551616 * 18446744073709551616 + (W * P + F) % 18446744073709551616 = W * P + F := Nat.div_add_mod' _ _
    have h := scaled_any ((W * P + F) / 18446744073709551616) ((W * P + F) % 18446744073709551616) num (by generalize W * P = x at *; omega) (Nat.mod_lt _ (by omega)) (by omega) (by rw [e]; exact b2) w
    rw [e] at h
    exact h
  · have h := wrapN (P * den) (by omega)
    rw [Int.natCast_mul] at h
    rw [h, Int.natCast_mul]
  · intro hlt w
    have e : (W * P + F) * num / 18446744073709551616 * 18446744073709551616 + (W * P + F) * num % 18446744073709551616 = (W * P + F) * num := Nat.div_add_mod' _ _
    have h := div_any ((W * P + F) * num / 18446744073709551616) ((W * P + F) * num % 18446744073709551616) (P * den) hlt (Nat.mod_lt _ (by omega)) (by omega) w
    rw [e] at h
    exact h
theorem outcome (W F k dim num den : Nat) (hd : 1 ≤ den) : amtOf W F k dim num den =
    if 10 ^ k * den ≤ (W * 10 ^ k + F) * num / 18446744073709551616 ∨ (W * 10 ^ k + F) * num % (10 ^ k * den) ≠ 0 ∨ 1125899906842624 < (W * 10 ^ k + F) * num / (10 ^ k * den) then ((0, 0, 7) : Int × Int × Int)
    else ((((W * 10 ^ k + F) * num / (10 ^ k * den) : Nat) : Int), (dim : Int), 0) := by
  have hp : 0 < 10 ^ k * den := Nat.mul_pos (Nat.pow_pos (by omega)) (by omega)
  have key : 10 ^ k * den ≤ (W * 10 ^ k + F) * num / 18446744073709551616 → 1125899906842624 < (W * 10 ^ k + F) * num / (10 ^ k * den) := by
    intro h
    have h1 : 10 ^ k * den * 18446744073709551616 ≤ (W * 10 ^ k + F) * num := (Nat.le_div_iff_mul_le (by omega)).1 h
    have h2 : 18446744073709551616 ≤ (W * 10 ^ k + F) * num / (10 ^ k * den) := (Nat.le_div_iff_mul_le hp).2 (by rw [Nat.mul_comm]; exact h1)
    omega
  unfold amtOf
  by_cases h : (W * 10 ^ k + F) * num % (10 ^ k * den) = 0 ∧ (W * 10 ^ k + F) * num / (10 ^ k * den) ≤ 1125899906842624
  · rw [if_pos h, if_neg]
    rintro (h1 | h1 | h1)
    · exact absurd (key h1) (by omega)
    · exact h1 h.1
    · omega
  · rw [if_neg h, if_pos]
    by_cases h1 : (W * 10 ^ k + F) * num % (10 ^ k * den) = 0
    · exact Or.inr (Or.inr (Nat.lt_of_not_le (fun h2 => h ⟨h1, h2⟩)))
    · exact Or.inr (Or.inl h1)
theorem amount_any (name : ByteArray) (dim num den : Nat) (hn1 : 1 ≤ num) (hn : num ≤ 1000000000) (hd : 1 ≤ den) (hd2 : den ≤ 24) (whole fr : ByteArray)
    (hw1 : digsOk whole.data.toList 20 = true) (hf : fr.data.toList.all isDig = true) (hfs : fr.size ≤ 9) (w : World) (hw : UW w) :
    Calls Tryz.prog 30 #[.agg #[.string name, .int .i64 dim, .int .u64 num, .int .u64 den], .string whole, .string fr] w fun e w' =>
      e = .returned (.tuple #[.agg #[.int .i64 (amtOf (val whole.data.toList) (val fr.data.toList) fr.data.toList.length dim num den).1, .int .i64 (amtOf (val whole.data.toList) (val fr.data.toList) fr.data.toList.length dim num den).2.1],
        .int .i64 (amtOf (val whole.data.toList) (val fr.data.toList) fr.data.toList.length dim num den).2.2]) ∧ Below w.heap.size w w' := by
  simp only [digsOk, Bool.and_eq_true, decide_eq_true_eq] at hw1
  obtain ⟨⟨hwn, hwl⟩, hwd⟩ := hw1
  have hz : whole.size = whole.data.toList.length := Lib.size_eq whole
  have hzf : fr.size = fr.data.toList.length := Lib.size_eq fr
  have hF : val fr.data.toList < 10 ^ fr.size := by rw [hzf]; exact val_lt _ hf
  have hP : 10 ^ fr.size ≤ 1000000000 := Nat.le_trans (Nat.pow_le_pow_right (by omega) hfs) (by decide)
  have T := told (cap (val whole.data.toList)) (10 ^ fr.size) (val fr.data.toList) num den (cap_le _) hP hF hn hd2
  rw [← amtOf_cap _ _ _ dim num den hn1 hd hd2, outcome _ _ _ _ _ _ hd, ← hzf]
  exact amount_core name dim num den _ _ _ _ _ _ _ _ _ _ _ _ _ _ _ _ (Lib.hid rfl) whole fr (Lib.hid hf) hfs (Lib.hid rfl) (Lib.hid rfl) (Lib.hid (by unfold cap; rw [if_pos (by omega)])) (by omega)
    (by intro h; rw [h] at hwn; simp at hwn) (Lib.hid hwd) (Lib.hid rfl) T w hw
end Go.Proofs.YtahjkibjcibpgaaGreatDoor.U
end
section
namespace Go.Proofs.YtahjkibjcibpgaaGreatDoor.U
open Go.RowKit Go.Shelf Go.Proofs.YtahjkibjcibpgaaGreatDoorW.PrintWords
def unitVal (k : Nat) : Value := .agg #[.string ⟨(units.getD k ([], 0, 0, 0)).1.toArray⟩, .int .i64 ((units.getD k ([], 0, 0, 0)).2.1 : Nat), .int .u64 ((units.getD k ([], 0, 0, 0)).2.2.1 : Nat), .int .u64 ((units.getD k ([], 0, 0, 0)).2.2.2 : Nat)]
set_option maxRecDepth 100000 in
theorem index_units (k : Nat) (h : k < 19) : ∀ w, (Instr.index 74 (.agg unitCells) (.int .i64 (k : Int))).run Tryz.prog w = .ok (unitVal k) w := by
  have hk : k = 0 ∨ k = 1 ∨ k = 2 ∨ k = 3 ∨ k = 4 ∨ k = 5 ∨ k = 6 ∨ k = 7 ∨ k = 8 ∨ k = 9 ∨ k = 10 ∨ k = 11 ∨ k = 12 ∨ k = 13 ∨ k = 14 ∨ k = 15 ∨ k = 16 ∨ k = 17 ∨ k = 18 := by omega
  rcases hk with rfl | rfl | rfl | rfl | rfl | rfl | rfl | rfl | rfl | rfl | rfl | rfl | rfl | rfl | rfl | rfl | rfl | rfl | rfl <;> exact fun _ => by kernel_rfl
theorem find_at (l : List (List UInt8 × Nat × Nat × Nat)) (name : List UInt8) (k : Nat) (hk : k < l.length) (hne : ∀ j, j < k → (l.getD j ([], 0, 0, 0)).1 ≠ name) (he : (l.getD k ([], 0, 0, 0)).1 = name) :
    (l.find? (fun u => u.1 == name)) = some (l.getD k ([], 0, 0, 0)) := by
  induction l generalizing k with
  | nil => simp at hk
  | cons a r ih =>
    cases k with
    | zero => simp at he ⊢; simp [he]
    | succ k =>
      have h0 := hne 0 (by omega)
      simp at h0
      have := ih k (by simpa using hk) (fun j hj => by simpa using hne (j + 1) (by omega)) (by simpa using he)
      rw [List.find?_cons_of_neg (by simpa using h0), this]
      simp
theorem find_none (l : List (List UInt8 × Nat × Nat × Nat)) (name : List UInt8) (hne : ∀ j, j < l.length → (l.getD j ([], 0, 0, 0)).1 ≠ name) : (l.find? (fun u => u.1 == name)) = none := by
  rw [List.find?_eq_none]
  intro u hu
  obtain ⟨j, hj, rfl⟩ := List.getElem_of_mem hu
  have := hne j hj
  simpa [List.getD, List.getElem?_eq_getElem hj] using this
structure Rx (B : Nat) (w wx : World) : Prop where
  res : wx.heap[B]? = some (.cells #[.int .i64 0, .int .i64 0] 23 (0, 0))
  below : Below w.heap.size w wx
theorem Rx.step {B : Nat} {w wx wy : World} (h : Rx B w wx) (hb : Below wx.heap.size wx wy) : Rx B w wy := ⟨blk_below h.res hb, below_step h.below hb⟩
theorem Rx.lt {B : Nat} {w wx : World} (h : Rx B w wx) : B < wx.heap.size := lt_of_heap h.res
set_option maxHeartbeats 4000000 in
set_option maxRecDepth 100000 in
theorem Amount_loop (number name whole fr : ByteArray) (point : Bool) (R0 R1 R2 : Int)
    (hcut : ∀ w, UW w → Calls Tryz.prog 28 #[.string number, .string ⟨#[46]⟩] w fun e w' => e = .returned (.tuple #[.string whole, .string fr, .bool point]) ∧ Below w.heap.size w w')
    (hws : whole.size ≤ 9223372036854775807) (hfs : fr.size ≤ 9223372036854775807) (hw1 : Hid (digsOk whole.data.toList 20 = true)) (hp : Hid (point = true → digsOk fr.data.toList 9 = true)) (hf9 : fr.size ≤ 9) (hfd : Hid (fr.data.toList.all isDig = true))
    (hR : Hid ((R0, R1, R2) = match unitOf name.data.toList with | none => (0, 0, 6) | some (dim, num, den) => amtOf (val whole.data.toList) (val fr.data.toList) fr.data.toList.length dim num den))
    (w : World) (hw : UW w) :
    Calls Tryz.prog 16 #[.string number, .string name] w fun e w' => e = .returned (.tuple #[.agg #[.int .i64 R0, .int .i64 R1], .int .i64 R2]) ∧ Below w.heap.size w w' := by
  have HU := Lib.hid hw
  have HC := Lib.hid hcut
  clear hcut hw
  go_enter Tryz.func16, Tryz.ntmps16
  go_wp2_with fail
  have hrx : Rx w.heap.size w (w.alloc (.cells #[.int .i64 0, .int .i64 0] 23)) := ⟨blk_new _ _, (Below.refl _ _).alloc (Nat.le_refl _) _⟩
  refine (HC.out _ (HU.out.step hrx.below)).mono ?_
  rintro e w1 ⟨rfl, h1⟩
  have hrx1 := hrx.step h1
  clear hrx h1
  go_upto_region 2 with fail
  go_cut [27] (fun a wx => a = .bool false ∧ Rx w.heap.size w wx)
  case first =>
    have hd1 := digits_any whole 20 w1 hws
    rw [hw1.out] at hd1
    cases point with
    | false =>
      go_wp2_with fail
      refine hd1.mono ?_
      rintro e w2 ⟨rfl, h2⟩
      have hrx2 := hrx1.step h2
      clear hrx1 h2 hd1
      go_wp2_with fail
      go_meet
      exact ⟨rfl, hrx2⟩
    | true =>
      have hp2 := Lib.hid (hp.out rfl)
      clear hp
      go_wp2_with fail
      refine hd1.mono ?_
      rintro e w2 ⟨rfl, h2⟩
      have hrx2 := hrx1.step h2
      clear hrx1 h2 hd1
      have hd2 := digits_any fr 9 w2 hfs
      rw [hp2.out] at hd2
      go_wp2_with fail
      refine hd2.mono ?_
      rintro e w3 ⟨rfl, h3⟩
      have hrx3 := hrx2.step h3
      clear hrx2 h3 hd2
      go_wp2_with fail
      go_meet
      exact ⟨rfl, hrx3⟩
  case rest =>
    clear hrx1 hp
    obtain ⟨rfl, hrx⟩ := hcut
    obtain ⟨t0, fr0, hu⟩ := (HU.out.step hrx.below).units
    go_wp2_with (refine wpList_load_row rfl 74 _ rfl 0 rfl t0 _ fr0 _ hu Tryz.underlying74 rfl (by kernel_rfl) ?_)
    clear hu
    go_loopw [30] (fun n wr => ∃ k : Nat, k ≤ 19 ∧ n = .int .i64 k ∧ Hid (∀ j, j < k → (units.getD j ([], 0, 0, 0)).1 ≠ name.data.toList) ∧ Rx w.heap.size w wr) (fun n _ => 19 - (Go.RowKit.intOf n).toNat)
    case atStart => exact ⟨0, by omega, rfl, Lib.hid (fun j h => absurd h (Nat.not_lt_zero _)), hrx⟩
    case round =>
      clear hrx
      obtain ⟨k, hk, rfl, hne, hrx⟩ := hrel
      by_cases hlt : k < 19
      · have hi := index_units k hlt wr
        have hu := unit_ok (units.getD k ([], 0, 0, 0)) (by rw [List.getD, List.getElem?_eq_getElem (show k < units.length from hlt)]; exact List.getElem_mem _)
        unfold unitVal at hi
        obtain ⟨u, hud⟩ : ∃ u, u = units.getD k ([], 0, 0, 0) := ⟨_, rfl⟩
        rw [← hud] at hi hu
        obtain ⟨nm, dim, num, den⟩ := u
        simp only at hi hu
        have HD := Lib.hid hud
        clear hud
        obtain ⟨u1, u2, u3, u4, u5⟩ := hu
        by_cases he : nm = name.data.toList
        · have he1 : (nm == name.toList) = true := by rw [Lib.toList_data, he]; exact beq_self_eq_true _
          have hf := find_at units name.data.toList k hlt hne.out (by rw [← HD.out]; exact he)
          rw [← HD.out] at hf
          have hR2 := hR.out
          rw [show unitOf name.data.toList = some (dim, num, den) by unfold unitOf; rw [hf]; rfl] at hR2
          simp only at hR2
          have ham := fun w => amount_any ⟨nm.toArray⟩ dim num den u1 u2 u3 u4 whole fr hw1.out hfd.out hf9 w
          rw [← hR2] at ham
          simp only at ham
          have HA := Lib.hid ham
          clear ham hR2 hf he
          go_wp2_with fail
          refine (HA.out _ (HU.out.step (hrx.step ((Below.refl _ _).alloc (Nat.le_refl _) _)).below)).mono ?_
          rintro e w5 ⟨rfl, h5⟩
          have hrx5 := (hrx.step ((Below.refl _ _).alloc (Nat.le_refl _) (.cells #[.string ⟨nm.toArray⟩, .int .i64 (dim : Int), .int .u64 (num : Int), .int .u64 (den : Int)] 73))).step h5
          have r0 : w5.cell? ⟨w.heap.size, 0, none⟩ = some (.int .i64 0) := blk_cell hrx5.res 0
          have r1 : w5.cell? ⟨w.heap.size, 1, none⟩ = some (.int .i64 0) := blk_cell hrx5.res 1
          have z0 : w5.frozen? ⟨w.heap.size, 0, none⟩ = false := blk_frozen hrx5.res 0
          have z1 : w5.frozen? ⟨w.heap.size, 1, none⟩ = false := blk_frozen hrx5.res 1
          clear h5 hi he1
          go_wp2_with fail
          refine bodyPost_ret (results_ct rfl _ _ w.heap.size 23 #[.int .i64 R0, .int .i64 R1] (0, 0) _ rfl (blk_put (cs := #[.int .i64 R0, .int .i64 0]) (blk_put (cs := #[.int .i64 0, .int .i64 0]) hrx5.res 0 _ rfl) 1 _ rfl) Tryz.underlying23 rfl (by kernel_rfl)) rfl ?_
          exact ⟨rfl, below_set (below_set hrx5.below (by omega)) (by omega)⟩
        · have he1 : (nm == name.toList) = false := by rw [Lib.toList_data]; exact beq_eq_false_iff_ne.2 he
          have hne2 : Hid (∀ j, j < k + 1 → (units.getD j ([], 0, 0, 0)).1 ≠ name.data.toList) := Lib.hid (fun j hj => by
            by_cases h : j = k
            · subst h; rw [← HD.out]; exact he
            · exact hne.out j (by omega))
          go_wp2_with fail
          go_roundw
          case rel => exact ⟨k + 1, hlt, by go_num, hne2, hrx.step ((Below.refl _ _).alloc (Nat.le_refl _) _)⟩
          case measure => simp [Go.RowKit.intOf]; omega
      · obtain rfl : k = 19 := by omega
        have hR2 := hR.out
        rw [show unitOf name.data.toList = none by unfold unitOf; rw [find_none units name.data.toList hne.out]; rfl] at hR2
        simp only [Prod.mk.injEq] at hR2
        obtain ⟨rfl, rfl, rfl⟩ := hR2
        have r0 : wr.cell? ⟨w.heap.size, 0, none⟩ = some (.int .i64 0) := blk_cell hrx.res 0
        have r1 : wr.cell? ⟨w.heap.size, 1, none⟩ = some (.int .i64 0) := blk_cell hrx.res 1
        have z0 : wr.frozen? ⟨w.heap.size, 0, none⟩ = false := blk_frozen hrx.res 0
        have z1 : wr.frozen? ⟨w.heap.size, 1, none⟩ = false := blk_frozen hrx.res 1
        go_wp2_with fail
        refine bodyPost_ret (results_ct rfl _ _ w.heap.size 23 #[.int .i64 0, .int .i64 0] (0, 0) _ rfl (blk_put (cs := #[.int .i64 0, .int .i64 0]) (blk_put (cs := #[.int .i64 0, .int .i64 0]) hrx.res 0 _ rfl) 1 _ rfl) Tryz.underlying23 rfl (by kernel_rfl)) rfl ?_
        exact ⟨rfl, below_set (below_set hrx.below (by omega)) (by omega)⟩
set_option maxHeartbeats 4000000 in
set_option maxRecDepth 100000 in
theorem Amount_form (number name whole fr : ByteArray) (point : Bool)
    (hcut : ∀ w, UW w → Calls Tryz.prog 28 #[.string number, .string ⟨#[46]⟩] w fun e w' => e = .returned (.tuple #[.string whole, .string fr, .bool point]) ∧ Below w.heap.size w w')
    (hws : whole.size ≤ 9223372036854775807) (hfs : fr.size ≤ 9223372036854775807) (hbad : Hid (digsOk whole.data.toList 20 = false ∨ digsOk whole.data.toList 20 = true ∧ point = true ∧ digsOk fr.data.toList 9 = false))
    (w : World) (hw : UW w) :
    Calls Tryz.prog 16 #[.string number, .string name] w fun e w' => e = .returned (.tuple #[.agg #[.int .i64 0, .int .i64 0], .int .i64 2]) ∧ Below w.heap.size w w' := by
  have HU := Lib.hid hw
  have HC := Lib.hid hcut
  clear hcut hw
  go_enter Tryz.func16, Tryz.ntmps16
  go_wp2_with fail
  have hrx : Rx w.heap.size w (w.alloc (.cells #[.int .i64 0, .int .i64 0] 23)) := ⟨blk_new _ _, (Below.refl _ _).alloc (Nat.le_refl _) _⟩
  refine (HC.out _ (HU.out.step hrx.below)).mono ?_
  rintro e w1 ⟨rfl, h1⟩
  have hrx1 := hrx.step h1
  clear hrx h1
  go_upto_region 2 with fail
  go_cut [27] (fun a wx => a = .bool true ∧ Rx w.heap.size w wx)
  case first =>
    have hd1 := digits_any whole 20 w1 hws
    rcases hbad.out with hb | ⟨hb, hpt, hb2⟩
    · rw [hb] at hd1
      clear hb
      go_wp2_with fail
      refine hd1.mono ?_
      rintro e w2 ⟨rfl, h2⟩
      have hrx2 := hrx1.step h2
      clear hrx1 h2 hd1
      go_wp2_with fail
      all_goals (go_meet; exact ⟨rfl, hrx2⟩)
    · rw [hb] at hd1
      subst hpt
      have hb3 := Lib.hid hb2
      clear hb hb2
      go_wp2_with fail
      refine hd1.mono ?_
      rintro e w2 ⟨rfl, h2⟩
      have hrx2 := hrx1.step h2
      clear hrx1 h2 hd1
      have hd2 := digits_any fr 9 w2 hfs
      rw [hb3.out] at hd2
      go_wp2_with fail
      refine hd2.mono ?_
      rintro e w3 ⟨rfl, h3⟩
      have hrx3 := hrx2.step h3
      clear hrx2 h3 hd2
      go_wp2_with fail
      go_meet
      exact ⟨rfl, hrx3⟩
  case rest =>
    clear hrx1
    obtain ⟨rfl, hrx⟩ := hcut
    have r0 : wc.cell? ⟨w.heap.size, 0, none⟩ = some (.int .i64 0) := blk_cell hrx.res 0
    have r1 : wc.cell? ⟨w.heap.size, 1, none⟩ = some (.int .i64 0) := blk_cell hrx.res 1
    have z0 : wc.frozen? ⟨w.heap.size, 0, none⟩ = false := blk_frozen hrx.res 0
    have z1 : wc.frozen? ⟨w.heap.size, 1, none⟩ = false := blk_frozen hrx.res 1
    go_wp2_with fail
    refine bodyPost_ret (results_ct rfl _ _ w.heap.size 23 #[.int .i64 0, .int .i64 0] (0, 0) _ rfl (blk_put (cs := #[.int .i64 0, .int .i64 0]) (blk_put (cs := #[.int .i64 0, .int .i64 0]) hrx.res 0 _ rfl) 1 _ rfl) Tryz.underlying23 rfl (by kernel_rfl)) rfl ?_
    exact ⟨rfl, below_set (below_set hrx.below (by omega)) (by omega)⟩
theorem cut_le (s sep : List UInt8) : (Lib.cut s sep).1.length ≤ s.length ∧ (Lib.cut s sep).2.1.length ≤ s.length ∧ ((Lib.cut s sep).2.2 = false → (Lib.cut s sep).2.1 = []) := by
  unfold Lib.cut
  split
  · exact ⟨by simp [List.length_take]; omega, by simp, by simp⟩
  · exact ⟨Nat.le_refl _, by simp, fun _ => rfl⟩
theorem Amount_any (number name : ByteArray) (hn : number.size < 4294967281) (w : World) (hw : UW w) :
    Calls Tryz.prog 16 #[.string number, .string name] w fun e w' =>
      e = .returned (.tuple #[.agg #[.int .i64 (amt number.data.toList name.data.toList).1, .int .i64 (amt number.data.toList name.data.toList).2.1], .int .i64 (amt number.data.toList name.data.toList).2.2]) ∧ Below w.heap.size w w' := by
  obtain ⟨l1, l2, l3⟩ := cut_le number.data.toList [46]
  have hz : number.size = number.data.toList.length := Lib.size_eq number
  have hc : ∀ w, UW w → Calls Tryz.prog 28 #[.string number, .string ⟨#[46]⟩] w fun e w' => e = .returned (.tuple #[.string ⟨(Lib.cut number.data.toList [46]).1.toArray⟩, .string ⟨(Lib.cut number.data.toList [46]).2.1.toArray⟩, .bool (Lib.cut number.data.toList [46]).2.2]) ∧ Below w.heap.size w w' := by
    intro w hw
    obtain ⟨m, hm⟩ := hw.most
    refine (Tryz.strings_Cut number ⟨#[46]⟩ m w hn hm).mono ?_
    rintro e w' ⟨he, n, rfl⟩
    exact ⟨he, Go.below_drewN (Below.refl _ _) n⟩
  unfold amt
  simp only
  generalize Lib.cut number.data.toList [46] = c at *
  obtain ⟨wl, fl, pt⟩ := c
  simp only at *
  have s1 : (⟨wl.toArray⟩ : ByteArray).size = wl.length := rfl
  have s2 : (⟨fl.toArray⟩ : ByteArray).size = fl.length := rfl
  by_cases h1 : digsOk wl 20 = true
  · by_cases h2 : (pt && !digsOk fl 9) = true
    · rw [h1, h2]
      simp only [Bool.and_eq_true, Bool.not_eq_true'] at h2
      exact Amount_form number name ⟨wl.toArray⟩ ⟨fl.toArray⟩ pt hc (by omega) (by omega) (Lib.hid (Or.inr ⟨h1, h2.1, h2.2⟩)) w hw
    · have h3 : (pt && !digsOk fl 9) = false := by simpa using h2
      rw [h1, h3]
      have h4 : pt = true → digsOk fl 9 = true := by
        intro hp; rw [hp] at h3; simpa using h3
      have h5 : fl.all isDig = true ∧ fl.length ≤ 9 := by
        cases pt with
        | false => rw [l3 rfl]; exact ⟨rfl, by simp⟩
        | true =>
          have := h4 rfl
          simp only [digsOk, Bool.and_eq_true, decide_eq_true_eq] at this
          exact ⟨this.2, by omega⟩
      have := Amount_loop number name ⟨wl.toArray⟩ ⟨fl.toArray⟩ pt _ _ _ hc (by omega) (by omega) (Lib.hid h1) (Lib.hid h4) (by omega) (Lib.hid h5.1) (Lib.hid rfl) w hw
      simp only [Bool.not_true, Bool.or_false, Bool.false_eq_true, if_false]
      exact this
  · have h1' : digsOk wl 20 = false := by simpa using h1
    rw [h1']
    exact Amount_form number name ⟨wl.toArray⟩ ⟨fl.toArray⟩ pt hc (by omega) (by omega) (Lib.hid (Or.inl h1')) w hw
end Go.Proofs.YtahjkibjcibpgaaGreatDoor.U
end
section
namespace Go.Proofs.YtahjkibjcibpgaaGreatDoor.U
open Go.RowKit Go.Shelf Go.Proofs.YtahjkibjcibpgaaGreatDoorW.PrintWords
def wrt (N D : Int) : List UInt8 :=
  if N < 0 ∨ 1125899906842624 < N then []
  else match units.find? (fun u => ((u.2.1 : Nat) : Int) == D) with
    | none => []
    | some u => if u.1 = [] then Lib.itoa N else Lib.itoa N ++ (32 :: u.1)
theorem itoa_any (n : Int) (h0 : -9223372036854775808 ≤ n) (h1 : n ≤ 9223372036854775807) (w : World) (hw : UW w) :
    Calls Tryz.prog 54 #[.int .i64 n] w fun e w' => e = .returned (.string ⟨(Lib.itoa n).toArray⟩) ∧ Below w.heap.size w w' := by
  refine (Tryz.strconv_Itoa n h0 h1 w hw.pow).mono ?_
  rintro e w' ⟨he, k, os, rfl⟩
  exact ⟨he, Lib.below_grow _ _ (Nat.le_refl _) k os⟩
theorem find_dim (l : List (List UInt8 × Nat × Nat × Nat)) (D : Int) (k : Nat) (hk : k < l.length) (hne : ∀ j, j < k → (((l.getD j ([], 0, 0, 0)).2.1 : Nat) : Int) ≠ D) (he : (((l.getD k ([], 0, 0, 0)).2.1 : Nat) : Int) = D) :
    (l.find? (fun u => ((u.2.1 : Nat) : Int) == D)) = some (l.getD k ([], 0, 0, 0)) := by
  induction l generalizing k with
  | nil => simp at hk
  | cons a r ih =>
    cases k with
    | zero => simp at he ⊢; simp [he]
    | succ k =>
      have h0 := hne 0 (by omega)
      simp at h0
      have := ih k (by simpa using hk) (fun j hj => by simpa using hne (j + 1) (by omega)) (by simpa using he)
      rw [List.find?_cons_of_neg (by simpa using h0), this]
      simp
theorem find_dim_none (l : List (List UInt8 × Nat × Nat × Nat)) (D : Int) (hne : ∀ j, j < l.length → (((l.getD j ([], 0, 0, 0)).2.1 : Nat) : Int) ≠ D) : (l.find? (fun u => ((u.2.1 : Nat) : Int) == D)) = none := by
  rw [List.find?_eq_none]
  intro u hu
  obtain ⟨j, hj, rfl⟩ := List.getElem_of_mem hu
  have := hne j hj
  simpa [List.getD, List.getElem?_eq_getElem hj] using this
structure Ax (B : Nat) (N D : Int) (w wx : World) : Prop where
  arg : wx.heap[B]? = some (.cells #[.int .i64 N, .int .i64 D] 23 (0, 0))
  below : Below w.heap.size w wx
theorem Ax.step {B : Nat} {N D : Int} {w wx wy : World} (h : Ax B N D w wx) (hb : Below wx.heap.size wx wy) : Ax B N D w wy := ⟨blk_below h.arg hb, below_step h.below hb⟩
theorem units_small : ∀ u ∈ units, (⟨u.1.toArray⟩ : ByteArray).size ≤ 100 := by decide
theorem itoa_size (N : Int) (h0 : 0 ≤ N) (h1 : N ≤ 1125899906842624) : (⟨(Lib.itoa N).toArray⟩ : ByteArray).size ≤ 100 := by
  have := Lib.itoa_length_le N (by omega) (by omega)
  rw [Lib.size_mk]
  omega
set_option maxHeartbeats 4000000 in
set_option maxRecDepth 100000 in
theorem Write_loop (N D : Int) (hN0 : 0 ≤ N) (hN : N ≤ 1125899906842624) (R : ByteArray) (hR : Hid (R = ⟨(wrt N D).toArray⟩)) (w : World) (hw : UW w) :
    Calls Tryz.prog 33 #[.agg #[.int .i64 N, .int .i64 D]] w fun e w' => e = .returned (.string R) ∧ Below w.heap.size w w' := by
  have HU := Lib.hid hw
  clear hw
  have n1 : decide (N < 0) = false := decide_eq_false (by omega)
  have n2 : decide (1125899906842624 < N) = false := decide_eq_false (by omega)
  go_enter Tryz.func33, Tryz.ntmps33
  go_upto_region 3 with fail
  have hax : Ax w.heap.size N D w (w.alloc (.cells #[.int .i64 N, .int .i64 D] 23)) := ⟨blk_new _ _, (Below.refl _ _).alloc (Nat.le_refl _) _⟩
  generalize w.alloc (.cells #[.int .i64 N, .int .i64 D] 23) = w1 at hax ⊢
  obtain ⟨t0, fr0, hu⟩ := (HU.out.step hax.below).units
  go_wp2_with (refine wpList_load_row rfl 74 _ rfl 0 rfl t0 _ fr0 _ hu Tryz.underlying74 rfl (by kernel_rfl) ?_)
  clear hu
  go_loopw [14] (fun n wr => ∃ k : Nat, k ≤ 19 ∧ n = .int .i64 k ∧ Hid (∀ j, j < k → (((units.getD j ([], 0, 0, 0)).2.1 : Nat) : Int) ≠ D) ∧ Ax w.heap.size N D w wr) (fun n _ => 19 - (Go.RowKit.intOf n).toNat)
  case atStart => exact ⟨0, by omega, rfl, Lib.hid (fun j h => absurd h (Nat.not_lt_zero _)), hax⟩
  case round =>
    clear hax
    obtain ⟨k, hk, rfl, hne, hax⟩ := hrel
    by_cases hlt : k < 19
    · have hi := index_units k hlt wr
      unfold unitVal at hi
      obtain ⟨u, hud⟩ : ∃ u, u = units.getD k ([], 0, 0, 0) := ⟨_, rfl⟩
      rw [← hud] at hi
      obtain ⟨nm, dim, num, den⟩ := u
      simp only at hi
      have HD := Lib.hid hud
      clear hud
      go_upto_region 6 with fail
      have hax2 : Ax w.heap.size N D w (wr.alloc (.cells #[.string ⟨nm.toArray⟩, .int .i64 (dim : Int), .int .u64 (num : Int), .int .u64 (den : Int)] 73)) := hax.step ((Below.refl _ _).alloc (Nat.le_refl _) _)
      have hub := blk_new wr (.cells #[.string ⟨nm.toArray⟩, .int .i64 (dim : Int), .int .u64 (num : Int), .int .u64 (den : Int)] 73)
      clear hax hi
      generalize wr.alloc (.cells #[.string ⟨nm.toArray⟩, .int .i64 (dim : Int), .int .u64 (num : Int), .int .u64 (den : Int)] 73) = w2 at hax2 hub ⊢
      generalize wr.heap.size = Bu at hub ⊢
      have a0 : w2.cell? ⟨w.heap.size, 0, none⟩ = some (.int .i64 N) := blk_cell hax2.arg 0
      have a1 : w2.cell? ⟨w.heap.size, 1, none⟩ = some (.int .i64 D) := blk_cell hax2.arg 1
      have u0 : w2.cell? ⟨Bu, 0, none⟩ = some (.string ⟨nm.toArray⟩) := blk_cell hub 0
      have u1 : w2.cell? ⟨Bu, 1, none⟩ = some (.int .i64 (dim : Int)) := blk_cell hub 1
      by_cases he : (dim : Int) = D
      · have he1 : ((dim : Int) != D) = false := by rw [he]; simp
        have he2 : ((dim : Int) == D) = true := by rw [he]; simp
        have hf := find_dim units D k hlt hne.out (by rw [← HD.out]; exact he)
        rw [← HD.out] at hf
        have hIt := Lib.hid (itoa_any N (by omega) (by omega) w2 (HU.out.step hax2.below))
        by_cases hnm : nm = []
        · subst hnm
          have hR2 := hR.out
          rw [show wrt N D = Lib.itoa N by unfold wrt; rw [if_neg (by omega), hf]; rfl] at hR2
          clear he hf
          go_wp2_with fail
          refine hIt.out.mono ?_
          rintro e w3 ⟨rfl, h3⟩
          go_wp2_with fail
          go_ret
          exact ⟨by rw [hR2]; rfl, below_step hax2.below h3⟩
        · have hnm1 : nm.isEmpty = false := by cases nm with | nil => exact absurd rfl hnm | cons _ _ => rfl
          have hR2 := hR.out
          rw [show wrt N D = Lib.itoa N ++ (32 :: nm) by unfold wrt; rw [if_neg (by omega), hf]; simp only; rw [if_neg hnm]] at hR2
          clear he hf hnm
          go_upto_region 9 with fail
          have hax3 := hax2.step (Below.refl w2.heap.size w2).drew
          have hub3 := blk_drew hub
          have hIt2 := (itoa_any N (by omega) (by omega) w2.drew (HU.out.step hax3.below)).mono (R' := fun e w' => e = .returned (.string ⟨(Lib.itoa N).toArray⟩) ∧ w'.cell? ⟨w.heap.size, 0, none⟩ = some (.int .i64 N) ∧ w'.cell? ⟨Bu, 0, none⟩ = some (.string ⟨nm.toArray⟩) ∧ Below w2.drew.heap.size w2.drew w')
            (fun e w' ⟨h, hb⟩ => ⟨h, blk_cell (blk_below hax3.arg hb) 0, blk_cell (blk_below hub3 hb) 0, hb⟩)
          have hs1 : (⟨(Lib.itoa N).toArray⟩ : ByteArray).size ≤ 100 := itoa_size N hN0 hN
          have hm1 : (⟨nm.toArray⟩ : ByteArray).size ≤ 100 := by
            have := units_small (units.getD k ([], 0, 0, 0)) (by rw [List.getD, List.getElem?_eq_getElem (show k < units.length from hlt)]; exact List.getElem_mem _)
            rw [← HD.out] at this
            exact this
          have hR3 : R = (⟨(Lib.itoa N).toArray⟩ ++ ⟨#[32]⟩ ++ ⟨nm.toArray⟩ : ByteArray) := by
            rw [hR2]; apply ByteArray.ext; simp
          clear hR2 hIt
          generalize (⟨(Lib.itoa N).toArray⟩ : ByteArray) = s at hIt2 hs1 hR3
          generalize (⟨nm.toArray⟩ : ByteArray) = m at hIt2 hm1 hR3 u0 hub hub3 ⊢
          have hz1 : (s ++ ⟨#[32]⟩ : ByteArray).size = s.size + 1 := by rw [ByteArray.size_append]; rfl
          have l1 : s.size + 1 ≤ 9223372036854775807 := by omega
          have l2 : (s ++ ⟨#[32]⟩ : ByteArray).size + m.size ≤ 9223372036854775807 := by omega
          have l3 : (9223372036854775807 < s.size + 1) = False := eq_false (by omega)
          have l4 : (9223372036854775807 < (s ++ ⟨#[32]⟩ : ByteArray).size + m.size) = False := eq_false (by omega)
          have l5 : (s.size + 1 ≤ 9223372036854775807) = True := eq_true l1
          have l6 : ((s ++ ⟨#[32]⟩ : ByteArray).size + m.size ≤ 9223372036854775807) = True := eq_true l2
          have l7 : (9223372036854775807 < s.size + 1 + m.size) = False := eq_false (by omega)
          have l8 : (s.size + 1 + m.size ≤ 9223372036854775807) = True := eq_true (by omega)
          clear l1 l2
          have HI := Lib.hid hIt2
          have HR := Lib.hid hR3
          clear hIt2 hR3 hz1
          go_region_held3 (fun w' => w'.cell? ⟨w.heap.size, 0, none⟩ = some (.int .i64 N) ∧ w'.cell? ⟨Bu, 0, none⟩ = some (.string m)) (go_keep)
            (first | (go_at_call 54; refine HI.out.mono ?_; rintro e w' ⟨rfl, q0, q1, hB⟩))
          go_wp2_with fail
          go_ret
          exact ⟨by rw [HR.out]; rfl, below_step hax3.below hB⟩
      · have he1 : ((dim : Int) != D) = true := by rw [bne_iff_ne]; exact he
        have he2 : ((dim : Int) == D) = false := beq_eq_false_iff_ne.2 he
        have hne2 : Hid (∀ j, j < k + 1 → (((units.getD j ([], 0, 0, 0)).2.1 : Nat) : Int) ≠ D) := Lib.hid (fun j hj => by
          by_cases h : j = k
          · subst h; rw [← HD.out]; exact he
          · exact hne.out j (by omega))
        go_wp2_with fail
        go_roundw
        case rel => exact ⟨k + 1, hlt, by go_num, hne2, hax2⟩
        case measure => simp [Go.RowKit.intOf]; omega
    · obtain rfl : k = 19 := by omega
      have hR2 := hR.out
      rw [show wrt N D = [] by unfold wrt; rw [if_neg (by omega), find_dim_none units D hne.out]] at hR2
      subst hR2
      go_wp2_with fail
      go_ret
      exact ⟨rfl, hax.below⟩
set_option maxHeartbeats 1000000 in
theorem Write_out (N D : Int) (hN : N < 0 ∨ 1125899906842624 < N) (w : World) :
    Calls Tryz.prog 33 #[.agg #[.int .i64 N, .int .i64 D]] w fun e w' => e = .returned (.string ⟨#[]⟩) ∧ Below w.heap.size w w' := by
  rcases hN with h | h
  · have n1 : decide (N < 0) = true := decide_eq_true h
    clear h
    go_enter Tryz.func33, Tryz.ntmps33
    go_wp2_with fail
    go_ret
    exact ⟨rfl, (Below.refl _ _).alloc (Nat.le_refl _) _⟩
  · have n1 : decide (N < 0) = false := decide_eq_false (by omega)
    have n2 : decide (1125899906842624 < N) = true := decide_eq_true h
    clear h
    go_enter Tryz.func33, Tryz.ntmps33
    go_wp2_with fail
    go_ret
    exact ⟨rfl, (Below.refl _ _).alloc (Nat.le_refl _) _⟩
theorem Write_any (N D : Int) (w : World) (hw : UW w) :
    Calls Tryz.prog 33 #[.agg #[.int .i64 N, .int .i64 D]] w fun e w' => e = .returned (.string ⟨(wrt N D).toArray⟩) ∧ Below w.heap.size w w' := by
  by_cases h : N < 0 ∨ 1125899906842624 < N
  · rw [show wrt N D = [] by unfold wrt; rw [if_pos h]]
    exact Write_out N D h w
  · exact Write_loop N D (by omega) (by omega) _ (Lib.hid rfl) w hw
end Go.Proofs.YtahjkibjcibpgaaGreatDoor.U
namespace Go.Proofs.YtahjkibjcibpgaaGreatDoor.Ex
open Go.RowKit Go.Proofs.YtahjkibjcibpgaaGreatDoor.U
def unit_Amount.f (a0 a1 : ByteArray) : Option (Int × Int × Int) := if a0.size < 4294967281 then some (amt a0.data.toList a1.data.toList) else none
theorem unit_Amount.calls (a0 a1 : ByteArray) (r1 r2 r3 : Int) (w : World) (hg : UW w) (h : unit_Amount.f a0 a1 = some (r1, r2, r3)) :
    Calls Tryz.prog 16 #[.string a0, .string a1] w fun e w' => e = .returned (.tuple #[.agg #[.int .i64 r1, .int .i64 r2], .int .i64 r3]) ∧ Below w.heap.size w w' := by
  unfold unit_Amount.f at h
  split at h
  · have := Amount_any a0 a1 ‹_› w hg
    have e := Option.some.inj h
    rw [e] at this
    exact this
  · cases h
def unit_Write.f (a0 a1 : Int) : Option ByteArray := some ⟨(wrt a0 a1).toArray⟩
theorem unit_Write.calls (a0 a1 : Int) (r : ByteArray) (w : World) (hg : UW w) (h : unit_Write.f a0 a1 = some r) :
    Calls Tryz.prog 33 #[.agg #[.int .i64 a0, .int .i64 a1]] w fun e w' => e = .returned (.string r) ∧ Below w.heap.size w w' := by
  have e := Option.some.inj h
  have := Write_any a0 a1 w hg
  rw [e] at this
  exact this
end Go.Proofs.YtahjkibjcibpgaaGreatDoor.Ex
end
section
namespace Go.Proofs.YtahjkibjcibpgaaGreatDoor.L
open Go.RowKit Go.Shelf Go.Lib Go.Proofs.YtahjkibjcibpgaaGreatDoor.U
open Go.Proofs.YtahjkibjcibpgaaGreatDoorW.PrintWords
attribute [local go_sem] Oper.semAt_some
theorem wpListIn_append_own_at {F : Fence} {n0 : Nat} {P : Program} (w : World) {ops : Array Oper} {rest : List Oper} {o : Oper} {a : Act} {Q : Exit → Act → World → Prop} (hgd : o.guard = none) (s x : Operand) (t : TypeId)
    (ho : o.op = .call { callee := .builtin .append, args := #[s, x], argTypes := #[t, t] })
    (base : Nat) (e : TypeId) (i : TypeInfo) (z : Value) (size bytes : Nat) (ht : P.underlying t = some (.slice e)) (hi : P.info? e = some i) (hz : i.zero = some z)
    (hsize : i.size = size) (hby : i.bytes = bytes) (hzs : z.cells.size = size) (hsz : 0 < size)
    (v : Value) (n : Nat) (xs : List Value) (hs : a.eval s = v) (hown : w.ownsRow base e size v n xs)
    (ad : Addr) (m c : Nat) (news : List Value) (hx : a.eval x = .slice (some ad) m c) (hl : news.length = m * size) (hnews : ∀ j u, news[j]? = some u → w.cell? (ad.add j) = some u) (h1 : ∀ u ∈ news, u.oneCell' = true)
    (h63 : n + m ≤ maxLen) (hbytes : (n + m) * bytes ≤ 140737488355328) (hbase : base ≤ w.heap.size)
    (h : ∀ v' w', w'.ownsRow base e size v' (n + m) (xs ++ news) → w.grownBy w' v.ownBlock → (v'.ownBlock = v.ownBlock ∨ v'.ownBlock = some w.heap.size) → wpListIn F n0 P ops Q rest (a.put o.dst v') w') :
    wpListIn F n0 P ops Q (o :: rest) a w := by
  refine wpListIn_plain hgd fun K hK' => ?_
  obtain ⟨v', w', hrun, r1, r2, r3, r4⟩ := run_append_own_at (P := P) w base t o.type e i z size bytes ht hi hz hsize hby hzs hsz v n xs hown ad m c news hl hnews h1 h63 hbytes hbase
  unfold Oper.wpIn
  refine ⟨?_, ?_⟩
  · simp [Oper.about, ho, resolve, Target.leads, Sem.run_pure]
  · rw [Oper.semAt_plain F _ _ (by rw [ho]; intro c hc'; cases hc')]
    simp [execOp, ho, resolve, invoke, builtin, hs, hx, hrun, Result.andThen]
    exact hK' _ _ (h v' w' r1 r2 r4)
theorem R_appendIn {α : Type} {F : Fence} {n0 : Nat} {P : Program} {ops : Array Oper} {rest : List Oper} {o : Oper} {a : Act} {Q : Exit → Act → World → Prop} (d : Kd α) {w0 W : World} (base : Nat) (hgd : o.guard = none) (s x : Operand) (t e : TypeId) (z : Value) (bytes : Nat)
    (ho : o.op = .call { callee := .builtin .append, args := #[s, x], argTypes := #[t, t] })
    (ht : P.underlying t = some (.slice e)) (hinfo : (P.info? e).map (fun i => (i.zero, i.size, i.bytes)) = some (some z, d.sz, bytes)) (hz : z.cells.size = d.sz) (hs0 : 0 < d.sz) (hb0 : 0 < bytes)
    (v : Value) (xs : List α) (p : α) (cs : List Value) (ok okp : Nat → Prop) (hs : a.eval s = v) (hx : a.eval x = .slice (some ⟨W.heap.size, 0, none⟩) 1 1) (hp : d.M W base okp p cs) (hokp : ∀ k, okp k → ok k ∧ some k ≠ v.ownBlock) (hfresh : ∀ k, W.heap.size ≤ k → ok k)
    (HO : d.R e W base ok v xs) (HB : Below base w0 W) (hbase : base ≤ W.heap.size) (hl : (xs.length + 1) * bytes ≤ 140737488355328)
    (h : ∀ v1 w1, d.R e w1 base ok v1 (xs ++ [p]) → Below base w0 w1 → W.grownBy w1 v.ownBlock → (v1.ownBlock = v.ownBlock ∨ ∃ b, v1.ownBlock = some b ∧ W.heap.size ≤ b) → wpListIn F n0 P ops Q rest (a.put o.dst v1) w1) :
    wpListIn F n0 P ops Q (o :: rest) a (W.alloc (.cells cs.toArray e)) := by
  obtain ⟨h0, inner, hown, hr⟩ := HO
  obtain ⟨i0, hi, hzz⟩ := Option.map_eq_some_iff.1 hinfo
  simp only [Prod.mk.injEq] at hzz
  obtain ⟨hz0, hz1, hz2⟩ := hzz
  have hlen : xs.length + 1 ≤ 140737488355328 := Nat.le_trans (Nat.le_mul_of_pos_right _ hb0) hl
  have hys := d.K_len (d.K_of_M hp)
  refine wpListIn_append_own_at (W.alloc (.cells cs.toArray e)) hgd s x t ho base e i0 z d.sz bytes ht hi hz0 hz1 hz2 hz hs0 v xs.length inner hs (hown.alloc _) ⟨W.heap.size, 0, none⟩ 1 1 cs hx (by rw [hys]; simp)
    (by simpa using World.news_of_block (cs := cs.toArray) (t := e) (fr := (0, 0)) (heap_alloc_new W (.cells cs.toArray e))) (d.K_one (d.K_of_M hp)) (by simp only [maxLen]; omega) hl (by simp; omega) ?_
  intro v1 w1 hown1 hg hat
  have hg1 := World.grownBy.trans (World.grownBy_alloc W (.cells cs.toArray e) v.ownBlock) hg
  have hat1 : v1.ownBlock = v.ownBlock ∨ ∃ b, v1.ownBlock = some b ∧ W.heap.size ≤ b := by
    rcases hat with hat | hat
    · exact .inl hat
    · exact .inr ⟨_, hat, by simp⟩
  exact h v1 w1 (Kd.R_appended h0 hr hp hokp hfresh hown1 hg1 hat1) ((HB.alloc hbase _).grown hg (by simp; omega) (own_base hown)) hg1 hat1
theorem R_putObj {α : Type} {d : Kd α} {e base : Nat} {W : World} {ok : Nat → Prop} {v : Value} {xs : List α} (h : d.R e W base ok v xs) {l : Nat} {o : Obj} (hl : W.heap[l]? = some o) (hc : o.isCells = false) (o' : Obj) : d.R e (W.putObj l o') base ok v xs :=
  Kd.R_mono (Kd.R_move (Kd.R_bound h) (fun k hk => by
    obtain ⟨_, _, _, q, _, cells, hk'⟩ := hk
    refine World.putObj_heap_other ?_
    rintro rfl
    rw [hl] at hk'
    injection hk' with hk'
    subst hk'
    simp [Obj.isCells] at hc)) (fun _ hk => hk.1)
theorem ysL_len (s : List UInt8) (F : Nat) : ∀ a, (ysL s F a).length ≤ F := by
  induction F with
  | zero => intro a; simp [ysL]
  | succ F ih =>
    intro a
    unfold ysL
    split
    · simp
    · split
      · simp only [List.length_cons]; have := ih (a + (firstL (s.drop a)).2.length + spaceL (s.drop (a + (firstL (s.drop a)).2.length))); omega
      · simp
theorem visits_len (s : List UInt8) : (visits s).length ≤ s.length + 1 := ysL_len s _ _
theorem find_at {l : List (Tok × Bool)} {i : Nat} {y : Tok × Bool} (h : l[i]? = some y) (hy : y.2 = false) (ha : ∀ x ∈ l.take i, x.2 = true) : l.find? (fun y => !y.2) = some y := by
  induction l generalizing i with
  | nil => simp at h
  | cons x r ih =>
    cases i with
    | zero => simp at h; subst h; simp [hy]
    | succ i =>
      rw [List.getElem?_cons_succ] at h
      rw [List.take_succ_cons] at ha
      have hx := ha x (by simp)
      rw [List.find?_cons]
      simp [hx]
      have := ih h (fun z hz => ha z (by simp [hz]))
      simpa using this
theorem find_none {l : List (Tok × Bool)} (ha : ∀ x ∈ l, x.2 = true) : l.find? (fun y => !y.2) = none := by
  rw [List.find?_eq_none]; intro x hx; simp [ha x hx]
theorem tokens_any (s : ByteArray) (w : World) : Calls Tryz.prog 26 #[.string s] w fun e w' =>
    e = .returned (.func (.func 42) #[] #[.pointer (some ⟨w.heap.size, 0, none⟩)]) ∧ w' = w.alloc (.cells #[.string s] 9) := by
  go_enter Tryz.func26, Tryz.ntmps26
  go_wp2
  go_ret
  exact ⟨rfl, rfl⟩
theorem heap5 (w : World) (o0 o1 o2 o3 o4 : Obj) : ∃ W, ((((w.alloc o0).alloc o1).alloc o2).alloc o3).alloc o4 = W ∧ W.heap.size = w.heap.size + 5 ∧ Below w.heap.size w W ∧
    W.heap[w.heap.size]? = some o0 ∧ W.heap[w.heap.size + 1]? = some o1 ∧ W.heap[w.heap.size + 1 + 1]? = some o2 ∧ W.heap[w.heap.size + 1 + 1 + 1]? = some o3 ∧ W.heap[w.heap.size + 1 + 1 + 1 + 1]? = some o4 := by
  obtain ⟨W6, e6, z6, b6, h0, h1, h2, h3, h4, h5⟩ := heap6 w o0 o1 o2 o3 o4 o4
  refine ⟨_, rfl, by simp [World.size_alloc], ?_, ?_⟩
  · exact ((((((Below.refl w.heap.size w).alloc (by simp) o0).alloc (by simp) o1).alloc (by simp; omega) o2).alloc (by simp; omega) o3).alloc (by simp; omega) o4)
  · have old : ∀ k, k < w.heap.size + 5 → W6.heap[k]? = (((((w.alloc o0).alloc o1).alloc o2).alloc o3).alloc o4).heap[k]? := fun k hk => by
      rw [← e6]; exact Below.heap_alloc _ _ _ (by simp [World.size_alloc]; omega)
    exact ⟨(old _ (by omega)).symm.trans h0, (old _ (by omega)).symm.trans h1, (old _ (by omega)).symm.trans h2, (old _ (by omega)).symm.trans h3, (old _ (by omega)).symm.trans h4⟩
theorem und35 : Tryz.prog.underlying 35 = some (.slice 41) := by kernel_rfl
theorem info41 : (Tryz.prog.info? 41).map (fun i => (i.zero, i.size, i.bytes)) = some (some (.agg #[.int .i64 0, .string ⟨#[]⟩, .int .i64 0]), 3, 32) := by kernel_rfl
theorem put_cells {W : World} {l k : Nat} {o : Obj} {cs : Array Value} {t : Nat} (hl : W.heap[l]? = some o) (hc : o.isCells = false) (o' : Obj) (hk : W.heap[k]? = some (Obj.cells cs t (0, 0))) : (W.putObj l o').heap[k]? = some (Obj.cells cs t (0, 0)) :=
  (World.putObj_heap_other (by rintro rfl; rw [hl] at hk; injection hk with hk; subst hk; simp [Obj.isCells] at hc)).trans hk
theorem results14 {W : World} {tmps : Array Value} {b2 b3 b4 : Nat} {v2 v3 v4 : Value} (h2 : tmps.getD 2 undef = .pointer (some ⟨b2, 0, none⟩)) (h3 : tmps.getD 3 undef = .pointer (some ⟨b3, 0, none⟩)) (h4 : tmps.getD 4 undef = .pointer (some ⟨b4, 0, none⟩))
    (c2 : W.cell? ⟨b2, 0, none⟩ = some v2) (c3 : W.cell? ⟨b3, 0, none⟩ = some v3) (c4 : W.cell? ⟨b4, 0, none⟩ = some v4) : (results Tryz.f14 tmps).run Tryz.prog W = .ok (.tuple #[v2, v3, v4]) W := by
  simp only [Array.getD_eq_getD_getElem?] at h2 h3 h4
  simp [results, Tryz.f14, go_sem, h2, h3, h4, c2, c3, c4]
def ScJ (s : ByteArray) (w : World) (i : Nat) (W : World) : Prop :=
  ∃ v, W.heap[w.heap.size]? = some (.cells #[.slice none 0 0] 35 (0, 0)) ∧ W.heap[w.heap.size + 1]? = some (.cells #[.int .i64 0] 31 (0, 0)) ∧ W.heap[w.heap.size + 1 + 1]? = some (.cells #[.int .i64 0] 3 (0, 0)) ∧
    W.heap[w.heap.size + 1 + 1 + 1]? = some (.cells #[v] 35 (0, 0)) ∧ W.heap[w.heap.size + 1 + 1 + 1 + 1]? = some (.cells #[.string s] 9 (0, 0)) ∧ Below w.heap.size w W ∧
    PTr.k41.R 41 W w.heap.size (fun _ => True) v (((visits s.data.toList).take i).map (fun y => toS y.1)) ∧ (∀ y ∈ (visits s.data.toList).take i, y.2 = true)
def ScX (s : ByteArray) (w : World) (W : World) : Prop :=
  ∃ y, (visits s.data.toList).find? (fun y => !y.2) = some y ∧ W.heap[w.heap.size]? = some (.cells #[.slice none 0 0] 35 (0, 0)) ∧ W.heap[w.heap.size + 1]? = some (.cells #[.int .i64 2] 31 (0, 0)) ∧ W.heap[w.heap.size + 1 + 1]? = some (.cells #[.int .i64 (y.1.at_ : Nat)] 3 (0, 0)) ∧ Below w.heap.size w W
theorem scan_small (s : ByteArray) (hs : s.size ≤ 65536) (w : World) :
    Calls Tryz.prog 14 #[.string s] w fun e w' => ∃ v0_ : Value, e = .returned (.tuple #[v0_, .int .i64 ((scanL s.data.toList).2.1 : Nat), .int .i64 ((scanL s.data.toList).2.2 : Nat)]) ∧
      PTr.k41.R 41 w' w.heap.size (fun _ => True) v0_ ((scanL s.data.toList).1.map toS) ∧ Below w.heap.size w w' := by
  have hlen : s.data.toList.length = s.size := (Lib.size_eq s).symm
  have hb : ¬ ((s.size : Int) > 65536) := by omega
  have hb2 := Lib.hid hs
  refine (callsIn_wide (n := 3)).1 ?_
  refine callsIn_of_wp_marks Tryz.func14 rfl trivial ?_ rfl
  simp only [Tryz.ntmps14, List.size_toArray, List.length_cons, List.length_nil, Nat.reduceAdd, Nat.reduceSub, Array.replicate_succ, Array.replicate_zero, List.push_toArray, List.append_toArray, List.nil_append, List.cons_append]
  gi_wp2_with (first | (refine ⟨trivial, ?_⟩; gi_at_call 26; refine (callsIn_wide.2 (tokens_any _ _)).mono ?_; rintro e w' ⟨rfl, hw⟩; rw [hw]; clear hw))
  obtain ⟨W0, hW0, hz, hB0, k0, k1, k2, k3, k4⟩ := heap5 w (.cells #[.slice none 0 0] 35) (.cells #[.int .i64 0] 31) (.cells #[.int .i64 0] 3) (.cells #[.slice none 0 0] 35) (.cells #[.string s] 9)
  rw [hW0]
  clear hs hb
  have HL := Lib.hid hlen
  clear hlen
  refine range_toks s hb2.out (w.heap.size + 1 + 1 + 1 + 1) rfl (ScJ s w) (ScX s w) ?hJc ?hJB ?hJp ?hJxp ?h0
    (fun y B => { tmps := #[.string s, undef, .pointer (some ⟨w.heap.size, 0, none⟩), .pointer (some ⟨w.heap.size + 1, 0, none⟩), .pointer (some ⟨w.heap.size + 1 + 1, 0, none⟩), .pointer (some ⟨w.heap.size + 1 + 1 + 1, 0, none⟩), .pointer (some ⟨B, 0, none⟩), .bool y.2, .string s, .int .i64 (s.size : Int), .bool false, .string s, .func (.func 42) #[] #[.pointer (some ⟨w.heap.size + 1 + 1 + 1 + 1, 0, none⟩)], tokV y.1, .bool y.2, undef, undef, undef, undef, undef, undef, undef, undef, undef, undef, undef, undef, undef, undef], defers := [] }) ?assign ?body ?done ?stop
  case hJc =>
    rintro i W ⟨v, _, _, _, _, h4, _⟩
    exact blk_cell h4 0
  case hJB =>
    rintro i W W' ⟨v, h0, h1, h2, h3, h4, h5, h6, h7⟩ hb
    exact ⟨v, (hb.block _ (blk_lt h0)).trans h0, (hb.block _ (blk_lt h1)).trans h1, (hb.block _ (blk_lt h2)).trans h2, (hb.block _ (blk_lt h3)).trans h3, (hb.block _ (blk_lt h4)).trans h4, h5.trans (hb.mono (by have := h5.size; omega)), Kd.R_below h6 hb, h7⟩
  case hJp =>
    rintro i W l o o' ⟨v, h0, h1, h2, h3, h4, h5, h6, h7⟩ hn hl hc
    have ne := fun {k cs t} hk => put_cells (k := k) (cs := cs) (t := t) hl hc o' hk
    exact ⟨v, ne h0, ne h1, ne h2, ne h3, ne h4, h5.grown (grownBy_putObj' W l o') h5.size (fun k e => by cases e; omega), R_putObj h6 hl hc o', h7⟩
  case hJxp =>
    rintro W l o o' ⟨y, hy, h0, h1, h2, h5⟩ hn hl hc
    have ne := fun {k cs t} hk => put_cells (k := k) (cs := cs) (t := t) hl hc o' hk
    exact ⟨y, hy, ne h0, ne h1, ne h2, h5.grown (grownBy_putObj' W l o') h5.size (fun k e => by cases e; omega)⟩
  case h0 =>
    exact ⟨.slice none 0 0, k0, k1, k2, k3, k4, hB0, Kd.R_nil _ _ _ _ _, by simp⟩
  case assign =>
    intro l y W K hK
    unfold tokV tokC at *
    gi_wp2
    exact hK
  case body =>
    rintro l i ⟨t, ok⟩ B W hi ⟨v, h0, h1, h2, h3, h4, h5, h6, h7⟩ hB
    cases ok with
    | true =>
      have d0 : W.cell? ⟨B, 0, none⟩ = some (.int .i64 (t.kind : Nat)) := blk_cell hB 0
      have d1 : W.cell? ⟨B, 0 + 1, none⟩ = some (.string ⟨t.text.toArray⟩) := blk_cell hB 1
      have d2 : W.cell? ⟨B, 0 + 1 + 1, none⟩ = some (.int .i64 (t.at_ : Nat)) := blk_cell hB 2
      have d3 : W.cell? ⟨w.heap.size + 1 + 1 + 1, 0, none⟩ = some v := blk_cell h3 0
      unfold tokV
      have hl : ((((visits s.data.toList).take i).map (fun y => toS y.1)).length + 1) * 32 ≤ 140737488355328 := by
        have := visits_len s.data.toList; have := HL.out; have := hb2.out; simp only [List.length_map, List.length_take]; omega
      have HLL := Lib.hid hl
      clear hl
      gi_wp2_with (first | (gi_at_builtin; go_loud (refine R_appendIn PTr.k41 (w0 := w) w.heap.size rfl (.tmp 19) (.tmp 21) 35 41 (.agg #[.int .i64 0, .string ⟨#[]⟩, .int .i64 0]) 32 rfl und35 info41 rfl (by decide) (by decide) v _ (toS t) [.int .i64 (t.kind : Nat), .string ⟨t.text.toArray⟩, .int .i64 (t.at_ : Nat)] (fun _ => True) (fun _ => False) rfl (by rfl) (PTr.k41_mkM _ _ _ _) (fun _ hk => hk.elim) (fun _ _ => trivial) h6 h5 h5.size HLL.out ?_); intro v1 w1 g1 g2 g3 g4; obtain ⟨A1, c1, rfl⟩ := Kd.R_slice g1; have e3 := blk_grown h3 g3 (Kd.R_ne h6 h3 (by decide)); have z3 := blk_frozen e3 0; have y3 := blk_cell e3 0))
      have hl1 : (visits s.data.toList).take (i + 1) = (visits s.data.toList).take i ++ [(t, true)] := by rw [List.take_add_one, hi]; rfl
      have n0 := blk_grown h0 g3 (Kd.R_ne h6 h0 (by decide))
      have n1 := blk_grown h1 g3 (Kd.R_ne h6 h1 (by decide))
      have n2 := blk_grown h2 g3 (Kd.R_ne h6 h2 (by decide))
      have n4 := blk_grown h4 g3 (Kd.R_ne h6 h4 (by decide))
      have hle : (((visits s.data.toList).take i).map (fun y => toS y.1) ++ [toS t]).length = min i (visits s.data.toList).length + 1 := by simp
      rw [← hle]
      refine ⟨(KeepsOthers.of_grownBy g3 ?_).trans (KeepsOthers.setCell _ _ _), _, blk_far n0 (by simp; omega) _, blk_far n1 (by simp) _, blk_far n2 (by simp) _, blk_set e3 0 _,
        blk_far n4 (by simp) _, g2.setCell (p := ⟨w.heap.size + 1 + 1 + 1, 0, none⟩) (by simp; omega) _, ?_, ?_⟩
      · intro j o hj ho
        obtain ⟨cells, hc⟩ := Kd.R_typed h6 j hj
        rw [ho] at hc
        injection hc with hc
        subst hc
        rfl
      · rw [hl1, List.map_append]
        exact Kd.R_set g1 e3 (by decide) 0 _
      · intro y hy
        rw [hl1, List.mem_append] at hy
        rcases hy with hy | hy
        · exact h7 y hy
        · rw [List.mem_singleton.1 hy]
    | false =>
      have d2 : W.cell? ⟨B, 0 + 2, none⟩ = some (.int .i64 (t.at_ : Nat)) := blk_cell hB 2
      have d3 := blk_cell h0 0
      have d4 := blk_cell h1 0
      have d5 := blk_cell h2 0
      have z3 := blk_frozen h0 0
      have z4 := blk_frozen h1 0
      have z5 := blk_frozen h2 0
      have hBn : B ≠ w.heap.size ∧ B ≠ w.heap.size + 1 ∧ B ≠ w.heap.size + 1 + 1 := ⟨blk_ne hB h0 (by decide), blk_ne hB h1 (by decide), blk_ne hB h2 (by decide)⟩
      have hfin : KeepsOthers W (((W.setCell ⟨w.heap.size, 0, none⟩ (.slice none 0 0)).setCell ⟨w.heap.size + 1, 0, none⟩ (.int .i64 2)).setCell ⟨w.heap.size + 1 + 1, 0, none⟩ (.int .i64 (t.at_ : Nat))).drew ∧
          ScX s w (((W.setCell ⟨w.heap.size, 0, none⟩ (.slice none 0 0)).setCell ⟨w.heap.size + 1, 0, none⟩ (.int .i64 2)).setCell ⟨w.heap.size + 1 + 1, 0, none⟩ (.int .i64 (t.at_ : Nat))).drew := by
        refine ⟨(((KeepsOthers.setCell _ _ _).trans (KeepsOthers.setCell _ _ _)).trans (KeepsOthers.setCell _ _ _)).trans ⟨Nat.le_refl _, fun _ _ h _ => h⟩, (t, false), find_at hi rfl h7, ?_, ?_, ?_, ?_⟩
        · exact blk_far (blk_far (blk_set h0 0 _) (by simp) _) (by simp; omega) _
        · exact blk_far (blk_set (blk_far h1 (by simp) _) 0 _) (by simp) _
        · exact blk_set (blk_far (blk_far h2 (by simp; omega) _) (by simp) _) 0 _
        · exact (((h5.setCell (p := ⟨w.heap.size, 0, none⟩) (by simp) _).setCell (p := ⟨w.heap.size + 1, 0, none⟩) (by simp) _).setCell (p := ⟨w.heap.size + 1 + 1, 0, none⟩) (by simp; omega) _).drew
      unfold tokV
      simp only
      gi_wp2
      gi_region
      all_goals gi_wp2
      all_goals exact hfin
  case done => 
    rintro D W hD ⟨v, h0, h1, h2, h3, h4, h5, h6, h7⟩ hK
    have d0 := blk_cell h0 0
    have d1 := blk_cell h1 0
    have d2 := blk_cell h2 0
    have d3 : W.cell? ⟨w.heap.size + 1 + 1 + 1, 0, none⟩ = some v := blk_cell h3 0
    have hl : ((((visits s.data.toList).take (visits s.data.toList).length).map (fun y => toS y.1)).length + 1) * 32 ≤ 140737488355328 := by
      have := visits_len s.data.toList; have := HL.out; have := hb2.out; simp only [List.length_map, List.length_take]; omega
    have HLL := Lib.hid hl
    clear hl
    gi_wp2_with (first | (gi_at_builtin; go_loud (refine R_appendIn PTr.k41 (w0 := w) w.heap.size rfl (.tmp 23) (.tmp 27) 35 41 (.agg #[.int .i64 0, .string ⟨#[]⟩, .int .i64 0]) 32 rfl und35 info41 rfl (by decide) (by decide) v _ ⟨4, ⟨#[]⟩, (s.size : Int)⟩ [.int .i64 4, .string ⟨#[]⟩, .int .i64 (s.size : Int)] (fun _ => True) (fun _ => False) rfl (by rfl) (PTr.k41_mkM _ _ _ _) (fun _ hk => hk.elim) (fun _ _ => trivial) h6 h5 h5.size HLL.out ?_); intro v1 w1 g1 g2 g3 g4; obtain ⟨A1, c1, rfl⟩ := Kd.R_slice g1; have e0 := blk_grown h0 g3 (Kd.R_ne h6 h0 (by decide)); have e1 := blk_grown h1 g3 (Kd.R_ne h6 h1 (by decide)); have e2 := blk_grown h2 g3 (Kd.R_ne h6 h2 (by decide)); have z0 := blk_frozen e0 0; have y0 := blk_cell e0 0; have z1 := blk_frozen e1 0; have y1 := blk_cell e1 0; have z2 := blk_frozen e2 0; have y2 := blk_cell e2 0))
    have g2s := g2.size
    have hko : KeepsOthers W (((w1.setCell ⟨w.heap.size, 0, none⟩ (.slice A1 ((visits s.data.toList).length + 1) c1)).setCell ⟨w.heap.size + 1, 0, none⟩ (.int .i64 0)).setCell ⟨w.heap.size + 1 + 1, 0, none⟩ (.int .i64 0)) := by
      refine (((KeepsOthers.of_grownBy g3 ?_).trans (KeepsOthers.setCell _ _ _)).trans (KeepsOthers.setCell _ _ _)).trans (KeepsOthers.setCell _ _ _)
      intro j o hj ho
      obtain ⟨cells, hc⟩ := Kd.R_typed h6 j hj
      rw [ho] at hc
      injection hc with hc
      subst hc
      rfl
    have hK' := hko.same _ _ hK rfl
    have hle : (((visits s.data.toList).take (visits s.data.toList).length).map (fun y => toS y.1) ++ [(⟨4, ⟨#[]⟩, (s.size : Int)⟩ : PTr.S41)]).length = (visits s.data.toList).length + 1 := by simp
    rw [← hle] at hK' ⊢
    have m0 := blk_far (blk_far (blk_set e0 0 (.slice A1 (((visits s.data.toList).take (visits s.data.toList).length).map (fun y => toS y.1) ++ [(⟨4, ⟨#[]⟩, (s.size : Int)⟩ : PTr.S41)]).length c1)) (p := ⟨w.heap.size + 1, 0, none⟩) (by simp) (.int .i64 0)) (p := ⟨w.heap.size + 1 + 1, 0, none⟩) (by simp; omega) (.int .i64 0)
    have m1 := blk_far (blk_set (blk_far e1 (p := ⟨w.heap.size, 0, none⟩) (by simp) (.slice A1 (((visits s.data.toList).take (visits s.data.toList).length).map (fun y => toS y.1) ++ [(⟨4, ⟨#[]⟩, (s.size : Int)⟩ : PTr.S41)]).length c1)) 0 (.int .i64 0)) (p := ⟨w.heap.size + 1 + 1, 0, none⟩) (by simp) (.int .i64 0)
    have m2 := blk_set (blk_far (blk_far e2 (p := ⟨w.heap.size, 0, none⟩) (by simp; omega) (.slice A1 (((visits s.data.toList).take (visits s.data.toList).length).map (fun y => toS y.1) ++ [(⟨4, ⟨#[]⟩, (s.size : Int)⟩ : PTr.S41)]).length c1)) (p := ⟨w.heap.size + 1, 0, none⟩) (by simp) (.int .i64 0)) 0 (.int .i64 0)
    have hR9 := Kd.R_set (Kd.R_set (Kd.R_set g1 e0 (by decide) 0 (.slice A1 (((visits s.data.toList).take (visits s.data.toList).length).map (fun y => toS y.1) ++ [(⟨4, ⟨#[]⟩, (s.size : Int)⟩ : PTr.S41)]).length c1)) (blk_far e1 (p := ⟨w.heap.size, 0, none⟩) (by simp) _) (by decide) 0 (.int .i64 0)) (blk_far (blk_far e2 (p := ⟨w.heap.size, 0, none⟩) (by simp; omega) _) (p := ⟨w.heap.size + 1, 0, none⟩) (by simp) _) (by decide) 0 (.int .i64 0)
    have hB9 := ((g2.setCell (p := ⟨w.heap.size, 0, none⟩) (by simp) (.slice A1 (((visits s.data.toList).take (visits s.data.toList).length).map (fun y => toS y.1) ++ [(⟨4, ⟨#[]⟩, (s.size : Int)⟩ : PTr.S41)]).length c1)).setCell (p := ⟨w.heap.size + 1, 0, none⟩) (by simp) (.int .i64 0)).setCell (p := ⟨w.heap.size + 1 + 1, 0, none⟩) (by simp; omega) (.int .i64 0)
    generalize ((w1.setCell ⟨w.heap.size, 0, none⟩ (.slice A1 (((visits s.data.toList).take (visits s.data.toList).length).map (fun y => toS y.1) ++ [(⟨4, ⟨#[]⟩, (s.size : Int)⟩ : PTr.S41)]).length c1)).setCell ⟨w.heap.size + 1, 0, none⟩ (.int .i64 0)).setCell ⟨w.heap.size + 1 + 1, 0, none⟩ (.int .i64 0) = W9 at hK' m0 m1 m2 hR9 hB9
    have hw0 := h5.size
    have hw9 := hB9.size
    have hsc : scanL s.data.toList = ((visits s.data.toList).map (·.1) ++ [⟨4, [], s.data.toList.length⟩], 0, 0) := by
      unfold scanL
      rw [if_neg (by have := hb2.out; have := HL.out; omega), find_none (fun x hx => h7 x (by rw [List.take_length]; exact hx))]
    rw [hsc]
    refine ⟨by simp, .inl ⟨_, _, rfl, run_takeDeferred hK', ?_⟩⟩
    refine ⟨_, results14 rfl rfl rfl (blk_cell (put_cells hK' rfl _ m0) 0) (blk_cell (put_cells hK' rfl _ m1) 0) (blk_cell (put_cells hK' rfl _ m2) 0), _, rfl, ?_, hB9.grown (grownBy_putObj' W9 D _) hw9 (fun k e => by cases e; omega)⟩
    have := R_putObj hR9 hK' rfl (.deferred none)
    rw [List.take_length] at this ⊢
    have e : ((visits s.data.toList).map (fun y => y.1) ++ [(⟨4, [], s.data.toList.length⟩ : Tok)]).map toS = (visits s.data.toList).map (fun y => toS y.1) ++ [(⟨4, ⟨#[]⟩, (s.size : Int)⟩ : PTr.S41)] := by
      rw [List.map_append, List.map_map, HL.out]; rfl
    rw [e]
    exact this
  case stop =>
    rintro D W hD ⟨y, hy, h0, h1, h2, h5⟩ hK
    gi_wp2
    have hw0 := h5.size
    refine ⟨by simp, .inl ⟨_, _, rfl, run_takeDeferred hK, ?_⟩⟩
    have hsc : scanL s.data.toList = ([], 2, y.1.at_) := by
      unfold scanL
      rw [if_neg (by have := hb2.out; have := HL.out; omega), hy]
    rw [hsc]
    exact ⟨_, results14 rfl rfl rfl (blk_cell (put_cells hK rfl _ h0) 0) (blk_cell (put_cells hK rfl _ h1) 0) (blk_cell (put_cells hK rfl _ h2) 0), _, rfl, Kd.R_nil _ _ _ _ _, h5.grown (grownBy_putObj' W D _) hw0 (fun k e => by cases e; omega)⟩
theorem scan_any (s : ByteArray) (w : World) :
    Calls Tryz.prog 14 #[.string s] w fun e w' => ∃ v0_ : Value, e = .returned (.tuple #[v0_, .int .i64 ((scanL s.data.toList).2.1 : Nat), .int .i64 ((scanL s.data.toList).2.2 : Nat)]) ∧
      PTr.k41.R 41 w' w.heap.size (fun _ => True) v0_ ((scanL s.data.toList).1.map toS) ∧ Below w.heap.size w w' := by
  by_cases hs : s.size ≤ 65536
  · exact scan_small s hs w
  · have hsc : scanL s.data.toList = ([], 8, 0) := by
      unfold scanL
      rw [if_pos (by rw [← Lib.size_eq s]; omega)]
    have hb : ((s.size : Int) > 65536) := by omega
    rw [hsc]
    clear hsc hs
    refine (callsIn_wide (n := 3)).1 ?_
    refine callsIn_of_wp_marks Tryz.func14 rfl trivial ?_ rfl
    simp only [Tryz.ntmps14, List.size_toArray, List.length_cons, List.length_nil, Nat.reduceAdd, Nat.reduceSub, Array.replicate_succ, Array.replicate_zero, List.push_toArray, List.append_toArray, List.nil_append, List.cons_append]
    gi_wp2
    obtain ⟨W, hW, c0, c1, c2, hB⟩ := cells3 w (.slice none 0 0) (.int .i64 8) (.int .i64 0) 35 31 3
    rw [← hW]
    exact ⟨_, results14 rfl rfl rfl c0 c1 c2, _, rfl, Kd.R_nil _ _ _ _ _, hB⟩
end Go.Proofs.YtahjkibjcibpgaaGreatDoor.L
namespace Go.Proofs.YtahjkibjcibpgaaGreatDoor.Ex
open Go.RowKit Go.Proofs.YtahjkibjcibpgaaGreatDoor.U Go.Proofs.YtahjkibjcibpgaaGreatDoorW.PrintWords
def lex_Scan.f (a0 : ByteArray) : Option (List PTr.S41 × Int × Int) := some ((L.scanL a0.data.toList).1.map L.toS, ((L.scanL a0.data.toList).2.1 : Nat), ((L.scanL a0.data.toList).2.2 : Nat))
theorem lex_Scan.calls (a0 : ByteArray) (r1 : List PTr.S41) (r2 r3 : Int) (w : World) (_hg : UW w) (h : lex_Scan.f a0 = some (r1, r2, r3)) :
    Calls Tryz.prog 14 #[.string a0] w fun e w' => ∃ v0_ : Value, e = .returned (.tuple #[v0_, .int .i64 r2, .int .i64 r3]) ∧ PTr.k41.R 41 w' w.heap.size (fun _ => True) v0_ r1 ∧ Below w.heap.size w w' := by
  have e := Option.some.inj h
  injection e with e1 e2
  injection e2 with e2 e3
  subst e1 e2 e3
  exact L.scan_any a0 w
end Go.Proofs.YtahjkibjcibpgaaGreatDoor.Ex
end
section
namespace Go.Proofs.YtahjkibjcibpgaaGreatDoor.Ex
open Go.RowKit Go.Proofs.YtahjkibjcibpgaaGreatDoor.U Go.Proofs.YtahjkibjcibpgaaGreatDoorW.PrintWords Go.Shelf
def joinL (l : List ByteArray) (sep : ByteArray) : List UInt8 := Lib.join (l.map (fun x => x.data.toList)) sep.data.toList
def strings_Join.f (l : List ByteArray) (sep : ByteArray) : Option ByteArray := if l.length ≤ 140737488355328 ∧ (joinL l sep).length ≤ 140737488355328 then some ⟨(joinL l sep).toArray⟩ else none
theorem strings_Join.calls (A0 : Option Addr) (c0 : Nat) (l0 : List ByteArray) (a1 : ByteArray) (r : ByteArray) (w : World) (_hg : UW w) (hr : Kd.C Kd.string w A0 l0.length l0) (hc : l0.length ≤ c0) (h : strings_Join.f l0 a1 = some r) :
    Calls Tryz.prog 27 #[.slice A0 l0.length c0, .string a1] w fun e w' => e = .returned (.string r) ∧ Below w.heap.size w w' := by
  unfold strings_Join.f at h
  split at h
  · rename_i hb
    have e := Option.some.inj h
    subst e
    cases l0 with
    | nil =>
      refine (Tryz.strings_Join_none A0 c0 a1 w).mono ?_
      rintro e w' ⟨rfl, rfl⟩
      exact ⟨rfl, Below.refl _ _⟩
    | cons x r =>
      obtain ⟨_, _, h2⟩ := hr
      obtain ⟨ad, rfl, h3⟩ := h2 (by simp)
      have h4 : ∀ (j : Nat) (p : ByteArray), (x :: r)[j]? = some p → w.cell? (ad.add j) = some (.string p) := by
        intro j p hj
        obtain ⟨c, _, hp, hcc⟩ := h3 j p hj
        have hp' : c = [.string p] := hp
        subst hp'
        have := hcc 0 _ rfl
        simpa [Kd.string, Kd.scalar] using this
      have h5 := h4 0 x rfl
      have hsp := World.cell?_spot h5
      have hlt := World.block_lt_of_cell? w _ h5
      rcases ad with ⟨bk, o, sp⟩
      have hsp' : sp = none := by simpa [Addr.add] using hsp
      subst hsp'
      have hlt' : bk < w.heap.size := by simpa [Addr.add] using hlt
      refine Tryz.strings_Join bk o c0 (x :: r) a1 w ?_ hlt' hb.1 hc hb.2
      intro j p hj
      have := h4 j p hj
      by_cases h0 : j = 0
      · subst h0; simpa [Addr.add] using this
      · simpa [Addr.add, h0] using this
  · cases h
end Go.Proofs.YtahjkibjcibpgaaGreatDoor.Ex
end
section
namespace Go.Proofs.YtahjkibjcibpgaaGreatDoor.PTr
open Go.RowKit Go.Proofs.YtahjkibjcibpgaaGreatDoorW.Sq Go.Proofs.YtahjkibjcibpgaaGreatDoorW.PrintWords Go.Proofs.YtahjkibjcibpgaaGreatDoorW.PrintLast Go.Proofs.YtahjkibjcibpgaaGreatDoorW.PrintMore
attribute [local go_sem] max2_int min2_int max_two min_two max_three min_three max_four min_four   -- for this text's walks alone
set_option linter.unusedVariables false
set_option linter.unusedSimpArgs false
def errW : Option Int → Value
  | none => .nilIface
  | some c => .iface 0 (.int .i64 c)
theorem errW_none : errW none = .nilIface := rfl
theorem errW_some (c : Int) : errW (some c) = .iface 0 (.int .i64 c) := rfl
theorem info9 : (Tryz.prog.info? 9).map (fun i => (i.zero, i.size, i.bytes)) = some (some (.string ⟨#[]⟩), 1, 16) := by kernel_rfl
end Go.Proofs.YtahjkibjcibpgaaGreatDoor.PTr
end
section
namespace Go.Proofs.YtahjkibjcibpgaaGreatDoor.PTr
theorem q1size : (⟨#[34]⟩ : ByteArray).size = 1 := rfl
open Go.RowKit Go.Proofs.YtahjkibjcibpgaaGreatDoorW.Sq Go.Proofs.YtahjkibjcibpgaaGreatDoorW.PrintWords Go.Proofs.YtahjkibjcibpgaaGreatDoorW.PrintLast Go.Proofs.YtahjkibjcibpgaaGreatDoorW.PrintMore
attribute [local go_sem] max2_int min2_int max_two min_two max_three min_three max_four min_four   -- for this text's walks alone
set_option linter.unusedVariables false
set_option linter.unusedSimpArgs false
mutual
def lex_Write.l0 : Nat → List ByteArray → List (S41) → Int → Int → Option (ByteArray)
  | 0, _, _, _, _ => none
  | k + 1, x3, x6, x7, x8 => if x8 < x7 then (if 0 ≤ x8 then (if x8 < (x6.length : Int) then (if ((rd_T41 x6 x8).f0) = 0 then (lex_Write.j1 k x3 x6 x7 x8 ((rd_T41 x6 x8).f0) (((rd_T41 x6 x8).f0) == 0) ((rd_T41 x6 x8).f0) ((rd_T41 x6 x8).f1) ((rd_T41 x6 x8).f2)) else (if ((rd_T41 x6 x8).f0) = 1 then (lex_Write.j1 k x3 x6 x7 x8 ((rd_T41 x6 x8).f0) (((rd_T41 x6 x8).f0) == 1) ((rd_T41 x6 x8).f0) ((rd_T41 x6 x8).f1) ((rd_T41 x6 x8).f2)) else (lex_Write.j1 k x3 x6 x7 x8 ((rd_T41 x6 x8).f0) (((rd_T41 x6 x8).f0) == 3) ((rd_T41 x6 x8).f0) ((rd_T41 x6 x8).f1) ((rd_T41 x6 x8).f2)))) else (none)) else (none)) else ((Ex.strings_Join.f x3 (⟨#[32]⟩ : ByteArray)).bind fun t105 => (some t105))
def lex_Write.j1 : Nat → List ByteArray → List (S41) → Int → Int → Int → Bool → Int → ByteArray → Int → Option (ByteArray)
  | 0, _, _, _, _, _, _, _, _, _ => none
  | k + 1, x3, x6, x7, x8, x13, x14, x108000, x108001, x108002 => if x14 = true then (if x3.length < 8796093022208 then (lex_Write.l0 k (x3 ++ [x108001]) x6 x7 (wrap64 (x8 + 1))) else (none)) else (if x13 = 2 then (if 1 + x108001.size ≤ 9223372036854775807 then (if ((⟨#[34]⟩ : ByteArray) ++ x108001).size + 1 ≤ 9223372036854775807 then (if x3.length < 8796093022208 then (lex_Write.l0 k (x3 ++ [((⟨#[34]⟩ : ByteArray) ++ x108001) ++ (⟨#[34]⟩ : ByteArray)]) x6 x7 (wrap64 (x8 + 1))) else (none)) else (none)) else (none)) else (lex_Write.l0 k x3 x6 x7 (wrap64 (x8 + 1))))
end
def lex_Write.f (k : Nat) (l0 : List (S41)) : Option (ByteArray) := lex_Write.l0 k ([] : List ByteArray) l0 (l0.length : Int) 0
theorem lex_Write.mono_l : ∀ k, (∀ y0 y1 y2 y3, LeO (lex_Write.l0 k y0 y1 y2 y3) (lex_Write.l0 (k + 1) y0 y1 y2 y3)) ∧ (∀ y0 y1 y2 y3 y4 y5 y6 y7 y8, LeO (lex_Write.j1 k y0 y1 y2 y3 y4 y5 y6 y7 y8) (lex_Write.j1 (k + 1) y0 y1 y2 y3 y4 y5 y6 y7 y8))
  | 0 => ⟨fun _ _ _ _ r h => by simp [lex_Write.l0] at h, fun _ _ _ _ _ _ _ _ _ r h => by simp [lex_Write.j1] at h⟩
  | k + 1 => by
    obtain ⟨ih0, ih1⟩ := lex_Write.mono_l k
    refine ⟨?_, ?_⟩
    · intro y0 y1 y2 y3
      unfold lex_Write.l0
      repeat' first
      | (with_reducible exact ih0 _ _ _ _)
      | (with_reducible exact ih1 _ _ _ _ _ _ _ _ _)
      | (with_reducible exact LeO.refl _)
      | (with_reducible exact LeO.none _)
      | (with_reducible refine LeO.ite ?_ ?_)
      | (with_reducible refine LeO.bind ?_ (fun _ => ?_))
      | exact ih0 _ _ _ _
      | exact ih1 _ _ _ _ _ _ _ _ _
      | exact LeO.none _
      | refine LeO.ite ?_ ?_
      | refine LeO.bind ?_ (fun _ => ?_)
    intro y0 y1 y2 y3 y4 y5 y6 y7 y8
    unfold lex_Write.j1
    repeat' first
    | (with_reducible exact ih0 _ _ _ _)
    | (with_reducible exact ih1 _ _ _ _ _ _ _ _ _)
    | (with_reducible exact LeO.refl _)
    | (with_reducible exact LeO.none _)
    | (with_reducible refine LeO.ite ?_ ?_)
    | (with_reducible refine LeO.bind ?_ (fun _ => ?_))
    | exact ih0 _ _ _ _
    | exact ih1 _ _ _ _ _ _ _ _ _
    | exact LeO.none _
    | refine LeO.ite ?_ ?_
    | refine LeO.bind ?_ (fun _ => ?_)
theorem lex_Write.mono : ∀ a0 k, LeO (lex_Write.f k a0) (lex_Write.f (k + 1) a0) := by
  intro a0 k
  obtain ⟨ih0, ih1⟩ := lex_Write.mono_l k
  unfold lex_Write.f
  repeat' first
      | (with_reducible exact ih0 _ _ _ _)
      | (with_reducible exact ih1 _ _ _ _ _ _ _ _ _)
      | (with_reducible exact LeO.refl _)
      | (with_reducible exact LeO.none _)
      | (with_reducible refine LeO.ite ?_ ?_)
      | (with_reducible refine LeO.bind ?_ (fun _ => ?_))
      | exact ih0 _ _ _ _
      | exact ih1 _ _ _ _ _ _ _ _ _
      | exact LeO.none _
      | refine LeO.ite ?_ ?_
      | refine LeO.bind ?_ (fun _ => ?_)
set_option maxHeartbeats 8000000 in
set_option maxRecDepth 100000 in
theorem lex_Write.calls (k : Nat) (A0 : Option Addr) (c0 : Nat) (l0 : List (S41)) (r : ByteArray) (w : World) (hg : Go.Proofs.YtahjkibjcibpgaaGreatDoor.U.UW w) (hr0 : Kd.C k41 w A0 l0.length l0) (hc0 : l0.length ≤ c0) (h : lex_Write.f k l0 = some r) :
    Calls Tryz.prog 15 #[.slice A0 l0.length c0] w fun e w' => e = .returned (.string r) ∧ Below w.heap.size w w' := by
  have hu41 := Tryz.underlying41
  have HR0 := Aside0.mk hr0
  have HC0 := Aside0.mk hc0
  clear hr0 hc0
  have HB := Aside0.mk (Below.refl w.heap.size w)
  have HGW := Aside0.mk hg
  clear hg
  have H : (lex_Write.l0 k ([] : List ByteArray) l0 (l0.length : Int) 0) = some r := h
  clear h
  have H' := Aside0.mk H
  clear H
  go_enter Tryz.func15, Tryz.ntmps15
  go_wp2
  go_loopg [3, 8] k (fun kq v3 v8 w' => ∃ (x3_1 : List ByteArray) (x8_1 : Int), v8 = .int .i64 x8_1 ∧ Aside0 (lex_Write.l0 kq x3_1 l0 (l0.length : Int) x8_1 = some r) ∧ Aside0 (kq ≤ k) ∧ Aside0 (Kd.R Kd.string 9 w' w.heap.size (fun _ => True) v3 x3_1) ∧ Aside0 (Below w.heap.size w w'))
  case atStart => exact ⟨(([] : List ByteArray)), (0), (by first|rfl|(simp;done)|(simp [*];done)), H', ⟨Nat.le_refl _⟩, ⟨by first | exact Kd.R_nil _ _ _ _ _ | exact Kd.N_nil _ _ _ _ _ | exact Kd.V_nil _ _ _ _ _ | exact Kd.Q_nil _ _ _ _ _ | exact Kd.S_nil _ _ _ _ _⟩, ⟨by repeat with_reducible first|exact HB.out|apply ba|apply bN|apply bd⟩⟩
  case round =>
    clear H'
    try clear c1
    obtain ⟨x3_1, x8_1, rfl, HA, HK1, HO_3, HB⟩ := hrel
    cases gk with
    | zero => exact absurd HA.out (by simp [lex_Write.l0])
    | succ k1 =>
      have H := HA.out
      clear HA
      simp only [lex_Write.l0] at H
      by_cases c2 : x8_1 < (l0.length : Int)
      · rw [if_pos c2] at H
        have c2b0 : decide (x8_1 < (l0.length : Int)) = true := decide_eq_true c2
        clear c2
        by_cases c3 : 0 ≤ x8_1
        · rw [if_pos c3] at H
          have c3b0 : decide (0 ≤ x8_1) = true := decide_eq_true c3
          clear c3
          by_cases c4 : x8_1 < (l0.length : Int)
          · rw [if_pos c4] at H
            have c4b0 : decide (x8_1 < (l0.length : Int)) = true := decide_eq_true c4
            clear c4
            have HC5 := Aside0.mk H
            clear H
            have p106 : 0 ≤ (x8_1 : Int) := of_decide_eq_true (by first|with_reducible assumption|assumption)
            have q106 : x8_1 < (l0.length : Int) := of_decide_eq_true (by first|with_reducible assumption|assumption)
            obtain ⟨ad106, e106, hx106_0, hx106_1, hx106_2⟩ := at_T41 HR0.out x8_1 p106 q106
            cases e106
            replace hx106_0 := cb HB.out hx106_0
            replace hx106_1 := cb HB.out hx106_1
            replace hx106_2 := cb HB.out hx106_2
            replace p106 := eq_true p106
            replace q106 := eq_true q106
            go_upto_if 14 with (first | ((with_reducible refine gate_dst (N := 5) rfl ?_); refine box_event ?hg (N := 5) ?hd (cs := #[.int .i64 0, .string (⟨#[]⟩ : ByteArray), .int .i64 0]) (t := 41) ?hr ?_; (case hd => rfl); (case hg => rfl); (case hr => first | (go_simp; done) | (go_simp; rfl)); intro gb107 hg w6 hbox hb; have n0_ := Aside0.mk (Kd.R_below (by (with_reducible repeat (first | apply Kd.R_alloc | apply Kd.R_drewN | apply Kd.R_drew)); exact HO_3.out) hb); have n1_ := Aside0.mk (below_step (by repeat with_reducible first|exact HB.out|apply ba|apply bN|apply bd) hb); have n2_ := Aside0.mk (hbox); have n3_ := Aside0.mk ((by rw [hg]; exact (below_size (by repeat with_reducible first|exact HB.out|apply ba|apply bN|apply bd)) : w.heap.size ≤ gb107)); have n4_ := Aside0.mk ((by rw [hg]; exact (below_size (by repeat with_reducible first|exact HB.out|apply ba|apply bN|apply bd)) : w.heap.size ≤ gb107)); clear HO_3; clear HB; have HO_3 := n0_; have HB := n1_; have BK107 := n2_; have GW107 := n3_; have GE107 := n4_; clear n0_ n1_ n2_ n3_ n4_; clear hb hbox hg; obtain ⟨hcz7_0, hcz7_1, hcz7_2, hfz7_0, hfz7_1, hfz7_2⟩ := cl3 BK107.out))
            (try simp only [Act.put, List.setIfInBounds_toArray, List.set_cons_zero, List.set_cons_succ])
            go_cut [14] (fun v14 wc => ∃ (kq : Nat) (x14_4 : Bool), v14 = .bool x14_4 ∧ Aside0 (lex_Write.j1 kq x3_1 l0 (l0.length : Int) x8_1 ((rd_T41 l0 x8_1).f0) x14_4 ((rd_T41 l0 x8_1).f0) ((rd_T41 l0 x8_1).f1) ((rd_T41 l0 x8_1).f2) = some r) ∧ Aside0 (kq ≤ k1) ∧ Aside0 (Kd.R Kd.string 9 wc w.heap.size (fun _ => True) u3 x3_1) ∧ Aside0 (wc.heap[gb107]? = some (.cells #[.int .i64 ((rd_T41 l0 x8_1).f0), .string ((rd_T41 l0 x8_1).f1), .int .i64 ((rd_T41 l0 x8_1).f2)] 41 (0, 0))) ∧ Aside0 (Below w.heap.size w wc))
            case first =>
              have H := HC5.out
              clear HC5
              by_cases c8 : ((rd_T41 l0 x8_1).f0) = 0
              · rw [if_pos c8] at H
                have c8b0 : (((rd_T41 l0 x8_1).f0) == 0) = true := beq_iff_eq.mpr c8
                have c8b1 : (((rd_T41 l0 x8_1).f0) != 0) = false := bne_eq_false_iff_eq.mpr c8
                clear c8
                (first | rw [c8b0] | (simp only [i64_w, i32_w]; rw [c8b0]) | skip)
                have H' := Aside0.mk H
                clear H
                go_wp2
                go_meet
                case rel => exact ⟨_, ((((rd_T41 l0 x8_1).f0) == 0)), (by first|rfl|(simp;done)|(simp [*];done)), H', ⟨by have := HK1.out; first | omega | exact Nat.le_refl _⟩, ⟨by (with_reducible repeat (first | apply Kd.R_alloc | apply Kd.R_drewN | apply Kd.R_drew)); exact Kd.R_mono (Kd.R_far (p := ⟨gb107, 2, none⟩) (Kd.R_far (p := ⟨gb107, 1, none⟩) (Kd.R_far (p := ⟨gb107, 0, none⟩) (Kd.R_types HO_3.out BK107.out (by decide)) (fun _ hk => hk.2) (.int .i64 ((rd_T41 l0 x8_1).f0))) (fun _ hk => hk.2) (.string ((rd_T41 l0 x8_1).f1))) (fun _ hk => hk.2) (.int .i64 ((rd_T41 l0 x8_1).f2))) (fun _ hk => trivial)⟩, ⟨by (with_reducible repeat first|refine kN ?_ _|refine kd ?_|refine ka ?_ _); refine blk_put (cs := #[.int .i64 ((rd_T41 l0 x8_1).f0), .string ((rd_T41 l0 x8_1).f1), .int .i64 0]) ?_ 2 _ rfl; (with_reducible repeat first|refine kN ?_ _|refine kd ?_|refine ka ?_ _); refine blk_put (cs := #[.int .i64 ((rd_T41 l0 x8_1).f0), .string (⟨#[]⟩ : ByteArray), .int .i64 0]) ?_ 1 _ rfl; (with_reducible repeat first|refine kN ?_ _|refine kd ?_|refine ka ?_ _); refine blk_put (cs := #[.int .i64 0, .string (⟨#[]⟩ : ByteArray), .int .i64 0]) ?_ 0 _ rfl; (with_reducible repeat first|refine kN ?_ _|refine kd ?_|refine ka ?_ _); exact BK107.out⟩, ⟨by repeat with_reducible first|exact HB.out|apply ba|apply bN|apply bd|refine below_set ?_ GE107.out⟩⟩
              rw [if_neg c8] at H
              have c8b0 : (((rd_T41 l0 x8_1).f0) == 0) = false := beq_eq_false_iff_ne.mpr c8
              have c8b1 : (((rd_T41 l0 x8_1).f0) != 0) = true := bne_iff_ne.mpr c8
              (first | rw [c8b0] | (simp only [i64_w, i32_w]; rw [c8b0]) | skip)
              by_cases c9 : ((rd_T41 l0 x8_1).f0) = 1
              · rw [if_pos c9] at H
                have c9b0 : (((rd_T41 l0 x8_1).f0) == 1) = true := beq_iff_eq.mpr c9
                have c9b1 : (((rd_T41 l0 x8_1).f0) != 1) = false := bne_eq_false_iff_eq.mpr c9
                clear c9
                have H' := Aside0.mk H
                clear H
                go_wp2
                go_meet
                case rel => exact ⟨_, ((((rd_T41 l0 x8_1).f0) == 1)), (by first|rfl|(simp;done)|(simp [*];done)), H', ⟨by have := HK1.out; first | omega | exact Nat.le_refl _⟩, ⟨by (with_reducible repeat (first | apply Kd.R_alloc | apply Kd.R_drewN | apply Kd.R_drew)); exact Kd.R_mono (Kd.R_far (p := ⟨gb107, 2, none⟩) (Kd.R_far (p := ⟨gb107, 1, none⟩) (Kd.R_far (p := ⟨gb107, 0, none⟩) (Kd.R_types HO_3.out BK107.out (by decide)) (fun _ hk => hk.2) (.int .i64 ((rd_T41 l0 x8_1).f0))) (fun _ hk => hk.2) (.string ((rd_T41 l0 x8_1).f1))) (fun _ hk => hk.2) (.int .i64 ((rd_T41 l0 x8_1).f2))) (fun _ hk => trivial)⟩, ⟨by (with_reducible repeat first|refine kN ?_ _|refine kd ?_|refine ka ?_ _); refine blk_put (cs := #[.int .i64 ((rd_T41 l0 x8_1).f0), .string ((rd_T41 l0 x8_1).f1), .int .i64 0]) ?_ 2 _ rfl; (with_reducible repeat first|refine kN ?_ _|refine kd ?_|refine ka ?_ _); refine blk_put (cs := #[.int .i64 ((rd_T41 l0 x8_1).f0), .string (⟨#[]⟩ : ByteArray), .int .i64 0]) ?_ 1 _ rfl; (with_reducible repeat first|refine kN ?_ _|refine kd ?_|refine ka ?_ _); refine blk_put (cs := #[.int .i64 0, .string (⟨#[]⟩ : ByteArray), .int .i64 0]) ?_ 0 _ rfl; (with_reducible repeat first|refine kN ?_ _|refine kd ?_|refine ka ?_ _); exact BK107.out⟩, ⟨by repeat with_reducible first|exact HB.out|apply ba|apply bN|apply bd|refine below_set ?_ GE107.out⟩⟩
              rw [if_neg c9] at H
              have c9b0 : (((rd_T41 l0 x8_1).f0) == 1) = false := beq_eq_false_iff_ne.mpr c9
              have c9b1 : (((rd_T41 l0 x8_1).f0) != 1) = true := bne_iff_ne.mpr c9
              have H' := Aside0.mk H
              clear H
              go_wp2
              go_meet
              case rel => exact ⟨_, ((((rd_T41 l0 x8_1).f0) == 3)), (by first|rfl|(simp;done)|(simp [*];done)), H', ⟨by have := HK1.out; first | omega | exact Nat.le_refl _⟩, ⟨by (with_reducible repeat (first | apply Kd.R_alloc | apply Kd.R_drewN | apply Kd.R_drew)); exact Kd.R_mono (Kd.R_far (p := ⟨gb107, 2, none⟩) (Kd.R_far (p := ⟨gb107, 1, none⟩) (Kd.R_far (p := ⟨gb107, 0, none⟩) (Kd.R_types HO_3.out BK107.out (by decide)) (fun _ hk => hk.2) (.int .i64 ((rd_T41 l0 x8_1).f0))) (fun _ hk => hk.2) (.string ((rd_T41 l0 x8_1).f1))) (fun _ hk => hk.2) (.int .i64 ((rd_T41 l0 x8_1).f2))) (fun _ hk => trivial)⟩, ⟨by (with_reducible repeat first|refine kN ?_ _|refine kd ?_|refine ka ?_ _); refine blk_put (cs := #[.int .i64 ((rd_T41 l0 x8_1).f0), .string ((rd_T41 l0 x8_1).f1), .int .i64 0]) ?_ 2 _ rfl; (with_reducible repeat first|refine kN ?_ _|refine kd ?_|refine ka ?_ _); refine blk_put (cs := #[.int .i64 ((rd_T41 l0 x8_1).f0), .string (⟨#[]⟩ : ByteArray), .int .i64 0]) ?_ 1 _ rfl; (with_reducible repeat first|refine kN ?_ _|refine kd ?_|refine ka ?_ _); refine blk_put (cs := #[.int .i64 0, .string (⟨#[]⟩ : ByteArray), .int .i64 0]) ?_ 0 _ rfl; (with_reducible repeat first|refine kN ?_ _|refine kd ?_|refine ka ?_ _); exact BK107.out⟩, ⟨by repeat with_reducible first|exact HB.out|apply ba|apply bN|apply bd|refine below_set ?_ GE107.out⟩⟩
            case rest =>
              clear HC5
              try clear c1;try clear p1;try clear q1;try clear hx1;try clear c2;try clear c2b0;try clear p2;try clear c3;try clear c3b0;try clear c4;try clear c4b0;try clear c8;try clear c8b0;try clear c8b1;try clear c9;try clear c9b0;try clear c9b1;try clear hcz7_0;try clear hcz7_1;try clear hcz7_2;try clear hfz7_0;try clear hfz7_1;try clear hfz7_2;try clear hx106_0;try clear hx106_1;try clear hx106_2;try clear p106;try clear q106
              obtain ⟨kq, x14_4, rfl, HA, HJ4, HO_3, BK107, HB⟩ := hcut
              cases kq with
              | zero => exact absurd HA.out (by simp [lex_Write.j1])
              | succ kj4 =>
                have H := HA.out
                clear HA
                simp only [lex_Write.j1] at H
                by_cases c10 : x14_4 = true
                · subst c10
                  have H1 : (if x3_1.length < 8796093022208 then (lex_Write.l0 kj4 (x3_1 ++ [((rd_T41 l0 x8_1).f1)]) l0 (l0.length : Int) (wrap64 (x8_1 + 1))) else (none)) = some r := by rw [if_pos rfl] at H; exact H
                  clear H
                  have H := H1
                  clear H1
                  by_cases c11 : x3_1.length < 8796093022208
                  · rw [if_pos c11] at H
                    have LMc11 := Aside0.mk c11
                    clear c11
                    obtain ⟨y108, hy108⟩ : ∃ y_ : List ByteArray, y_ = (x3_1 ++ [((rd_T41 l0 x8_1).f1)]) := ⟨_, rfl⟩
                    replace H : (lex_Write.l0 kj4 y108 l0 (l0.length : Int) (wrap64 (x8_1 + 1))) = some r := by first | (rw [hy108]; with_reducible exact H) | (have H2_ := (Option.bind_some _ _).symm.trans H; rw [hy108]; with_reducible exact H2_) | (have H2_ := (Option.bind_some _ _).symm.trans H; with_reducible exact H2_) | with_reducible exact H | (rw [hy108]; exact H) | exact H
                    have Ny108 := Aside0.mk hy108
                    clear hy108
                    have H' := Aside0.mk H
                    clear H
                    obtain ⟨hcz12_0, hcz12_1, hcz12_2, hfz12_0, hfz12_1, hfz12_2⟩ := cl3 BK107.out
                    go_wp2_with (first | ((with_reducible refine gate_builtin (b := .append) (xs := #[.tmp 18, .tmp 21]) rfl ?_); at_builtin; refine Kd.R_append Kd.string (w0 := w) w.heap.size rfl (.tmp 18) (.tmp 21) 66 9 (.string ⟨#[]⟩) 16 rfl Tryz.underlying66 info9 rfl (by decide) (by omega) u3 x3_1 ((rd_T41 l0 x8_1).f1) [.string ((rd_T41 l0 x8_1).f1)] (fun _ => True) (fun _ => False) rfl rfl ?aP (fun _ hk => hk.elim) ?aF ?aO ?aB ?aS ?aL ?_; (case aP => exact rfl); (case aB => exact (by repeat with_reducible first|exact HB.out|apply ba|apply bN|apply bd|refine below_set ?_ GE107.out)); (case aF => exact (fun _ _ => trivial)); (case aO => exact (by (with_reducible repeat (first | apply Kd.R_alloc | apply Kd.R_drewN | apply Kd.R_drew)); exact HO_3.out)); (case aS => exact (below_size (by repeat with_reducible first|exact HB.out|apply ba|apply bN|apply bd|refine below_set ?_ GE107.out))); (case aL => have := LMc11.out; omega); intro v109 w13 ho hb hg hat; rw [← Ny108.out] at ho; have n0_ := Aside0.mk (blk_grown (g := gb107) (o := .cells #[.int .i64 ((rd_T41 l0 x8_1).f0), .string ((rd_T41 l0 x8_1).f1), .int .i64 ((rd_T41 l0 x8_1).f2)] 41 (0, 0)) (by (with_reducible repeat first|refine kN ?_ _|refine kd ?_|refine ka ?_ _); exact BK107.out) hg (Kd.R_ne HO_3.out BK107.out (by decide))); have n1_ := Aside0.mk (hb); have n2_ := Aside0.mk (ho); clear BK107; clear HB; clear HO_3; have BK107 := n0_; have HB := n1_; have HO110 := n2_; clear n0_ n1_ n2_; clear ho hb hg hat))
                    go_roundg kj4
                    case measure => have := HK1.out; have := HJ4.out; omega
                    case rel => exact ⟨(y108), (wrap64 (x8_1 + 1)), (by first|rfl|(simp;done)|(simp [*];done)), H', ⟨by have := HK1.out; have := HJ4.out; omega⟩, ⟨by (with_reducible repeat (first | apply Kd.R_alloc | apply Kd.R_drewN | apply Kd.R_drew)); exact HO110.out⟩, ⟨by repeat with_reducible first|exact HB.out|apply ba|apply bN|apply bd|refine below_set ?_ GE107.out⟩⟩
                  rw [if_neg c11] at H
                  exact absurd H (by simp)
                replace c10 := Bool.eq_false_iff.mpr c10
                subst c10
                have H1 : (if ((rd_T41 l0 x8_1).f0) = 2 then (if 1 + ((rd_T41 l0 x8_1).f1).size ≤ 9223372036854775807 then (if ((⟨#[34]⟩ : ByteArray) ++ ((rd_T41 l0 x8_1).f1)).size + 1 ≤ 9223372036854775807 then (if x3_1.length < 8796093022208 then (lex_Write.l0 kj4 (x3_1 ++ [((⟨#[34]⟩ : ByteArray) ++ ((rd_T41 l0 x8_1).f1)) ++ (⟨#[34]⟩ : ByteArray)]) l0 (l0.length : Int) (wrap64 (x8_1 + 1))) else (none)) else (none)) else (none)) else (lex_Write.l0 kj4 x3_1 l0 (l0.length : Int) (wrap64 (x8_1 + 1)))) = some r := by rw [if_neg (show ¬ (false = true) by decide)] at H; exact H
                clear H
                have H := H1
                clear H1
                by_cases c14 : ((rd_T41 l0 x8_1).f0) = 2
                · rw [if_pos c14] at H
                  have c14b0 : (((rd_T41 l0 x8_1).f0) == 2) = true := beq_iff_eq.mpr c14
                  have c14b1 : (((rd_T41 l0 x8_1).f0) != 2) = false := bne_eq_false_iff_eq.mpr c14
                  clear c14
                  by_cases c15 : 1 + ((rd_T41 l0 x8_1).f1).size ≤ 9223372036854775807
                  · rw [if_pos c15] at H
                    have c15b0 := eq_true c15
                    have c15b1 : decide (1 + ((rd_T41 l0 x8_1).f1).size ≤ 9223372036854775807) = true := decide_eq_true c15
                    try have c15b2 : (9223372036854775807 < 1 + ((rd_T41 l0 x8_1).f1).size) = False := eq_false (Nat.not_lt.2 c15)
                    by_cases c16 : ((⟨#[34]⟩ : ByteArray) ++ ((rd_T41 l0 x8_1).f1)).size + 1 ≤ 9223372036854775807
                    · rw [if_pos c16] at H
                      have c16b0 := eq_true c16
                      have c16b1 : decide (((⟨#[34]⟩ : ByteArray) ++ ((rd_T41 l0 x8_1).f1)).size + 1 ≤ 9223372036854775807) = true := decide_eq_true c16
                      try have c16b2 : (9223372036854775807 < ((⟨#[34]⟩ : ByteArray) ++ ((rd_T41 l0 x8_1).f1)).size + 1) = False := eq_false (Nat.not_lt.2 c16)
                      try have c16b3 := c16b2
                      try simp only [ByteArray.size_append, q1size] at c16b3
                      by_cases c17 : x3_1.length < 8796093022208
                      · rw [if_pos c17] at H
                        have LMc17 := Aside0.mk c17
                        clear c17
                        obtain ⟨y111, hy111⟩ : ∃ y_ : List ByteArray, y_ = (x3_1 ++ [((⟨#[34]⟩ : ByteArray) ++ ((rd_T41 l0 x8_1).f1)) ++ (⟨#[34]⟩ : ByteArray)]) := ⟨_, rfl⟩
                        replace H : (lex_Write.l0 kj4 y111 l0 (l0.length : Int) (wrap64 (x8_1 + 1))) = some r := by first | (rw [hy111]; with_reducible exact H) | (have H2_ := (Option.bind_some _ _).symm.trans H; rw [hy111]; with_reducible exact H2_) | (have H2_ := (Option.bind_some _ _).symm.trans H; with_reducible exact H2_) | with_reducible exact H | (rw [hy111]; exact H) | exact H
                        have Ny111 := Aside0.mk hy111
                        clear hy111
                        have H' := Aside0.mk H
                        clear H
                        obtain ⟨hcz18_0, hcz18_1, hcz18_2, hfz18_0, hfz18_1, hfz18_2⟩ := cl3 BK107.out
                        go_wp2_with (first | ((with_reducible refine gate_builtin (b := .append) (xs := #[.tmp 25, .tmp 30]) rfl ?_); at_builtin; refine Kd.R_append Kd.string (w0 := w) w.heap.size rfl (.tmp 25) (.tmp 30) 66 9 (.string ⟨#[]⟩) 16 rfl Tryz.underlying66 info9 rfl (by decide) (by omega) u3 x3_1 (((⟨#[34]⟩ : ByteArray) ++ ((rd_T41 l0 x8_1).f1)) ++ (⟨#[34]⟩ : ByteArray)) [.string (((⟨#[34]⟩ : ByteArray) ++ ((rd_T41 l0 x8_1).f1)) ++ (⟨#[34]⟩ : ByteArray))] (fun _ => True) (fun _ => False) rfl rfl ?aP (fun _ hk => hk.elim) ?aF ?aO ?aB ?aS ?aL ?_; (case aP => exact rfl); (case aB => exact (by repeat with_reducible first|exact HB.out|apply ba|apply bN|apply bd|refine below_set ?_ GE107.out)); (case aF => exact (fun _ _ => trivial)); (case aO => exact (by (with_reducible repeat (first | apply Kd.R_alloc | apply Kd.R_drewN | apply Kd.R_drew)); exact HO_3.out)); (case aS => exact (below_size (by repeat with_reducible first|exact HB.out|apply ba|apply bN|apply bd|refine below_set ?_ GE107.out))); (case aL => have := LMc17.out; omega); intro v112 w19 ho hb hg hat; rw [← Ny111.out] at ho; have n0_ := Aside0.mk (blk_grown (g := gb107) (o := .cells #[.int .i64 ((rd_T41 l0 x8_1).f0), .string ((rd_T41 l0 x8_1).f1), .int .i64 ((rd_T41 l0 x8_1).f2)] 41 (0, 0)) (by (with_reducible repeat first|refine kN ?_ _|refine kd ?_|refine ka ?_ _); exact BK107.out) hg (Kd.R_ne HO_3.out BK107.out (by decide))); have n1_ := Aside0.mk (hb); have n2_ := Aside0.mk (ho); clear BK107; clear HB; clear HO_3; have BK107 := n0_; have HB := n1_; have HO113 := n2_; clear n0_ n1_ n2_; clear ho hb hg hat))
                        go_roundg kj4
                        case measure => have := HK1.out; have := HJ4.out; omega
                        case rel => exact ⟨(y111), (wrap64 (x8_1 + 1)), (by first|rfl|(simp;done)|(simp [*];done)), H', ⟨by have := HK1.out; have := HJ4.out; omega⟩, ⟨by (with_reducible repeat (first | apply Kd.R_alloc | apply Kd.R_drewN | apply Kd.R_drew)); exact HO113.out⟩, ⟨by repeat with_reducible first|exact HB.out|apply ba|apply bN|apply bd|refine below_set ?_ GE107.out⟩⟩
                      rw [if_neg c17] at H
                      exact absurd H (by simp)
                    rw [if_neg c16] at H
                    exact absurd H (by simp)
                  rw [if_neg c15] at H
                  exact absurd H (by simp)
                rw [if_neg c14] at H
                have c14b0 : (((rd_T41 l0 x8_1).f0) == 2) = false := beq_eq_false_iff_ne.mpr c14
                have c14b1 : (((rd_T41 l0 x8_1).f0) != 2) = true := bne_iff_ne.mpr c14
                have H' := Aside0.mk H
                clear H
                go_wp2
                go_roundg kj4
                case measure => have := HK1.out; have := HJ4.out; omega
                case rel => exact ⟨(x3_1), (wrap64 (x8_1 + 1)), (by first|rfl|(simp;done)|(simp [*];done)), H', ⟨by have := HK1.out; have := HJ4.out; omega⟩, ⟨by (with_reducible repeat (first | apply Kd.R_alloc | apply Kd.R_drewN | apply Kd.R_drew)); exact HO_3.out⟩, ⟨by repeat with_reducible first|exact HB.out|apply ba|apply bN|apply bd|refine below_set ?_ GE107.out⟩⟩
          rw [if_neg c4] at H
          exact absurd H (by simp)
        rw [if_neg c3] at H
        exact absurd H (by simp)
      rw [if_neg c2] at H
      have c2b0 : decide (x8_1 < (l0.length : Int)) = false := decide_eq_false c2
      clear c2
      replace H := Option.bind_eq_some_iff.mp H
      obtain ⟨t105, A200, H⟩ := H
      replace H : (some t105) = some r := H
      have A20 := Aside0.mk A200
      clear A200
      obtain rfl := Option.some.inj H
      obtain ⟨Ao21, co21, eo21⟩ := Kd.R_slice HO_3.out
      subst eo21
      go_wp2_with (first | ((with_reducible refine gate_callee (f := 27) rfl ?_); refine goesL_ (some 34) rfl rfl Tryz.func27 (by kernel_rfl) rfl #[.slice Ao21 x3_1.length co21, .string (⟨#[32]⟩ : ByteArray)] rfl (by (try simp only [List.map_toArray, List.map_cons, List.map_nil]); first | done | rfl | (simp only [List.length_drop, List.length_take]; rfl) | (simp only [Int.toNat_natCast, ByteArray.extract_zero_size] <;> rfl) | (rw [Int.toNat_natCast, ByteArray.extract_zero_size] <;> rfl)) ?_; (with_reducible refine (Ex.strings_Join.calls _ _ x3_1 (⟨#[32]⟩ : ByteArray) t105 _ ?side1 ?side2 ?side3 A20.out).mono ?_); (case side1 => exact Go.Proofs.YtahjkibjcibpgaaGreatDoor.U.UW.step HGW.out (by repeat with_reducible first|exact HB.out|apply ba|apply bN|apply bd)); (case side2 => repeat (first | exact (Kd.R_reads' HO_3.out).2.2 | (with_reducible refine Kd.C_alloc ?_ _) | (with_reducible refine Kd.C_drewN ?_ _) | (with_reducible refine Kd.C_drew ?_))); (case side3 => exact (Kd.R_reads' HO_3.out).2.1); rintro e w22 ⟨rfl, hb⟩; refine ⟨_, rfl, ?_⟩; have n0_ := Aside0.mk (Kd.R_below (by (with_reducible repeat (first | apply Kd.R_alloc | apply Kd.R_drewN | apply Kd.R_drew)); exact HO_3.out) hb); have n1_ := Aside0.mk (below_step (by repeat with_reducible first|exact HB.out|apply ba|apply bN|apply bd) hb); clear HO_3; clear HB; have HO_3 := n0_; have HB := n1_; clear n0_ n1_; (try clear hb); (try clear hb2); (try clear hk); (try clear hi)))
      go_ret
      exact ⟨by first|rfl|(simp<;>rfl)|(simp [*]<;>rfl), by repeat with_reducible first|exact HB.out|apply ba|apply bN|apply bd⟩
def tree_one.f (k : Nat) (a0 : ByteArray) (a1 : Int) : Option (Bool) := if a1 = 2 then (if 1 + a0.size ≤ 9223372036854775807 then (if ((⟨#[34]⟩ : ByteArray) ++ a0).size + 1 ≤ 9223372036854775807 then ((Ex.lex_Scan.f (((⟨#[34]⟩ : ByteArray) ++ a0) ++ (⟨#[34]⟩ : ByteArray))).bind fun bt114 => (if bt114.2.1 = 0 then (if (bt114.1.length : Int) = 2 then (if 0 < (bt114.1.length : Int) then (if ((rd_T41 bt114.1 0).f0) = a1 then (if ((rd_T41 bt114.1 0).f2) = 0 then ((lex_Write.f k bt114.1).bind fun t121 => (some (t121.toList == (((⟨#[34]⟩ : ByteArray) ++ a0) ++ (⟨#[34]⟩ : ByteArray)).toList))) else (some false)) else (some false)) else (none)) else (some false)) else (some false))) else (none)) else (none)) else ((Ex.lex_Scan.f a0).bind fun bt122 => (if bt122.2.1 = 0 then (if (bt122.1.length : Int) = 2 then (if 0 < (bt122.1.length : Int) then (if ((rd_T41 bt122.1 0).f0) = a1 then (if ((rd_T41 bt122.1 0).f2) = 0 then ((lex_Write.f k bt122.1).bind fun t129 => (some (t129.toList == a0.toList))) else (some false)) else (some false)) else (none)) else (some false)) else (some false)))
theorem tree_one.mono : ∀ a0 a1 k, LeO (tree_one.f k a0 a1) (tree_one.f (k + 1) a0 a1) := by
  intro a0 a1 k
  unfold tree_one.f
  repeat' first
      | (with_reducible exact lex_Write.mono _ _)
      | (with_reducible exact LeO.refl _)
      | (with_reducible exact LeO.none _)
      | (with_reducible refine LeO.ite ?_ ?_)
      | (with_reducible refine LeO.bind ?_ (fun _ => ?_))
      | exact lex_Write.mono _ _
      | exact LeO.none _
      | refine LeO.ite ?_ ?_
      | refine LeO.bind ?_ (fun _ => ?_)
set_option maxHeartbeats 8000000 in
set_option maxRecDepth 100000 in
theorem tree_one.calls (k : Nat) (a0 : ByteArray) (a1 : Int) (r : Bool) (w : World) (hg : Go.Proofs.YtahjkibjcibpgaaGreatDoor.U.UW w) (h : tree_one.f k a0 a1 = some r) :
    Calls Tryz.prog 34 #[.string a0, .int .i64 a1] w fun e w' => e = .returned (.bool r) ∧ Below w.heap.size w w' := by
  have HB := Aside0.mk (Below.refl w.heap.size w)
  have HGW := Aside0.mk hg
  clear hg
  have H : (if a1 = 2 then (if 1 + a0.size ≤ 9223372036854775807 then (if ((⟨#[34]⟩ : ByteArray) ++ a0).size + 1 ≤ 9223372036854775807 then ((Ex.lex_Scan.f (((⟨#[34]⟩ : ByteArray) ++ a0) ++ (⟨#[34]⟩ : ByteArray))).bind fun bt114 => (if bt114.2.1 = 0 then (if (bt114.1.length : Int) = 2 then (if 0 < (bt114.1.length : Int) then (if ((rd_T41 bt114.1 0).f0) = a1 then (if ((rd_T41 bt114.1 0).f2) = 0 then ((lex_Write.f k bt114.1).bind fun t121 => (some (t121.toList == (((⟨#[34]⟩ : ByteArray) ++ a0) ++ (⟨#[34]⟩ : ByteArray)).toList))) else (some false)) else (some false)) else (none)) else (some false)) else (some false))) else (none)) else (none)) else ((Ex.lex_Scan.f a0).bind fun bt122 => (if bt122.2.1 = 0 then (if (bt122.1.length : Int) = 2 then (if 0 < (bt122.1.length : Int) then (if ((rd_T41 bt122.1 0).f0) = a1 then (if ((rd_T41 bt122.1 0).f2) = 0 then ((lex_Write.f k bt122.1).bind fun t129 => (some (t129.toList == a0.toList))) else (some false)) else (some false)) else (none)) else (some false)) else (some false)))) = some r := h
  clear h
  by_cases c3 : a1 = 2
  · rw [if_pos c3] at H
    have c3b0 : (a1 == 2) = true := beq_iff_eq.mpr c3
    have c3b1 : (a1 != 2) = false := bne_eq_false_iff_eq.mpr c3
    clear c3
    by_cases c4 : 1 + a0.size ≤ 9223372036854775807
    · rw [if_pos c4] at H
      have c4b0 := eq_true c4
      have c4b1 : decide (1 + a0.size ≤ 9223372036854775807) = true := decide_eq_true c4
      try have c4b2 : (9223372036854775807 < 1 + a0.size) = False := eq_false (Nat.not_lt.2 c4)
      by_cases c5 : ((⟨#[34]⟩ : ByteArray) ++ a0).size + 1 ≤ 9223372036854775807
      · rw [if_pos c5] at H
        have c5b0 := eq_true c5
        have c5b1 : decide (((⟨#[34]⟩ : ByteArray) ++ a0).size + 1 ≤ 9223372036854775807) = true := decide_eq_true c5
        try have c5b2 : (9223372036854775807 < ((⟨#[34]⟩ : ByteArray) ++ a0).size + 1) = False := eq_false (Nat.not_lt.2 c5)
        try have c5b3 := c5b2
        try simp only [ByteArray.size_append, q1size] at c5b3
        replace H := Option.bind_eq_some_iff.mp H
        obtain ⟨⟨t114, t115, t116⟩, A60, H⟩ := H
        replace H : (if t115 = 0 then (if (t114.length : Int) = 2 then (if 0 < (t114.length : Int) then (if ((rd_T41 t114 0).f0) = a1 then (if ((rd_T41 t114 0).f2) = 0 then ((lex_Write.f k t114).bind fun t121 => (some (t121.toList == (((⟨#[34]⟩ : ByteArray) ++ a0) ++ (⟨#[34]⟩ : ByteArray)).toList))) else (some false)) else (some false)) else (none)) else (some false)) else (some false)) = some r := H
        have A6 := Aside0.mk A60
        clear A60
        by_cases c7 : t115 = 0
        · rw [if_pos c7] at H
          have c7b0 : (t115 == 0) = true := beq_iff_eq.mpr c7
          have c7b1 : (t115 != 0) = false := bne_eq_false_iff_eq.mpr c7
          clear c7
          by_cases c8 : (t114.length : Int) = 2
          · rw [if_pos c8] at H
            have c8b0 : ((t114.length : Int) == 2) = true := beq_iff_eq.mpr c8
            have c8b1 : ((t114.length : Int) != 2) = false := bne_eq_false_iff_eq.mpr c8
            clear c8
            by_cases c9 : 0 < (t114.length : Int)
            · rw [if_pos c9] at H
              have c9b0 : decide (0 < (t114.length : Int)) = true := decide_eq_true c9
              have c9b1 : decide (0 < t114.length) = true := decide_eq_true (by omega)
              clear c9
              by_cases c10 : ((rd_T41 t114 0).f0) = a1
              · rw [if_pos c10] at H
                have c10b0 : (((rd_T41 t114 0).f0) == a1) = true := beq_iff_eq.mpr c10
                have c10b1 : (((rd_T41 t114 0).f0) != a1) = false := bne_eq_false_iff_eq.mpr c10
                clear c10
                by_cases c11 : ((rd_T41 t114 0).f2) = 0
                · rw [if_pos c11] at H
                  have c11b0 : (((rd_T41 t114 0).f2) == 0) = true := beq_iff_eq.mpr c11
                  have c11b1 : (((rd_T41 t114 0).f2) != 0) = false := bne_eq_false_iff_eq.mpr c11
                  clear c11
                  replace H := Option.bind_eq_some_iff.mp H
                  obtain ⟨t121, A120, H⟩ := H
                  replace H : (some (t121.toList == (((⟨#[34]⟩ : ByteArray) ++ a0) ++ (⟨#[34]⟩ : ByteArray)).toList)) = some r := H
                  have A12 := Aside0.mk A120
                  clear A120
                  obtain rfl := Option.some.inj H
                  go_enter Tryz.func34, Tryz.ntmps34
                  go_wp2_with (first | ((with_reducible refine gate_callee (f := 14) rfl ?_); refine goesL_ (some 15) rfl rfl Tryz.func14 (by kernel_rfl) rfl #[.string (((⟨#[34]⟩ : ByteArray) ++ a0) ++ (⟨#[34]⟩ : ByteArray))] rfl (by (try simp only [List.map_toArray, List.map_cons, List.map_nil]); first | done | rfl | (simp only [List.length_drop, List.length_take]; rfl) | (simp only [Int.toNat_natCast, ByteArray.extract_zero_size] <;> rfl) | (rw [Int.toNat_natCast, ByteArray.extract_zero_size] <;> rfl)) ?_; (with_reducible refine (Ex.lex_Scan.calls (((⟨#[34]⟩ : ByteArray) ++ a0) ++ (⟨#[34]⟩ : ByteArray)) t114 t115 t116 _ ?side1 A6.out).mono ?_); (case side1 => exact Go.Proofs.YtahjkibjcibpgaaGreatDoor.U.UW.step HGW.out (by repeat with_reducible first|exact HB.out|apply ba|apply bN|apply bd)); rintro e w13 ⟨v117, rfl, ho0, hb⟩; refine ⟨_, rfl, ?_⟩; have n0_ := Aside0.mk (Kd.R_lower ho0 (below_size (by repeat with_reducible first|exact HB.out|apply ba|apply bN|apply bd))); have n1_ := Aside0.mk (below_step (by repeat with_reducible first|exact HB.out|apply ba|apply bN|apply bd) hb); clear HB; have HO118 := n0_; have HB := n1_; clear n0_ n1_; (try clear hb); (try clear hb2); (try clear hk); (try clear hi); (try clear ho0); obtain ⟨Ao14, co14, eo14⟩ := Kd.R_slice HO118.out; subst eo14; have p119 : 0 ≤ (0 : Int) := (by omega); have q119 : 0 < (t114.length : Int) := of_decide_eq_true (by first|with_reducible assumption|assumption); obtain ⟨ad119, e119, hx119_0, hx119_1, hx119_2⟩ := at_T41 (Kd.R_reads' HO118.out).2.2 0 p119 q119; cases e119; have qi119 : (0 < t114.length) = True := eq_true (by omega); (try rw [show ((0 : Int)).toNat = 0 from rfl] at hx119_0); (try rw [show 0 * 3 = 0 from rfl] at hx119_0); (try rw [Addr.add_zero'] at hx119_0); (try rw [show ((0 : Int)).toNat = 0 from rfl] at hx119_1); (try rw [show 0 * 3 = 0 from rfl] at hx119_1); (try rw [Addr.add_zero'] at hx119_1); (try rw [show ((0 : Int)).toNat = 0 from rfl] at hx119_2); (try rw [show 0 * 3 = 0 from rfl] at hx119_2); (try rw [Addr.add_zero'] at hx119_2); replace p119 := eq_true p119; replace q119 := eq_true q119; have p120 : 0 ≤ (0 : Int) := (by omega); have q120 : 0 < (t114.length : Int) := of_decide_eq_true (by first|with_reducible assumption|assumption); obtain ⟨ad120, e120, hx120_0, hx120_1, hx120_2⟩ := at_T41 (Kd.R_reads' HO118.out).2.2 0 p120 q120; obtain rfl : ad119 = ad120 := (by injection e120); have qi120 : (0 < t114.length) = True := eq_true (by omega); (try rw [show ((0 : Int)).toNat = 0 from rfl] at hx120_0); (try rw [show 0 * 3 = 0 from rfl] at hx120_0); (try rw [Addr.add_zero'] at hx120_0); (try rw [show ((0 : Int)).toNat = 0 from rfl] at hx120_1); (try rw [show 0 * 3 = 0 from rfl] at hx120_1); (try rw [Addr.add_zero'] at hx120_1); (try rw [show ((0 : Int)).toNat = 0 from rfl] at hx120_2); (try rw [show 0 * 3 = 0 from rfl] at hx120_2); (try rw [Addr.add_zero'] at hx120_2); replace p120 := eq_true p120; replace q120 := eq_true q120) | (go_at_call 15; (with_reducible refine (lex_Write.calls k _ _ t114 t121 _ ?side1 ?side2 ?side3 A12.out).mono ?_); (case side1 => exact Go.Proofs.YtahjkibjcibpgaaGreatDoor.U.UW.step HGW.out (by repeat with_reducible first|exact HB.out|apply ba|apply bN|apply bd)); (case side2 => repeat (first | exact (Kd.R_reads' HO118.out).2.2 | (with_reducible refine Kd.C_alloc ?_ _) | (with_reducible refine Kd.C_drewN ?_ _) | (with_reducible refine Kd.C_drew ?_))); (case side3 => exact (Kd.R_reads' HO118.out).2.1); rintro e w15 ⟨rfl, hb⟩; have n0_ := Aside0.mk (Kd.R_below (by (with_reducible repeat (first | apply Kd.R_alloc | apply Kd.R_drewN | apply Kd.R_drew)); exact HO118.out) hb); have n1_ := Aside0.mk (below_step (by repeat with_reducible first|exact HB.out|apply ba|apply bN|apply bd) hb); clear HO118; clear HB; have HO118 := n0_; have HB := n1_; clear n0_ n1_; (try clear hb); (try clear hb2); (try clear hk); (try clear hi)))
                  go_ret
                  exact ⟨by first|rfl|(simp<;>rfl)|(simp [*]<;>rfl), by repeat with_reducible first|exact HB.out|apply ba|apply bN|apply bd⟩
                rw [if_neg c11] at H
                have c11b0 : (((rd_T41 t114 0).f2) == 0) = false := beq_eq_false_iff_ne.mpr c11
                have c11b1 : (((rd_T41 t114 0).f2) != 0) = true := bne_iff_ne.mpr c11
                obtain rfl := Option.some.inj H
                go_enter Tryz.func34, Tryz.ntmps34
                go_wp2_with (first | ((with_reducible refine gate_callee (f := 14) rfl ?_); refine goesL_ (some 15) rfl rfl Tryz.func14 (by kernel_rfl) rfl #[.string (((⟨#[34]⟩ : ByteArray) ++ a0) ++ (⟨#[34]⟩ : ByteArray))] rfl (by (try simp only [List.map_toArray, List.map_cons, List.map_nil]); first | done | rfl | (simp only [List.length_drop, List.length_take]; rfl) | (simp only [Int.toNat_natCast, ByteArray.extract_zero_size] <;> rfl) | (rw [Int.toNat_natCast, ByteArray.extract_zero_size] <;> rfl)) ?_; (with_reducible refine (Ex.lex_Scan.calls (((⟨#[34]⟩ : ByteArray) ++ a0) ++ (⟨#[34]⟩ : ByteArray)) t114 t115 t116 _ ?side1 A6.out).mono ?_); (case side1 => exact Go.Proofs.YtahjkibjcibpgaaGreatDoor.U.UW.step HGW.out (by repeat with_reducible first|exact HB.out|apply ba|apply bN|apply bd)); rintro e w16 ⟨v117, rfl, ho0, hb⟩; refine ⟨_, rfl, ?_⟩; have n0_ := Aside0.mk (Kd.R_lower ho0 (below_size (by repeat with_reducible first|exact HB.out|apply ba|apply bN|apply bd))); have n1_ := Aside0.mk (below_step (by repeat with_reducible first|exact HB.out|apply ba|apply bN|apply bd) hb); clear HB; have HO118 := n0_; have HB := n1_; clear n0_ n1_; (try clear hb); (try clear hb2); (try clear hk); (try clear hi); (try clear ho0); obtain ⟨Ao17, co17, eo17⟩ := Kd.R_slice HO118.out; subst eo17; have p119 : 0 ≤ (0 : Int) := (by omega); have q119 : 0 < (t114.length : Int) := of_decide_eq_true (by first|with_reducible assumption|assumption); obtain ⟨ad119, e119, hx119_0, hx119_1, hx119_2⟩ := at_T41 (Kd.R_reads' HO118.out).2.2 0 p119 q119; cases e119; have qi119 : (0 < t114.length) = True := eq_true (by omega); (try rw [show ((0 : Int)).toNat = 0 from rfl] at hx119_0); (try rw [show 0 * 3 = 0 from rfl] at hx119_0); (try rw [Addr.add_zero'] at hx119_0); (try rw [show ((0 : Int)).toNat = 0 from rfl] at hx119_1); (try rw [show 0 * 3 = 0 from rfl] at hx119_1); (try rw [Addr.add_zero'] at hx119_1); (try rw [show ((0 : Int)).toNat = 0 from rfl] at hx119_2); (try rw [show 0 * 3 = 0 from rfl] at hx119_2); (try rw [Addr.add_zero'] at hx119_2); replace p119 := eq_true p119; replace q119 := eq_true q119; have p120 : 0 ≤ (0 : Int) := (by omega); have q120 : 0 < (t114.length : Int) := of_decide_eq_true (by first|with_reducible assumption|assumption); obtain ⟨ad120, e120, hx120_0, hx120_1, hx120_2⟩ := at_T41 (Kd.R_reads' HO118.out).2.2 0 p120 q120; obtain rfl : ad119 = ad120 := (by injection e120); have qi120 : (0 < t114.length) = True := eq_true (by omega); (try rw [show ((0 : Int)).toNat = 0 from rfl] at hx120_0); (try rw [show 0 * 3 = 0 from rfl] at hx120_0); (try rw [Addr.add_zero'] at hx120_0); (try rw [show ((0 : Int)).toNat = 0 from rfl] at hx120_1); (try rw [show 0 * 3 = 0 from rfl] at hx120_1); (try rw [Addr.add_zero'] at hx120_1); (try rw [show ((0 : Int)).toNat = 0 from rfl] at hx120_2); (try rw [show 0 * 3 = 0 from rfl] at hx120_2); (try rw [Addr.add_zero'] at hx120_2); replace p120 := eq_true p120; replace q120 := eq_true q120))
                go_ret
                exact ⟨by first|rfl|(simp<;>rfl)|(simp [*]<;>rfl), by repeat with_reducible first|exact HB.out|apply ba|apply bN|apply bd⟩
              rw [if_neg c10] at H
              have c10b0 : (((rd_T41 t114 0).f0) == a1) = false := beq_eq_false_iff_ne.mpr c10
              have c10b1 : (((rd_T41 t114 0).f0) != a1) = true := bne_iff_ne.mpr c10
              obtain rfl := Option.some.inj H
              go_enter Tryz.func34, Tryz.ntmps34
              go_wp2_with (first | ((with_reducible refine gate_callee (f := 14) rfl ?_); refine goesL_ (some 15) rfl rfl Tryz.func14 (by kernel_rfl) rfl #[.string (((⟨#[34]⟩ : ByteArray) ++ a0) ++ (⟨#[34]⟩ : ByteArray))] rfl (by (try simp only [List.map_toArray, List.map_cons, List.map_nil]); first | done | rfl | (simp only [List.length_drop, List.length_take]; rfl) | (simp only [Int.toNat_natCast, ByteArray.extract_zero_size] <;> rfl) | (rw [Int.toNat_natCast, ByteArray.extract_zero_size] <;> rfl)) ?_; (with_reducible refine (Ex.lex_Scan.calls (((⟨#[34]⟩ : ByteArray) ++ a0) ++ (⟨#[34]⟩ : ByteArray)) t114 t115 t116 _ ?side1 A6.out).mono ?_); (case side1 => exact Go.Proofs.YtahjkibjcibpgaaGreatDoor.U.UW.step HGW.out (by repeat with_reducible first|exact HB.out|apply ba|apply bN|apply bd)); rintro e w18 ⟨v117, rfl, ho0, hb⟩; refine ⟨_, rfl, ?_⟩; have n0_ := Aside0.mk (Kd.R_lower ho0 (below_size (by repeat with_reducible first|exact HB.out|apply ba|apply bN|apply bd))); have n1_ := Aside0.mk (below_step (by repeat with_reducible first|exact HB.out|apply ba|apply bN|apply bd) hb); clear HB; have HO118 := n0_; have HB := n1_; clear n0_ n1_; (try clear hb); (try clear hb2); (try clear hk); (try clear hi); (try clear ho0); obtain ⟨Ao19, co19, eo19⟩ := Kd.R_slice HO118.out; subst eo19; have p119 : 0 ≤ (0 : Int) := (by omega); have q119 : 0 < (t114.length : Int) := of_decide_eq_true (by first|with_reducible assumption|assumption); obtain ⟨ad119, e119, hx119_0, hx119_1, hx119_2⟩ := at_T41 (Kd.R_reads' HO118.out).2.2 0 p119 q119; cases e119; have qi119 : (0 < t114.length) = True := eq_true (by omega); (try rw [show ((0 : Int)).toNat = 0 from rfl] at hx119_0); (try rw [show 0 * 3 = 0 from rfl] at hx119_0); (try rw [Addr.add_zero'] at hx119_0); (try rw [show ((0 : Int)).toNat = 0 from rfl] at hx119_1); (try rw [show 0 * 3 = 0 from rfl] at hx119_1); (try rw [Addr.add_zero'] at hx119_1); (try rw [show ((0 : Int)).toNat = 0 from rfl] at hx119_2); (try rw [show 0 * 3 = 0 from rfl] at hx119_2); (try rw [Addr.add_zero'] at hx119_2); replace p119 := eq_true p119; replace q119 := eq_true q119))
              go_ret
              exact ⟨by first|rfl|(simp<;>rfl)|(simp [*]<;>rfl), by repeat with_reducible first|exact HB.out|apply ba|apply bN|apply bd⟩
            rw [if_neg c9] at H
            exact absurd H (by simp)
          rw [if_neg c8] at H
          have c8b0 : ((t114.length : Int) == 2) = false := beq_eq_false_iff_ne.mpr c8
          have c8b1 : ((t114.length : Int) != 2) = true := bne_iff_ne.mpr c8
          obtain rfl := Option.some.inj H
          go_enter Tryz.func34, Tryz.ntmps34
          go_wp2_with (first | ((with_reducible refine gate_callee (f := 14) rfl ?_); refine goesL_ (some 15) rfl rfl Tryz.func14 (by kernel_rfl) rfl #[.string (((⟨#[34]⟩ : ByteArray) ++ a0) ++ (⟨#[34]⟩ : ByteArray))] rfl (by (try simp only [List.map_toArray, List.map_cons, List.map_nil]); first | done | rfl | (simp only [List.length_drop, List.length_take]; rfl) | (simp only [Int.toNat_natCast, ByteArray.extract_zero_size] <;> rfl) | (rw [Int.toNat_natCast, ByteArray.extract_zero_size] <;> rfl)) ?_; (with_reducible refine (Ex.lex_Scan.calls (((⟨#[34]⟩ : ByteArray) ++ a0) ++ (⟨#[34]⟩ : ByteArray)) t114 t115 t116 _ ?side1 A6.out).mono ?_); (case side1 => exact Go.Proofs.YtahjkibjcibpgaaGreatDoor.U.UW.step HGW.out (by repeat with_reducible first|exact HB.out|apply ba|apply bN|apply bd)); rintro e w20 ⟨v117, rfl, ho0, hb⟩; refine ⟨_, rfl, ?_⟩; have n0_ := Aside0.mk (Kd.R_lower ho0 (below_size (by repeat with_reducible first|exact HB.out|apply ba|apply bN|apply bd))); have n1_ := Aside0.mk (below_step (by repeat with_reducible first|exact HB.out|apply ba|apply bN|apply bd) hb); clear HB; have HO118 := n0_; have HB := n1_; clear n0_ n1_; (try clear hb); (try clear hb2); (try clear hk); (try clear hi); (try clear ho0); obtain ⟨Ao21, co21, eo21⟩ := Kd.R_slice HO118.out; subst eo21))
          go_ret
          exact ⟨by first|rfl|(simp<;>rfl)|(simp [*]<;>rfl), by repeat with_reducible first|exact HB.out|apply ba|apply bN|apply bd⟩
        rw [if_neg c7] at H
        have c7b0 : (t115 == 0) = false := beq_eq_false_iff_ne.mpr c7
        have c7b1 : (t115 != 0) = true := bne_iff_ne.mpr c7
        obtain rfl := Option.some.inj H
        go_enter Tryz.func34, Tryz.ntmps34
        go_wp2_with (first | ((with_reducible refine gate_callee (f := 14) rfl ?_); refine goesL_ (some 15) rfl rfl Tryz.func14 (by kernel_rfl) rfl #[.string (((⟨#[34]⟩ : ByteArray) ++ a0) ++ (⟨#[34]⟩ : ByteArray))] rfl (by (try simp only [List.map_toArray, List.map_cons, List.map_nil]); first | done | rfl | (simp only [List.length_drop, List.length_take]; rfl) | (simp only [Int.toNat_natCast, ByteArray.extract_zero_size] <;> rfl) | (rw [Int.toNat_natCast, ByteArray.extract_zero_size] <;> rfl)) ?_; (with_reducible refine (Ex.lex_Scan.calls (((⟨#[34]⟩ : ByteArray) ++ a0) ++ (⟨#[34]⟩ : ByteArray)) t114 t115 t116 _ ?side1 A6.out).mono ?_); (case side1 => exact Go.Proofs.YtahjkibjcibpgaaGreatDoor.U.UW.step HGW.out (by repeat with_reducible first|exact HB.out|apply ba|apply bN|apply bd)); rintro e w22 ⟨v117, rfl, ho0, hb⟩; refine ⟨_, rfl, ?_⟩; have n0_ := Aside0.mk (Kd.R_lower ho0 (below_size (by repeat with_reducible first|exact HB.out|apply ba|apply bN|apply bd))); have n1_ := Aside0.mk (below_step (by repeat with_reducible first|exact HB.out|apply ba|apply bN|apply bd) hb); clear HB; have HO118 := n0_; have HB := n1_; clear n0_ n1_; (try clear hb); (try clear hb2); (try clear hk); (try clear hi); (try clear ho0)))
        go_ret
        exact ⟨by first|rfl|(simp<;>rfl)|(simp [*]<;>rfl), by repeat with_reducible first|exact HB.out|apply ba|apply bN|apply bd⟩
      rw [if_neg c5] at H
      exact absurd H (by simp)
    rw [if_neg c4] at H
    exact absurd H (by simp)
  rw [if_neg c3] at H
  have c3b0 : (a1 == 2) = false := beq_eq_false_iff_ne.mpr c3
  have c3b1 : (a1 != 2) = true := bne_iff_ne.mpr c3
  replace H := Option.bind_eq_some_iff.mp H
  obtain ⟨⟨t122, t123, t124⟩, A230, H⟩ := H
  replace H : (if t123 = 0 then (if (t122.length : Int) = 2 then (if 0 < (t122.length : Int) then (if ((rd_T41 t122 0).f0) = a1 then (if ((rd_T41 t122 0).f2) = 0 then ((lex_Write.f k t122).bind fun t129 => (some (t129.toList == a0.toList))) else (some false)) else (some false)) else (none)) else (some false)) else (some false)) = some r := H
  have A23 := Aside0.mk A230
  clear A230
  by_cases c24 : t123 = 0
  · rw [if_pos c24] at H
    have c24b0 : (t123 == 0) = true := beq_iff_eq.mpr c24
    have c24b1 : (t123 != 0) = false := bne_eq_false_iff_eq.mpr c24
    clear c24
    by_cases c25 : (t122.length : Int) = 2
    · rw [if_pos c25] at H
      have c25b0 : ((t122.length : Int) == 2) = true := beq_iff_eq.mpr c25
      have c25b1 : ((t122.length : Int) != 2) = false := bne_eq_false_iff_eq.mpr c25
      clear c25
      by_cases c26 : 0 < (t122.length : Int)
      · rw [if_pos c26] at H
        have c26b0 : decide (0 < (t122.length : Int)) = true := decide_eq_true c26
        have c26b1 : decide (0 < t122.length) = true := decide_eq_true (by omega)
        clear c26
        by_cases c27 : ((rd_T41 t122 0).f0) = a1
        · rw [if_pos c27] at H
          have c27b0 : (((rd_T41 t122 0).f0) == a1) = true := beq_iff_eq.mpr c27
          have c27b1 : (((rd_T41 t122 0).f0) != a1) = false := bne_eq_false_iff_eq.mpr c27
          clear c27
          by_cases c28 : ((rd_T41 t122 0).f2) = 0
          · rw [if_pos c28] at H
            have c28b0 : (((rd_T41 t122 0).f2) == 0) = true := beq_iff_eq.mpr c28
            have c28b1 : (((rd_T41 t122 0).f2) != 0) = false := bne_eq_false_iff_eq.mpr c28
            clear c28
            replace H := Option.bind_eq_some_iff.mp H
            obtain ⟨t129, A290, H⟩ := H
            replace H : (some (t129.toList == a0.toList)) = some r := H
            have A29 := Aside0.mk A290
            clear A290
            obtain rfl := Option.some.inj H
            go_enter Tryz.func34, Tryz.ntmps34
            go_wp2_with (first | ((with_reducible refine gate_callee (f := 14) rfl ?_); refine goesL_ (some 15) rfl rfl Tryz.func14 (by kernel_rfl) rfl #[.string a0] rfl (by (try simp only [List.map_toArray, List.map_cons, List.map_nil]); first | done | rfl | (simp only [List.length_drop, List.length_take]; rfl) | (simp only [Int.toNat_natCast, ByteArray.extract_zero_size] <;> rfl) | (rw [Int.toNat_natCast, ByteArray.extract_zero_size] <;> rfl)) ?_; (with_reducible refine (Ex.lex_Scan.calls a0 t122 t123 t124 _ ?side1 A23.out).mono ?_); (case side1 => exact Go.Proofs.YtahjkibjcibpgaaGreatDoor.U.UW.step HGW.out (by repeat with_reducible first|exact HB.out|apply ba|apply bN|apply bd)); rintro e w30 ⟨v125, rfl, ho0, hb⟩; refine ⟨_, rfl, ?_⟩; have n0_ := Aside0.mk (Kd.R_lower ho0 (below_size (by repeat with_reducible first|exact HB.out|apply ba|apply bN|apply bd))); have n1_ := Aside0.mk (below_step (by repeat with_reducible first|exact HB.out|apply ba|apply bN|apply bd) hb); clear HB; have HO126 := n0_; have HB := n1_; clear n0_ n1_; (try clear hb); (try clear hb2); (try clear hk); (try clear hi); (try clear ho0); obtain ⟨Ao31, co31, eo31⟩ := Kd.R_slice HO126.out; subst eo31; have p127 : 0 ≤ (0 : Int) := (by omega); have q127 : 0 < (t122.length : Int) := of_decide_eq_true (by first|with_reducible assumption|assumption); obtain ⟨ad127, e127, hx127_0, hx127_1, hx127_2⟩ := at_T41 (Kd.R_reads' HO126.out).2.2 0 p127 q127; cases e127; have qi127 : (0 < t122.length) = True := eq_true (by omega); (try rw [show ((0 : Int)).toNat = 0 from rfl] at hx127_0); (try rw [show 0 * 3 = 0 from rfl] at hx127_0); (try rw [Addr.add_zero'] at hx127_0); (try rw [show ((0 : Int)).toNat = 0 from rfl] at hx127_1); (try rw [show 0 * 3 = 0 from rfl] at hx127_1); (try rw [Addr.add_zero'] at hx127_1); (try rw [show ((0 : Int)).toNat = 0 from rfl] at hx127_2); (try rw [show 0 * 3 = 0 from rfl] at hx127_2); (try rw [Addr.add_zero'] at hx127_2); replace p127 := eq_true p127; replace q127 := eq_true q127; have p128 : 0 ≤ (0 : Int) := (by omega); have q128 : 0 < (t122.length : Int) := of_decide_eq_true (by first|with_reducible assumption|assumption); obtain ⟨ad128, e128, hx128_0, hx128_1, hx128_2⟩ := at_T41 (Kd.R_reads' HO126.out).2.2 0 p128 q128; obtain rfl : ad127 = ad128 := (by injection e128); have qi128 : (0 < t122.length) = True := eq_true (by omega); (try rw [show ((0 : Int)).toNat = 0 from rfl] at hx128_0); (try rw [show 0 * 3 = 0 from rfl] at hx128_0); (try rw [Addr.add_zero'] at hx128_0); (try rw [show ((0 : Int)).toNat = 0 from rfl] at hx128_1); (try rw [show 0 * 3 = 0 from rfl] at hx128_1); (try rw [Addr.add_zero'] at hx128_1); (try rw [show ((0 : Int)).toNat = 0 from rfl] at hx128_2); (try rw [show 0 * 3 = 0 from rfl] at hx128_2); (try rw [Addr.add_zero'] at hx128_2); replace p128 := eq_true p128; replace q128 := eq_true q128) | (go_at_call 15; (with_reducible refine (lex_Write.calls k _ _ t122 t129 _ ?side1 ?side2 ?side3 A29.out).mono ?_); (case side1 => exact Go.Proofs.YtahjkibjcibpgaaGreatDoor.U.UW.step HGW.out (by repeat with_reducible first|exact HB.out|apply ba|apply bN|apply bd)); (case side2 => repeat (first | exact (Kd.R_reads' HO126.out).2.2 | (with_reducible refine Kd.C_alloc ?_ _) | (with_reducible refine Kd.C_drewN ?_ _) | (with_reducible refine Kd.C_drew ?_))); (case side3 => exact (Kd.R_reads' HO126.out).2.1); rintro e w32 ⟨rfl, hb⟩; have n0_ := Aside0.mk (Kd.R_below (by (with_reducible repeat (first | apply Kd.R_alloc | apply Kd.R_drewN | apply Kd.R_drew)); exact HO126.out) hb); have n1_ := Aside0.mk (below_step (by repeat with_reducible first|exact HB.out|apply ba|apply bN|apply bd) hb); clear HO126; clear HB; have HO126 := n0_; have HB := n1_; clear n0_ n1_; (try clear hb); (try clear hb2); (try clear hk); (try clear hi)))
            go_ret
            exact ⟨by first|rfl|(simp<;>rfl)|(simp [*]<;>rfl), by repeat with_reducible first|exact HB.out|apply ba|apply bN|apply bd⟩
          rw [if_neg c28] at H
          have c28b0 : (((rd_T41 t122 0).f2) == 0) = false := beq_eq_false_iff_ne.mpr c28
          have c28b1 : (((rd_T41 t122 0).f2) != 0) = true := bne_iff_ne.mpr c28
          obtain rfl := Option.some.inj H
          go_enter Tryz.func34, Tryz.ntmps34
          go_wp2_with (first | ((with_reducible refine gate_callee (f := 14) rfl ?_); refine goesL_ (some 15) rfl rfl Tryz.func14 (by kernel_rfl) rfl #[.string a0] rfl (by (try simp only [List.map_toArray, List.map_cons, List.map_nil]); first | done | rfl | (simp only [List.length_drop, List.length_take]; rfl) | (simp only [Int.toNat_natCast, ByteArray.extract_zero_size] <;> rfl) | (rw [Int.toNat_natCast, ByteArray.extract_zero_size] <;> rfl)) ?_; (with_reducible refine (Ex.lex_Scan.calls a0 t122 t123 t124 _ ?side1 A23.out).mono ?_); (case side1 => exact Go.Proofs.YtahjkibjcibpgaaGreatDoor.U.UW.step HGW.out (by repeat with_reducible first|exact HB.out|apply ba|apply bN|apply bd)); rintro e w33 ⟨v125, rfl, ho0, hb⟩; refine ⟨_, rfl, ?_⟩; have n0_ := Aside0.mk (Kd.R_lower ho0 (below_size (by repeat with_reducible first|exact HB.out|apply ba|apply bN|apply bd))); have n1_ := Aside0.mk (below_step (by repeat with_reducible first|exact HB.out|apply ba|apply bN|apply bd) hb); clear HB; have HO126 := n0_; have HB := n1_; clear n0_ n1_; (try clear hb); (try clear hb2); (try clear hk); (try clear hi); (try clear ho0); obtain ⟨Ao34, co34, eo34⟩ := Kd.R_slice HO126.out; subst eo34; have p127 : 0 ≤ (0 : Int) := (by omega); have q127 : 0 < (t122.length : Int) := of_decide_eq_true (by first|with_reducible assumption|assumption); obtain ⟨ad127, e127, hx127_0, hx127_1, hx127_2⟩ := at_T41 (Kd.R_reads' HO126.out).2.2 0 p127 q127; cases e127; have qi127 : (0 < t122.length) = True := eq_true (by omega); (try rw [show ((0 : Int)).toNat = 0 from rfl] at hx127_0); (try rw [show 0 * 3 = 0 from rfl] at hx127_0); (try rw [Addr.add_zero'] at hx127_0); (try rw [show ((0 : Int)).toNat = 0 from rfl] at hx127_1); (try rw [show 0 * 3 = 0 from rfl] at hx127_1); (try rw [Addr.add_zero'] at hx127_1); (try rw [show ((0 : Int)).toNat = 0 from rfl] at hx127_2); (try rw [show 0 * 3 = 0 from rfl] at hx127_2); (try rw [Addr.add_zero'] at hx127_2); replace p127 := eq_true p127; replace q127 := eq_true q127; have p128 : 0 ≤ (0 : Int) := (by omega); have q128 : 0 < (t122.length : Int) := of_decide_eq_true (by first|with_reducible assumption|assumption); obtain ⟨ad128, e128, hx128_0, hx128_1, hx128_2⟩ := at_T41 (Kd.R_reads' HO126.out).2.2 0 p128 q128; obtain rfl : ad127 = ad128 := (by injection e128); have qi128 : (0 < t122.length) = True := eq_true (by omega); (try rw [show ((0 : Int)).toNat = 0 from rfl] at hx128_0); (try rw [show 0 * 3 = 0 from rfl] at hx128_0); (try rw [Addr.add_zero'] at hx128_0); (try rw [show ((0 : Int)).toNat = 0 from rfl] at hx128_1); (try rw [show 0 * 3 = 0 from rfl] at hx128_1); (try rw [Addr.add_zero'] at hx128_1); (try rw [show ((0 : Int)).toNat = 0 from rfl] at hx128_2); (try rw [show 0 * 3 = 0 from rfl] at hx128_2); (try rw [Addr.add_zero'] at hx128_2); replace p128 := eq_true p128; replace q128 := eq_true q128))
          go_ret
          exact ⟨by first|rfl|(simp<;>rfl)|(simp [*]<;>rfl), by repeat with_reducible first|exact HB.out|apply ba|apply bN|apply bd⟩
        rw [if_neg c27] at H
        have c27b0 : (((rd_T41 t122 0).f0) == a1) = false := beq_eq_false_iff_ne.mpr c27
        have c27b1 : (((rd_T41 t122 0).f0) != a1) = true := bne_iff_ne.mpr c27
        obtain rfl := Option.some.inj H
        go_enter Tryz.func34, Tryz.ntmps34
        go_wp2_with (first | ((with_reducible refine gate_callee (f := 14) rfl ?_); refine goesL_ (some 15) rfl rfl Tryz.func14 (by kernel_rfl) rfl #[.string a0] rfl (by (try simp only [List.map_toArray, List.map_cons, List.map_nil]); first | done | rfl | (simp only [List.length_drop, List.length_take]; rfl) | (simp only [Int.toNat_natCast, ByteArray.extract_zero_size] <;> rfl) | (rw [Int.toNat_natCast, ByteArray.extract_zero_size] <;> rfl)) ?_; (with_reducible refine (Ex.lex_Scan.calls a0 t122 t123 t124 _ ?side1 A23.out).mono ?_); (case side1 => exact Go.Proofs.YtahjkibjcibpgaaGreatDoor.U.UW.step HGW.out (by repeat with_reducible first|exact HB.out|apply ba|apply bN|apply bd)); rintro e w35 ⟨v125, rfl, ho0, hb⟩; refine ⟨_, rfl, ?_⟩; have n0_ := Aside0.mk (Kd.R_lower ho0 (below_size (by repeat with_reducible first|exact HB.out|apply ba|apply bN|apply bd))); have n1_ := Aside0.mk (below_step (by repeat with_reducible first|exact HB.out|apply ba|apply bN|apply bd) hb); clear HB; have HO126 := n0_; have HB := n1_; clear n0_ n1_; (try clear hb); (try clear hb2); (try clear hk); (try clear hi); (try clear ho0); obtain ⟨Ao36, co36, eo36⟩ := Kd.R_slice HO126.out; subst eo36; have p127 : 0 ≤ (0 : Int) := (by omega); have q127 : 0 < (t122.length : Int) := of_decide_eq_true (by first|with_reducible assumption|assumption); obtain ⟨ad127, e127, hx127_0, hx127_1, hx127_2⟩ := at_T41 (Kd.R_reads' HO126.out).2.2 0 p127 q127; cases e127; have qi127 : (0 < t122.length) = True := eq_true (by omega); (try rw [show ((0 : Int)).toNat = 0 from rfl] at hx127_0); (try rw [show 0 * 3 = 0 from rfl] at hx127_0); (try rw [Addr.add_zero'] at hx127_0); (try rw [show ((0 : Int)).toNat = 0 from rfl] at hx127_1); (try rw [show 0 * 3 = 0 from rfl] at hx127_1); (try rw [Addr.add_zero'] at hx127_1); (try rw [show ((0 : Int)).toNat = 0 from rfl] at hx127_2); (try rw [show 0 * 3 = 0 from rfl] at hx127_2); (try rw [Addr.add_zero'] at hx127_2); replace p127 := eq_true p127; replace q127 := eq_true q127))
        go_ret
        exact ⟨by first|rfl|(simp<;>rfl)|(simp [*]<;>rfl), by repeat with_reducible first|exact HB.out|apply ba|apply bN|apply bd⟩
      rw [if_neg c26] at H
      exact absurd H (by simp)
    rw [if_neg c25] at H
    have c25b0 : ((t122.length : Int) == 2) = false := beq_eq_false_iff_ne.mpr c25
    have c25b1 : ((t122.length : Int) != 2) = true := bne_iff_ne.mpr c25
    obtain rfl := Option.some.inj H
    go_enter Tryz.func34, Tryz.ntmps34
    go_wp2_with (first | ((with_reducible refine gate_callee (f := 14) rfl ?_); refine goesL_ (some 15) rfl rfl Tryz.func14 (by kernel_rfl) rfl #[.string a0] rfl (by (try simp only [List.map_toArray, List.map_cons, List.map_nil]); first | done | rfl | (simp only [List.length_drop, List.length_take]; rfl) | (simp only [Int.toNat_natCast, ByteArray.extract_zero_size] <;> rfl) | (rw [Int.toNat_natCast, ByteArray.extract_zero_size] <;> rfl)) ?_; (with_reducible refine (Ex.lex_Scan.calls a0 t122 t123 t124 _ ?side1 A23.out).mono ?_); (case side1 => exact Go.Proofs.YtahjkibjcibpgaaGreatDoor.U.UW.step HGW.out (by repeat with_reducible first|exact HB.out|apply ba|apply bN|apply bd)); rintro e w37 ⟨v125, rfl, ho0, hb⟩; refine ⟨_, rfl, ?_⟩; have n0_ := Aside0.mk (Kd.R_lower ho0 (below_size (by repeat with_reducible first|exact HB.out|apply ba|apply bN|apply bd))); have n1_ := Aside0.mk (below_step (by repeat with_reducible first|exact HB.out|apply ba|apply bN|apply bd) hb); clear HB; have HO126 := n0_; have HB := n1_; clear n0_ n1_; (try clear hb); (try clear hb2); (try clear hk); (try clear hi); (try clear ho0); obtain ⟨Ao38, co38, eo38⟩ := Kd.R_slice HO126.out; subst eo38))
    go_ret
    exact ⟨by first|rfl|(simp<;>rfl)|(simp [*]<;>rfl), by repeat with_reducible first|exact HB.out|apply ba|apply bN|apply bd⟩
  rw [if_neg c24] at H
  have c24b0 : (t123 == 0) = false := beq_eq_false_iff_ne.mpr c24
  have c24b1 : (t123 != 0) = true := bne_iff_ne.mpr c24
  obtain rfl := Option.some.inj H
  go_enter Tryz.func34, Tryz.ntmps34
  go_wp2_with (first | ((with_reducible refine gate_callee (f := 14) rfl ?_); refine goesL_ (some 15) rfl rfl Tryz.func14 (by kernel_rfl) rfl #[.string a0] rfl (by (try simp only [List.map_toArray, List.map_cons, List.map_nil]); first | done | rfl | (simp only [List.length_drop, List.length_take]; rfl) | (simp only [Int.toNat_natCast, ByteArray.extract_zero_size] <;> rfl) | (rw [Int.toNat_natCast, ByteArray.extract_zero_size] <;> rfl)) ?_; (with_reducible refine (Ex.lex_Scan.calls a0 t122 t123 t124 _ ?side1 A23.out).mono ?_); (case side1 => exact Go.Proofs.YtahjkibjcibpgaaGreatDoor.U.UW.step HGW.out (by repeat with_reducible first|exact HB.out|apply ba|apply bN|apply bd)); rintro e w39 ⟨v125, rfl, ho0, hb⟩; refine ⟨_, rfl, ?_⟩; have n0_ := Aside0.mk (Kd.R_lower ho0 (below_size (by repeat with_reducible first|exact HB.out|apply ba|apply bN|apply bd))); have n1_ := Aside0.mk (below_step (by repeat with_reducible first|exact HB.out|apply ba|apply bN|apply bd) hb); clear HB; have HO126 := n0_; have HB := n1_; clear n0_ n1_; (try clear hb); (try clear hb2); (try clear hk); (try clear hi); (try clear ho0)))
  go_ret
  exact ⟨by first|rfl|(simp<;>rfl)|(simp [*]<;>rfl), by repeat with_reducible first|exact HB.out|apply ba|apply bN|apply bd⟩
end Go.Proofs.YtahjkibjcibpgaaGreatDoor.PTr
end
section
namespace Go.Proofs.YtahjkibjcibpgaaGreatDoor.L
open Go.RowKit Go.Proofs.YtahjkibjcibpgaaGreatDoor.U Go.Proofs.YtahjkibjcibpgaaGreatDoorW.PrintWords Go.Proofs.YtahjkibjcibpgaaGreatDoor.PTr
def endT (ts : List Tok) (n : Nat) : List PTr.S41 := (ts ++ [(⟨4, [], n⟩ : Tok)]).map toS
theorem endT_len (ts : List Tok) (n : Nat) : (endT ts n).length = ts.length + 1 := by simp [endT]
theorem z0 : ((0 : Nat) : Int) = 0 := rfl
end Go.Proofs.YtahjkibjcibpgaaGreatDoor.L
end
section
namespace Go.Proofs.YtahjkibjcibpgaaGreatDoor.PTr
open Go.RowKit Go.Proofs.YtahjkibjcibpgaaGreatDoorW.Sq Go.Proofs.YtahjkibjcibpgaaGreatDoorW.PrintWords Go.Proofs.YtahjkibjcibpgaaGreatDoorW.PrintLast Go.Proofs.YtahjkibjcibpgaaGreatDoorW.PrintMore
attribute [local go_sem] max2_int min2_int max_two min_two max_three min_three max_four min_four   -- for this text's walks alone
set_option linter.unusedVariables false
set_option linter.unusedSimpArgs false
theorem eqA23 (d : Nat) (w : World) (x0 y0 : Int) (x1 y1 : Int) :
    (Op.equalIn (d + 2) 23 (.agg #[.int .i64 x0, .int .i64 x1]) (.agg #[.int .i64 y0, .int .i64 y1])).run Tryz.prog w = .ok (x0 == y0 && (x1 == y1)) w := by
  refine eqA_of Tryz.underlying23 (by kernel_rfl) ?_
  refine eqf_cons (by rfl) (by go_simp; rfl) (by go_simp; rfl) (by go_simp) ?_
  exact eqf_last (by rfl) (by go_simp; rfl) (by go_simp; rfl) (by go_simp)
end Go.Proofs.YtahjkibjcibpgaaGreatDoor.PTr
end
section
namespace Go.Proofs.YtahjkibjcibpgaaGreatDoor.PTr
open Go.RowKit Go.Proofs.YtahjkibjcibpgaaGreatDoorW.Sq Go.Proofs.YtahjkibjcibpgaaGreatDoorW.PrintWords Go.Proofs.YtahjkibjcibpgaaGreatDoorW.PrintLast Go.Proofs.YtahjkibjcibpgaaGreatDoorW.PrintMore
attribute [local go_sem] max2_int min2_int max_two min_two max_three min_three max_four min_four   -- for this text's walks alone
set_option linter.unusedVariables false
set_option linter.unusedSimpArgs false
attribute [local go_sem high] eqA23
def tree_plain.f (a0_0 : Int) (a0_1 : ByteArray) (a0_2 : Int) (a0_3 : Int) (a0_4 : Int) (l0_5 : List (S26)) : Option (Bool) := if a0_0 = 3 then (if a0_0 = 1 then (if (l0_5.length : Int) = 0 then (if a0_0 = 5 then (some true) else (some (a0_2 == 0 && (a0_3 == 0)))) else (some false)) else (if a0_0 = 2 then (if (l0_5.length : Int) = 0 then (if a0_0 = 5 then (some true) else (some (a0_2 == 0 && (a0_3 == 0)))) else (some false)) else (if (l0_5.length : Int) = 0 then (if a0_0 = 5 then (some true) else (some (a0_2 == 0 && (a0_3 == 0)))) else (some false)))) else (if a0_0 = 4 then (if a0_0 = 1 then (if (l0_5.length : Int) = 0 then (if a0_0 = 5 then (some true) else (some (a0_2 == 0 && (a0_3 == 0)))) else (some false)) else (if a0_0 = 2 then (if (l0_5.length : Int) = 0 then (if a0_0 = 5 then (some true) else (some (a0_2 == 0 && (a0_3 == 0)))) else (some false)) else (if (l0_5.length : Int) = 0 then (if a0_0 = 5 then (some true) else (some (a0_2 == 0 && (a0_3 == 0)))) else (some false)))) else (if a0_0 = 5 then (if a0_0 = 1 then (if (l0_5.length : Int) = 0 then (some true) else (some false)) else (if a0_0 = 2 then (if (l0_5.length : Int) = 0 then (some true) else (some false)) else (if (l0_5.length : Int) = 0 then (if a0_1.toList = ([] : List UInt8) then (some true) else (some false)) else (some false)))) else (if a0_0 = 1 then (some (a0_2 == 0 && (a0_3 == 0))) else (if a0_0 = 2 then (some (a0_2 == 0 && (a0_3 == 0))) else (if a0_1.toList = ([] : List UInt8) then (some (a0_2 == 0 && (a0_3 == 0))) else (some false))))))
def tree_plain.g (k : Int) (t : ByteArray) (a b : Int) (m : Nat) : Bool :=
  (if k = 3 ∨ k = 4 ∨ k = 5 then decide (m = 0) else true) && ((if k = 1 ∨ k = 2 ∨ k = 3 ∨ k = 4 then true else decide (t.toList = [])) && (if k = 5 then true else a == 0 && b == 0))
theorem ret_b {a b : Bool} (h : a = b) : Ending.returned (.bool a) = .returned (.bool b) := by rw [h]
set_option maxRecDepth 100000 in
set_option maxHeartbeats 4000000 in
theorem tree_plain.walk (k : Int) (t : ByteArray) (a b c : Int) (A : Option Addr) (cap m : Nat) (w : World) :
    Calls Tryz.prog 21 #[.agg #[.int .i64 k, .string t, .int .i64 a, .int .i64 b, .int .i64 c, .slice A m cap]] w fun e w' => e = .returned (.bool (tree_plain.g k t a b m)) ∧ Below w.heap.size w w' := by
  have hu23 := Tryz.underlying23
  by_cases h3 : k = 3
  · subst h3
    cases m
    all_goals
      go_enter Tryz.func21, Tryz.ntmps21
      go_wp2
      all_goals
        go_ret
        exact ⟨ret_b (by simp [tree_plain.g, *]), (Below.refl w.heap.size w).alloc (Nat.le_refl _) _⟩
  skip
  by_cases h4 : k = 4
  · subst h4
    cases m
    all_goals
      go_enter Tryz.func21, Tryz.ntmps21
      go_wp2
      all_goals
        go_ret
        exact ⟨ret_b (by simp [tree_plain.g, *]), (Below.refl w.heap.size w).alloc (Nat.le_refl _) _⟩
  skip
  by_cases h5 : k = 5
  · subst h5
    cases m <;> by_cases ht : t.toList = []
    all_goals
      go_enter Tryz.func21, Tryz.ntmps21
      go_wp2
      all_goals
        go_ret
        exact ⟨ret_b (by simp [tree_plain.g, *]), (Below.refl w.heap.size w).alloc (Nat.le_refl _) _⟩
  skip
  by_cases h1 : k = 1
  · subst h1
    go_enter Tryz.func21, Tryz.ntmps21
    go_wp2
    all_goals
      go_ret
      exact ⟨ret_b (by simp [tree_plain.g, *]), (Below.refl w.heap.size w).alloc (Nat.le_refl _) _⟩
  skip
  by_cases h2 : k = 2
  · subst h2
    go_enter Tryz.func21, Tryz.ntmps21
    go_wp2
    all_goals
      go_ret
      exact ⟨ret_b (by simp [tree_plain.g, *]), (Below.refl w.heap.size w).alloc (Nat.le_refl _) _⟩
  skip
  have k5 : (k == 5) = false := by simpa using h5
  by_cases ht : t.toList = []
  all_goals
    go_enter Tryz.func21, Tryz.ntmps21
    go_wp2
    all_goals
      go_ret
      exact ⟨ret_b (by simp [tree_plain.g, *]), (Below.refl w.heap.size w).alloc (Nat.le_refl _) _⟩
theorem tree_plain.calls (a0_0 : Int) (a0_1 : ByteArray) (a0_2 : Int) (a0_3 : Int) (a0_4 : Int) (A0_5 : Option Addr) (c0_5 : Nat) (l0_5 : List S26) (r : Bool) (w : World) (_hr0_5 : Kd.C k26 w A0_5 l0_5.length l0_5) (_hc0_5 : l0_5.length ≤ c0_5) (h : tree_plain.f a0_0 a0_1 a0_2 a0_3 a0_4 l0_5 = some r) :
    Calls Tryz.prog 21 #[.agg #[.int .i64 a0_0, .string a0_1, .int .i64 a0_2, .int .i64 a0_3, .int .i64 a0_4, .slice A0_5 l0_5.length c0_5]] w fun e w' => e = .returned (.bool r) ∧ Below w.heap.size w w' := by
  have e : tree_plain.f a0_0 a0_1 a0_2 a0_3 a0_4 l0_5 = some (tree_plain.g a0_0 a0_1 a0_2 a0_3 l0_5.length) := by
    unfold tree_plain.f tree_plain.g
    have hl : ((l0_5.length : Int) = 0) = (l0_5.length = 0) := by simp
    simp only [hl]
    generalize l0_5.length = m
    by_cases h3 : a0_0 = 3
    · subst h3; by_cases hm : m = 0 <;> simp [hm]
    by_cases h4 : a0_0 = 4
    · subst h4; by_cases hm : m = 0 <;> simp [hm]
    by_cases h5 : a0_0 = 5
    · subst h5; by_cases hm : m = 0 <;> by_cases ht : a0_1.toList = [] <;> simp [hm, ht]
    by_cases h1 : a0_0 = 1
    · subst h1; simp
    by_cases h2 : a0_0 = 2
    · subst h2; simp
    by_cases ht : a0_1.toList = [] <;> simp [h1, h2, h3, h4, h5, ht]
  obtain rfl := Option.some.inj (e.symm.trans h)
  exact tree_plain.walk _ _ _ _ _ _ _ _ _
end Go.Proofs.YtahjkibjcibpgaaGreatDoor.PTr
end
