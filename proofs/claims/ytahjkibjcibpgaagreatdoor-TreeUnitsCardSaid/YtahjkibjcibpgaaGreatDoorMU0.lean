/- What this claim's texts prove on the way, joined by program (wip/tools/merge.py), without what no text of the claim names. -/
import Derived.Lib.SlTrimSet
import Derived.Lib.ParseIntB
import Derived.Lib.IndexMore
import Derived.Lib.IndexLaws
import Derived.Lib.ItoaNum
import Derived.Lib.Walk
import Derived.Shelf.Strings.Builder1
import Derived.Shelf.Strings.Builder2
import Derived.Shelf.Strings.OnBuilder
import Derived.Shelf.Strings.Trim
import Derived.Shelf.Strings.SlTrimAscii
import Derived.Shelf.Small.Utf8
import Derived.Shelf.Small.Bits
import Derived.Shelf.Small.Strs
import Derived.Shelf.Small.Wraps
import Derived.Shelf.Strings.BuilderF
import Derived.Shelf.Strings.BuilderK
import Derived.Shelf.Strings.Builder2Cap
import Derived.Shelf.Strconv.Itoa0
import Derived.Shelf.Strconv.Itoa1
import Derived.Shelf.LaysM
import Derived.Shelf.Strconv.Itoa2
import Derived.Shelf.Strconv.Itoa3
import Derived.Ground.MpProg
import Derived.Shelf.Pu.ParseUintPublic10
import Derived.Shelf.Pu.ErrVarParseUint
import Derived.Shelf.Strings.Search1
import Derived.Shelf.Strings.Search2
import Derived.Shelf.Strings.Search3
import Derived.Shelf.Strings.Cut
import Derived.Shelf.Strings.Shaped
import Derived.Shelf.Strings.Prefix
import Derived.Shelf.Strings.Runes
import Derived.Shelf.Strings.AsciiSet
import Derived.Shelf.Bits.Mul64
import Derived.Shelf.Unicode.DecodeSlow
import Derived.Shelf.Strings.BuilderCap
import Derived.Test.YtahjkibjcibpgaaGreatDoorProg
import Derived.WalkKit
import Derived.BigQuiet
import Derived.Lib.Hide
import Derived.Lib.SmallJoins
import Derived.Laws.Rows
import Derived.Laws.Externs
import Derived.Test.YtahjkibjcibpgaaGreatDoorCards
import Derived.Test.YtahjkibjcibpgaaGreatDoorTie
import Derived.ProofKit
import Derived.OpenShut
import Derived.ShutString
import Derived.SizedLaws
import Derived.MakeChecks
import Derived.Lay
import Derived.LaidMore
import Derived.Lib.LaidU8
import Derived.Stop.LaidErr
import Derived.Shelf.Vars
import Derived.Deep.DeepHandedRow
import Derived.SevenTiedAt
import Derived.Below
import Derived.Deep.Draws
import Derived.Deep.AppendLies
import Derived.Maps.AppendAt
import Derived.OwnWalk
import Derived.Laws.BytesArg
import Derived.Laws.MakeOwn
import Derived.Laws.OwnMore
import Derived.Deep.OwnRows
import Derived.Tactics
import Derived.Lib.ConvBytes
import Derived.Laws.Slices
import Derived.KernelRfl
import Derived.RowKit3
import Derived.Deep.LoopGhost
import Derived.Deep.QuietTactic
import Derived.WideLaws
import Derived.Deep.DeepCutAuto
import Derived.Deep.CutBlock
import Derived.Deep.RegionHeld3
import Derived.Lib.AppendStr
import Derived.ArgAppend
import Derived.Laws.IdiomCopy
import Derived.RowKit
import Derived.OrdersHeld
import Derived.Laws.BitsLemmas
import Derived.Laws.StructEq
import Derived.Lib.Strings
section
namespace Go.Proofs.YtahjkibjcibpgaaGreatDoor.U
def isDig (c : UInt8) : Bool := decide (48 ≤ c.toNat) && decide (c.toNat ≤ 57)
def cs10 : List UInt8 := [48, 49, 50, 51, 52, 53, 54, 55, 56, 57]
theorem of_all_u8 (p : UInt8 → Prop) (h : ∀ n : Fin 256, p (UInt8.ofNat n.val)) (c : UInt8) : p c := by
  have h1 := h ⟨c.toNat, c.toNat_lt⟩
  have h2 : UInt8.ofNat c.toNat = c := by simp
  rw [h2] at h1
  exact h1
theorem cs10_contains (c : UInt8) : cs10.contains c = isDig c := by
  have h : ∀ n : Fin 256, cs10.contains (UInt8.ofNat n.val) = isDig (UInt8.ofNat n.val) := by decide +kernel
  exact of_all_u8 (fun c => cs10.contains c = isDig c) h c
theorem dropWhile_nil_iff (p : UInt8 → Bool) (l : List UInt8) : l.dropWhile p = [] ↔ l.all p = true := by
  induction l with
  | nil => simp
  | cons a r ih =>
    by_cases h : p a = true
    · simp [List.dropWhile, h, ih]
    · simp [List.dropWhile, h]
theorem dropWhile_head (p : UInt8 → Bool) (l : List UInt8) (a : UInt8) (r : List UInt8) (h : l.dropWhile p = a :: r) : p a = false := by
  induction l with
  | nil => simp at h
  | cons b s ih =>
    by_cases hb : p b = true
    · simp [List.dropWhile, hb] at h; exact ih h
    · simp [List.dropWhile, hb] at h
      obtain ⟨rfl, rfl⟩ := h
      simpa using hb
theorem trim_nil_iff (l cs : List UInt8) : Lib.trimS l cs = [] ↔ l.all (cs.contains ·) = true := by
  unfold Lib.trimS Lib.trimLeftS Lib.trimRightS
  rw [dropWhile_nil_iff]
  constructor
  · intro h
    cases hd : l.reverse.dropWhile (cs.contains ·) with
    | nil =>
      have := (dropWhile_nil_iff (cs.contains ·) l.reverse).1 hd
      rw [List.all_reverse] at this
      exact this
    | cons a r =>
      rw [hd] at h
      have h1 := dropWhile_head _ _ _ _ hd
      rw [List.all_reverse, List.all_cons, h1] at h
      simp at h
  · intro h
    have h2 : l.reverse.dropWhile (cs.contains ·) = [] := (dropWhile_nil_iff _ _).2 (by rw [List.all_reverse]; exact h)
    rw [h2]; rfl
def digsOk (l : List UInt8) (most : Int) : Bool := !l.isEmpty && decide ((l.length : Int) ≤ most) && l.all isDig
theorem trim_digits (l : List UInt8) : Lib.trimS l cs10 = [] ↔ l.all isDig = true := by
  rw [trim_nil_iff]
  have : (fun x => cs10.contains x) = isDig := by funext c; exact cs10_contains c
  rw [this]
def valFrom (n : Nat) (l : List UInt8) : Nat := l.foldl (fun n c => 10 * n + (c.toNat - 48)) n
def val (l : List UInt8) : Nat := valFrom 0 l
theorem valFrom_cons (n : Nat) (c : UInt8) (l : List UInt8) : valFrom n (c :: l) = valFrom (10 * n + (c.toNat - 48)) l := by unfold valFrom; rw [List.foldl_cons]
theorem valFrom_nil (n : Nat) : valFrom n [] = n := rfl
theorem valFrom_append (n : Nat) (l m : List UInt8) : valFrom n (l ++ m) = valFrom (valFrom n l) m := by unfold valFrom; rw [List.foldl_append]
theorem valFrom_mul (l : List UInt8) : ∀ n, valFrom n l = n * 10 ^ l.length + valFrom 0 l := by
  induction l with
  | nil => intro n; simp [valFrom_nil]
  | cons c r ih =>
    intro n
    rw [valFrom_cons, valFrom_cons, ih (10 * n + (c.toNat - 48)), ih (10 * 0 + (c.toNat - 48)), List.length_cons, Nat.pow_succ, Nat.add_mul, Nat.add_mul]
    have e : 10 * n * 10 ^ r.length = n * (10 ^ r.length * 10) := by
      rw [Nat.mul_comm 10 n, Nat.mul_assoc, Nat.mul_comm 10]
    rw [e]; simp [Nat.add_assoc]
theorem valFrom_ge (l : List UInt8) (n : Nat) : n ≤ valFrom n l := by
  rw [valFrom_mul]
  have h : 1 ≤ 10 ^ l.length := Nat.one_le_pow _ _ (by omega)
  have : n * 1 ≤ n * 10 ^ l.length := Nat.mul_le_mul_left _ h
  omega
theorem dig_lt {c : UInt8} (h : isDig c = true) : 48 ≤ c.toNat ∧ c.toNat ≤ 57 := by
  simpa [isDig] using h
theorem val_lt (l : List UInt8) (h : l.all isDig = true) : val l < 10 ^ l.length := by
  unfold val
  induction l with
  | nil => simp [valFrom_nil]
  | cons c r ih =>
    simp only [List.all_cons, Bool.and_eq_true] at h
    have hc := dig_lt h.1
    rw [valFrom_cons, valFrom_mul, List.length_cons, Nat.pow_succ]
    have h1 := ih h.2
    have h2 : (10 * 0 + (c.toNat - 48)) * 10 ^ r.length ≤ 9 * 10 ^ r.length := Nat.mul_le_mul_right _ (by omega)
    omega
theorem val_append (l m : List UInt8) : val (l ++ m) = val l * 10 ^ m.length + val m := by
  unfold val; rw [valFrom_append, valFrom_mul]
theorem parse_cons (M acc : Nat) (c : UInt8) (r : List UInt8) : Lib.parseUintM M acc (c :: r) = if 48 ≤ c.toNat ∧ c.toNat ≤ 57 then
      if 1844674407370955162 ≤ acc then .range
      else if M < acc * 10 + (c.toNat - 48) then .range
      else Lib.parseUintM M (acc * 10 + (c.toNat - 48)) r
    else .syntax := rfl
theorem parse_digits (M : Nat) (hM : M < 18446744073709551616) (l : List UInt8) : ∀ acc, acc ≤ M → l.all isDig = true → Lib.parseUintM M acc l = if valFrom acc l ≤ M then .ok (valFrom acc l) else .range := by
  induction l with
  | nil => intro acc ha _; rw [if_pos (show valFrom acc [] ≤ M from ha)]; rfl
  | cons c r ih =>
    intro acc ha h
    simp only [List.all_cons, Bool.and_eq_true] at h
    have hc := dig_lt h.1
    have hge := valFrom_ge r (10 * acc + (c.toNat - 48))
    rw [valFrom_cons, parse_cons, if_pos hc]
    have e : acc * 10 + (c.toNat - 48) = 10 * acc + (c.toNat - 48) := by omega
    rw [e]
    by_cases h1 : 1844674407370955162 ≤ acc
    · have h3 : ¬ valFrom (10 * acc + (c.toNat - 48)) r ≤ M := by omega
      rw [if_pos h1, if_neg h3]
    · rw [if_neg h1]
      by_cases h2 : M < 10 * acc + (c.toNat - 48)
      · have h3 : ¬ valFrom (10 * acc + (c.toNat - 48)) r ≤ M := by omega
        rw [if_pos h2, if_neg h3]
      · rw [if_neg h2]
        exact ih _ (by omega) h.2
theorem parse64 (l : List UInt8) (hne : l ≠ []) (h : l.all isDig = true) : Lib.parseUintB 64 l = if val l ≤ 18446744073709551615 then .ok (val l) else .range := by
  unfold Lib.parseUintB
  rw [if_neg hne]
  exact parse_digits (2 ^ 64 - 1) (by decide) l 0 (Nat.zero_le _) h
def cap (n : Nat) : Nat := if n ≤ 54043195528445952 then n else 54043195528445952
theorem cap_le (n : Nat) : cap n ≤ 54043195528445952 := by unfold cap; split <;> omega
def units : List (List UInt8 × Nat × Nat × Nat) :=
  [([], 0, 1, 1), ([108], 1, 1, 1), ([109, 51], 1, 1000, 1), ([77, 76], 1, 1000000, 1), ([71, 76], 1, 1000000000, 1),
   ([108, 112, 104], 2, 1, 1), ([108, 112, 115], 2, 3600, 1), ([109, 51, 112, 115], 2, 3600000, 1), ([77, 76, 112, 100], 2, 1000000, 24),
   ([109, 109], 3, 1, 1), ([99, 109], 3, 10, 1), ([109], 3, 1000, 1), ([104], 4, 1, 1), ([100], 4, 24, 1),
   ([109, 50], 5, 1, 1), ([104, 97], 5, 10000, 1), ([107, 109, 50], 5, 1000000, 1), ([112, 101, 114, 109, 105, 108, 108, 101], 6, 1, 1), ([112, 101, 114, 99, 101, 110, 116], 6, 10, 1)]
def unitOf (name : List UInt8) : Option (Nat × Nat × Nat) := (units.find? (fun u => u.1 == name)).map (·.2)
theorem unit_ok : ∀ u ∈ units, 1 ≤ u.2.2.1 ∧ u.2.2.1 ≤ 1000000000 ∧ 1 ≤ u.2.2.2 ∧ u.2.2.2 ≤ 24 ∧ u.2.1 ≤ 6 := by decide
def amtOf (W F k dim num den : Nat) : Int × Int × Int :=
  if (W * 10 ^ k + F) * num % (10 ^ k * den) = 0 ∧ (W * 10 ^ k + F) * num / (10 ^ k * den) ≤ 1125899906842624 then
    (((W * 10 ^ k + F) * num / (10 ^ k * den) : Nat), (dim : Nat), 0)
  else (0, 0, 7)
def amt (number name : List UInt8) : Int × Int × Int :=
  let c := Lib.cut number [46]
  if !digsOk c.1 20 || c.2.2 && !digsOk c.2.1 9 then (0, 0, 2)
  else match unitOf name with
    | none => (0, 0, 6)
    | some (dim, num, den) => amtOf (val c.1) (val c.2.1) c.2.1.length dim num den
theorem amtOf_cap (W F k dim num den : Nat) (hn : 1 ≤ num) (hd : 1 ≤ den) (hd2 : den ≤ 24) :
    amtOf (cap W) F k dim num den = amtOf W F k dim num den := by
  unfold cap
  split
  · rfl
  · rename_i h
    have key : ∀ V, 54043195528445952 ≤ V → ¬ ((V * 10 ^ k + F) * num / (10 ^ k * den) ≤ 1125899906842624) := by
      intro V hV hle
      have hp : 1 ≤ 10 ^ k := Nat.one_le_pow _ _ (by omega)
      have hpos : 0 < 10 ^ k * den := Nat.mul_pos (by omega) (by omega)
      have h1 : (V * 10 ^ k + F) * num < (1125899906842624 + 1) * (10 ^ k * den) := by
        have := (Nat.div_lt_iff_lt_mul hpos).1 (Nat.lt_of_le_of_lt hle (Nat.lt_succ_self _))
        exact this
      have h2 : (1125899906842624 + 1) * (10 ^ k * den) ≤ (1125899906842624 + 1) * (10 ^ k * 24) := Nat.mul_le_mul_left _ (Nat.mul_le_mul_left _ hd2)
      have h3 : V * 10 ^ k ≤ (V * 10 ^ k + F) * num := by
        calc V * 10 ^ k ≤ V * 10 ^ k + F := Nat.le_add_right _ _
          _ = (V * 10 ^ k + F) * 1 := (Nat.mul_one _).symm
          _ ≤ (V * 10 ^ k + F) * num := Nat.mul_le_mul_left _ hn
      have h4 : 54043195528445952 * 10 ^ k ≤ V * 10 ^ k := Nat.mul_le_mul_right _ hV
      have h5 : (1125899906842624 + 1) * (10 ^ k * 24) = ((1125899906842624 + 1) * 24) * 10 ^ k := by rw [Nat.mul_comm (10 ^ k) 24, ← Nat.mul_assoc]
      rw [h5] at h2
      have h6 : 27021597764223000 * 10 ^ k ≤ 54043195528445952 * 10 ^ k := Nat.mul_le_mul_right _ (by omega)
      omega
    unfold amtOf
    rw [if_neg (fun hh => key _ (Nat.le_refl _) hh.2), if_neg (fun hh => key _ (by omega) hh.2)]
end Go.Proofs.YtahjkibjcibpgaaGreatDoor.U
end
section
namespace Go.Proofs
open Go.Shelf
def Tryz.lays169_ren : Go.Shelf.Ren := ⟨fun | 169 => 20 | n => n, fun | 70 => 47 | 9 => 9 | 0 => 0 | 72 => 50 | 37 => 48 | 127 => 77 | 3 => 3 | 5 => 5 | n => n, fun | n => n⟩
theorem Tryz.lays169 : Go.Proofs.Lays.n169 Tryz.prog Tryz.lays169_ren := {
  mixed := by kernel_rfl
  f169 := Tryz.func20.trans (congrArg some (by kernel_rfl))
  t0 := Tryz.underlying0
  a0 := Tryz.isAgg0
  z0 := Tryz.sizeOf0
  v0 := Tryz.zeroValue0
  t3 := Tryz.underlying3
  a3 := Tryz.isAgg3
  z3 := Tryz.sizeOf3
  v3 := Tryz.zeroValue3
  t9 := Tryz.underlying9
  a9 := Tryz.isAgg9
  z9 := Tryz.sizeOf9
  v9 := Tryz.zeroValue9
  t37 := Tryz.underlying48
  a37 := Tryz.isAgg48
  z37 := Tryz.sizeOf48
  v37 := Tryz.zeroValue48
  t70 := Tryz.underlying47
  a70 := Tryz.isAgg47
  z70 := Tryz.sizeOf47
  v70 := Tryz.zeroValue47
  t72 := Tryz.underlying50
  a72 := Tryz.isAgg50
  z72 := Tryz.sizeOf50
  v72 := Tryz.zeroValue50
  t127 := Tryz.underlying77
  a127 := Tryz.isAgg77
  z127 := Tryz.sizeOf77
  v127 := Tryz.zeroValue77 }
theorem Tryz.Builder_Extra_169 : Builder.Extra Tryz.prog Tryz.lays169_ren := {
  sizeBuilder := by kernel_rfl
  liesBuilder := by kernel_rfl
  t5 := Tryz.underlying5
  a5 := Tryz.isAgg5
  z5 := Tryz.sizeOf5
  v5 := Tryz.zeroValue5
  infoByte := by kernel_rfl
  cellsByte := by kernel_rfl
  sizeByte := by kernel_rfl
  neB5 := by decide }
def Tryz.lays156_ren : Go.Shelf.Ren := ⟨fun | 156 => 27 | 165 => 45 | 166 => 18 | 169 => 20 | 240 => 32 | 241 => 68 | 276 => 53 | 277 => 86 | n => n, fun | 31 => 66 | 9 => 9 | 3 => 3 | 4 => 4 | 0 => 0 | 20 => 20 | 72 => 50 | 76 => 53 | 70 => 47 | 37 => 48 | 75 => 52 | 127 => 77 | 164 => 98 | 5 => 5 | 80 => 55 | n => n, fun | n => n⟩
theorem Tryz.lays156 : Go.Proofs.Lays.n156 Tryz.prog Tryz.lays156_ren := {
  mixed := by kernel_rfl
  f156 := Tryz.func27.trans (congrArg some (by kernel_rfl))
  f165 := Tryz.func45.trans (congrArg some (by kernel_rfl))
  f166 := Tryz.func18.trans (congrArg some (by kernel_rfl))
  f169 := Tryz.func20.trans (congrArg some (by kernel_rfl))
  f240 := Tryz.func32.trans (congrArg some (by kernel_rfl))
  f241 := Tryz.func68.trans (congrArg some (by kernel_rfl))
  f276 := Tryz.func53.trans (congrArg some (by kernel_rfl))
  f277 := Tryz.func86.trans (congrArg some (by kernel_rfl))
  t0 := Tryz.underlying0
  a0 := Tryz.isAgg0
  z0 := Tryz.sizeOf0
  v0 := Tryz.zeroValue0
  t3 := Tryz.underlying3
  a3 := Tryz.isAgg3
  z3 := Tryz.sizeOf3
  v3 := Tryz.zeroValue3
  t4 := Tryz.underlying4
  a4 := Tryz.isAgg4
  z4 := Tryz.sizeOf4
  v4 := Tryz.zeroValue4
  t9 := Tryz.underlying9
  a9 := Tryz.isAgg9
  z9 := Tryz.sizeOf9
  v9 := Tryz.zeroValue9
  t20 := Tryz.underlying20
  a20 := Tryz.isAgg20
  z20 := Tryz.sizeOf20
  v20 := Tryz.zeroValue20
  t31 := Tryz.underlying66
  a31 := Tryz.isAgg66
  z31 := Tryz.sizeOf66
  v31 := Tryz.zeroValue66
  t37 := Tryz.underlying48
  a37 := Tryz.isAgg48
  z37 := Tryz.sizeOf48
  v37 := Tryz.zeroValue48
  t70 := Tryz.underlying47
  a70 := Tryz.isAgg47
  z70 := Tryz.sizeOf47
  v70 := Tryz.zeroValue47
  t72 := Tryz.underlying50
  a72 := Tryz.isAgg50
  z72 := Tryz.sizeOf50
  v72 := Tryz.zeroValue50
  t75 := Tryz.underlying52
  a75 := Tryz.isAgg52
  z75 := Tryz.sizeOf52
  v75 := Tryz.zeroValue52
  t76 := Tryz.underlying53
  a76 := Tryz.isAgg53
  z76 := Tryz.sizeOf53
  v76 := Tryz.zeroValue53
  t127 := Tryz.underlying77
  a127 := Tryz.isAgg77
  z127 := Tryz.sizeOf77
  v127 := Tryz.zeroValue77
  t164 := Tryz.underlying98
  a164 := Tryz.isAgg98
  z164 := Tryz.sizeOf98
  v164 := Tryz.zeroValue98 }
theorem Tryz.Builder_Extra_156 : Builder.Extra Tryz.prog Tryz.lays156_ren := {
  sizeBuilder := by kernel_rfl
  liesBuilder := by kernel_rfl
  t5 := Tryz.underlying5
  a5 := Tryz.isAgg5
  z5 := Tryz.sizeOf5
  v5 := Tryz.zeroValue5
  infoByte := by kernel_rfl
  cellsByte := by kernel_rfl
  sizeByte := by kernel_rfl
  neB5 := by decide }
open Go.RowKit in
theorem Tryz.strings_Join_none (a : Option Addr) (c : Nat) (sep : ByteArray) (w : World) :
    Calls Tryz.prog 27 #[.slice a 0 c, .string sep] w fun e w' => e = .returned (.string ⟨#[]⟩) ∧ w' = w := Any.strings_Join_none Tryz.lays156 Tryz.Builder_Extra_156 a c sep w
open Go.RowKit in
theorem Tryz.strings_Join (bk o c : Nat) (xs : List ByteArray) (sep : ByteArray) (w : World) (hcells : ∀ (j : Nat) x, xs[j]? = some x → w.cell? ⟨bk, o + j, none⟩ = some (.string x)) (hbk : bk < w.heap.size) (hN : xs.length ≤ 140737488355328) (hcap : xs.length ≤ c) (hlen : (Lib.join (xs.map (·.data.toList)) sep.data.toList).length ≤ 140737488355328) :
    Calls Tryz.prog 27 #[.slice (some ⟨bk, o, none⟩) xs.length c, .string sep] w fun e w' => e = .returned (.string ⟨(Lib.join (xs.map (·.data.toList)) sep.data.toList).toArray⟩) ∧ Below w.heap.size w w' := Any.strings_Join Tryz.lays156 Tryz.Builder_Extra_156 bk o c xs sep w hcells hbk hN hcap hlen
def Tryz.lays161_ren : Go.Shelf.Ren := ⟨fun | 161 => 58 | 231 => 70 | 227 => 72 | 233 => 73 | 235 => 75 | 228 => 90 | 197 => 91 | 151 => 92 | 260 => 102 | 152 => 103 | 137 => 60 | 119 => 115 | 224 => 88 | 225 => 87 | 217 => 83 | 266 => 98 | n => n, fun | 9 => 9 | 4 => 4 | 3 => 3 | 5 => 5 | 117 => 114 | 116 => 113 | 0 => 0 | 124 => 117 | 105 => 125 | 21 => 21 | 119 => 143 | 46 => 120 | 139 => 146 | 138 => 145 | n => n, fun | 3 => 4 | 4 => 5 | n => n⟩
theorem Tryz.lays161 : Go.Proofs.Lays.n161 Tryz.prog Tryz.lays161_ren := {
  mixed := by kernel_rfl
  f119 := Tryz.func115.trans (congrArg some (by kernel_rfl))
  f137 := Tryz.func60.trans (congrArg some (by kernel_rfl))
  f151 := Tryz.func92.trans (congrArg some (by kernel_rfl))
  f152 := Tryz.func103.trans (congrArg some (by kernel_rfl))
  f161 := Tryz.func58.trans (congrArg some (by kernel_rfl))
  f197 := Tryz.func91.trans (congrArg some (by kernel_rfl))
  f217 := Tryz.func83.trans (congrArg some (by kernel_rfl))
  f224 := Tryz.func88.trans (congrArg some (by kernel_rfl))
  f225 := Tryz.func87.trans (congrArg some (by kernel_rfl))
  f227 := Tryz.func72.trans (congrArg some (by kernel_rfl))
  f228 := Tryz.func90.trans (congrArg some (by kernel_rfl))
  f231 := Tryz.func70.trans (congrArg some (by kernel_rfl))
  f233 := Tryz.func73.trans (congrArg some (by kernel_rfl))
  f235 := Tryz.func75.trans (congrArg some (by kernel_rfl))
  f260 := Tryz.func102.trans (congrArg some (by kernel_rfl))
  f266 := Tryz.func98.trans (congrArg some (by kernel_rfl))
  t0 := Tryz.underlying0
  a0 := Tryz.isAgg0
  z0 := Tryz.sizeOf0
  v0 := Tryz.zeroValue0
  t3 := Tryz.underlying3
  a3 := Tryz.isAgg3
  z3 := Tryz.sizeOf3
  v3 := Tryz.zeroValue3
  t4 := Tryz.underlying4
  a4 := Tryz.isAgg4
  z4 := Tryz.sizeOf4
  v4 := Tryz.zeroValue4
  t5 := Tryz.underlying5
  a5 := Tryz.isAgg5
  z5 := Tryz.sizeOf5
  v5 := Tryz.zeroValue5
  t9 := Tryz.underlying9
  a9 := Tryz.isAgg9
  z9 := Tryz.sizeOf9
  v9 := Tryz.zeroValue9
  t21 := Tryz.underlying21
  a21 := Tryz.isAgg21
  z21 := Tryz.sizeOf21
  v21 := Tryz.zeroValue21
  t46 := Tryz.underlying120
  a46 := Tryz.isAgg120
  z46 := Tryz.sizeOf120
  v46 := Tryz.zeroValue120
  t105 := Tryz.underlying125
  a105 := Tryz.isAgg125
  z105 := Tryz.sizeOf125
  v105 := Tryz.zeroValue125
  t116 := Tryz.underlying113
  a116 := Tryz.isAgg113
  z116 := Tryz.sizeOf113
  t117 := Tryz.underlying114
  a117 := Tryz.isAgg114
  z117 := Tryz.sizeOf114
  v117 := Tryz.zeroValue114
  t119 := Tryz.underlying143
  a119 := Tryz.isAgg143
  z119 := Tryz.sizeOf143
  t124 := Tryz.underlying117
  a124 := Tryz.isAgg117
  z124 := Tryz.sizeOf117
  v124 := Tryz.zeroValue117
  t138 := Tryz.underlying145
  a138 := Tryz.isAgg145
  z138 := Tryz.sizeOf145
  v138 := Tryz.zeroValue145
  t139 := Tryz.underlying146
  a139 := Tryz.isAgg146
  z139 := Tryz.sizeOf146
  v139 := Tryz.zeroValue146
  g3 := by kernel_rfl
  g4 := by kernel_rfl }
def Tryz.lays160_ren : Go.Shelf.Ren := ⟨fun | 160 => 47 | 232 => 71 | 231 => 70 | 227 => 72 | 234 => 74 | 233 => 73 | 236 => 76 | 235 => 75 | 228 => 90 | 271 => 93 | 151 => 92 | 197 => 91 | 120 => 104 | 152 => 103 | 260 => 102 | 137 => 60 | 119 => 115 | 224 => 88 | 225 => 87 | 217 => 83 | 266 => 98 | n => n, fun | 9 => 9 | 4 => 4 | 3 => 3 | 5 => 5 | 117 => 114 | 116 => 113 | 0 => 0 | 124 => 117 | 21 => 21 | 105 => 125 | 46 => 120 | 119 => 143 | 139 => 146 | 138 => 145 | n => n, fun | 3 => 4 | 4 => 5 | n => n⟩
theorem Tryz.lays160 : Go.Proofs.Lays.n160 Tryz.prog Tryz.lays160_ren := {
  mixed := by kernel_rfl
  f119 := Tryz.func115.trans (congrArg some (by kernel_rfl))
  f120 := Tryz.func104.trans (congrArg some (by kernel_rfl))
  f137 := Tryz.func60.trans (congrArg some (by kernel_rfl))
  f151 := Tryz.func92.trans (congrArg some (by kernel_rfl))
  f152 := Tryz.func103.trans (congrArg some (by kernel_rfl))
  f160 := Tryz.func47.trans (congrArg some (by kernel_rfl))
  f197 := Tryz.func91.trans (congrArg some (by kernel_rfl))
  f217 := Tryz.func83.trans (congrArg some (by kernel_rfl))
  f224 := Tryz.func88.trans (congrArg some (by kernel_rfl))
  f225 := Tryz.func87.trans (congrArg some (by kernel_rfl))
  f227 := Tryz.func72.trans (congrArg some (by kernel_rfl))
  f228 := Tryz.func90.trans (congrArg some (by kernel_rfl))
  f231 := Tryz.func70.trans (congrArg some (by kernel_rfl))
  f232 := Tryz.func71.trans (congrArg some (by kernel_rfl))
  f233 := Tryz.func73.trans (congrArg some (by kernel_rfl))
  f234 := Tryz.func74.trans (congrArg some (by kernel_rfl))
  f235 := Tryz.func75.trans (congrArg some (by kernel_rfl))
  f236 := Tryz.func76.trans (congrArg some (by kernel_rfl))
  f260 := Tryz.func102.trans (congrArg some (by kernel_rfl))
  f266 := Tryz.func98.trans (congrArg some (by kernel_rfl))
  f271 := Tryz.func93.trans (congrArg some (by kernel_rfl))
  t0 := Tryz.underlying0
  a0 := Tryz.isAgg0
  z0 := Tryz.sizeOf0
  v0 := Tryz.zeroValue0
  t3 := Tryz.underlying3
  a3 := Tryz.isAgg3
  z3 := Tryz.sizeOf3
  v3 := Tryz.zeroValue3
  t4 := Tryz.underlying4
  a4 := Tryz.isAgg4
  z4 := Tryz.sizeOf4
  v4 := Tryz.zeroValue4
  t5 := Tryz.underlying5
  a5 := Tryz.isAgg5
  z5 := Tryz.sizeOf5
  v5 := Tryz.zeroValue5
  t9 := Tryz.underlying9
  a9 := Tryz.isAgg9
  z9 := Tryz.sizeOf9
  v9 := Tryz.zeroValue9
  t21 := Tryz.underlying21
  a21 := Tryz.isAgg21
  z21 := Tryz.sizeOf21
  v21 := Tryz.zeroValue21
  t46 := Tryz.underlying120
  a46 := Tryz.isAgg120
  z46 := Tryz.sizeOf120
  v46 := Tryz.zeroValue120
  t105 := Tryz.underlying125
  a105 := Tryz.isAgg125
  z105 := Tryz.sizeOf125
  v105 := Tryz.zeroValue125
  t116 := Tryz.underlying113
  a116 := Tryz.isAgg113
  z116 := Tryz.sizeOf113
  t117 := Tryz.underlying114
  a117 := Tryz.isAgg114
  z117 := Tryz.sizeOf114
  v117 := Tryz.zeroValue114
  t119 := Tryz.underlying143
  a119 := Tryz.isAgg143
  z119 := Tryz.sizeOf143
  t124 := Tryz.underlying117
  a124 := Tryz.isAgg117
  z124 := Tryz.sizeOf117
  v124 := Tryz.zeroValue117
  t138 := Tryz.underlying145
  a138 := Tryz.isAgg145
  z138 := Tryz.sizeOf145
  v138 := Tryz.zeroValue145
  t139 := Tryz.underlying146
  a139 := Tryz.isAgg146
  z139 := Tryz.sizeOf146
  v139 := Tryz.zeroValue146
  g3 := by kernel_rfl
  g4 := by kernel_rfl }
def Tryz.lays134_ren : Go.Shelf.Ren := ⟨fun | 134 => 78 | 129 => 96 | n => n, fun | 53 => 71 | 3 => 3 | 4 => 4 | 46 => 120 | 5 => 5 | 9 => 9 | n => n, fun | n => n⟩
theorem Tryz.lays134 : Go.Proofs.Lays.n134 Tryz.prog Tryz.lays134_ren := {
  mixed := by kernel_rfl
  f129 := Tryz.func96.trans (congrArg some (by kernel_rfl))
  f134 := Tryz.func78.trans (congrArg some (by kernel_rfl))
  t3 := Tryz.underlying3
  a3 := Tryz.isAgg3
  z3 := Tryz.sizeOf3
  v3 := Tryz.zeroValue3
  t4 := Tryz.underlying4
  a4 := Tryz.isAgg4
  z4 := Tryz.sizeOf4
  v4 := Tryz.zeroValue4
  t5 := Tryz.underlying5
  a5 := Tryz.isAgg5
  z5 := Tryz.sizeOf5
  v5 := Tryz.zeroValue5
  t9 := Tryz.underlying9
  a9 := Tryz.isAgg9
  z9 := Tryz.sizeOf9
  v9 := Tryz.zeroValue9
  t46 := Tryz.underlying120
  a46 := Tryz.isAgg120
  z46 := Tryz.sizeOf120
  v46 := Tryz.zeroValue120
  t53 := Tryz.underlying71
  a53 := Tryz.isAgg71
  z53 := Tryz.sizeOf71
  v53 := Tryz.zeroValue71 }
theorem Tryz.bits_LeadingZeros64 (x : Int) (w : World) (h0 : 0 ≤ x) (h1 : x ≤ 18446744073709551615) :
    Calls Tryz.prog 78 #[.int .u64 x] w fun e w' => e = .returned (.int .i64 (64 - (Lib.bitLen x.toNat : Int))) ∧ w' = w := Any.bits_LeadingZeros64 Tryz.lays134 x w h0 h1
def Tryz.lays137_ren : Go.Shelf.Ren := ⟨fun | 137 => 60 | 217 => 83 | 266 => 98 | n => n, fun | 9 => 9 | 5 => 5 | 3 => 3 | n => n, fun | n => n⟩
theorem Tryz.lays137 : Go.Proofs.Lays.n137 Tryz.prog Tryz.lays137_ren := {
  mixed := by kernel_rfl
  f137 := Tryz.func60.trans (congrArg some (by kernel_rfl))
  f217 := Tryz.func83.trans (congrArg some (by kernel_rfl))
  f266 := Tryz.func98.trans (congrArg some (by kernel_rfl))
  t3 := Tryz.underlying3
  a3 := Tryz.isAgg3
  z3 := Tryz.sizeOf3
  v3 := Tryz.zeroValue3
  t5 := Tryz.underlying5
  a5 := Tryz.isAgg5
  z5 := Tryz.sizeOf5
  v5 := Tryz.zeroValue5
  t9 := Tryz.underlying9
  a9 := Tryz.isAgg9
  z9 := Tryz.sizeOf9
  v9 := Tryz.zeroValue9 }
open Go.RowKit in
theorem Tryz.strings_IndexByte (s : ByteArray) (c : Int) (w : World) :
    Calls Tryz.prog 60 #[.string s, .int .u8 c] w fun e w' => e = .returned (.int .i64 (Lib.indexByte s.data.toList c.toNat.toUInt8)) ∧ w' = w := Any.strings_IndexByte Tryz.lays137 s c w
def Tryz.lays103_ren : Go.Shelf.Ren := ⟨fun | 103 => 65 | 210 => 84 | 206 => 82 | n => n, fun | 9 => 9 | 4 => 4 | 24 => 105 | 3 => 3 | n => n, fun | n => n⟩
theorem Tryz.lays103 : Go.Proofs.Lays.n103 Tryz.prog Tryz.lays103_ren := {
  mixed := by kernel_rfl
  f103 := Tryz.func65.trans (congrArg some (by kernel_rfl))
  f206 := Tryz.func82.trans (congrArg some (by kernel_rfl))
  f210 := Tryz.func84.trans (congrArg some (by kernel_rfl))
  t3 := Tryz.underlying3
  a3 := Tryz.isAgg3
  z3 := Tryz.sizeOf3
  v3 := Tryz.zeroValue3
  t4 := Tryz.underlying4
  a4 := Tryz.isAgg4
  z4 := Tryz.sizeOf4
  v4 := Tryz.zeroValue4
  t9 := Tryz.underlying9
  a9 := Tryz.isAgg9
  z9 := Tryz.sizeOf9
  v9 := Tryz.zeroValue9
  t24 := Tryz.underlying105
  a24 := Tryz.isAgg105
  z24 := Tryz.sizeOf105
  v24 := Tryz.zeroValue105 }
open Go.RowKit in
theorem Tryz.strings_CutPrefix (s p : ByteArray) (w : World) :
    Calls Tryz.prog 65 #[.string s, .string p] w fun e w' => e = .returned (.tuple #[.string ⟨(Lib.trimPrefix s.data.toList p.data.toList).toArray⟩, .bool (Lib.hasPrefix s.data.toList p.data.toList)]) ∧ w' = w := Any.strings_CutPrefix Tryz.lays103 s p w
def Tryz.laysM171_ren : Go.Shelf.Ren := ⟨fun | 171 => 54 | 243 => 79 | 246 => 97 | 283 => 111 | 284 => 112 | 285 => 113 | 286 => 114 | 129 => 96 | 317 => 118 | 318 => 119 | 319 => 120 | 320 => 121 | 337 => 122 | 338 => 123 | n => n, fun | 3 => 3 | 9 => 9 | 2 => 2 | 4 => 4 | 171 => 139 | 0 => 0 | 53 => 71 | 37 => 48 | 5 => 5 | 173 => 141 | 212 => 153 | 51 => 130 | 20 => 20 | 213 => 154 | 46 => 120 | 232 => 161 | 233 => 162 | n => n, fun | 17 => 8 | 18 => 9 | 19 => 10 | n => n⟩
theorem Tryz.laysM171 : Go.Proofs.LaysM.n171 Tryz.prog Tryz.laysM171_ren := {
  mixed := by kernel_rfl
  f129 := Tryz.func96.trans (congrArg some (by kernel_rfl))
  f171 := Tryz.func54.trans (congrArg some (by kernel_rfl))
  f243 := Tryz.func79.trans (congrArg some (by kernel_rfl))
  f246 := Tryz.func97.trans (congrArg some (by kernel_rfl))
  f283 := Tryz.func111.trans (congrArg some (by kernel_rfl))
  f284 := Tryz.func112.trans (congrArg some (by kernel_rfl))
  f285 := Tryz.func113.trans (congrArg some (by kernel_rfl))
  f286 := Tryz.func114.trans (congrArg some (by kernel_rfl))
  f317 := Tryz.func118.trans (congrArg some (by kernel_rfl))
  f318 := Tryz.func119.trans (congrArg some (by kernel_rfl))
  f319 := Tryz.func120.trans (congrArg some (by kernel_rfl))
  f320 := Tryz.func121.trans (congrArg some (by kernel_rfl))
  f337 := Tryz.func122.trans (congrArg some (by kernel_rfl))
  f338 := Tryz.func123.trans (congrArg some (by kernel_rfl))
  t0 := Tryz.underlying0
  a0 := Tryz.isAgg0
  z0 := Tryz.sizeOf0
  v0 := Tryz.zeroValue0
  t2 := Tryz.underlying2
  a2 := Tryz.isAgg2
  z2 := Tryz.sizeOf2
  v2 := Tryz.zeroValue2
  t3 := Tryz.underlying3
  a3 := Tryz.isAgg3
  z3 := Tryz.sizeOf3
  v3 := Tryz.zeroValue3
  t4 := Tryz.underlying4
  a4 := Tryz.isAgg4
  z4 := Tryz.sizeOf4
  v4 := Tryz.zeroValue4
  t5 := Tryz.underlying5
  a5 := Tryz.isAgg5
  z5 := Tryz.sizeOf5
  v5 := Tryz.zeroValue5
  t9 := Tryz.underlying9
  a9 := Tryz.isAgg9
  z9 := Tryz.sizeOf9
  v9 := Tryz.zeroValue9
  t20 := Tryz.underlying20
  a20 := Tryz.isAgg20
  z20 := Tryz.sizeOf20
  v20 := Tryz.zeroValue20
  t37 := Tryz.underlying48
  a37 := Tryz.isAgg48
  z37 := Tryz.sizeOf48
  v37 := Tryz.zeroValue48
  t46 := Tryz.underlying120
  a46 := Tryz.isAgg120
  z46 := Tryz.sizeOf120
  v46 := Tryz.zeroValue120
  t51 := Tryz.underlying130
  a51 := Tryz.isAgg130
  z51 := Tryz.sizeOf130
  v51 := Tryz.zeroValue130
  t53 := Tryz.underlying71
  a53 := Tryz.isAgg71
  z53 := Tryz.sizeOf71
  v53 := Tryz.zeroValue71
  t171 := Tryz.underlying139
  a171 := Tryz.isAgg139
  z171 := Tryz.sizeOf139
  v171 := Tryz.zeroValue139
  t173 := Tryz.underlying141
  a173 := Tryz.isAgg141
  z173 := Tryz.sizeOf141
  v173 := Tryz.zeroValue141
  t212 := Tryz.underlying153
  a212 := Tryz.isAgg153
  z212 := Tryz.sizeOf153
  v212 := Tryz.zeroValue153
  t213 := Tryz.underlying154
  a213 := Tryz.isAgg154
  z213 := Tryz.sizeOf154
  t232 := Tryz.underlying161
  a232 := Tryz.isAgg161
  z232 := Tryz.sizeOf161
  v232 := Tryz.zeroValue161
  t233 := Tryz.underlying162
  a233 := Tryz.isAgg162
  z233 := Tryz.sizeOf162
  v233 := Tryz.zeroValue162
  g17 := by kernel_rfl
  g18 := by kernel_rfl
  g19 := by kernel_rfl
  i0 := by kernel_rfl
  i2 := by kernel_rfl
  i3 := by kernel_rfl
  i4 := by kernel_rfl
  i5 := by kernel_rfl
  i9 := by kernel_rfl
  i20 := by kernel_rfl
  i37 := by kernel_rfl
  i46 := by kernel_rfl
  i51 := by kernel_rfl
  i53 := by kernel_rfl
  i171 := by kernel_rfl
  i173 := by kernel_rfl
  i212 := by kernel_rfl
  i232 := by kernel_rfl
  i233 := by kernel_rfl
  m17 := by kernel_rfl
  m18 := by kernel_rfl
  m19 := by kernel_rfl }
open Go.RowKit Go.Sort Go.Lib in
theorem Tryz.strconv_Itoa (n : Int) (h0 : -9223372036854775808 ≤ n) (h1 : n ≤ 9223372036854775807) (w : World) (htab : Lib.TabIs Tryz.prog w "internal/strconv.uint64pow10" .u64 Lib.pow10Tab) :
    Calls Tryz.prog 54 #[.int .i64 n] w fun e w' => e = .returned (.string ⟨(Lib.itoa n).toArray⟩) ∧ ∃ k os, w' = grow (w.drewN k) os := Any.strconv_Itoa Tryz.laysM171 n h0 h1 w htab
def Tryz.laysPu14_ren : Go.Shelf.Ren := ⟨fun | 14 => 77 | 16 => 94 | 17 => 95 | 19 => 105 | 20 => 106 | 21 => 107 | 22 => 108 | 23 => 109 | 24 => 110 | 25 => 116 | 27 => 54 | 26 => 117 | 28 => 79 | 29 => 97 | 30 => 111 | 31 => 112 | 32 => 113 | 33 => 114 | 35 => 96 | 34 => 118 | 36 => 119 | 37 => 120 | 38 => 121 | 39 => 122 | 40 => 123 | n => n, fun | 9 => 9 | 3 => 3 | 22 => 71 | 24 => 52 | 25 => 118 | 4 => 4 | 34 => 134 | 5 => 5 | 36 => 120 | 37 => 48 | 0 => 0 | 39 => 136 | 21 => 21 | 44 => 150 | 47 => 77 | 50 => 159 | 48 => 157 | 2 => 2 | 52 => 139 | 55 => 141 | 59 => 153 | 60 => 130 | 20 => 20 | 61 => 154 | 65 => 161 | 66 => 162 | 67 => 55 | n => n, fun | 0 => 6 | 1 => 7 | 2 => 8 | 3 => 9 | 4 => 10 | n => n⟩
theorem Tryz.laysPu14 : Go.Proofs.LaysPu.n14 Tryz.prog Tryz.laysPu14_ren := {
  mixed := by kernel_rfl
  f14 := Tryz.func77.trans (congrArg some (by kernel_rfl))
  f16 := Tryz.func94.trans (congrArg some (by kernel_rfl))
  f17 := Tryz.func95.trans (congrArg some (by kernel_rfl))
  f19 := Tryz.func105.trans (congrArg some (by kernel_rfl))
  f20 := Tryz.func106.trans (congrArg some (by kernel_rfl))
  f21 := Tryz.func107.trans (congrArg some (by kernel_rfl))
  f22 := Tryz.func108.trans (congrArg some (by kernel_rfl))
  f23 := Tryz.func109.trans (congrArg some (by kernel_rfl))
  f24 := Tryz.func110.trans (congrArg some (by kernel_rfl))
  f25 := Tryz.func116.trans (congrArg some (by kernel_rfl))
  f26 := Tryz.func117.trans (congrArg some (by kernel_rfl))
  f27 := Tryz.func54.trans (congrArg some (by kernel_rfl))
  f28 := Tryz.func79.trans (congrArg some (by kernel_rfl))
  f29 := Tryz.func97.trans (congrArg some (by kernel_rfl))
  f30 := Tryz.func111.trans (congrArg some (by kernel_rfl))
  f31 := Tryz.func112.trans (congrArg some (by kernel_rfl))
  f32 := Tryz.func113.trans (congrArg some (by kernel_rfl))
  f33 := Tryz.func114.trans (congrArg some (by kernel_rfl))
  f34 := Tryz.func118.trans (congrArg some (by kernel_rfl))
  f35 := Tryz.func96.trans (congrArg some (by kernel_rfl))
  f36 := Tryz.func119.trans (congrArg some (by kernel_rfl))
  f37 := Tryz.func120.trans (congrArg some (by kernel_rfl))
  f38 := Tryz.func121.trans (congrArg some (by kernel_rfl))
  f39 := Tryz.func122.trans (congrArg some (by kernel_rfl))
  f40 := Tryz.func123.trans (congrArg some (by kernel_rfl))
  t0 := Tryz.underlying0
  a0 := Tryz.isAgg0
  z0 := Tryz.sizeOf0
  v0 := Tryz.zeroValue0
  i0 := by kernel_rfl
  t2 := Tryz.underlying2
  a2 := Tryz.isAgg2
  z2 := Tryz.sizeOf2
  v2 := Tryz.zeroValue2
  i2 := by kernel_rfl
  t3 := Tryz.underlying3
  a3 := Tryz.isAgg3
  z3 := Tryz.sizeOf3
  v3 := Tryz.zeroValue3
  i3 := by kernel_rfl
  t4 := Tryz.underlying4
  a4 := Tryz.isAgg4
  z4 := Tryz.sizeOf4
  v4 := Tryz.zeroValue4
  i4 := by kernel_rfl
  t5 := Tryz.underlying5
  a5 := Tryz.isAgg5
  z5 := Tryz.sizeOf5
  v5 := Tryz.zeroValue5
  i5 := by kernel_rfl
  t9 := Tryz.underlying9
  a9 := Tryz.isAgg9
  z9 := Tryz.sizeOf9
  v9 := Tryz.zeroValue9
  i9 := by kernel_rfl
  t20 := Tryz.underlying20
  a20 := Tryz.isAgg20
  z20 := Tryz.sizeOf20
  v20 := Tryz.zeroValue20
  i20 := by kernel_rfl
  t21 := Tryz.underlying21
  a21 := Tryz.isAgg21
  z21 := Tryz.sizeOf21
  v21 := Tryz.zeroValue21
  i21 := by kernel_rfl
  t22 := Tryz.underlying71
  a22 := Tryz.isAgg71
  z22 := Tryz.sizeOf71
  v22 := Tryz.zeroValue71
  i22 := by kernel_rfl
  t24 := Tryz.underlying52
  a24 := Tryz.isAgg52
  z24 := Tryz.sizeOf52
  v24 := Tryz.zeroValue52
  i24 := by kernel_rfl
  t25 := Tryz.underlying118
  a25 := Tryz.isAgg118
  z25 := Tryz.sizeOf118
  v25 := Tryz.zeroValue118
  i25 := by kernel_rfl
  t34 := Tryz.underlying134
  a34 := Tryz.isAgg134
  z34 := Tryz.sizeOf134
  v34 := Tryz.zeroValue134
  i34 := by kernel_rfl
  c34 := by kernel_rfl
  t36 := Tryz.underlying120
  a36 := Tryz.isAgg120
  z36 := Tryz.sizeOf120
  v36 := Tryz.zeroValue120
  i36 := by kernel_rfl
  t37 := Tryz.underlying48
  a37 := Tryz.isAgg48
  z37 := Tryz.sizeOf48
  v37 := Tryz.zeroValue48
  i37 := by kernel_rfl
  t39 := Tryz.underlying136
  a39 := Tryz.isAgg136
  z39 := Tryz.sizeOf136
  v39 := Tryz.zeroValue136
  i39 := by kernel_rfl
  t44 := Tryz.underlying150
  a44 := Tryz.isAgg150
  z44 := Tryz.sizeOf150
  v44 := Tryz.zeroValue150
  i44 := by kernel_rfl
  t47 := Tryz.underlying77
  a47 := Tryz.isAgg77
  z47 := Tryz.sizeOf77
  v47 := Tryz.zeroValue77
  i47 := by kernel_rfl
  t48 := Tryz.underlying157
  a48 := Tryz.isAgg157
  z48 := Tryz.sizeOf157
  v48 := Tryz.zeroValue157
  i48 := by kernel_rfl
  t50 := Tryz.underlying159
  a50 := Tryz.isAgg159
  z50 := Tryz.sizeOf159
  v50 := Tryz.zeroValue159
  i50 := by kernel_rfl
  t52 := Tryz.underlying139
  a52 := Tryz.isAgg139
  z52 := Tryz.sizeOf139
  v52 := Tryz.zeroValue139
  i52 := by kernel_rfl
  t55 := Tryz.underlying141
  a55 := Tryz.isAgg141
  z55 := Tryz.sizeOf141
  v55 := Tryz.zeroValue141
  i55 := by kernel_rfl
  t59 := Tryz.underlying153
  a59 := Tryz.isAgg153
  z59 := Tryz.sizeOf153
  v59 := Tryz.zeroValue153
  i59 := by kernel_rfl
  t60 := Tryz.underlying130
  a60 := Tryz.isAgg130
  z60 := Tryz.sizeOf130
  v60 := Tryz.zeroValue130
  i60 := by kernel_rfl
  t61 := Tryz.underlying154
  a61 := Tryz.isAgg154
  z61 := Tryz.sizeOf154
  t65 := Tryz.underlying161
  a65 := Tryz.isAgg161
  z65 := Tryz.sizeOf161
  v65 := Tryz.zeroValue161
  i65 := by kernel_rfl
  t66 := Tryz.underlying162
  a66 := Tryz.isAgg162
  z66 := Tryz.sizeOf162
  v66 := Tryz.zeroValue162
  i66 := by kernel_rfl
  t67 := Tryz.underlying55
  a67 := Tryz.isAgg55
  z67 := Tryz.sizeOf55
  v67 := Tryz.zeroValue55
  i67 := by kernel_rfl
  g0 := by kernel_rfl
  m0 := by kernel_rfl
  g1 := by kernel_rfl
  m1 := by kernel_rfl
  g2 := by kernel_rfl
  m2 := by kernel_rfl
  g3 := by kernel_rfl
  m3 := by kernel_rfl
  g4 := by kernel_rfl
  m4 := by kernel_rfl }
open Go.RowKit in
theorem Tryz.strconv_ParseUint_10_at64_ok (s : ByteArray) (hmax : s.size ≤ 9223372036854775806) (u : Nat) (h : Lib.parseUintB 64 s.data.toList = .ok u) (w : World) :
    Calls Tryz.prog 77 #[.string s, .int .i64 10, .int .i64 64] w fun e w' => e = .returned (.tuple #[.int .u64 u, .nilIface]) ∧ (w' = w ∨ w' = Lib.bytesWorld w 5 s) := Any.strconv_ParseUint_10_at64_ok Tryz.laysPu14 s hmax u h w
open Go.RowKit in
theorem Tryz.strconv_ParseUint_10_at64_range (s : ByteArray) (hlim : s.size ≤ 281474976710656) (h : Lib.parseUintB 64 s.data.toList = .range) (ev : Value) (w : World) (hv : w.cell? ⟨7, 0, none⟩ = some ev) (hev : ev = .nilIface ∨ ∃ te pe, ev = .iface te pe) :
    Calls Tryz.prog 77 #[.string s, .int .i64 10, .int .i64 64] w fun e w' => ∃ N, e = .returned (.tuple #[.int .u64 18446744073709551615, .iface 136 (.pointer (some ⟨N, 0, none⟩))]) ∧ w.heap.size ≤ N ∧ w'.heap[N]? = some (.cells #[.string ⟨#[80, 97, 114, 115, 101, 85, 105, 110, 116]⟩, .string s, ev] 150 (0, 0)) ∧ Below w.heap.size w w' := Any.strconv_ParseUint_10_at64_range Tryz.laysPu14 s hlim h ev w hv hev
def Tryz.lays143_ren : Go.Shelf.Ren := ⟨fun | 143 => 100 | 219 => 69 | 217 => 83 | 225 => 87 | 224 => 88 | 267 => 89 | 266 => 98 | 314 => 101 | n => n, fun | 9 => 9 | 3 => 3 | 4 => 4 | 5 => 5 | 46 => 120 | 146 => 131 | 51 => 130 | n => n, fun | 1 => 3 | n => n⟩
theorem Tryz.lays143 : Go.Proofs.Lays.n143 Tryz.prog Tryz.lays143_ren := {
  mixed := by kernel_rfl
  f143 := Tryz.func100.trans (congrArg some (by kernel_rfl))
  f217 := Tryz.func83.trans (congrArg some (by kernel_rfl))
  f219 := Tryz.func69.trans (congrArg some (by kernel_rfl))
  f224 := Tryz.func88.trans (congrArg some (by kernel_rfl))
  f225 := Tryz.func87.trans (congrArg some (by kernel_rfl))
  f266 := Tryz.func98.trans (congrArg some (by kernel_rfl))
  f267 := Tryz.func89.trans (congrArg some (by kernel_rfl))
  f314 := Tryz.func101.trans (congrArg some (by kernel_rfl))
  t3 := Tryz.underlying3
  a3 := Tryz.isAgg3
  z3 := Tryz.sizeOf3
  v3 := Tryz.zeroValue3
  t4 := Tryz.underlying4
  a4 := Tryz.isAgg4
  z4 := Tryz.sizeOf4
  v4 := Tryz.zeroValue4
  t5 := Tryz.underlying5
  a5 := Tryz.isAgg5
  z5 := Tryz.sizeOf5
  v5 := Tryz.zeroValue5
  t9 := Tryz.underlying9
  a9 := Tryz.isAgg9
  z9 := Tryz.sizeOf9
  v9 := Tryz.zeroValue9
  t46 := Tryz.underlying120
  a46 := Tryz.isAgg120
  z46 := Tryz.sizeOf120
  v46 := Tryz.zeroValue120
  t51 := Tryz.underlying130
  a51 := Tryz.isAgg130
  z51 := Tryz.sizeOf130
  v51 := Tryz.zeroValue130
  t146 := Tryz.underlying131
  a146 := Tryz.isAgg131
  z146 := Tryz.sizeOf131
  v146 := Tryz.zeroValue131
  g1 := by kernel_rfl }
open Go.RowKit Go.Lib in
theorem Tryz.strings_Index_one (s : ByteArray) (c : UInt8) (w : World) :
    Calls Tryz.prog 100 #[.string s, .string ⟨#[c]⟩] w fun e w' => e = .returned (.int .i64 (Lib.indexByte s.data.toList c)) ∧ w' = w := Any.strings_Index_one Tryz.lays143 s c w
def Tryz.lays145_ren : Go.Shelf.Ren := ⟨fun | 145 => 28 | 220 => 46 | 219 => 69 | 217 => 83 | 225 => 87 | 224 => 88 | 267 => 89 | 266 => 98 | 314 => 101 | n => n, fun | 9 => 9 | 4 => 4 | 59 => 68 | 3 => 3 | 5 => 5 | 46 => 120 | 146 => 131 | 51 => 130 | n => n, fun | 1 => 3 | n => n⟩
theorem Tryz.lays145 : Go.Proofs.Lays.n145 Tryz.prog Tryz.lays145_ren := {
  mixed := by kernel_rfl
  f145 := Tryz.func28.trans (congrArg some (by kernel_rfl))
  f217 := Tryz.func83.trans (congrArg some (by kernel_rfl))
  f219 := Tryz.func69.trans (congrArg some (by kernel_rfl))
  f220 := Tryz.func46.trans (congrArg some (by kernel_rfl))
  f224 := Tryz.func88.trans (congrArg some (by kernel_rfl))
  f225 := Tryz.func87.trans (congrArg some (by kernel_rfl))
  f266 := Tryz.func98.trans (congrArg some (by kernel_rfl))
  f267 := Tryz.func89.trans (congrArg some (by kernel_rfl))
  f314 := Tryz.func101.trans (congrArg some (by kernel_rfl))
  t3 := Tryz.underlying3
  a3 := Tryz.isAgg3
  z3 := Tryz.sizeOf3
  v3 := Tryz.zeroValue3
  t4 := Tryz.underlying4
  a4 := Tryz.isAgg4
  z4 := Tryz.sizeOf4
  v4 := Tryz.zeroValue4
  t5 := Tryz.underlying5
  a5 := Tryz.isAgg5
  z5 := Tryz.sizeOf5
  v5 := Tryz.zeroValue5
  t9 := Tryz.underlying9
  a9 := Tryz.isAgg9
  z9 := Tryz.sizeOf9
  v9 := Tryz.zeroValue9
  t46 := Tryz.underlying120
  a46 := Tryz.isAgg120
  z46 := Tryz.sizeOf120
  v46 := Tryz.zeroValue120
  t51 := Tryz.underlying130
  a51 := Tryz.isAgg130
  z51 := Tryz.sizeOf130
  v51 := Tryz.zeroValue130
  t59 := Tryz.underlying68
  a59 := Tryz.isAgg68
  z59 := Tryz.sizeOf68
  v59 := Tryz.zeroValue68
  t146 := Tryz.underlying131
  a146 := Tryz.isAgg131
  z146 := Tryz.sizeOf131
  v146 := Tryz.zeroValue131
  g1 := by kernel_rfl }
open Go.RowKit Go.Lib in
theorem Tryz.strings_Cut (s sep : ByteArray) (m : Int) (w : World) (hs : s.size < 4294967281) (hm : w.cell? ⟨3, 0, none⟩ = some (.int .i64 m)) :
    Calls Tryz.prog 28 #[.string s, .string sep] w fun e w' => e = .returned (.tuple #[.string ⟨(Lib.cut s.data.toList sep.data.toList).1.toArray⟩, .string ⟨(Lib.cut s.data.toList sep.data.toList).2.1.toArray⟩, .bool (Lib.cut s.data.toList sep.data.toList).2.2]) ∧ ∃ n, w' = w.drewN n := Any.strings_Cut Tryz.lays145 s sep m w hs hm
def Tryz.lays99_ren : Go.Shelf.Ren := ⟨fun | 99 => 59 | 206 => 82 | n => n, fun | 9 => 9 | 4 => 4 | 3 => 3 | n => n, fun | n => n⟩
theorem Tryz.lays99 : Go.Proofs.Lays.n99 Tryz.prog Tryz.lays99_ren := {
  mixed := by kernel_rfl
  f99 := Tryz.func59.trans (congrArg some (by kernel_rfl))
  f206 := Tryz.func82.trans (congrArg some (by kernel_rfl))
  t3 := Tryz.underlying3
  a3 := Tryz.isAgg3
  z3 := Tryz.sizeOf3
  v3 := Tryz.zeroValue3
  t4 := Tryz.underlying4
  a4 := Tryz.isAgg4
  z4 := Tryz.sizeOf4
  v4 := Tryz.zeroValue4
  t9 := Tryz.underlying9
  a9 := Tryz.isAgg9
  z9 := Tryz.sizeOf9
  v9 := Tryz.zeroValue9 }
open Go.RowKit Go.Lib in
theorem Tryz.strings_HasPrefix (s p : ByteArray) (w : World) :
    Calls Tryz.prog 59 #[.string s, .string p] w fun e w' => e = .returned (.bool (Lib.hasPrefix s.data.toList p.data.toList)) ∧ w' = w := Any.strings_HasPrefix Tryz.lays99 s p w
def Tryz.lays264_ren : Go.Shelf.Ren := ⟨fun | 264 => 49 | n => n, fun | 53 => 71 | 46 => 120 | n => n, fun | n => n⟩
theorem Tryz.lays264 : Go.Proofs.Lays.n264 Tryz.prog Tryz.lays264_ren := {
  mixed := by kernel_rfl
  f264 := Tryz.func49.trans (congrArg some (by kernel_rfl))
  t46 := Tryz.underlying120
  a46 := Tryz.isAgg120
  z46 := Tryz.sizeOf120
  v46 := Tryz.zeroValue120
  t53 := Tryz.underlying71
  a53 := Tryz.isAgg71
  z53 := Tryz.sizeOf71
  v53 := Tryz.zeroValue71 }
open Go.RowKit Go.Lib in
theorem Tryz.bits_Mul64 (x y : Nat) (hx : x < 18446744073709551616) (hy : y < 18446744073709551616) (w : World) :
    Calls Tryz.prog 49 #[.int .u64 x, .int .u64 y] w fun e w' => e = .returned (.tuple #[.int .u64 ((x * y / 18446744073709551616 : Nat) : Int), .int .u64 ((x * y % 18446744073709551616 : Nat) : Int)]) ∧ w' = w := Any.bits_Mul64 Tryz.lays264 x y hx hy w
end Go.Proofs
end
section
namespace Go.Proofs.YtahjkibjcibpgaaGreatDoor.U
open Go.RowKit Go.Shelf Go.Lib
def unitCells : Array Value := ((units.map fun u => [Value.string ⟨u.1.toArray⟩, .int .i64 (u.2.1 : Nat), .int .u64 (u.2.2.1 : Nat), .int .u64 (u.2.2.2 : Nat)]).flatten).toArray
structure UW (w : World) : Prop where
  units : ∃ t fr, w.heap[0]? = some (.cells unitCells t fr)
  most : ∃ m, w.cell? ⟨3, 0, none⟩ = some (.int .i64 m)
  err : ∃ tp p, w.cell? ⟨7, 0, none⟩ = some (.iface tp p)
  pow : Lib.TabIs Tryz.prog w "internal/strconv.uint64pow10" .u64 Lib.pow10Tab
theorem lt_of_heap {w : World} {g : Nat} {o : Obj} (h : w.heap[g]? = some o) : g < w.heap.size := (Array.getElem?_eq_some_iff.1 h).1
theorem heap_below {w w' : World} {B g : Nat} {o : Obj} (hb : Below B w w') (hB : w.heap.size ≤ B) (h : w.heap[g]? = some o) : w'.heap[g]? = some o := (hb.block g (Nat.lt_of_lt_of_le (lt_of_heap h) hB)).trans h
theorem cell_below {w w' : World} {B g : Nat} {v : Value} (hb : Below B w w') (hB : w.heap.size ≤ B) (h : w.cell? ⟨g, 0, none⟩ = some v) : w'.cell? ⟨g, 0, none⟩ = some v :=
  (hb.cell (p := ⟨g, 0, none⟩) (Nat.lt_of_lt_of_le (World.block_lt_of_cell? _ _ h) hB)).trans h
theorem UW.below {w w' : World} {B : Nat} (h : UW w) (hb : Below B w w') (hB : w.heap.size ≤ B) : UW w' :=
  ⟨let ⟨t, fr, e⟩ := h.units; ⟨t, fr, heap_below hb hB e⟩, let ⟨m, e⟩ := h.most; ⟨m, cell_below hb hB e⟩, let ⟨t, p, e⟩ := h.err; ⟨t, p, cell_below hb hB e⟩, Joins.tab_stays (g := 8) (by kernel_rfl) h.pow hb hB⟩
theorem UW.step {w w' : World} (h : UW w) (hb : Below w.heap.size w w') : UW w' := h.below hb (Nat.le_refl _)
set_option maxHeartbeats 1000000 in
theorem digits_any (s : ByteArray) (most : Int) (w : World) (hs : s.size ≤ 9223372036854775807) :
    Calls Tryz.prog 29 #[.string s, .int .i64 most] w fun e w' => e = .returned (.bool (digsOk s.data.toList most)) ∧ Below w.heap.size w w' := by
  have hcon := Any.strings_Trim_laid Tryz.lays160 (by kernel_rfl) s ⟨#[48, 49, 50, 51, 52, 53, 54, 55, 56, 57]⟩ w hs (by decide) (ascii_of_all (by decide))
  change Calls Tryz.prog 47 _ _ (fun e w' => e = .returned (.string ⟨(Lib.trimS s.data.toList cs10).toArray⟩) ∧ Below w.heap.size w w') at hcon
  have ht := trim_digits s.data.toList
  have hz : (s.size : Int) = (s.data.toList.length : Int) := by rw [Lib.size_eq]
  unfold digsOk
  generalize Lib.trimS s.data.toList cs10 = r at hcon ht
  by_cases he : s.data.toList = []
  · have he1 : s.toList.isEmpty = true := by rw [Lib.toList_data, he]; rfl
    clear hcon
    go_enter Tryz.func29, Tryz.ntmps29
    go_wp2_with fail
    go_ret
    exact ⟨by rw [he]; rfl, Below.refl _ _⟩
  · have he1 : s.toList.isEmpty = false := by rw [Lib.toList_data]; cases h : s.data.toList with | nil => exact absurd h he | cons _ _ => rfl
    have he2 : s.data.toList.isEmpty = false := by rw [← Lib.toList_data]; exact he1
    rw [he2]
    clear he he2
    by_cases hm : (s.size : Int) ≤ most
    · have hm1 : decide ((s.size : Int) ≤ most) = true := decide_eq_true hm
      rw [hz] at hm
      have hm2 : decide ((s.data.toList.length : Int) ≤ most) = true := decide_eq_true hm
      rw [hm2]
      clear hm hm2 hz
      by_cases hr : r = []
      · subst hr
        rw [show s.data.toList.all isDig = true from ht.1 rfl]
        clear ht
        go_enter Tryz.func29, Tryz.ntmps29
        go_wp2_with (go_at_call 47; refine hcon.mono ?_; rintro e w' ⟨rfl, hB⟩)
        go_ret
        exact ⟨rfl, hB⟩
      · have hr1 : s.data.toList.all isDig = false := by
          cases h : s.data.toList.all isDig with
          | false => rfl
          | true => exact absurd (ht.2 h) hr
        rw [hr1]
        have hr2 : r.isEmpty = false := by cases r with | nil => exact absurd rfl hr | cons _ _ => rfl
        have hr3 : (⟨r.toArray⟩ : ByteArray).toList.isEmpty = false := by rw [Lib.toList_data]; exact hr2
        clear ht hr hr1
        generalize (⟨r.toArray⟩ : ByteArray) = r' at hcon hr3
        clear hr2
        go_enter Tryz.func29, Tryz.ntmps29
        go_wp2_with (go_at_call 47; refine hcon.mono ?_; rintro e w' ⟨rfl, hB⟩)
        go_ret
        exact ⟨rfl, hB⟩
    · have hm1 : decide ((s.size : Int) ≤ most) = false := decide_eq_false hm
      rw [hz] at hm
      have hm2 : decide ((s.data.toList.length : Int) ≤ most) = false := decide_eq_false hm
      rw [hm2]
      clear hm hm2 hz hcon ht
      go_enter Tryz.func29, Tryz.ntmps29
      go_wp2_with fail
      go_ret
      exact ⟨rfl, Below.refl _ _⟩
theorem bytes_below {w w' : World} {t : TypeId} {s : ByteArray} (h : w' = w ∨ w' = Lib.bytesWorld w t s) : Below w.heap.size w w' := by
  rcases h with rfl | rfl
  · exact Below.refl _ _
  · exact Lib.bytesWorld_below _ _ _
theorem value_small (s : ByteArray) (hs : s.size ≤ 281474976710656) (hne : s.data.toList ≠ []) (hd : s.data.toList.all isDig = true) (hv : val s.data.toList ≤ 54043195528445952) (w : World) :
    Calls Tryz.prog 48 #[.string s] w fun e w' => e = .returned (.int .u64 (val s.data.toList : Nat)) ∧ Below w.heap.size w w' := by
  have hp := parse64 s.data.toList hne hd
  rw [if_pos (by omega)] at hp
  have hcon := Tryz.strconv_ParseUint_10_at64_ok s (by omega) _ hp w
  generalize val s.data.toList = v at hcon hv ⊢
  clear hp hd hne
  have h1 : decide ((54043195528445952 : Int) < (v : Int)) = false := decide_eq_false (by omega)
  go_enter Tryz.func48, Tryz.ntmps48
  go_wp2_with (go_at_call 77; refine hcon.mono ?_; rintro e w' ⟨rfl, hB⟩)
  go_ret
  exact ⟨rfl, bytes_below hB⟩
theorem value_mid (s : ByteArray) (hs : s.size ≤ 281474976710656) (hne : s.data.toList ≠ []) (hd : s.data.toList.all isDig = true) (hv : ¬ val s.data.toList ≤ 54043195528445952) (hv2 : val s.data.toList ≤ 18446744073709551615) (w : World) :
    Calls Tryz.prog 48 #[.string s] w fun e w' => e = .returned (.int .u64 54043195528445952) ∧ Below w.heap.size w w' := by
  have hp := parse64 s.data.toList hne hd
  rw [if_pos hv2] at hp
  have hcon := Tryz.strconv_ParseUint_10_at64_ok s (by omega) _ hp w
  generalize val s.data.toList = v at hcon hv hv2
  clear hp hd hne hv2
  have h1 : decide ((54043195528445952 : Int) < (v : Int)) = true := decide_eq_true (by omega)
  go_enter Tryz.func48, Tryz.ntmps48
  go_wp2_with (go_at_call 77; refine hcon.mono ?_; rintro e w' ⟨rfl, hB⟩)
  go_ret
  exact ⟨rfl, bytes_below hB⟩
theorem value_great (s : ByteArray) (hs : s.size ≤ 281474976710656) (hne : s.data.toList ≠ []) (hd : s.data.toList.all isDig = true) (hv : ¬ val s.data.toList ≤ 18446744073709551615) (w : World) (hw : UW w) :
    Calls Tryz.prog 48 #[.string s] w fun e w' => e = .returned (.int .u64 54043195528445952) ∧ Below w.heap.size w w' := by
  have hp := parse64 s.data.toList hne hd
  rw [if_neg hv] at hp
  obtain ⟨tp, p, hc⟩ := hw.err
  have hcon := Tryz.strconv_ParseUint_10_at64_range s hs hp (.iface tp p) w hc (Or.inr ⟨tp, p, rfl⟩)
  clear hp hd hne hv hc
  generalize (18446744073709551615 : Int) = big at hcon
  go_enter Tryz.func48, Tryz.ntmps48
  go_wp2_with (go_at_call 77; refine hcon.mono ?_; rintro e w' ⟨N, rfl, _, _, hB⟩)
  go_ret
  exact ⟨rfl, hB⟩
theorem value_any (s : ByteArray) (hs : s.size ≤ 281474976710656) (hne : s.data.toList ≠ []) (hd : s.data.toList.all isDig = true) (w : World) (hw : UW w) :
    Calls Tryz.prog 48 #[.string s] w fun e w' => e = .returned (.int .u64 (cap (val s.data.toList) : Nat)) ∧ Below w.heap.size w w' := by
  unfold cap
  by_cases h1 : val s.data.toList ≤ 54043195528445952
  · rw [if_pos h1]; exact value_small s hs hne hd h1 w
  · rw [if_neg h1]
    by_cases h2 : val s.data.toList ≤ 18446744073709551615
    · exact value_mid s hs hne hd h1 h2 w
    · exact value_great s hs hne hd h2 w hw
theorem add64 (x y c : Nat) (hx : x < 18446744073709551616) (hy : y < 18446744073709551616) (hc : c ≤ 1) (w : World) :
    (callFunc 50 #[.int .u64 x, .int .u64 y, .int .u64 c]).run Tryz.prog w =
      .ok (.value (.tuple #[.int .u64 (((x + y + c) % 18446744073709551616 : Nat) : Int), .int .u64 (((x + y + c) / 18446744073709551616 : Nat) : Int)])) w := by
  rw [run_callFunc_extern Tryz.func50 (by kernel_rfl) (by kernel_rfl) (by kernel_rfl) (e := add64Entry) (by kernel_rfl), run_add64 x y c (by omega) (by omega) (by omega) (by omega)]
  simp only [Result.andThen]
  congr 5 <;> omega
end Go.Proofs.YtahjkibjcibpgaaGreatDoor.U
end
section
namespace Go.Proofs.YtahjkibjcibpgaaGreatDoor.U
open Go.ChangeShapes Go.WideShapes Go.ChangeAt Go.RowKit
theorem own : ownKnob Tryz.prog.godebug = none := by kernel_rfl
theorem heap_of_var {P : Program} {W : World} {n : String} {g : Nat} {cs : Array Value} (hg : P.globalNamed n = some g) (h : W.var? P n = some cs) : ∃ t fr, W.heap[g]? = some (.cells cs t fr) := by
  unfold World.var? at h
  simp only [hg, Option.bind_some] at h
  split at h
  · rename_i c t fr he
    have := Option.some.inj h
    subst this
    exact ⟨t, fr, he⟩
  · cases h
theorem struct4 {fuel : Nat} {P : Program} {w : World} {base : Nat} {sp : Nat → Bool} {held : Bool} {t : TypeId} {f0 f1 f2 f3 : Field} {k1 k2 k3 : IntKind} {cs : List Value} {s : List UInt8} {a b c : Int} {p : List MemPlace}
    (ht : P.underlying t = some (.struct #[f0, f1, f2, f3])) (h0 : P.underlying f0.type = some .string) (h1 : P.underlying f1.type = some (.int k1)) (h2 : P.underlying f2.type = some (.int k2)) (h3 : P.underlying f3.type = some (.int k3))
    (ho : f0.offset = 0 ∧ f1.offset = 1 ∧ f2.offset = 2 ∧ f3.offset = 3) (hc : P.cellsOf f0.type = 1 ∧ P.cellsOf f1.type = 1 ∧ P.cellsOf f2.type = 1 ∧ P.cellsOf f3.type = 1) (hct : P.cellsOf t = 4)
    (h : DataW.trod (fun _ => ()) P w base sp held fuel t cs = some (.agg [.lit (.string s), .lit (.int k1 a), .lit (.int k2 b), .lit (.int k3 c)], p)) :
    cs = [Value.string ⟨s.toArray⟩, .int k1 a, .int k2 b, .int k3 c] := by
  obtain ⟨xs, n, rfl, hx, hl, hxl, hall⟩ := DataW.trod_struct ht h
  rw [hct] at hl
  obtain ⟨c0, c1, c2, c3, rfl⟩ : ∃ c0 c1 c2 c3, cs = [c0, c1, c2, c3] := by
    match cs, hl with
    | [a, b, c, d], _ => exact ⟨a, b, c, d, rfl⟩
  obtain ⟨x0, x1, x2, x3, rfl⟩ : ∃ x0 x1 x2 x3, xs = [x0, x1, x2, x3] := by
    match xs, hxl with
    | [a, b, c, d], _ => exact ⟨a, b, c, d, rfl⟩
  obtain ⟨o0, o1, o2, o3⟩ := ho
  obtain ⟨e0, e1, e2, e3⟩ := hc
  have g0 := hall 0 f0 rfl
  have g1 := hall 1 f1 rfl
  have g2 := hall 2 f2 rfl
  have g3 := hall 3 f3 rfl
  rw [o0, e0] at g0
  rw [o1, e1] at g1
  rw [o2, e2] at g2
  rw [o3, e3] at g3
  obtain ⟨s', i0, j0, _⟩ := DataW.trod_string h0 g0
  obtain ⟨n1, i1, j1, _⟩ := DataW.trod_int h1 g1
  obtain ⟨n2, i2, j2, _⟩ := DataW.trod_int h2 g2
  obtain ⟨n3, i3, j3, _⟩ := DataW.trod_int h3 g3
  simp at i0 i1 i2 i3 hx
  obtain ⟨⟨k0, k1, k2, k3⟩, _⟩ := hx
  subst j0 j1 j2 j3
  simp at k0 k1 k2 k3
  subst i0 i1 i2 i3 k1 k2 k3
  subst k0
  rfl
def rowOf (u : List UInt8 × Nat × Nat × Nat) : List Value := [Value.string ⟨u.1.toArray⟩, .int .i64 (u.2.1 : Nat), .int .u64 (u.2.2.1 : Nat), .int .u64 (u.2.2.2 : Nat)]
def dataOf (u : List UInt8 × Nat × Nat × Nat) : DataW Unit := .agg [.lit (.string u.1), .lit (.int .i64 (u.2.1 : Nat)), .lit (.int .u64 (u.2.2.1 : Nat)), .lit (.int .u64 (u.2.2.2 : Nat))]
theorem flat4 (us : List (List UInt8 × Nat × Nat × Nat)) : ∀ cs : List Value, cs.length = 4 * us.length → (∀ i u, us[i]? = some u → (cs.drop (i * 4)).take 4 = rowOf u) → cs = us.flatMap rowOf := by
  induction us with
  | nil => intro cs h _; simpa using h
  | cons u r ih =>
    intro cs hl h
    have h0 := h 0 u rfl
    have h1 := ih (cs.drop 4) (by simp at hl ⊢; omega) (fun i v hv => by
      have := h (i + 1) v (by simpa using hv)
      rw [List.drop_drop]
      rw [show 4 + i * 4 = (i + 1) * 4 by omega]
      exact this)
    rw [List.flatMap_cons, ← h1, ← h0]
    simp
theorem units_data : (Rows.laid_bourne_unit_units : DataW Unit) = .agg (units.map dataOf) := rfl
theorem units_of {W : World} (h : Lib.VarReads Tryz.prog W "bourne/unit.units" Rows.laid_bourne_unit_units) : ∃ t fr, W.heap[0]? = some (.cells unitCells t fr) := by
  obtain ⟨g, t, cs, fuel, p, hg, hty, hvar, hd⟩ := h
  obtain rfl := Option.some.inj ((show Tryz.prog.globalNamed "bourne/unit.units" = some 0 by kernel_rfl).symm.trans hg)
  obtain rfl := Option.some.inj ((show (Tryz.prog.globals[0]?).map (·.type) = some 74 by kernel_rfl).symm.trans hty)
  have hu : Tryz.prog.underlying 74 = some (.array 19 73) := by kernel_rfl
  have hc4 : Tryz.prog.cellsOf 73 = 4 := by kernel_rfl
  rw [units_data] at hd
  have hlen : cs.toList.length = 76 := by
    have h76 : Tryz.prog.cellsOf 74 = 76 := by kernel_rfl
    obtain ⟨xs, m, _, _, hl, _, _⟩ := DataW.trod_array hu hd
    rw [h76] at hl
    exact hl
  have hcs : cs.toList = units.flatMap rowOf := by
    refine flat4 units cs.toList (by rw [hlen]; rfl) fun i u hi => ?_
    have hi19 : i < 19 := by
      have := (List.getElem?_eq_some_iff.1 hi).1
      exact this
    obtain ⟨f', d, q, hds, hr⟩ := Lib.array_elem hu hd i hi19
    rw [hc4] at hr
    rw [List.getElem?_map, hi] at hds
    have := Option.some.inj hds
    subst this
    exact struct4 Tryz.underlying73 (by kernel_rfl) (by kernel_rfl) (by kernel_rfl) (by kernel_rfl) ⟨rfl, rfl, rfl, rfl⟩ ⟨by kernel_rfl, by kernel_rfl, by kernel_rfl, by kernel_rfl⟩ hc4 hr
  have hcells : cs = unitCells := by
    apply Array.toList_inj.1
    rw [hcs]
    unfold unitCells
    rw [List.flatMap_def]
    rfl
  subst hcells
  exact heap_of_var hg hvar
theorem uw_of {W : World} (hu : Lib.VarReads Tryz.prog W "bourne/unit.units" Rows.laid_bourne_unit_units) (he : Lib.VarReads Tryz.prog W "strconv.ErrRange" Rows.laid_strconv_ErrRange)
    (hp : Lib.VarReads Tryz.prog W "internal/strconv.uint64pow10" Rows.laid_internal_strconv_uint64pow10) (hs : W.ShapedOpen Tryz.prog) : UW W := by
  refine ⟨units_of hu, ?_, ?_, ?_⟩
  · exact cell_of_shapedOpen_int (zero := #[.int .i64 0]) (t := 3) hs (of_decide_eq_true (by kernel_rfl)) (by kernel_rfl) rfl (by kernel_rfl) (by kernel_rfl) (by kernel_rfl)
  · obtain ⟨g, t, cs, fuel, p, hg, hty, hvar, hd⟩ := he
    obtain rfl := Option.some.inj ((show Tryz.prog.globalNamed "strconv.ErrRange" = some 7 by kernel_rfl).symm.trans hg)
    obtain rfl := Option.some.inj ((show (Tryz.prog.globals[7]?).map (·.type) = some 52 by kernel_rfl).symm.trans hty)
    obtain ⟨f', u, v, e, _, _⟩ := iface_of_trod Tryz.underlying52 hd
    have := World.var?_cell hg hvar 0
    rw [Array.eq_one_of_toList e] at this
    exact ⟨u, v, by simpa using this⟩
  · obtain ⟨g, t, cs, fuel, p, hg, hty, hvar, hd⟩ := hp
    obtain rfl := Option.some.inj ((show Tryz.prog.globalNamed "internal/strconv.uint64pow10" = some 8 by kernel_rfl).symm.trans hg)
    obtain rfl := Option.some.inj ((show (Tryz.prog.globals[8]?).map (·.type) = some 153 by kernel_rfl).symm.trans hty)
    have hd2 : DataW.trod (fun _ => ()) Tryz.prog W 0 (fun _ => true) false fuel 153 cs.toList = some (Lib.tabData .u64 Lib.pow10Tab, p) := hd
    have := Lib.cells_of_tab (n := 20) (e := 71) (by kernel_rfl) (by kernel_rfl) (by kernel_rfl) (by kernel_rfl) hd2
    unfold Lib.TabIs
    rw [hvar, ← this]
end Go.Proofs.YtahjkibjcibpgaaGreatDoor.U
end
section
set_option linter.unusedVariables false
set_option linter.unusedSimpArgs false
namespace Go.Proofs.YtahjkibjcibpgaaGreatDoorW.PrintWords
open Go.RowKit
structure Aside0 (p : Prop) : Prop where mk :: (out : p)
def rd (xs : List Int) (i : Int) : Int := xs.getD i.toNat 0
theorem below_alloc {w W : World} (h : Below w.heap.size w W) (o : Obj) : Below w.heap.size w (W.alloc o) := h.alloc h.size o
theorem below_drew {B : Nat} {w W : World} (h : Below B w W) : Below B w W.drew := ⟨h.os, h.tape, h.output, h.size, h.block⟩
theorem pw_below_drewN {B : Nat} {w W : World} (h : Below B w W) (n : Nat) : Below B w (W.drewN n) := ⟨h.os, h.tape, h.output, h.size, h.block⟩
theorem below_then {B : Nat} {w w1 w2 : World} (h : Below B w w1) (hB : B ≤ w1.heap.size) (k : Below w1.heap.size w1 w2) : Below B w w2 :=
  h.trans ⟨k.os, k.tape, k.output, k.size, fun i hi => k.block i (Nat.lt_of_lt_of_le hi hB)⟩
theorem grown_of_below {w w1 : World} (h : Below w.heap.size w w1) (row : Option Nat) : w.grownBy w1 row := ⟨h.os, h.tape, h.output, h.size, fun i hi _ => h.block i hi⟩
theorem pw_cell_below {w w1 : World} (h : Below w.heap.size w w1) {a : Addr} {v : Value} (hc : w.cell? a = some v) : w1.cell? a = some v := (h.cell (World.block_lt_of_cell? w a hc)).trans hc
theorem add_plain (g j : Nat) : (⟨g, 0, none⟩ : Addr).add j = ⟨g, j, none⟩ := by unfold Addr.add; split <;> simp_all
theorem own_nil (W : World) (base : Nat) (e : TypeId) (size : Nat) : W.ownsRow base e size (.slice none 0 0) 0 [] := ⟨by simp, .inl ⟨rfl, rfl⟩⟩
theorem own_base {w : World} {base : Nat} {e : TypeId} {size n : Nat} {v : Value} {xs : List Value} (h : w.ownsRow base e size v n xs) (k : Nat) (hk : v.ownBlock = some k) : base ≤ k := by
  rcases h.2 with ⟨rfl, _⟩ | ⟨g, cap, cur, rfl, hb, _⟩
  · simp [Value.ownBlock] at hk
  · have : g = k := by simpa [Value.ownBlock] using hk
    omega
theorem own_lt {w : World} {base : Nat} {e : TypeId} {size n : Nat} {v : Value} {xs : List Value} (h : w.ownsRow base e size v n xs) (k : Nat) (hk : v.ownBlock = some k) : k < w.heap.size := by
  rcases h.2 with ⟨rfl, _⟩ | ⟨g, cap, cur, rfl, hb, hh, _⟩
  · simp [Value.ownBlock] at hk
  · have : g = k := by simpa [Value.ownBlock] using hk
    subst this
    exact (Array.getElem?_eq_some_iff.1 hh).1
theorem pw_own_below {w w1 : World} {base : Nat} {e : TypeId} {size n : Nat} {v : Value} {xs : List Value} (h : w.ownsRow base e size v n xs) (hb : Below w.heap.size w w1) : w1.ownsRow base e size v n xs :=
  h.kept (grown_of_below hb none) (by cases v.ownBlock <;> simp)
section
variable {P : Program} {ops : Array Oper} {rest : List Oper} {o : Oper} {a : Act} {Q : Exit → Act → World → Prop}
end
section
variable {P : Program}
end
section
variable {P : Program} {ops : Array Oper} {rest : List Oper} {o : Oper} {a : Act} {Q : Exit → Act → World → Prop}
end
theorem bytes_below {B : Nat} {w W : World} (h : Below B w W) (hB : B ≤ W.heap.size) (e : TypeId) (s : ByteArray) : Below B w (Lib.bytesWorld W e s) :=
  h.trans ⟨rfl, rfl, rfl, by rw [Lib.bytesWorld_size]; omega, fun i hi => Lib.bytesWorld_at_old W e s i (by omega)⟩
def LeO {α : Type} (a b : Option α) : Prop := ∀ r, a = some r → b = some r
theorem LeO.refl {α : Type} (a : Option α) : LeO a a := fun _ h => h
theorem LeO.none {α : Type} (b : Option α) : LeO Option.none b := fun _ h => by cases h
theorem LeO.trans {α : Type} {a b c : Option α} (h : LeO a b) (k : LeO b c) : LeO a c := fun r hr => k r (h r hr)
theorem LeO.ite {α : Type} {c : Prop} [Decidable c] {a a' b b' : Option α} (h : LeO a a') (k : LeO b b') : LeO (if c then a else b) (if c then a' else b') := by
  split
  · exact h
  · exact k
theorem LeO.bind {α β : Type} {a a' : Option α} {f f' : α → Option β} (h : LeO a a') (k : ∀ x, LeO (f x) (f' x)) : LeO (a.bind f) (a'.bind f') := by
  intro r hr
  obtain ⟨x, hx, hf⟩ := Option.bind_eq_some_iff.1 hr
  exact Option.bind_eq_some_iff.2 ⟨x, h x hx, k x r hf⟩
theorem LeO.map {α β : Type} {a a' : Option α} (f : α → β) (h : LeO a a') : LeO (a.map f) (a'.map f) := by
  intro r hr
  obtain ⟨x, hx, hf⟩ := Option.map_eq_some_iff.1 hr
  exact Option.map_eq_some_iff.2 ⟨x, h x hx, hf⟩
def Reps {α : Type} (R : α → List Value → Prop) (size : Nat) (ps : List α) (cs : List Value) : Prop :=
  cs.length = ps.length * size ∧ ∀ j p, ps[j]? = some p → R p ((cs.drop (j * size)).take size)
theorem Reps.none {α : Type} (R : α → List Value → Prop) (size : Nat) : Reps R size [] [] := ⟨by simp, fun j p h => by simp at h⟩
theorem Reps.snoc {α : Type} {R : α → List Value → Prop} {size : Nat} {ps : List α} {cs c : List Value} {p : α} (h : Reps R size ps cs) (hp : R p c) (hc : c.length = size) : Reps R size (ps ++ [p]) (cs ++ c) := by
  refine ⟨by rw [List.length_append, h.1, hc, List.length_append, List.length_singleton, Nat.add_mul, Nat.one_mul], fun j q hq => ?_⟩
  rcases Nat.lt_or_ge j ps.length with hj | hj
  · rw [List.getElem?_append_left hj] at hq
    have h1 : j * size + size ≤ cs.length := by rw [h.1, ← Nat.succ_mul]; exact Nat.mul_le_mul_right _ hj
    have h2 := h.2 j q hq
    rw [List.drop_append_of_le_length (by omega), List.take_append_of_le_length (by rw [List.length_drop]; omega)]
    exact h2
  · have hj' : j = ps.length := by
      have := (List.getElem?_eq_some_iff.1 hq).1
      rw [List.length_append, List.length_singleton] at this
      omega
    subst hj'
    have hq' : p = q := by simpa using hq
    subst hq'
    rw [← h.1, List.drop_left, ← hc, List.take_length]
    exact hp
theorem Reps.imp_ {α : Type} {R R' : α → List Value → Prop} {size : Nat} {ps : List α} {cs : List Value} (h : Reps R size ps cs) (hR : ∀ p c, R p c → R' p c) : Reps R' size ps cs := ⟨h.1, fun j p hj => hR _ _ (h.2 j p hj)⟩
def ReadsRow {α : Type} (R : α → List Value → Prop) (size : Nat) (w : World) (A : Option Addr) (n : Nat) (ps : List α) : Prop :=
  ps.length = n ∧ n ≤ 9223372036854775807 ∧ (0 < n → ∃ ad, A = some ad ∧ ∀ j p, ps[j]? = some p → ∃ c, c.length = size ∧ R p c ∧ ∀ i u, c[i]? = some u → w.cell? (ad.add (j * size + i)) = some u)
theorem ReadsRow.get_ {α : Type} {R : α → List Value → Prop} {size : Nat} {w : World} {A : Option Addr} {n : Nat} {ps : List α} (h : ReadsRow R size w A n ps) (d : α) (i : Int) (h0 : 0 ≤ i) (h1 : i < n) :
    ∃ ad c, A = some ad ∧ c.length = size ∧ R (ps.getD i.toNat d) c ∧ ∀ j u, c[j]? = some u → w.cell? (ad.add (i.toNat * size + j)) = some u := by
  obtain ⟨ad, e, hc⟩ := h.2.2 (by omega)
  have hl : i.toNat < ps.length := by have := h.1; omega
  obtain ⟨c, hs, hr, hcell⟩ := hc i.toNat _ (List.getElem?_eq_getElem hl)
  refine ⟨ad, c, e, hs, ?_, hcell⟩
  rw [List.getD_eq_getElem?_getD, List.getElem?_eq_getElem hl]
  exact hr
theorem ReadsRow.imp_ {α : Type} {R R' : α → List Value → Prop} {size : Nat} {w w1 : World} {A : Option Addr} {n : Nat} {ps : List α} (h : ReadsRow R size w A n ps) (hb : Below w.heap.size w w1) (hR : ∀ p c, R p c → R' p c) : ReadsRow R' size w1 A n ps :=
  ⟨h.1, h.2.1, fun hn => by
    obtain ⟨ad, e, hc⟩ := h.2.2 hn
    refine ⟨ad, e, fun j p hj => ?_⟩
    obtain ⟨c, hs, hr, hcell⟩ := hc j p hj
    exact ⟨c, hs, hR _ _ hr, fun i u hu => pw_cell_below hb (hcell i u hu)⟩⟩
theorem own_reads_row {α : Type} {R : α → List Value → Prop} {w : World} {base n size : Nat} {e : TypeId} {v : Value} {ps : List α} {cs : List Value} (h : w.ownsRow base e size v n cs) (hR : Reps R size ps cs) (hn : ps.length = n) :
    ∃ A c, v = .slice A n c ∧ ReadsRow R size w A n ps := by
  rcases Nat.eq_zero_or_pos n with h0 | h0
  · rcases h.2 with ⟨rfl, rfl⟩ | ⟨g, cap, cur, rfl, _⟩
    · exact ⟨none, 0, rfl, hn, by omega, fun hp => absurd hp (by omega)⟩
    · exact ⟨_, cap, rfl, hn, by omega, fun hp => absurd hp (by omega)⟩
  · obtain ⟨g, cap, rfl, _, _⟩ := h.form h0
    have hm : n ≤ 9223372036854775807 := by
      rcases h.2 with ⟨_, h1⟩ | ⟨g', cap', cur, he, _, _, h1, h2, _⟩
      · omega
      · simp only [maxLen] at h2
        omega
    refine ⟨_, cap, rfl, hn, hm, fun _ => ⟨_, rfl, fun j p hj => ⟨(cs.drop (j * size)).take size, ?_, hR.2 j p hj, fun i u hu => ?_⟩⟩⟩
    · have hjl := (List.getElem?_eq_some_iff.1 hj).1
      have h1 : j * size + size ≤ cs.length := by rw [hR.1, ← Nat.succ_mul]; exact Nat.mul_le_mul_right _ hjl
      rw [List.length_take, List.length_drop]
      omega
    · refine h.cells (g := g) rfl _ u ?_
      rw [List.getElem?_take] at hu
      split at hu
      · rw [List.getElem?_drop] at hu
        exact hu
      · cases hu
theorem add_field (ad : Addr) (m j : Nat) (hj : 0 < j) : ad.add (m + j) = ⟨(ad.add m).block, (ad.add m).off + j, none⟩ := by
  unfold Addr.add
  by_cases hm : m = 0
  · subst hm
    simp [Nat.ne_of_gt hj]
  · simp [hm, Nat.add_assoc]
section
variable {P : Program} {ops : Array Oper} {rest : List Oper} {o : Oper} {a : Act} {Q : Exit → Act → World → Prop}
theorem print_append_cells {w0 W : World} (base : Nat) (hgd : o.guard = none) (s x : Operand) (t e : TypeId) (z : Value) (size bytes : Nat)
    (ho : o.op = .call { callee := .builtin .append, args := #[s, x], argTypes := #[t, t] })
    (ht : P.underlying t = some (.slice e)) (hinfo : (P.info? e).map (fun i => (i.zero, i.size, i.bytes)) = some (some z, size, bytes)) (hz : z.cells.size = size) (hs0 : 0 < size) (hb0 : 0 < bytes)
    (v : Value) (n : Nat) (xs ys : List Value) (hs : a.eval s = v) (hx : a.eval x = .slice (some ⟨W.heap.size, 0, none⟩) 1 1) (hys : ys.length = size) (h1 : ∀ u ∈ ys, u.oneCell' = true)
    (HO : W.ownsRow base e size v n xs) (HB : Below base w0 W) (hbase : base ≤ W.heap.size) (hl : (n + 1) * bytes ≤ 140737488355328)
    (h : ∀ v1 w1, w1.ownsRow base e size v1 (n + 1) (xs ++ ys) → Below base w0 w1 → W.grownBy w1 v.ownBlock → (v1.ownBlock = v.ownBlock ∨ ∃ b, v1.ownBlock = some b ∧ W.heap.size ≤ b) → wpList P ops Q rest (a.put o.dst v1) w1) :
    wpList P ops Q (o :: rest) a (W.alloc (.cells ys.toArray e)) := by
  obtain ⟨i0, hi, hzz⟩ := Option.map_eq_some_iff.1 hinfo
  simp only [Prod.mk.injEq] at hzz
  obtain ⟨hz0, hz1, hz2⟩ := hzz
  have hlen : n + 1 ≤ 140737488355328 := Nat.le_trans (Nat.le_mul_of_pos_right _ hb0) hl
  refine wpList_append_own_at (W.alloc (.cells ys.toArray e)) hgd s x t ho base e i0 z size bytes ht hi hz0 hz1 hz2 hz hs0 v n xs hs (HO.alloc _) ⟨W.heap.size, 0, none⟩ 1 1 ys hx (by rw [hys]; simp)
    (by simpa using World.news_of_block (cs := ys.toArray) (t := e) (fr := (0, 0)) (heap_alloc_new W (.cells ys.toArray e))) h1 (by simp only [maxLen]; omega) hl (by simp; omega) ?_
  intro v1 w1 hown hg _ hat
  refine h v1 w1 hown ((HB.alloc hbase _).grown hg (by simp; omega) (own_base HO)) (World.grownBy.trans (World.grownBy_alloc W _ _) hg) ?_
  rcases hat with hat | hat
  · exact .inl hat
  · exact .inr ⟨_, hat, by simp⟩
end
theorem own_ne {w : World} {base : Nat} {e t : TypeId} {size n g : Nat} {v : Value} {xs : List Value} {cs : Array Value} (h : w.ownsRow base e size v n xs) (hg : w.heap[g]? = some (.cells cs t (0, 0))) (hne : e ≠ t) : some g ≠ v.ownBlock := by
  rcases h.2 with ⟨rfl, _⟩ | ⟨g', cap, cur, rfl, _, hh, _⟩
  · simp [Value.ownBlock]
  · intro he
    have : g = g' := by simpa [Value.ownBlock] using he
    subst this
    rw [hg] at hh
    injection hh with hh
    injection hh with _ ht
    exact hne ht.symm
theorem blk_set {w : World} {g : Nat} {t : TypeId} {cs : Array Value} (h : w.heap[g]? = some (.cells cs t (0, 0))) (i : Nat) (u : Value) : (w.setCell ⟨g, i, none⟩ u).heap[g]? = some (.cells (cs.setIfInBounds i u) t (0, 0)) := by
  simp [World.setCell, Array.getElem?_modify, h]
theorem blk_far {w : World} {g : Nat} {t : TypeId} {cs : Array Value} (h : w.heap[g]? = some (.cells cs t (0, 0))) {p : Addr} (hp : g ≠ p.block) (u : Value) : (w.setCell p u).heap[g]? = some (.cells cs t (0, 0)) := (Below.heap_setCell w p u g hp).trans h
theorem blk_lt {w : World} {g : Nat} {o : Obj} (h : w.heap[g]? = some o) : g < w.heap.size := (Array.getElem?_eq_some_iff.1 h).1
theorem blk_cell {w : World} {g : Nat} {t : TypeId} {cs : Array Value} (h : w.heap[g]? = some (.cells cs t (0, 0))) (i : Nat) : w.cell? ⟨g, i, none⟩ = cs[i]? := cell_of_row w g i cs t (0, 0) h
theorem blk_frozen {w : World} {g : Nat} {t : TypeId} {cs : Array Value} (h : w.heap[g]? = some (.cells cs t (0, 0))) (i : Nat) : w.frozen? ⟨g, i, none⟩ = false := by simp [World.frozen?, h]
theorem blk_grown {w w1 : World} {g : Nat} {o : Obj} {row : Option Nat} (h : w.heap[g]? = some o) (hg : w.grownBy w1 row) (hne : some g ≠ row) : w1.heap[g]? = some o := (hg.block g (blk_lt h) hne).trans h
theorem blk_ne {w : World} {g g' : Nat} {t t' : TypeId} {cs cs' : Array Value} (h : w.heap[g]? = some (.cells cs t (0, 0))) (h' : w.heap[g']? = some (.cells cs' t' (0, 0))) (hne : t ≠ t') : g ≠ g' := by
  rintro rfl
  rw [h] at h'
  injection h' with h'
  injection h' with _ ht
  exact hne ht
section
variable {P : Program} {ops : Array Oper} {o : Oper} {a : Act} {Q : Exit → Act → World → Prop} {K : Act → World → Prop}
theorem step_append_cells {w0 W : World} (base : Nat) (hw : Region.wanted o (yielded ops a.tmps) = true) (s x : Operand) (t e : TypeId) (z : Value) (size bytes : Nat)
    (ho : o.op = .call { callee := .builtin .append, args := #[s, x], argTypes := #[t, t] })
    (ht : P.underlying t = some (.slice e)) (hinfo : (P.info? e).map (fun i => (i.zero, i.size, i.bytes)) = some (some z, size, bytes)) (hz : z.cells.size = size) (hs0 : 0 < size) (hb0 : 0 < bytes)
    (v : Value) (n : Nat) (xs ys : List Value) (hs : a.eval s = v) (hx : a.eval x = .slice (some ⟨W.heap.size, 0, none⟩) 1 1) (hys : ys.length = size) (h1 : ∀ u ∈ ys, u.oneCell' = true)
    (HO : W.ownsRow base e size v n xs) (HB : Below base w0 W) (hbase : base ≤ W.heap.size) (hl : (n + 1) * bytes ≤ 140737488355328)
    (h : ∀ v1 w1, w1.ownsRow base e size v1 (n + 1) (xs ++ ys) → Below base w0 w1 → W.grownBy w1 v.ownBlock → (v1.ownBlock = v.ownBlock ∨ ∃ b, v1.ownBlock = some b ∧ W.heap.size ≤ b) → K (a.put o.dst v1) w1) :
    if Region.wanted o (yielded ops a.tmps) = true then Oper.wp P o a (W.alloc (.cells ys.toArray e)) K Q else K (a.put o.dst undef) (W.alloc (.cells ys.toArray e)) := by
  obtain ⟨i0, hi, hzz⟩ := Option.map_eq_some_iff.1 hinfo
  simp only [Prod.mk.injEq] at hzz
  obtain ⟨hz0, hz1, hz2⟩ := hzz
  have hlen : n + 1 ≤ 140737488355328 := Nat.le_trans (Nat.le_mul_of_pos_right _ hb0) hl
  rw [if_pos hw]
  obtain ⟨v1, w1, hr, hown, hg, _, hat⟩ := run_append_own_at (P := P) (W.alloc (.cells ys.toArray e)) base t o.type e i0 z size bytes ht hi hz0 hz1 hz2 hz hs0 v n xs (HO.alloc _) ⟨W.heap.size, 0, none⟩ 1 1 ys (by rw [hys]; simp)
    (by simpa using World.news_of_block (cs := ys.toArray) (t := e) (fr := (0, 0)) (heap_alloc_new W (.cells ys.toArray e))) h1 (by simp only [maxLen]; omega) hl (by simp; omega)
  unfold Oper.wp execOp
  simp only [ho, resolve, invoke, builtin, Sem.run_bind, Sem.run_pure, Result.andThen_ok, List.map_toArray, List.map_cons, List.map_nil, hs, hx, hr]
  refine h v1 w1 hown ((HB.alloc hbase _).grown hg (by simp; omega) (own_base HO)) (World.grownBy.trans (World.grownBy_alloc W _ _) hg) ?_
  rcases hat with hat | hat
  · exact .inl hat
  · exact .inr ⟨_, hat, by simp⟩
end
theorem own_weaken {w : World} {base base' : Nat} {e : TypeId} {size n : Nat} {v : Value} {xs : List Value} (h : w.ownsRow base e size v n xs) (hb : base' ≤ base) : w.ownsRow base' e size v n xs := by
  obtain ⟨h1, h2⟩ := h
  refine ⟨h1, ?_⟩
  rcases h2 with h2 | ⟨g, cap, cur, rfl, hg, r⟩
  · exact .inl h2
  · exact .inr ⟨g, cap, cur, rfl, Nat.le_trans hb hg, r⟩
section
variable {α : Type} {enc : α → Value} {d : α}
end
section
variable {α : Type} {P : Program} {ops : Array Oper} {rest : List Oper} {o : Oper} {a : Act} {Q : Exit → Act → World → Prop}
end
theorem blk_alloc {w : World} {g : Nat} {o : Obj} (h : w.heap[g]? = some o) (o' : Obj) : (w.alloc o').heap[g]? = some o := (Below.heap_alloc w o' g (blk_lt h)).trans h
theorem blk_drew {w : World} {g : Nat} {o : Obj} (h : w.heap[g]? = some o) : w.drew.heap[g]? = some o := h
theorem blk_drewN {w : World} {g : Nat} {o : Obj} (h : w.heap[g]? = some o) (n : Nat) : (w.drewN n).heap[g]? = some o := h
theorem blk_below {w w1 : World} {g : Nat} {o : Obj} (h : w.heap[g]? = some o) (hb : Below w.heap.size w w1) : w1.heap[g]? = some o := (hb.block g (blk_lt h)).trans h
theorem blk_new (w : World) (o : Obj) : (w.alloc o).heap[w.heap.size]? = some o := heap_alloc_new w o
section
variable {P : Program}
theorem results_ct {fn : Func} {p u : Tmp} {ty : TypeId} (h : fn.results = #[.cell p ty, .tmp u]) (tmps : Array Value) (w : World) (g : Nat) (t : TypeId) (cs : Array Value) (fr : Nat × Nat) (d : TypeDesc)
    (hp : tmps.getD p undef = .pointer (some ⟨g, 0, none⟩)) (hg : w.heap[g]? = some (.cells cs t fr))
    (hu : P.underlying ty = some d) (hd : (match d with | .struct _ | .array _ _ => true | _ => false) = true) (hi : (P.info? ty).map (·.size) = some cs.size) :
    (results fn tmps).run P w = .ok (.tuple #[.agg cs, tmps.getD u undef]) w := by
  have hp' : tmps[p]?.getD undef = .pointer (some ⟨g, 0, none⟩) := by simpa using hp
  simp [results, h, hp', asAddr, run_loadVar_row w g t ty cs fr d hg hu hd hi]
end
theorem own_le {w : World} {base n m c size : Nat} {e : TypeId} {A : Option Addr} {xs : List Value} (h : w.ownsRow base e size (.slice A m c) n xs) : m ≤ c := by
  rcases h.2 with ⟨he, _⟩ | ⟨g, cap, cur, he, _, _, hnc, _⟩
  · injection he with _ h2 h3
    omega
  · injection he with _ h2 h3
    omega
def OwnRow {α : Type} (R : α → List Value → Prop) (e : TypeId) (size : Nat) (w : World) (base : Nat) (v : Value) (ps : List α) : Prop :=
  ∃ inner, w.ownsRow base e size v ps.length inner ∧ Reps R size ps inner
section
variable {α : Type} {R R' : α → List Value → Prop} {e : TypeId} {size : Nat} {w w1 : World} {base : Nat} {v : Value} {ps : List α}
theorem OwnRow.none_ (R : α → List Value → Prop) (e : TypeId) (size : Nat) (w : World) (base : Nat) : OwnRow R e size w base (.slice none 0 0) [] := ⟨[], own_nil _ _ _ _, Reps.none _ _⟩
theorem OwnRow.imp_ (h : OwnRow R e size w base v ps) (hR : ∀ p c, R p c → R' p c) : OwnRow R' e size w base v ps := by
  obtain ⟨inner, ho, hr⟩ := h
  exact ⟨inner, ho, hr.imp_ hR⟩
theorem OwnRow.below (h : OwnRow R e size w base v ps) (hb : Below w.heap.size w w1) : OwnRow R e size w1 base v ps := by
  obtain ⟨inner, ho, hr⟩ := h
  exact ⟨inner, pw_own_below ho hb, hr⟩
theorem OwnRow.reads (h : OwnRow R e size w base v ps) : ∃ A c, v = .slice A ps.length c ∧ ps.length ≤ c ∧ ReadsRow R size w A ps.length ps := by
  obtain ⟨inner, ho, hr⟩ := h
  obtain ⟨A, c, rfl, hrow⟩ := own_reads_row ho hr rfl
  exact ⟨A, c, rfl, own_le ho, hrow⟩
theorem OwnRow.ne_block (h : OwnRow R e size w base v ps) {g : Nat} {t : TypeId} {cells : Array Value} (hb : w.heap[g]? = some (.cells cells t (0, 0))) (ht : e ≠ t) : some g ≠ v.ownBlock := by
  obtain ⟨inner, ho, hr⟩ := h
  exact own_ne ho hb ht
theorem OwnRow.lit (W : World) (base : Nat) {inner : List Value} (hr : Reps R size ps inner) (hb : base ≤ W.heap.size) (hm : ps.length ≤ 9223372036854775807) :
    OwnRow R e size (W.alloc (.cells inner.toArray e)) base (.slice (some ⟨W.heap.size, 0, none⟩) ps.length ps.length) ps := by
  have h := World.ownsRow_lit (base := base) (e := e) (size := size) W inner.toArray ps.length hb (by simpa [maxLen] using hm) (by simpa using hr.1)
  exact ⟨inner, by simpa using h, hr⟩
end
section
variable {P : Program} {ops : Array Oper} {rest : List Oper} {o : Oper} {a : Act} {Q : Exit → Act → World → Prop} {α : Type} {R : α → List Value → Prop}
theorem OwnRow.append {w0 W : World} (base : Nat) (hgd : o.guard = none) (s x : Operand) (t e : TypeId) (z : Value) (size bytes : Nat)
    (ho : o.op = .call { callee := .builtin .append, args := #[s, x], argTypes := #[t, t] })
    (ht : P.underlying t = some (.slice e)) (hinfo : (P.info? e).map (fun i => (i.zero, i.size, i.bytes)) = some (some z, size, bytes)) (hz : z.cells.size = size) (hs0 : 0 < size) (hb0 : 0 < bytes)
    (v : Value) (ps : List α) (p : α) (cs : List Value) (hs : a.eval s = v) (hx : a.eval x = .slice (some ⟨W.heap.size, 0, none⟩) 1 1) (hp : R p cs) (hcs : cs.length = size) (h1 : ∀ u ∈ cs, u.oneCell' = true)
    (HO : OwnRow R e size W base v ps) (HB : Below base w0 W) (hbase : base ≤ W.heap.size) (hl : (ps.length + 1) * bytes ≤ 140737488355328)
    (h : ∀ v1 w1, OwnRow R e size w1 base v1 (ps ++ [p]) → Below base w0 w1 → W.grownBy w1 v.ownBlock → (v1.ownBlock = v.ownBlock ∨ ∃ b, v1.ownBlock = some b ∧ W.heap.size ≤ b) → wpList P ops Q rest (a.put o.dst v1) w1) :
    wpList P ops Q (o :: rest) a (W.alloc (.cells cs.toArray e)) := by
  obtain ⟨inner, hown, hr⟩ := HO
  refine print_append_cells base hgd s x t e z size bytes ho ht hinfo hz hs0 hb0 v ps.length inner cs hs hx hcs h1 hown HB hbase hl ?_
  intro v1 w1 hown1 hb1 hg1 hat1
  exact h v1 w1 ⟨inner ++ cs, by rw [List.length_append, List.length_singleton]; exact hown1, hr.snoc hp hcs⟩ hb1 hg1 hat1
end
section
variable {P : Program} {ops : Array Oper} {o : Oper} {a : Act} {Q : Exit → Act → World → Prop} {K : Act → World → Prop} {α : Type} {R : α → List Value → Prop}
end
theorem ReadsRow.inner_ {α : Type} {R : α → List Value → Prop} {size : Nat} {w : World} {ad : Addr} {n : Nat} {ps : List α} (h : ReadsRow R size w (some ad) n ps) :
    ∃ inner, Reps R size ps inner ∧ ∀ j u, inner[j]? = some u → w.cell? (ad.add j) = some u := by
  have key : ∀ m, m ≤ ps.length → ∃ inner, Reps R size (ps.take m) inner ∧ ∀ j u, inner[j]? = some u → w.cell? (ad.add j) = some u := by
    intro m
    induction m with
    | zero => exact fun _ => ⟨[], Reps.none _ _, fun j u hu => by simp at hu⟩
    | succ m ih =>
      intro hm
      obtain ⟨inner, hr, hc⟩ := ih (by omega)
      obtain ⟨ad', he, hcell⟩ := h.2.2 (by have := h.1; omega)
      injection he with he
      subst he
      obtain ⟨c, hcl, hp, hcc⟩ := hcell m _ (List.getElem?_eq_getElem (show m < ps.length by omega))
      refine ⟨inner ++ c, ?_, fun j u hu => ?_⟩
      · rw [List.take_succ_eq_append_getElem (show m < ps.length by omega)]
        exact hr.snoc hp hcl
      · have hil : inner.length = m * size := by rw [hr.1, List.length_take, Nat.min_eq_left (by omega)]
        rcases Nat.lt_or_ge j inner.length with hj | hj
        · rw [List.getElem?_append_left hj] at hu
          exact hc j u hu
        · rw [List.getElem?_append_right hj] at hu
          have := hcc (j - inner.length) u hu
          rwa [hil, Nat.add_sub_cancel' (by omega)] at this
  obtain ⟨inner, hr, hc⟩ := key ps.length (Nat.le_refl _)
  rw [List.take_length] at hr
  exact ⟨inner, hr, hc⟩
section
variable {α : Type} {P : Program}
end
section
variable {P : Program} {ops : Array Oper} {rest : List Oper} {o : Oper} {a : Act} {Q : Exit → Act → World → Prop}
end
structure Kd (α : Type) where
  sz : Nat
  E : List Nat
  K : World → α → List Value → Prop
  M : World → Nat → (Nat → Prop) → α → List Value → Prop
  K_len : ∀ {w x cs}, K w x cs → cs.length = sz
  K_one : ∀ {w x cs}, K w x cs → ∀ u ∈ cs, u.oneCell' = true
  K_below : ∀ {w w1 : World} {x cs}, Below w.heap.size w w1 → K w x cs → K w1 x cs
  K_of_M : ∀ {w base ok x cs}, M w base ok x cs → K w x cs
  M_mono : ∀ {w base ok ok' x cs}, (∀ k, ok k → ok' k) → M w base ok x cs → M w base ok' x cs
  M_bound : ∀ {w : World} {base ok x cs}, M w base ok x cs → M w base (fun k => ok k ∧ base ≤ k ∧ k < w.heap.size ∧ ∃ q, q ∈ E ∧ ∃ cells, w.heap[k]? = some (.cells cells q (0, 0))) x cs
  M_move : ∀ {w w1 : World} {base ok x cs}, (∀ k, ok k → w1.heap[k]? = w.heap[k]?) → M w base ok x cs → M w1 base ok x cs
  M_lower : ∀ {w base base' ok x cs}, base' ≤ base → M w base ok x cs → M w base' ok x cs
theorem own_move {w w1 : World} {base : Nat} {e : TypeId} {size n : Nat} {v : Value} {xs : List Value} (h : w.ownsRow base e size v n xs) (hm : ∀ k, v.ownBlock = some k → w1.heap[k]? = w.heap[k]?) : w1.ownsRow base e size v n xs := by
  obtain ⟨h1, h2⟩ := h
  refine ⟨h1, ?_⟩
  rcases h2 with h2 | ⟨g, cap, cur, rfl, hg, hh, r⟩
  · exact .inl h2
  · exact .inr ⟨g, cap, cur, rfl, hg, (hm g (by simp [Value.ownBlock])).trans hh, r⟩
theorem own_typed {w : World} {base : Nat} {e : TypeId} {size n : Nat} {v : Value} {xs : List Value} (h : w.ownsRow base e size v n xs) (k : Nat) (hk : v.ownBlock = some k) : ∃ cells, w.heap[k]? = some (.cells cells e (0, 0)) := by
  rcases h.2 with ⟨rfl, _⟩ | ⟨g, cap, cur, rfl, hg, hh, r⟩
  · simp [Value.ownBlock] at hk
  · have : g = k := by simpa [Value.ownBlock] using hk
    subst this
    exact ⟨cur, hh⟩
namespace Kd
def C {α : Type} (d : Kd α) (w : World) (A : Option Addr) (n : Nat) (xs : List α) : Prop := ReadsRow (d.K w) d.sz w A n xs
def R {α : Type} (d : Kd α) (e : Nat) (w : World) (base : Nat) (ok : Nat → Prop) (v : Value) (xs : List α) : Prop :=
  (∀ k, v.ownBlock = some k → ok k) ∧ OwnRow (d.M w base (fun k => ok k ∧ some k ≠ v.ownBlock)) e d.sz w base v xs
section
variable {α : Type} {d : Kd α} {e : Nat} {w w1 : World} {base : Nat} {ok ok' : Nat → Prop} {v : Value} {xs : List α}
theorem C_below {A : Option Addr} {n : Nat} (h : d.C w A n xs) (hb : Below w.heap.size w w1) : d.C w1 A n xs := ReadsRow.imp_ h hb (fun _ _ hp => d.K_below hb hp)
theorem R_nil (d : Kd α) (e : Nat) (w : World) (base : Nat) (ok : Nat → Prop) : d.R e w base ok (.slice none 0 0) [] := ⟨fun k hk => by simp [Value.ownBlock] at hk, OwnRow.none_ _ _ _ _ _⟩
theorem R_mono (h : d.R e w base ok v xs) (hok : ∀ k, ok k → ok' k) : d.R e w base ok' v xs := ⟨fun k hk => hok k (h.1 k hk), h.2.imp_ (fun _ _ hp => d.M_mono (fun k hk => ⟨hok k hk.1, hk.2⟩) hp)⟩
theorem R_bound (h : d.R e w base ok v xs) : d.R e w base (fun k => ok k ∧ base ≤ k ∧ k < w.heap.size ∧ ∃ q, q ∈ e :: d.E ∧ ∃ cells, w.heap[k]? = some (.cells cells q (0, 0))) v xs := by
  obtain ⟨h0, inner, ho, hr⟩ := h
  refine ⟨fun k hk => ?_, inner, ho, hr.imp_ (fun _ _ hp => d.M_mono (fun k hk => ?_) (d.M_bound hp))⟩
  · obtain ⟨cells, hc⟩ := own_typed ho k hk
    exact ⟨h0 k hk, own_base ho k hk, own_lt ho k hk, e, List.mem_cons_self, cells, hc⟩
  · obtain ⟨⟨h1, h2⟩, h3, h4, q, hq, hc⟩ := hk
    exact ⟨⟨h1, h3, h4, q, List.mem_cons_of_mem _ hq, hc⟩, h2⟩
theorem R_move (h : d.R e w base ok v xs) (hm : ∀ k, ok k → w1.heap[k]? = w.heap[k]?) : d.R e w1 base ok v xs := by
  obtain ⟨h0, inner, ho, hr⟩ := h
  exact ⟨h0, inner, own_move ho (fun k hk => hm k (h0 k hk)), hr.imp_ (fun _ _ hp => d.M_move (fun k hk => hm k hk.1) hp)⟩
theorem R_lower {base' : Nat} (h : d.R e w base ok v xs) (hb : base' ≤ base) : d.R e w base' ok v xs := by
  obtain ⟨h0, inner, ho, hr⟩ := h
  exact ⟨h0, inner, own_weaken ho hb, hr.imp_ (fun _ _ hp => d.M_lower hb hp)⟩
theorem R_step (h : d.R e w base ok v xs) (hm : ∀ k, ok k → k < w.heap.size → w1.heap[k]? = w.heap[k]?) : d.R e w1 base ok v xs :=
  R_mono (R_move (R_bound h) (fun k hk => hm k hk.1 hk.2.2.1)) (fun _ hk => hk.1)
theorem M_step {x : α} {cs : List Value} (h : d.M w base ok x cs) (hm : ∀ k, ok k → k < w.heap.size → w1.heap[k]? = w.heap[k]?) : d.M w1 base ok x cs :=
  d.M_mono (fun _ hk => hk.1) (d.M_move (fun k hk => hm k hk.1 hk.2.2.1) (d.M_bound h))
theorem R_below (h : d.R e w base ok v xs) (hb : Below w.heap.size w w1) : d.R e w1 base ok v xs := R_step h (fun k _ hk => hb.block k hk)
theorem R_grown (h : d.R e w base ok v xs) {row : Option Nat} (hg : w.grownBy w1 row) (hok : ∀ k, ok k → some k ≠ row) : d.R e w1 base ok v xs := R_step h (fun k ho hk => hg.block k hk (hok k ho))
theorem R_far (h : d.R e w base ok v xs) {p : Addr} (hok : ∀ k, ok k → k ≠ p.block) (u : Value) : d.R e (w.setCell p u) base ok v xs := R_step h (fun k ho _ => Below.heap_setCell w p u k (hok k ho))
theorem R_types (h : d.R e w base ok v xs) {g t : Nat} {cells : Array Value} (hb : w.heap[g]? = some (.cells cells t (0, 0))) (ht : ∀ q, q ∈ e :: d.E → q ≠ t) : d.R e w base (fun k => ok k ∧ k ≠ g) v xs :=
  R_mono (R_bound h) (fun k hk => ⟨hk.1, by
    obtain ⟨_, _, _, q, hq, cells', hc⟩ := hk
    rintro rfl
    rw [hc] at hb
    injection hb with hb
    injection hb with _ hb
    exact ht q hq hb⟩)
theorem R_set (h : d.R e w base ok v xs) {g t : Nat} {cells : Array Value} (hb : w.heap[g]? = some (.cells cells t (0, 0))) (ht : ∀ q, q ∈ e :: d.E → q ≠ t) (j : Nat) (u : Value) : d.R e (w.setCell ⟨g, j, none⟩ u) base ok v xs :=
  R_mono (R_far (p := ⟨g, j, none⟩) (R_types h hb ht) (fun _ hk => hk.2) u) (fun _ hk => hk.1)
theorem R_reads (h : d.R e w base ok v xs) : ∃ A c, v = .slice A xs.length c ∧ xs.length ≤ c ∧ d.C w A xs.length xs := by
  obtain ⟨A, c, he, hl, hr⟩ := OwnRow.reads h.2
  exact ⟨A, c, he, hl, hr.imp_ (Below.refl _ _) (fun _ _ hp => d.K_of_M hp)⟩
theorem R_slice (h : d.R e w base ok v xs) : ∃ A c, v = .slice A xs.length c := by
  obtain ⟨A, c, he, _⟩ := R_reads h
  exact ⟨A, c, he⟩
theorem R_own (h : d.R e w base ok v xs) : ∃ inner, w.ownsRow base e d.sz v xs.length inner := by
  obtain ⟨_, inner, ho, _⟩ := h
  exact ⟨inner, ho⟩
theorem R_ne (h : d.R e w base ok v xs) {g t : Nat} {cells : Array Value} (hb : w.heap[g]? = some (.cells cells t (0, 0))) (ht : e ≠ t) : some g ≠ v.ownBlock := OwnRow.ne_block h.2 hb ht
end
def scalar {α : Type} (enc : α → Value) (h1 : ∀ x, (enc x).oneCell' = true) : Kd α where
  sz := 1
  E := []
  K := fun _ x cs => cs = [enc x]
  M := fun _ _ _ x cs => cs = [enc x]
  K_len := fun h => by rw [h]; rfl
  K_one := fun h u hu => by
    rw [h] at hu
    rw [List.mem_singleton.1 hu]
    exact h1 _
  K_below := fun _ h => h
  K_of_M := fun h => h
  M_mono := fun _ h => h
  M_bound := fun h => h
  M_move := fun _ h => h
  M_lower := fun _ h => h
def int (k : IntKind) : Kd Int := scalar (Value.int k) (fun _ => rfl)
def bool : Kd Bool := scalar Value.bool (fun _ => rfl)
def string : Kd ByteArray := scalar Value.string (fun _ => rfl)
def slice {α : Type} (e : Nat) (d : Kd α) : Kd (List α) where
  sz := 1
  E := e :: d.E
  K := fun w xs cs => ∃ A c, cs = [.slice A xs.length c] ∧ xs.length ≤ c ∧ d.C w A xs.length xs
  M := fun w base ok xs cs => ∃ v, cs = [v] ∧ d.R e w base ok v xs
  K_len := by
    rintro w x cs ⟨A, c, rfl, _⟩
    rfl
  K_one := by
    rintro w x cs ⟨A, c, rfl, _⟩ u hu
    rw [List.mem_singleton.1 hu]
    rfl
  K_below := by
    rintro w w1 x cs hb ⟨A, c, rfl, hl, hr⟩
    exact ⟨A, c, rfl, hl, C_below hr hb⟩
  K_of_M := by
    rintro w base ok x cs ⟨v, rfl, h⟩
    obtain ⟨A, c, rfl, hl, hr⟩ := R_reads h
    exact ⟨A, c, rfl, hl, hr⟩
  M_mono := by
    rintro w base ok ok' x cs hok ⟨v, rfl, h⟩
    exact ⟨v, rfl, R_mono h hok⟩
  M_bound := by
    rintro w base ok x cs ⟨v, rfl, h⟩
    exact ⟨v, rfl, R_bound h⟩
  M_move := by
    rintro w w1 base ok x cs hm ⟨v, rfl, h⟩
    exact ⟨v, rfl, R_move h hm⟩
  M_lower := by
    rintro w base base' ok x cs hb ⟨v, rfl, h⟩
    exact ⟨v, rfl, R_lower h hb⟩
def pair {α β : Type} (a : Kd α) (b : Kd β) : Kd (α × β) where
  sz := a.sz + b.sz
  E := a.E ++ b.E
  K := fun w x cs => ∃ c0 c1, cs = c0 ++ c1 ∧ a.K w x.1 c0 ∧ b.K w x.2 c1
  M := fun w base ok x cs => ∃ c0 c1, cs = c0 ++ c1 ∧ a.M w base ok x.1 c0 ∧ b.M w base ok x.2 c1
  K_len := by
    rintro w x cs ⟨c0, c1, rfl, h0, h1⟩
    rw [List.length_append, a.K_len h0, b.K_len h1]
  K_one := by
    rintro w x cs ⟨c0, c1, rfl, h0, h1⟩ u hu
    rcases List.mem_append.1 hu with hu | hu
    · exact a.K_one h0 u hu
    · exact b.K_one h1 u hu
  K_below := by
    rintro w w1 x cs hb ⟨c0, c1, rfl, h0, h1⟩
    exact ⟨c0, c1, rfl, a.K_below hb h0, b.K_below hb h1⟩
  K_of_M := by
    rintro w base ok x cs ⟨c0, c1, rfl, h0, h1⟩
    exact ⟨c0, c1, rfl, a.K_of_M h0, b.K_of_M h1⟩
  M_mono := by
    rintro w base ok ok' x cs hok ⟨c0, c1, rfl, h0, h1⟩
    exact ⟨c0, c1, rfl, a.M_mono hok h0, b.M_mono hok h1⟩
  M_bound := by
    rintro w base ok x cs ⟨c0, c1, rfl, h0, h1⟩
    refine ⟨c0, c1, rfl, a.M_mono ?_ (a.M_bound h0), b.M_mono ?_ (b.M_bound h1)⟩
    · rintro k ⟨h2, h3, h4, q, hq, hc⟩
      exact ⟨h2, h3, h4, q, List.mem_append_left _ hq, hc⟩
    · rintro k ⟨h2, h3, h4, q, hq, hc⟩
      exact ⟨h2, h3, h4, q, List.mem_append_right _ hq, hc⟩
  M_move := by
    rintro w w1 base ok x cs hm ⟨c0, c1, rfl, h0, h1⟩
    exact ⟨c0, c1, rfl, a.M_move hm h0, b.M_move hm h1⟩
  M_lower := by
    rintro w base base' ok x cs hb ⟨c0, c1, rfl, h0, h1⟩
    exact ⟨c0, c1, rfl, a.M_lower hb h0, b.M_lower hb h1⟩
def iso {α β : Type} (d : Kd α) (f : β → α) : Kd β where
  sz := d.sz
  E := d.E
  K := fun w x cs => d.K w (f x) cs
  M := fun w base ok x cs => d.M w base ok (f x) cs
  K_len := d.K_len
  K_one := d.K_one
  K_below := d.K_below
  K_of_M := d.K_of_M
  M_mono := d.M_mono
  M_bound := d.M_bound
  M_move := d.M_move
  M_lower := d.M_lower
def bot {α : Type} (sz : Nat) (E : List Nat) : Kd α where
  sz := sz
  E := E
  K := fun _ _ _ => False
  M := fun _ _ _ _ _ => False
  K_len := fun h => h.elim
  K_one := fun h => h.elim
  K_below := fun _ h => h
  K_of_M := fun h => h
  M_mono := fun _ h => h
  M_bound := fun h => h
  M_move := fun _ h => h
  M_lower := fun _ h => h
def upto {α : Type} (F : Kd α → Kd α) (sz : Nat) (E : List Nat) : Nat → Kd α
  | 0 => bot sz E
  | n + 1 => F (upto F sz E n)
def fix {α : Type} (F : Kd α → Kd α) (sz : Nat) (E : List Nat) (hs : ∀ n, (upto F sz E n).sz = sz) (hE : ∀ n q, q ∈ (upto F sz E n).E → q ∈ E) : Kd α where
  sz := sz
  E := E
  K := fun w x cs => ∃ n, (upto F sz E n).K w x cs
  M := fun w base ok x cs => ∃ n, (upto F sz E n).M w base ok x cs
  K_len := by
    rintro w x cs ⟨n, h⟩
    rw [(upto F sz E n).K_len h, hs n]
  K_one := by
    rintro w x cs ⟨n, h⟩
    exact (upto F sz E n).K_one h
  K_below := by
    rintro w w1 x cs hb ⟨n, h⟩
    exact ⟨n, (upto F sz E n).K_below hb h⟩
  K_of_M := by
    rintro w base ok x cs ⟨n, h⟩
    exact ⟨n, (upto F sz E n).K_of_M h⟩
  M_mono := by
    rintro w base ok ok' x cs hok ⟨n, h⟩
    exact ⟨n, (upto F sz E n).M_mono hok h⟩
  M_bound := by
    rintro w base ok x cs ⟨n, h⟩
    refine ⟨n, (upto F sz E n).M_mono ?_ ((upto F sz E n).M_bound h)⟩
    rintro k ⟨h2, h3, h4, q, hq, hc⟩
    exact ⟨h2, h3, h4, q, hE n q hq, hc⟩
  M_move := by
    rintro w w1 base ok x cs hm ⟨n, h⟩
    exact ⟨n, (upto F sz E n).M_move hm h⟩
  M_lower := by
    rintro w base base' ok x cs hb ⟨n, h⟩
    exact ⟨n, (upto F sz E n).M_lower hb h⟩
theorem C_get {α : Type} {d : Kd α} {w : World} {A : Option Addr} {n : Nat} {xs : List α} (h : d.C w A n xs) (z : α) (i : Int) (h0 : 0 ≤ i) (h1 : i < n) :
    ∃ ad c, A = some ad ∧ c.length = d.sz ∧ d.K w (xs.getD i.toNat z) c ∧ ∀ j u, c[j]? = some u → w.cell? (ad.add (i.toNat * d.sz + j)) = some u := ReadsRow.get_ h z i h0 h1
theorem R_appended {α : Type} {d : Kd α} {e base : Nat} {ok okp : Nat → Prop} {W w1 : World} {v v1 : Value} {xs : List α} {p : α} {inner cs : List Value} (h0 : ∀ k, v.ownBlock = some k → ok k) (hr : Reps (d.M W base (fun k => ok k ∧ some k ≠ v.ownBlock)) d.sz xs inner) (hp : d.M W base okp p cs) (hokp : ∀ k, okp k → ok k ∧ some k ≠ v.ownBlock) (hfresh : ∀ k, W.heap.size ≤ k → ok k)
    (hown : w1.ownsRow base e d.sz v1 (xs.length + 1) (inner ++ cs)) (hg : W.grownBy w1 v.ownBlock) (hat : v1.ownBlock = v.ownBlock ∨ ∃ b, v1.ownBlock = some b ∧ W.heap.size ≤ b) : d.R e w1 base ok v1 (xs ++ [p]) := by
  have hne : ∀ k, some k ≠ v.ownBlock → k < W.heap.size → some k ≠ v1.ownBlock := by
    intro k hk hlt
    rcases hat with hat | ⟨b, hb, hle⟩
    · rw [hat]; exact hk
    · rw [hb]
      intro he
      injection he with he
      omega
  have step : ∀ {q : α} {c : List Value} {o : Nat → Prop}, d.M W base o q c → (∀ k, o k → ok k ∧ some k ≠ v.ownBlock) → d.M w1 base (fun k => ok k ∧ some k ≠ v1.ownBlock) q c := by
    intro q c o hq ho
    have h1 := d.M_move (w1 := w1) (fun k hk => hg.block k hk.2.2.1 (ho k hk.1).2) (d.M_bound hq)
    exact d.M_mono (fun k hk => ⟨(ho k hk.1).1, hne k (ho k hk.1).2 hk.2.2.1⟩) h1
  refine ⟨fun k hk => ?_, inner ++ cs, by rw [List.length_append, List.length_singleton]; exact hown, ?_⟩
  · rcases hat with hat | ⟨b, hb, hle⟩
    · exact h0 k (hat ▸ hk)
    · rw [hb] at hk
      injection hk with hk
      exact hfresh k (by omega)
  · exact (hr.imp_ (fun _ _ hq => step hq (fun _ hk => hk))).snoc (step hp hokp) (d.K_len (d.K_of_M hp))
section
variable {P : Program} {ops : Array Oper} {rest : List Oper} {o : Oper} {a : Act} {Q : Exit → Act → World → Prop} {α : Type}
theorem R_append (d : Kd α) {w0 W : World} (base : Nat) (hgd : o.guard = none) (s x : Operand) (t e : TypeId) (z : Value) (bytes : Nat)
    (ho : o.op = .call { callee := .builtin .append, args := #[s, x], argTypes := #[t, t] })
    (ht : P.underlying t = some (.slice e)) (hinfo : (P.info? e).map (fun i => (i.zero, i.size, i.bytes)) = some (some z, d.sz, bytes)) (hz : z.cells.size = d.sz) (hs0 : 0 < d.sz) (hb0 : 0 < bytes)
    (v : Value) (xs : List α) (p : α) (cs : List Value) (ok okp : Nat → Prop) (hs : a.eval s = v) (hx : a.eval x = .slice (some ⟨W.heap.size, 0, none⟩) 1 1) (hp : d.M W base okp p cs) (hokp : ∀ k, okp k → ok k ∧ some k ≠ v.ownBlock) (hfresh : ∀ k, W.heap.size ≤ k → ok k)
    (HO : d.R e W base ok v xs) (HB : Below base w0 W) (hbase : base ≤ W.heap.size) (hl : (xs.length + 1) * bytes ≤ 140737488355328)
    (h : ∀ v1 w1, d.R e w1 base ok v1 (xs ++ [p]) → Below base w0 w1 → W.grownBy w1 v.ownBlock → (v1.ownBlock = v.ownBlock ∨ ∃ b, v1.ownBlock = some b ∧ W.heap.size ≤ b) → wpList P ops Q rest (a.put o.dst v1) w1) :
    wpList P ops Q (o :: rest) a (W.alloc (.cells cs.toArray e)) := by
  obtain ⟨h0, inner, hown, hr⟩ := HO
  refine print_append_cells base hgd s x t e z d.sz bytes ho ht hinfo hz hs0 hb0 v xs.length inner cs hs hx (d.K_len (d.K_of_M hp)) (d.K_one (d.K_of_M hp)) hown HB hbase hl ?_
  intro v1 w1 hown1 hb1 hg1 hat1
  exact h v1 w1 (R_appended h0 hr hp hokp hfresh hown1 hg1 hat1) hb1 hg1 hat1
end
section
variable {P : Program} {ops : Array Oper} {o : Oper} {a : Act} {Q : Exit → Act → World → Prop} {Kc : Act → World → Prop} {α : Type}
theorem R_append_step (d : Kd α) {w0 W : World} (base : Nat) (hw : Region.wanted o (yielded ops a.tmps) = true) (s x : Operand) (t e : TypeId) (z : Value) (bytes : Nat)
    (ho : o.op = .call { callee := .builtin .append, args := #[s, x], argTypes := #[t, t] })
    (ht : P.underlying t = some (.slice e)) (hinfo : (P.info? e).map (fun i => (i.zero, i.size, i.bytes)) = some (some z, d.sz, bytes)) (hz : z.cells.size = d.sz) (hs0 : 0 < d.sz) (hb0 : 0 < bytes)
    (v : Value) (xs : List α) (p : α) (cs : List Value) (ok okp : Nat → Prop) (hs : a.eval s = v) (hx : a.eval x = .slice (some ⟨W.heap.size, 0, none⟩) 1 1) (hp : d.M W base okp p cs) (hokp : ∀ k, okp k → ok k ∧ some k ≠ v.ownBlock) (hfresh : ∀ k, W.heap.size ≤ k → ok k)
    (HO : d.R e W base ok v xs) (HB : Below base w0 W) (hbase : base ≤ W.heap.size) (hl : (xs.length + 1) * bytes ≤ 140737488355328)
    (h : ∀ v1 w1, d.R e w1 base ok v1 (xs ++ [p]) → Below base w0 w1 → W.grownBy w1 v.ownBlock → (v1.ownBlock = v.ownBlock ∨ ∃ b, v1.ownBlock = some b ∧ W.heap.size ≤ b) → Kc (a.put o.dst v1) w1) :
    if Region.wanted o (yielded ops a.tmps) = true then Oper.wp P o a (W.alloc (.cells cs.toArray e)) Kc Q else Kc (a.put o.dst undef) (W.alloc (.cells cs.toArray e)) := by
  obtain ⟨h0, inner, hown, hr⟩ := HO
  refine step_append_cells base hw s x t e z d.sz bytes ho ht hinfo hz hs0 hb0 v xs.length inner cs hs hx (d.K_len (d.K_of_M hp)) (d.K_one (d.K_of_M hp)) hown HB hbase hl ?_
  intro v1 w1 hown1 hb1 hg1 hat1
  exact h v1 w1 (R_appended h0 hr hp hokp hfresh hown1 hg1 hat1) hb1 hg1 hat1
end
end Kd
namespace Kd
structure Mono {α β : Type} (F : Kd α → Kd β) : Prop where
  sz : ∀ d d' : Kd α, d.sz = d'.sz → (F d).sz = (F d').sz
  K : ∀ d d' : Kd α, d.sz = d'.sz → (∀ w x cs, d.K w x cs → d'.K w x cs) → ∀ w x cs, (F d).K w x cs → (F d').K w x cs
  M : ∀ d d' : Kd α, d.sz = d'.sz → (∀ w base ok x cs, d.M w base ok x cs → d'.M w base ok x cs) → ∀ w base ok x cs, (F d).M w base ok x cs → (F d').M w base ok x cs
theorem mono_const {α β : Type} (k : Kd β) : Mono (fun _ : Kd α => k) := ⟨fun _ _ _ => rfl, fun _ _ _ _ _ _ _ h => h, fun _ _ _ _ _ _ _ _ _ h => h⟩
theorem mono_id {α : Type} : Mono (fun d : Kd α => d) := ⟨fun _ _ h => h, fun _ _ _ h => h, fun _ _ _ h => h⟩
theorem C_imp {α : Type} {d d' : Kd α} (hs : d.sz = d'.sz) (h : ∀ w x cs, d.K w x cs → d'.K w x cs) {w : World} {A : Option Addr} {n : Nat} {xs : List α} (hc : d.C w A n xs) : d'.C w A n xs := by
  unfold C at hc ⊢
  rw [← hs]
  exact hc.imp_ (Below.refl _ _) (fun _ _ hp => h _ _ _ hp)
theorem R_imp {α : Type} {d d' : Kd α} (hs : d.sz = d'.sz) (h : ∀ w base ok x cs, d.M w base ok x cs → d'.M w base ok x cs) {e : Nat} {w : World} {base : Nat} {ok : Nat → Prop} {v : Value} {xs : List α} (hr : d.R e w base ok v xs) : d'.R e w base ok v xs := by
  unfold R at hr ⊢
  rw [← hs]
  exact ⟨hr.1, hr.2.imp_ (fun _ _ hp => h _ _ _ _ _ hp)⟩
theorem mono_slice {α β : Type} (e : Nat) {G : Kd α → Kd β} (hG : Mono G) : Mono (fun d => slice e (G d)) := by
  refine ⟨fun _ _ _ => rfl, ?_, ?_⟩
  · rintro d d' hs h w x cs ⟨A, c, rfl, hl, hr⟩
    exact ⟨A, c, rfl, hl, C_imp (hG.sz d d' hs) (hG.K d d' hs h) hr⟩
  · rintro d d' hs h w base ok x cs ⟨v, rfl, hr⟩
    exact ⟨v, rfl, R_imp (hG.sz d d' hs) (hG.M d d' hs h) hr⟩
theorem mono_pair {α β γ : Type} {G : Kd α → Kd β} {H : Kd α → Kd γ} (hG : Mono G) (hH : Mono H) : Mono (fun d => pair (G d) (H d)) := by
  refine ⟨fun d d' hs => ?_, ?_, ?_⟩
  · show (G d).sz + (H d).sz = (G d').sz + (H d').sz
    rw [hG.sz d d' hs, hH.sz d d' hs]
  · rintro d d' hs h w x cs ⟨c0, c1, rfl, h0, h1⟩
    exact ⟨c0, c1, rfl, hG.K d d' hs h _ _ _ h0, hH.K d d' hs h _ _ _ h1⟩
  · rintro d d' hs h w base ok x cs ⟨c0, c1, rfl, h0, h1⟩
    exact ⟨c0, c1, rfl, hG.M d d' hs h _ _ _ _ _ h0, hH.M d d' hs h _ _ _ _ _ h1⟩
theorem mono_iso {α β γ : Type} {G : Kd α → Kd β} (f : γ → β) (hG : Mono G) : Mono (fun d => iso (G d) f) :=
  ⟨hG.sz, fun d d' hs h w x cs => hG.K d d' hs h w (f x) cs, fun d d' hs h w base ok x cs => hG.M d d' hs h w base ok (f x) cs⟩
def Sub {α β : Type} (F : Kd α → Kd β) (E : List Nat) : Prop := ∀ d : Kd α, (∀ q, q ∈ d.E → q ∈ E) → ∀ q, q ∈ (F d).E → q ∈ E
theorem sub_const {α β : Type} {E : List Nat} (k : Kd β) (h : ∀ q, q ∈ k.E → q ∈ E) : Sub (fun _ : Kd α => k) E := fun _ _ => h
theorem sub_id {α : Type} {E : List Nat} : Sub (fun d : Kd α => d) E := fun _ h => h
theorem sub_slice {α β : Type} {E : List Nat} (e : Nat) {G : Kd α → Kd β} (he : e ∈ E) (hG : Sub G E) : Sub (fun d => slice e (G d)) E := fun d h q hq => by
  rcases List.mem_cons.1 hq with rfl | hq
  · exact he
  · exact hG d h q hq
theorem sub_pair {α β γ : Type} {E : List Nat} {G : Kd α → Kd β} {H : Kd α → Kd γ} (hG : Sub G E) (hH : Sub H E) : Sub (fun d => pair (G d) (H d)) E := fun d h q hq => by
  rcases List.mem_append.1 hq with hq | hq
  · exact hG d h q hq
  · exact hH d h q hq
theorem sub_iso {α β γ : Type} {E : List Nat} {G : Kd α → Kd β} (f : γ → β) (hG : Sub G E) : Sub (fun d => iso (G d) f) E := hG
theorem upto_E {α : Type} {F : Kd α → Kd α} {sz : Nat} {E : List Nat} (h : Sub F E) : ∀ n q, q ∈ (upto F sz E n).E → q ∈ E
  | 0, _, hq => hq
  | n + 1, q, hq => h _ (upto_E h n) q hq
theorem upto_sz {α : Type} {F : Kd α → Kd α} {sz : Nat} {E : List Nat} (h : ∀ d : Kd α, (F d).sz = sz) : ∀ n, (upto F sz E n).sz = sz
  | 0 => rfl
  | _ + 1 => h _
section
variable {α : Type} {F : Kd α → Kd α} {sz : Nat} {E : List Nat} {hs : ∀ n, (upto F sz E n).sz = sz} {hE : ∀ n q, q ∈ (upto F sz E n).E → q ∈ E}
theorem upto_M (hm : Mono F) (hs : ∀ n, (upto F sz E n).sz = sz) : ∀ n {w base ok x cs}, (upto F sz E n).M w base ok x cs → (upto F sz E (n + 1)).M w base ok x cs
  | 0, _, _, _, _, _, h => h.elim
  | n + 1, _, _, _, _, _, h => hm.M _ _ (by rw [hs n, hs (n + 1)]) (fun _ _ _ _ _ hk => upto_M hm hs n hk) _ _ _ _ _ h
theorem upto_M_le (hm : Mono F) (hs : ∀ n, (upto F sz E n).sz = sz) {n m : Nat} (hnm : n ≤ m) {w base ok x cs} (h : (upto F sz E n).M w base ok x cs) : (upto F sz E m).M w base ok x cs := by
  obtain ⟨j, rfl⟩ := Nat.exists_eq_add_of_le hnm
  induction j with
  | zero => exact h
  | succ j ih => exact upto_M hm hs _ (ih (by omega))
theorem fix_C {n : Nat} {w : World} {A : Option Addr} {m : Nat} {xs : List α} (h : (upto F sz E n).C w A m xs) : (fix F sz E hs hE).C w A m xs := C_imp (d' := fix F sz E hs hE) (hs n) (fun w x cs hp => (⟨n, hp⟩ : ∃ n, (upto F sz E n).K w x cs)) h
theorem fix_R {n : Nat} {e : Nat} {w : World} {base : Nat} {ok : Nat → Prop} {v : Value} {xs : List α} (h : (upto F sz E n).R e w base ok v xs) : (fix F sz E hs hE).R e w base ok v xs := R_imp (d' := fix F sz E hs hE) (hs n) (fun w base ok x cs hp => (⟨n, hp⟩ : ∃ n, (upto F sz E n).M w base ok x cs)) h
theorem bounded {P : Nat → Nat → Prop} (hP : ∀ n m j, n ≤ m → P n j → P m j) : ∀ m, (∀ j, j < m → ∃ n, P n j) → ∃ N, ∀ j, j < m → P N j
  | 0, _ => ⟨0, fun j hj => absurd hj (Nat.not_lt_zero j)⟩
  | m + 1, h => by
    obtain ⟨N, hN⟩ := bounded hP m (fun j hj => h j (by omega))
    obtain ⟨n, hn⟩ := h m (by omega)
    refine ⟨max N n, fun j hj => ?_⟩
    rcases Nat.lt_or_ge j m with hj' | hj'
    · exact hP N _ j (Nat.le_max_left _ _) (hN j hj')
    · have : j = m := by omega
      subst this
      exact hP n _ j (Nat.le_max_right _ _) hn
theorem reps_bounded {α : Type} {R : Nat → α → List Value → Prop} (hR : ∀ n m p c, n ≤ m → R n p c → R m p c) {size : Nat} {ps : List α} {cs : List Value} (h : Reps (fun p c => ∃ n, R n p c) size ps cs) : ∃ N, Reps (R N) size ps cs := by
  obtain ⟨N, hN⟩ := bounded (P := fun n j => ∀ p, ps[j]? = some p → R n p ((cs.drop (j * size)).take size)) (fun n m j hnm hp p hj => hR n m p _ hnm (hp p hj)) ps.length
    (fun j hj => by
      obtain ⟨n, hn⟩ := h.2 j _ (List.getElem?_eq_getElem hj)
      refine ⟨n, fun p hp => ?_⟩
      rw [List.getElem?_eq_getElem hj] at hp
      injection hp with hp
      rw [← hp]
      exact hn)
  exact ⟨N, h.1, fun j p hj => hN j (List.getElem?_eq_some_iff.1 hj).1 p hj⟩
theorem fix_R_back (hm : Mono F) {e : Nat} {w : World} {base : Nat} {ok : Nat → Prop} {v : Value} {xs : List α} (h : (fix F sz E hs hE).R e w base ok v xs) : ∃ n, (upto F sz E n).R e w base ok v xs := by
  obtain ⟨h0, inner, ho, hr⟩ := h
  obtain ⟨N, hN⟩ := reps_bounded (R := fun n p c => (upto F sz E n).M w base (fun k => ok k ∧ some k ≠ v.ownBlock) p c) (fun n m p c hnm hp => upto_M_le hm hs hnm hp) hr
  refine ⟨N, h0, inner, ?_, ?_⟩
  · rw [hs N]; exact ho
  · rw [hs N]; exact hN
theorem upto_R_le (hm : Mono F) (hs : ∀ n, (upto F sz E n).sz = sz) {n m : Nat} (hnm : n ≤ m) {e : Nat} {w : World} {base : Nat} {ok : Nat → Prop} {v : Value} {xs : List α} (h : (upto F sz E n).R e w base ok v xs) : (upto F sz E m).R e w base ok v xs := R_imp (by rw [hs n, hs m]) (fun _ _ _ _ _ hp => upto_M_le hm hs hnm hp) h
end
end Kd
namespace Kd
end Kd
namespace Kd
section
variable {α β : Type} {d : Kd α} {d' : Kd β} {e e' : Nat} {w w1 W : World} {base b b' : Nat} {ok ok' okv oku : Nat → Prop} {v u : Value} {xs : List α} {ys : List β}
theorem R_alloc (h : d.R e w base ok v xs) (o : Obj) : d.R e (w.alloc o) base ok v xs := R_below h (below_alloc (Below.refl _ _) o)
theorem R_drew (h : d.R e w base ok v xs) : d.R e w.drew base ok v xs := R_below h (below_drew (Below.refl _ _))
theorem R_drewN (h : d.R e w base ok v xs) (m : Nat) : d.R e (w.drewN m) base ok v xs := R_below h (pw_below_drewN (Below.refl _ _) m)
theorem C_alloc {A : Option Addr} {n : Nat} (h : d.C w A n xs) (o : Obj) : d.C (w.alloc o) A n xs := C_below h (below_alloc (Below.refl _ _) o)
theorem C_drew {A : Option Addr} {n : Nat} (h : d.C w A n xs) : d.C w.drew A n xs := C_below h (below_drew (Below.refl _ _))
theorem C_drewN {A : Option Addr} {n : Nat} (h : d.C w A n xs) (m : Nat) : d.C (w.drewN m) A n xs := C_below h (pw_below_drewN (Below.refl _ _) m)
theorem C_nil (d : Kd α) (w : World) : d.C w none ([] : List α).length [] := ⟨rfl, by simp, fun h => absurd h (Nat.lt_irrefl 0)⟩
theorem R_reads' {A : Option Addr} {n c : Nat} (h : d.R e w base ok (.slice A n c) xs) : n = xs.length ∧ n ≤ c ∧ d.C w A xs.length xs := by
  obtain ⟨A', c', he, hl, hr⟩ := R_reads h
  injection he with h1 h2 h3
  subst h1
  exact ⟨h2, by omega, hr⟩
theorem R_lt (h : d.R e w base ok v xs) : ∀ k, v.ownBlock = some k → k < w.heap.size := by
  obtain ⟨inner, ho⟩ := R_own h
  exact own_lt ho
theorem R_base (h : d.R e w base ok v xs) : ∀ k, v.ownBlock = some k → base ≤ k := by
  obtain ⟨inner, ho⟩ := R_own h
  exact own_base ho
theorem R_form (h : d.R e w base ok v xs) (hp : 0 < xs.length) : ∃ g cap, v = .slice (some ⟨g, 0, none⟩) xs.length cap ∧ base ≤ g ∧ g < w.heap.size ∧ ∃ cells, w.heap[g]? = some (.cells cells e (0, 0)) := by
  obtain ⟨inner, ho⟩ := R_own h
  obtain ⟨g, cap, he, hb, hl⟩ := ho.form hp
  obtain ⟨cells, hc⟩ := own_typed ho g (by rw [he]; simp [Value.ownBlock])
  exact ⟨g, cap, he, hb, hl, cells, hc⟩
end
section
variable {w W : World} {A : Option Addr} {n : Nat}
variable {α : Type} {enc : α → Value} {h1 : ∀ x, (enc x).oneCell' = true} {e base g cap : Nat} {ok : Nat → Prop} {xs : List α}
end
section
variable {P : Program} {ops : Array Oper} {rest : List Oper} {o : Oper} {a : Act} {Q : Exit → Act → World → Prop}
theorem event_run {W w1 : World} {v : Value} (hgd : o.guard = none) (hrun : (execOp a.eval o).run P W = .ok (.value v) w1) (h : wpList P ops Q rest (a.put o.dst v) w1) : wpList P ops Q (o :: rest) a W := by
  refine wpList_plain hgd fun K hK => ?_
  unfold Oper.wp
  rw [hrun]
  exact hK _ _ h
variable {α : Type}
end
end Kd
section
variable {P : Program}
end
def QRow (w : World) (base : Nat) (e : TypeId) (size : Nat) (v : Value) (n : Nat) (xs : List Value) : Prop :=
  xs.length = n * size ∧
  ((n = 0 ∧ ∃ A, v = .slice A 0 0 ∧ ∀ a, A = some a → base ≤ a.block ∧ ∃ cur, w.heap[a.block]? = some (.cells cur e (0, 0))) ∨
   ∃ g off cap cur, v = .slice (some ⟨g, off * size, none⟩) n cap ∧ base ≤ g ∧ w.heap[g]? = some (.cells cur e (0, 0)) ∧ n ≤ cap ∧ off + cap ≤ maxLen ∧ cur.size = (off + cap) * size ∧ (cur.toList.drop (off * size)).take (n * size) = xs)
section
variable {w w1 : World} {base n size : Nat} {e : TypeId} {v : Value} {xs : List Value}
theorem q_of_own (h : w.ownsRow base e size v n xs) : QRow w base e size v n xs := by
  obtain ⟨h1, h2⟩ := h
  refine ⟨h1, ?_⟩
  rcases h2 with ⟨rfl, h0⟩ | ⟨g, cap, cur, rfl, hb, hh, hnc, hcm, hcs, ht⟩
  · exact .inl ⟨h0, none, rfl, fun a ha => by cases ha⟩
  · exact .inr ⟨g, 0, cap, cur, by rw [Nat.zero_mul], hb, hh, hnc, by rw [Nat.zero_add]; exact hcm, by rw [Nat.zero_add]; exact hcs, by rw [Nat.zero_mul, List.drop_zero]; exact ht⟩
theorem setCells_far {g : Nat} : ∀ (vs : List Value) (o : Nat) {w : World} (k : Nat), k ≠ g → (w.setCells g o vs).heap[k]? = w.heap[k]?
  | [], _, _, _, _ => rfl
  | v :: r, o, w, k, hk => by
    rw [World.setCells, setCells_far r (o + 1) k hk]
    exact Below.heap_setCell w ⟨g, o, none⟩ v k hk
theorem setCells_same (g : Nat) : ∀ (vs : List Value) (o : Nat) (w : World), (w.setCells g o vs).os = w.os ∧ (w.setCells g o vs).tape = w.tape ∧ (w.setCells g o vs).output = w.output ∧ (w.setCells g o vs).heap.size = w.heap.size
  | [], _, _ => ⟨rfl, rfl, rfl, rfl⟩
  | v :: r, o, w => by
    obtain ⟨h1, h2, h3, h4⟩ := setCells_same g r (o + 1) (w.setCell ⟨g, o, none⟩ v)
    rw [World.setCells]
    exact ⟨h1, h2, h3, by rw [h4]; simp [World.setCell]⟩
theorem setCells_row {g : Nat} {e : TypeId} : ∀ (vs : List Value) (o : Nat) (w : World) (cur : Array Value), w.heap[g]? = some (.cells cur e (0, 0)) → o + vs.length ≤ cur.size →
    ∃ cur', (w.setCells g o vs).heap[g]? = some (.cells cur' e (0, 0)) ∧ cur'.size = cur.size ∧ cur'.toList = cur.toList.take o ++ vs ++ cur.toList.drop (o + vs.length)
  | [], o, w, cur, h, _ => ⟨cur, h, rfl, by simp⟩
  | v :: r, o, w, cur, h, hl => by
    have h2 := blk_set h o v
    simp only [List.length_cons] at hl
    obtain ⟨cur', h3, h4, h5⟩ := setCells_row r (o + 1) (w.setCell ⟨g, o, none⟩ v) _ h2 (by simp; omega)
    refine ⟨cur', h3, by rw [h4]; simp, ?_⟩
    rw [h5, Array.toList_setIfInBounds]
    have ho : o < cur.toList.length := by rw [Array.length_toList]; omega
    rw [List.take_set, List.drop_set_of_lt (by omega)]
    simp only [List.length_cons]
    rw [show o + 1 + r.length = o + (r.length + 1) by omega]
    congr 1
    rw [List.take_succ_eq_append_getElem ho, List.set_append_right _ _ (by rw [List.length_take]; omega)]
    have ho' : o < cur.size := by omega
    simp [Nat.min_eq_left (Nat.le_of_lt ho')]
end
section
variable {P : Program}
end
namespace Kd
def Q {α : Type} (d : Kd α) (e : Nat) (w : World) (base : Nat) (ok : Nat → Prop) (v : Value) (xs : List α) : Prop :=
  (∀ k, v.ownBlock = some k → ok k) ∧ ∃ inner, QRow w base e d.sz v xs.length inner ∧ Reps (d.M w base (fun k => ok k ∧ some k ≠ v.ownBlock)) d.sz xs inner
section
variable {α : Type} {d : Kd α} {e : Nat} {w w1 W : World} {base : Nat} {ok ok' : Nat → Prop} {v : Value} {xs : List α}
theorem Q_of_R (h : d.R e w base ok v xs) : d.Q e w base ok v xs := by
  obtain ⟨h0, inner, ho, hr⟩ := h
  exact ⟨h0, inner, q_of_own ho, hr⟩
theorem Q_nil (d : Kd α) (e : Nat) (w : World) (base : Nat) (ok : Nat → Prop) : d.Q e w base ok (.slice none 0 0) [] := Q_of_R (R_nil d e w base ok)
end
section
variable {P : Program} {ops : Array Oper} {rest : List Oper} {o : Oper} {a : Act} {Q' : Exit → Act → World → Prop} {Kc : Act → World → Prop} {α : Type}
end
end Kd
namespace Kd
section
variable {α : Type} {d : Kd α} {e e' : Nat} {w w1 W : World} {base : Nat} {ok : Nat → Prop} {u v : Value} {xs : List α}
theorem R_typed (h : d.R e w base ok v xs) : ∀ k, v.ownBlock = some k → ∃ cells, w.heap[k]? = some (.cells cells e (0, 0)) := by
  obtain ⟨inner, ho⟩ := R_own h
  exact fun k hk => own_typed ho k hk
end
end Kd
theorem seg_get {α : Type} (a seg : List α) (o : Nat) (h : o + seg.length ≤ a.length) (q : Nat) :
    (a.take o ++ seg ++ a.drop (o + seg.length))[q]? = if q < o then a[q]? else if q < o + seg.length then seg[q - o]? else a[q]? := by
  have hl : (a.take o).length = o := by rw [List.length_take]; omega
  rw [List.append_assoc]
  by_cases h1 : q < o
  · rw [if_pos h1, List.getElem?_append_left (by omega), List.getElem?_take, if_pos h1]
  · rw [if_neg h1, List.getElem?_append_right (by omega), hl]
    by_cases h2 : q < o + seg.length
    · rw [if_pos h2, List.getElem?_append_left (by omega)]
    · rw [if_neg h2, List.getElem?_append_right (by omega), List.getElem?_drop]
      congr 1
      omega
namespace Kd
section
variable {α : Type} {d : Kd α} {e base g n cap : Nat} {ok okp : Nat → Prop} {W : World} {xs : List α}
theorem R_elem (h : d.R e W base ok (.slice (some ⟨g, 0, none⟩) n cap) xs) (z : α) (i : Int) (h0 : 0 ≤ i) (h1 : i < n) :
    ∃ c, c.length = d.sz ∧ d.M W base (fun k => ok k ∧ k ≠ g) (xs.getD i.toNat z) c ∧ (∀ j u, c[j]? = some u → W.cell? ⟨g, i.toNat * d.sz + j, none⟩ = some u) ∧ ∀ j, W.frozen? ⟨g, i.toNat * d.sz + j, none⟩ = false := by
  obtain ⟨hn, hnc, hC⟩ := R_reads' h
  obtain ⟨_, inner, ho, hr⟩ := h
  have hil : i.toNat < xs.length := by omega
  have hseg : i.toNat * d.sz + d.sz ≤ inner.length := by rw [hr.1, ← Nat.succ_mul]; exact Nat.mul_le_mul_right _ hil
  have hM := hr.2 i.toNat _ (List.getElem?_eq_getElem hil)
  refine ⟨(inner.drop (i.toNat * d.sz)).take d.sz, by rw [List.length_take, List.length_drop]; omega, ?_, fun j u hu => ?_, fun j => ?_⟩
  · rw [List.getD_eq_getElem?_getD, List.getElem?_eq_getElem hil]
    exact d.M_mono (fun k hk => ⟨hk.1, fun he => hk.2 (by rw [he]; simp [Value.ownBlock])⟩) hM
  · rw [List.getElem?_take] at hu
    split at hu
    · rw [List.getElem?_drop] at hu
      have := ho.cells (g := g) (by simp [Value.ownBlock]) _ u hu
      rwa [add_plain] at this
    · cases hu
  · obtain ⟨cells, hc⟩ := own_typed ho g (by simp [Value.ownBlock])
    exact blk_frozen hc _
theorem R_seg (h : d.R e W base ok (.slice (some ⟨g, 0, none⟩) n cap) xs) (i : Int) (h0 : 0 ≤ i) (h1 : i < n) {c seg : List Value} {j : Nat} (hcl : c.length = d.sz) (hcc : ∀ j u, c[j]? = some u → W.cell? ⟨g, i.toNat * d.sz + j, none⟩ = some u)
    (hj : j + seg.length ≤ d.sz) {x' : α} (hM : d.M W base okp x' (c.take j ++ seg ++ c.drop (j + seg.length))) (hokp : ∀ k, okp k → ok k ∧ k ≠ g) :
    d.R e (W.setCells g (i.toNat * d.sz + j) seg) base ok (.slice (some ⟨g, 0, none⟩) n cap) (xs.set i.toNat x') ∧ W.grownBy (W.setCells g (i.toNat * d.sz + j) seg) (some g) := by
  obtain ⟨hn, hnc, _⟩ := R_reads' h
  obtain ⟨hok, inner, ho, hr⟩ := h
  have hil : i.toNat < xs.length := by omega
  have hseg : i.toNat * d.sz + d.sz ≤ inner.length := by rw [hr.1, ← Nat.succ_mul]; exact Nat.mul_le_mul_right _ hil
  have hin : inner.length = n * d.sz := by rw [hr.1, hn]
  obtain ⟨ho1, ho2⟩ := ho
  rcases ho2 with ⟨hv, _⟩ | ⟨g', cap', cur, hv, hb, hh, hnc', hcm, hcs, ht⟩
  · cases hv
  injection hv with ha _ hc
  injection ha with ha
  injection ha with hg
  subst hg; subst hc
  have hfit : i.toNat * d.sz + j + seg.length ≤ cur.size := by
    have : n * d.sz ≤ cap * d.sz := Nat.mul_le_mul_right _ hnc
    omega
  obtain ⟨cur', h3, h4, h5⟩ := setCells_row seg (i.toNat * d.sz + j) W cur hh hfit
  obtain ⟨s1, s2, s3, s4⟩ := setCells_same g seg (i.toNat * d.sz + j) W
  have hfar : ∀ k, k ≠ g → (W.setCells g (i.toNat * d.sz + j) seg).heap[k]? = W.heap[k]? := fun k hk => setCells_far seg _ k hk
  -- the element's cells before are what was read
  have hcin : ∀ q, q < d.sz → c[q]? = inner[i.toNat * d.sz + q]? := by
    intro q hq
    have hq' : q < c.length := by omega
    have h6 := hcc q _ (List.getElem?_eq_getElem hq')
    rw [cell_of_row W g _ cur e (0, 0) hh] at h6
    rw [List.getElem?_eq_getElem hq', ← h6, ← ht, List.getElem?_take, if_pos (by rw [← hn]; omega), Array.getElem?_toList]
  refine ⟨⟨hok, inner.take (i.toNat * d.sz + j) ++ seg ++ inner.drop (i.toNat * d.sz + j + seg.length), ⟨?_, .inr ⟨g, cap, cur', by rw [List.length_set, hn], hb, h3, by rw [List.length_set, ← hn]; exact hnc, hcm, by rw [h4, hcs], ?_⟩⟩, ?_⟩,
    ⟨s1, s2, s3, by rw [s4]; exact Nat.le_refl _, fun k _ hk => hfar k (fun he => hk (by rw [he]))⟩⟩
  · rw [List.length_set]
    simp only [List.length_append, List.length_take, List.length_drop]
    rw [hr.1] at hseg ⊢
    omega
  · rw [List.length_set, ← hn]
    apply List.ext_getElem?
    intro q
    rw [List.getElem?_take, h5]
    rw [seg_get cur.toList seg (i.toNat * d.sz + j) (by rw [Array.length_toList]; omega) q, seg_get inner seg (i.toNat * d.sz + j) (by omega) q]
    have hcur : ∀ q, q < n * d.sz → cur.toList[q]? = inner[q]? := by
      intro q hq
      rw [← ht, List.getElem?_take, if_pos (by rw [← hn]; exact hq)]
    by_cases hq : q < n * d.sz
    · rw [if_pos hq, hcur q hq]
    · rw [if_neg hq, if_neg (by omega), if_neg (by omega), List.getElem?_eq_none (by omega)]
  · refine ⟨?_, fun m p hm => ?_⟩
    · rw [List.length_set]
      simp only [List.length_append, List.length_take, List.length_drop]
      rw [hr.1] at hseg ⊢
      omega
    · have hml : m < xs.length := by
        have := (List.getElem?_eq_some_iff.1 hm).1
        rwa [List.length_set] at this
      have hmfit : m * d.sz + d.sz ≤ inner.length := by rw [hr.1, ← Nat.succ_mul]; exact Nat.mul_le_mul_right _ hml
      have hgo : some g = (Value.slice (some ⟨g, 0, none⟩) n cap).ownBlock := by simp [Value.ownBlock]
      by_cases hmi : m = i.toNat
      · subst hmi
        rw [List.getElem?_set_self (by omega)] at hm
        injection hm with hm
        subst hm
        have hcells : ((inner.take (i.toNat * d.sz + j) ++ seg ++ inner.drop (i.toNat * d.sz + j + seg.length)).drop (i.toNat * d.sz)).take d.sz = c.take j ++ seg ++ c.drop (j + seg.length) := by
          apply List.ext_getElem?
          intro q
          rw [List.getElem?_take, List.getElem?_drop, seg_get inner seg _ (by omega), seg_get c seg j (by omega) q]
          by_cases hq : q < d.sz
          · rw [if_pos hq, hcin q hq]
            by_cases hq1 : q < j
            · rw [if_pos (by omega), if_pos hq1]
            · rw [if_neg (by omega), if_neg hq1]
              by_cases hq2 : q < j + seg.length
              · rw [if_pos (by omega), if_pos hq2]
                congr 1
                omega
              · rw [if_neg (by omega), if_neg hq2]
          · rw [if_neg hq, if_neg (by omega), if_neg (by omega), List.getElem?_eq_none (by omega)]
        rw [hcells]
        refine d.M_mono (fun k hk => ?_) (d.M_move (w1 := W.setCells g (i.toNat * d.sz + j) seg) (fun k hk => hfar k (hokp k hk).2) hM)
        exact ⟨(hokp k hk).1, fun he => (hokp k hk).2 (by rw [← hgo] at he; injection he)⟩
      · rw [List.getElem?_set_ne (by omega)] at hm
        have hold := hr.2 m p hm
        have hcells : ((inner.take (i.toNat * d.sz + j) ++ seg ++ inner.drop (i.toNat * d.sz + j + seg.length)).drop (m * d.sz)).take d.sz = (inner.drop (m * d.sz)).take d.sz := by
          apply List.ext_getElem?
          intro q
          rw [List.getElem?_take, List.getElem?_take, List.getElem?_drop, List.getElem?_drop, seg_get inner seg _ (by omega)]
          by_cases hq : q < d.sz
          · rw [if_pos hq, if_pos hq]
            rcases Nat.lt_or_gt_of_ne hmi with hlt | hgt
            · have : m * d.sz + d.sz ≤ i.toNat * d.sz := by rw [← Nat.succ_mul]; exact Nat.mul_le_mul_right _ hlt
              rw [if_pos (by omega)]
            · have : i.toNat * d.sz + d.sz ≤ m * d.sz := by rw [← Nat.succ_mul]; exact Nat.mul_le_mul_right _ hgt
              rw [if_neg (by omega), if_neg (by omega)]
          · rw [if_neg hq, if_neg hq]
        rw [hcells]
        refine d.M_move (fun k hk => hfar k (fun he => hk.2 (by rw [he]; exact hgo))) hold
end
end Kd
namespace Kd
section
variable {α : Type} {F : Kd α → Kd α} {sz : Nat} {E : List Nat} {hs : ∀ n, (upto F sz E n).sz = sz} {hE : ∀ n q, q ∈ (upto F sz E n).E → q ∈ E}
end
end Kd
namespace Kd
theorem reps_append {α : Type} {R : α → List Value → Prop} {size : Nat} {ps qs : List α} {cs ds : List Value} (h : Reps R size ps cs) (h' : Reps R size qs ds) : Reps R size (ps ++ qs) (cs ++ ds) := by
  refine ⟨by rw [List.length_append, List.length_append, h.1, h'.1, Nat.add_mul], fun j p hj => ?_⟩
  rcases Nat.lt_or_ge j ps.length with hlt | hge
  · rw [List.getElem?_append_left hlt] at hj
    have hle : j * size + size ≤ cs.length := by rw [h.1, ← Nat.succ_mul]; exact Nat.mul_le_mul_right _ hlt
    rw [List.drop_append_of_le_length (by omega), List.take_append_of_le_length (by rw [List.length_drop]; omega)]
    exact h.2 j p hj
  · rw [List.getElem?_append_right hge] at hj
    have h2 := h'.2 (j - ps.length) p hj
    have hle : ps.length * size ≤ j * size := Nat.mul_le_mul_right _ hge
    rw [List.drop_append, List.drop_eq_nil_of_le (by rw [h.1]; exact hle), List.nil_append, h.1, ← Nat.sub_mul]
    exact h2
section
variable {P : Program} {ops : Array Oper} {rest : List Oper} {o : Oper} {a : Act} {Q : Exit → Act → World → Prop} {α : Type}
end
end Kd
theorem run_store_run {P : Program} {w : World} {g o : Nat} {e : TypeId} {cur : Array Value} (t : TypeId) (u : Value) (seg : List Value) (hh : w.heap[g]? = some (.cells cur e (0, 0))) (hu : u.cells.toList = seg) (ht : (P.info? t).map (·.size) = some seg.length)
    (hfit : o + seg.length ≤ cur.size) (h1 : ∀ q ∈ seg, q.oneCell' = true) : (Instr.storeAt t (.pointer (some ⟨g, o, none⟩)) u).run P w = .ok () (w.setCells g o seg) := by
  obtain ⟨i, hi, hsz⟩ := Option.map_eq_some_iff.1 ht
  have hc : u.cells.size = i.size := by rw [hsz, ← hu, Array.length_toList]
  have hst := run_storeCells_cells (P := P) g o seg 0 w (fun j hj => by rw [cell_of_row w g _ cur e (0, 0) hh]; simp; omega) (fun j _ => blk_frozen hh _) h1
  simp only [Nat.add_zero] at hst
  simp [Instr.storeAt, Instr.sureAddr, storeVar, sizeOf, typeInfo, hi, hc, hu, hst]
namespace Kd
section
variable {P : Program} {ops : Array Oper} {rest : List Oper} {o : Oper} {a : Act} {Q : Exit → Act → World → Prop} {α : Type}
end
end Kd
theorem add_add (a : Addr) (i j : Nat) : (a.add i).add j = a.add (i + j) := by
  unfold Addr.add
  by_cases h1 : i = 0 <;> by_cases h2 : j = 0 <;> simp [h1, h2, Nat.add_assoc]
namespace Kd
section
variable {α : Type} {k : Kd α} {w : World} {A : Option Addr} {xs : List α} {m c : Nat}
theorem C_drop (h : k.C w A xs.length xs) (hm : m ≤ xs.length) (hc : xs.length ≤ c) : k.C w (if c = m then A else A.map (·.add (m * k.sz))) (xs.drop m).length (xs.drop m) := by
  have hl : (xs.drop m).length = xs.length - m := List.length_drop
  refine ⟨rfl, by rw [hl]; have := h.2.1; omega, fun hp => ?_⟩
  rw [hl] at hp
  obtain ⟨ad, rfl, hcell⟩ := h.2.2 (by omega)
  rw [if_neg (by omega)]
  refine ⟨ad.add (m * k.sz), rfl, fun j p hj => ?_⟩
  rw [List.getElem?_drop] at hj
  obtain ⟨cs, h1, h2, h3⟩ := hcell (m + j) p hj
  refine ⟨cs, h1, h2, fun i u hu => ?_⟩
  rw [add_add, show m * k.sz + (j * k.sz + i) = (m + j) * k.sz + i by rw [Nat.add_mul]; omega]
  exact h3 i u hu
end
end Kd
section
variable {P : Program}
end
theorem below_size {w W : World} (h : Below w.heap.size w W) : w.heap.size ≤ W.heap.size := h.size
theorem below_step {w W w2 : World} (h : Below w.heap.size w W) (k : Below W.heap.size W w2) : Below w.heap.size w w2 := below_then h h.size k
theorem below_set {w W : World} {g j : Nat} {v : Value} (h : Below w.heap.size w W) (hg : w.heap.size ≤ g) : Below w.heap.size w (W.setCell ⟨g, j, none⟩ v) := h.setCell hg _
theorem cell_far {W : World} {p a : Addr} (h : a.block ≠ p.block) (u : Value) : (W.setCell p u).cell? a = W.cell? a := by
  have := Below.heap_setCell W p u a.block h
  simp [World.cell?, this]
theorem blk_put {w : World} {g : Nat} {t : TypeId} {cs cs' : Array Value} (h : w.heap[g]? = some (.cells cs t (0, 0))) (i : Nat) (u : Value) (e : cs.setIfInBounds i u = cs') : (w.setCell ⟨g, i, none⟩ u).heap[g]? = some (.cells cs' t (0, 0)) := e ▸ blk_set h i u
theorem below_drew1 {base : Nat} {w W : World} (h : Below base w W) : Below base w W.drew := h.drew
namespace Kd
section
variable {α β : Type} {d : Kd α} {d' : Kd β} {e e' base base' n : Nat} {ok ok' : Nat → Prop} {w W w1 W1 : World} {v u : Value} {xs : List α} {ys : List β} {A : Option Addr} {c : Nat}
end
section
variable {α : Type} {enc : α → Value} {h1 : ∀ x, (enc x).oneCell' = true} {w W : World} {A : Option Addr} {n g : Nat} {xs : List α}
end
end Kd
namespace Kd
section
variable {α : Type} {d : Kd α} {e base g : Nat} {ok : Nat → Prop} {w w1 : World} {v : Value} {xs : List α} {o : Obj}
end
end Kd
section
variable {P : Program} {ops : Array Oper} {rest : List Oper} {o : Oper} {a : Act} {Q : Exit → Act → World → Prop}
theorem box_event {W : World} (hgd : o.guard = none) {N : Tmp} (_hd : o.dst = some N) {cs : Array Value} {t : TypeId}
    (hrun : (execOp a.eval o).run P W = .ok (.value (.pointer (some ⟨W.heap.size, 0, none⟩))) (W.alloc (.cells cs t (0, 0))))
    (h : ∀ g, g = W.heap.size → ∀ w1, w1.heap[g]? = some (.cells cs t (0, 0)) → Below W.heap.size W w1 → wpList P ops Q rest (a.put o.dst (.pointer (some ⟨g, 0, none⟩))) w1) : wpList P ops Q (o :: rest) a W :=
  Kd.event_run hgd hrun (h _ rfl _ (blk_new W _) (below_alloc (Below.refl _ _) _))
end
namespace Kd
section
variable {α : Type} {enc : α → Value} {h1 : ∀ x, (enc x).oneCell' = true} {e base g n cap : Nat} {ok : Nat → Prop} {W : World} {xs : List α}
end
end Kd
section
variable {P : Program} {ops : Array Oper} {rest : List Oper} {o : Oper} {a : Act} {Q : Exit → Act → World → Prop}
end
namespace Kd
section
variable {α : Type} {enc : α → Value} {h1 : ∀ x, (enc x).oneCell' = true} {e base g n cap : Nat} {ok : Nat → Prop} {W : World} {xs : List α}
end
end Kd
section
variable {P : Program} {ops : Array Oper} {rest : List Oper} {o : Oper} {a : Act} {Q : Exit → Act → World → Prop} {W : World}
theorem gate_dst {N : Tmp} (_hN : o.dst = some N) (h : wpList P ops Q (o :: rest) a W) : wpList P ops Q (o :: rest) a W := h
end
section
variable {P : Program} {ops : Array Oper} {o : Oper} {a : Act} {Q : Exit → Act → World → Prop} {Kc : Act → World → Prop}
namespace Kd
variable {α : Type}
theorem R_append_rows_step (d : Kd α) {Rr : α → List Value → Prop} {w0 W : World} (base : Nat) (hw : Region.wanted o (yielded ops a.tmps) = true) (s x : Operand) (t e : TypeId) (z : Value) (bytes : Nat)
    (ho : o.op = .call { callee := .builtin .append, args := #[s, x], argTypes := #[t, t] })
    (ht : P.underlying t = some (.slice e)) (hinfo : (P.info? e).map (fun i => (i.zero, i.size, i.bytes)) = some (some z, d.sz, bytes)) (hz : z.cells.size = d.sz) (hs0 : 0 < d.sz) (hb0 : 0 < bytes)
    (v : Value) (xs ys : List α) (A : Option Addr) (m c : Nat) (ok okp : Nat → Prop) (hs : a.eval s = v) (hx : a.eval x = .slice A m c)
    (HO : d.R e W base ok v xs) (HR : ReadsRow Rr d.sz W A m ys) (hKM : ∀ x cs, Rr x cs → d.M W base okp x cs) (hokp : ∀ k, okp k → ok k ∧ some k ≠ v.ownBlock) (hfresh : ∀ k, W.heap.size ≤ k → ok k)
    (HB : Below base w0 W) (hbase : base ≤ W.heap.size) (hl : (xs.length + m) * bytes ≤ 140737488355328)
    (h : ∀ v1 w1, d.R e w1 base ok v1 (xs ++ ys) → Below base w0 w1 → W.grownBy w1 v.ownBlock → (v1.ownBlock = v.ownBlock ∨ ∃ b, v1.ownBlock = some b ∧ W.heap.size ≤ b) → Kc (a.put o.dst v1) w1) :
    if Region.wanted o (yielded ops a.tmps) = true then Oper.wp P o a W Kc Q else Kc (a.put o.dst undef) W := by
  obtain ⟨i0, hi, hzz⟩ := Option.map_eq_some_iff.1 hinfo
  simp only [Prod.mk.injEq] at hzz
  obtain ⟨hz0, hz1, hz2⟩ := hzz
  have hm : ys.length = m := HR.1
  have hlen : xs.length + m ≤ 140737488355328 := Nat.le_trans (Nat.le_mul_of_pos_right _ hb0) hl
  obtain ⟨hok, inner, hown, hr⟩ := HO
  have hrun : ∃ v1 w1, (Builtin.append_ #[t, t] o.type #[v, .slice A m c]).run P W = .ok v1 w1 ∧ d.R e w1 base ok v1 (xs ++ ys) ∧ W.grownBy w1 v.ownBlock ∧ (v1.ownBlock = v.ownBlock ∨ ∃ b, v1.ownBlock = some b ∧ W.heap.size ≤ b) := by
    rcases A with _ | ad
    · have h0 : m = 0 := by
        rcases Nat.eq_zero_or_pos m with h0 | h0
        · exact h0
        · obtain ⟨ad, h, _⟩ := HR.2.2 h0
          cases h
      subst h0
      obtain rfl : ys = [] := List.eq_nil_of_length_eq_zero hm
      refine ⟨v, W, ?_, by rw [List.append_nil]; exact ⟨hok, inner, hown, hr⟩, World.grownBy.refl W _, .inl rfl⟩
      rcases hown.2 with ⟨rfl, hn⟩ | ⟨g, cap, cur, rfl, _, _, hnc, _⟩
      · simp [Builtin.append_, run_underlying ht, sizeOf, typeInfo, hi, Builtin.lenOf, Builtin.firstCells]
      · simp [Builtin.append_, run_underlying ht, sizeOf, typeInfo, hi, Builtin.lenOf, Builtin.firstCells, hnc, storeCells]
    · obtain ⟨news, hnr, hnc⟩ := ReadsRow.inner_ HR
      have hnM : Reps (d.M W base okp) d.sz ys news := hnr.imp_ (fun p c hp => hKM p c hp)
      have hone : ∀ u ∈ news, u.oneCell' = true := by
        intro u hu
        obtain ⟨q, hq, rfl⟩ := List.mem_iff_getElem.1 hu
        have hql : q / d.sz < ys.length := by
          rw [Nat.div_lt_iff_lt_mul hs0]
          rw [← hnM.1]
          exact hq
        have hc := hnM.2 (q / d.sz) _ (List.getElem?_eq_getElem hql)
        refine d.K_one (d.K_of_M hc) _ ?_
        rw [List.mem_iff_getElem?]
        refine ⟨q % d.sz, ?_⟩
        rw [List.getElem?_take, if_pos (Nat.mod_lt _ hs0), List.getElem?_drop, Nat.mul_comm, Nat.div_add_mod, List.getElem?_eq_getElem hq]
      obtain ⟨v1, w1, hrun, h2, hg, _, hat⟩ := run_append_own_at (P := P) W base t o.type e i0 z d.sz bytes ht hi hz0 hz1 hz2 hz hs0 v xs.length inner hown ad m c news (by rw [hnM.1, hm]) hnc hone (by simp only [maxLen]; omega) hl hbase
      have hat' : v1.ownBlock = v.ownBlock ∨ ∃ b, v1.ownBlock = some b ∧ W.heap.size ≤ b := by
        rcases hat with hat | hat
        · exact .inl hat
        · exact .inr ⟨_, hat, Nat.le_refl _⟩
      have hne : ∀ k, some k ≠ v.ownBlock → k < W.heap.size → some k ≠ v1.ownBlock := by
        intro k hk hlt
        rcases hat' with hat | ⟨b, hb, hle⟩
        · rw [hat]; exact hk
        · rw [hb]
          intro he
          injection he with he
          omega
      have step : ∀ {q : α} {c : List Value} {o : Nat → Prop}, d.M W base o q c → (∀ k, o k → ok k ∧ some k ≠ v.ownBlock) → d.M w1 base (fun k => ok k ∧ some k ≠ v1.ownBlock) q c := by
        intro q c o hq ho
        have h1 := d.M_move (w1 := w1) (fun k hk => hg.block k hk.2.2.1 (ho k hk.1).2) (d.M_bound hq)
        exact d.M_mono (fun k hk => ⟨(ho k hk.1).1, hne k (ho k hk.1).2 hk.2.2.1⟩) h1
      refine ⟨v1, w1, hrun, ⟨fun k hk => ?_, inner ++ news, by rw [List.length_append, hm]; exact h2, reps_append (hr.imp_ (fun _ _ hq => step hq (fun _ hk => hk))) (hnM.imp_ (fun _ _ hq => step hq hokp))⟩, hg, hat'⟩
      rcases hat' with hat | ⟨b, hb, hle⟩
      · exact hok k (hat ▸ hk)
      · rw [hb] at hk
        injection hk with hk
        exact hfresh k (by omega)
  obtain ⟨v1, w1, hr1, h1, hg, hat⟩ := hrun
  rw [if_pos hw]
  unfold Oper.wp execOp
  simp only [ho, resolve, invoke, builtin, Sem.run_bind, Sem.run_pure, Result.andThen_ok, List.map_toArray, List.map_cons, List.map_nil, hs, hx, hr1]
  exact h v1 w1 h1 (HB.grown hg hbase (own_base hown)) hg hat
end Kd
end
inductive Vals (P : Program) (tmps : Array Value) (w : World) : List ResultVar → List Value → Prop where
  | nil : Vals P tmps w [] []
  | tmp {u : Tmp} {rs : List ResultVar} {vs : List Value} (h : Vals P tmps w rs vs) : Vals P tmps w (.tmp u :: rs) (tmps.getD u undef :: vs)
  | cell {p : Tmp} {ty : TypeId} {rs : List ResultVar} {vs : List Value} (g : Nat) (t : TypeId) (cs : Array Value) (fr : Nat × Nat) (d : TypeDesc)
      (hp : tmps.getD p undef = .pointer (some ⟨g, 0, none⟩)) (hg : w.heap[g]? = some (.cells cs t fr))
      (hu : P.underlying ty = some d) (hd : (match d with | .struct _ | .array _ _ => true | _ => false) = true) (hi : (P.info? ty).map (·.size) = some cs.size)
      (h : Vals P tmps w rs vs) : Vals P tmps w (.cell p ty :: rs) (.agg cs :: vs)
section
variable {P : Program} {tmps : Array Value} {w : World}
theorem vals_run {rs : List ResultVar} {vs : List Value} (hv : Vals P tmps w rs vs) (f : ResultVar → Sem Value) (hf : ∀ u, f (.tmp u) = pure (tmps.getD u undef)) (hc : ∀ a t, f (.cell a t) = (do loadVar t (← asAddr (tmps.getD a undef)))) :
    (rs.mapM f).run P w = .ok vs w := by
  induction hv with
  | nil => simp
  | tmp h ih => simp [List.mapM_cons, hf, ih]
  | cell g t cs fr d hp hg hu hd hi h ih =>
    rw [List.mapM_cons, hc, hp]
    simp [asAddr, run_loadVar_row w g t _ cs fr d hg hu hd hi, ih]
theorem results_single {fn : Func} {r : ResultVar} {v : Value} (h : fn.results = #[r]) (hv : Vals P tmps w [r] [v]) : (results fn tmps).run P w = .ok v w := by
  unfold results
  rw [show fn.results = [r].toArray from h, List.mapM_toArray]
  simp only [Sem.run_bind, Sem.run_map]
  rw [vals_run hv]
  · simp
  · intro u
    rfl
  · intro a t
    rfl
end
namespace Kd
section
variable {P : Program} {α : Type}
end
section
variable {P : Program} {ops : Array Oper} {rest : List Oper} {o : Oper} {a : Act} {Q : Exit → Act → World → Prop} {Kc : Act → World → Prop} {α : Type}
end
end Kd
end Go.Proofs.YtahjkibjcibpgaaGreatDoorW.PrintWords
end
section
namespace Go.Proofs.YtahjkibjcibpgaaGreatDoorW.PrintLast
section
variable {P : Program} {ops : Array Oper} {Q : Exit → Act → World → Prop} {md : Region.Mode} {S : World → Prop} {ds : List Nat}
def Region.reachB (md : Region.Mode) (ops : Array Oper) (i : Nat) : Nat → Nat → Bool
  | 0, _ => false
  | fuel + 1, d => match ops[d]? with
    | some o => o.after.any fun e => Region.binds md e && (e.on == i || Region.reachB md ops i fuel e.on)
    | none => false
def Region.closedB (md : Region.Mode) (ops : Array Oper) (listed : Array Bool) : Bool :=
  (List.range ops.size).all fun j => !listed.getD j false || match ops[j]? with
    | some o => o.after.all fun e => !Region.binds md e || listed.getD e.on false
    | none => true
def Region.lastB (md : Region.Mode) (ops : Array Oper) (listed : Array Bool) (ds : List Nat) (i : Nat) : Bool :=
  ds.all fun d => listed.getD d true || Region.reachB md ops i ops.size d
def ListedClosed (md : Region.Mode) (ops : Array Oper) (listed : Array Bool) : Prop :=
  ∀ j oj, ops[j]? = some oj → listed.getD j false = true → ∀ e ∈ oj.after, Region.binds md e = true → listed.getD e.on false = true
theorem Region.closedB_spec {listed : Array Bool} (h : Region.closedB md ops listed = true) : ListedClosed md ops listed := by
  intro j oj hj hl e he hb
  have hlt : j < ops.size := (Array.getElem?_eq_some_iff.1 hj).1
  have h1 := List.all_eq_true.1 h j (List.mem_range.2 hlt)
  simp only [hl, hj, Bool.not_true, Bool.false_or] at h1
  have h2 := Array.all_eq_true_iff_forall_mem.1 h1 e he
  simpa [hb] using h2
theorem ListedClosed.set {listed : Array Bool} {i : Nat} (h : ListedClosed md ops listed) (hi : i ∈ Region.ready md ops listed) : ListedClosed md ops (listed.setIfInBounds i true) := by
  obtain ⟨_, oi, hoi, hall⟩ := mem_ready.1 hi
  intro j oj hj hl e he hb
  by_cases hij : i = j
  · subst hij
    have : oj = oi := Option.some.inj (hj.symm.trans hoi)
    subst this
    exact getD_set_true (hall e he hb)
  · rw [getD_set_ne false hij] at hl
    exact getD_set_true (h j oj hj hl e he hb)
theorem Region.reach_listed {listed : Array Bool} {i : Nat} (hc : ListedClosed md ops listed) : ∀ (fuel d : Nat), Region.reachB md ops i fuel d = true → listed.getD d false = true → listed.getD i false = true
  | 0, _, h, _ => by simp [Region.reachB] at h
  | fuel + 1, d, h, hl => by
    unfold Region.reachB at h
    cases ho : ops[d]? with
    | none => rw [ho] at h; simp at h
    | some o =>
      rw [ho] at h
      obtain ⟨e, he, h1⟩ := Array.any_eq_true'.1 h
      simp only [Bool.and_eq_true, Bool.or_eq_true, beq_iff_eq] at h1
      have hle := hc d o ho hl e he h1.1
      rcases h1.2 with h2 | h2
      · rw [← h2]; exact hle
      · exact Region.reach_listed hc fuel e.on h2 hle
theorem Region.reach_not_ready {listed : Array Bool} {i d fuel : Nat} (hc : ListedClosed md ops listed) (hr : Region.reachB md ops i fuel d = true) (hun : listed.getD i true = false) : d ∉ Region.ready md ops listed := by
  intro hd
  obtain ⟨_, o, ho, hall⟩ := mem_ready.1 hd
  have hi : listed.getD i false = true := by
    cases fuel with
    | zero => simp [Region.reachB] at hr
    | succ n =>
      unfold Region.reachB at hr
      rw [ho] at hr
      obtain ⟨e, he, h1⟩ := Array.any_eq_true'.1 hr
      simp only [Bool.and_eq_true, Bool.or_eq_true, beq_iff_eq] at h1
      have hle := hall e he h1.1
      rcases h1.2 with h2 | h2
      · rw [← h2]; exact hle
      · exact Region.reach_listed hc n e.on h2 hle
  rcases Nat.lt_or_ge i listed.size with h' | h'
  · simp [h'] at hun hi
    rw [hun] at hi
    cases hi
  · simp [Array.getElem?_eq_none h'] at hun
def wpAnyLast (P : Program) (md : Region.Mode) (ops : Array Oper) (Q : Exit → Act → World → Prop) (S : World → Prop) (ds : List Nat) : Nat → Array Bool → Act → World → Prop
  | 0, listed, a, w => Region.ready md ops listed = [] ∧ Q .normal a w
  | fuel + 1, listed, a, w =>
    (Region.ready md ops listed = [] → Q .normal a w) ∧
    ∀ i ∈ Region.ready md ops listed, wpOp P ops Q i (fun a' w' => (i ∉ ds → S w → S w') ∧ wpAnyLast P md ops Q S ds fuel (listed.setIfInBounds i true) a' w') a w
theorem wpAny_of_last : ∀ (fuel : Nat) (listed : Array Bool) (a : Act) (w : World), wpAnyLast P md ops Q S ds fuel listed a w → wpAny P md ops Q fuel listed a w
  | 0, _, _, _, h => h
  | fuel + 1, _, _, _, h => ⟨h.1, fun i hi => wpOp_mono (fun a' w' h' => wpAny_of_last fuel _ a' w' h'.2) (h.2 i hi)⟩
theorem wpAnyLast_first {i : Nat} {oi : Oper} {v : Value} (hi : ops[i]? = some oi) (hsel : ∀ (j : Nat) (o : Oper) cs b, ops[j]? = some o → o.op ≠ .select cs b)
    (hQ : ∀ c a w, Q (.panic c) (a.put oi.dst v) w → Q (.panic c) a w) (n : Nat) :
    ∀ (fuel : Nat) (listed : Array Bool) (a : Act) (w : World),
      (∀ j oj, ops[j]? = some oj → j ≠ i → listed.getD j true = false → (∀ e ∈ oj.after, Region.binds md e = true → e.on ≠ i) → oi.apart ops oj = true) →
      ListedClosed md ops listed → (∀ d ∈ ds, listed.getD d true = false → Region.reachB md ops i n d = true) →
      i ∈ Region.ready md ops listed → YieldsIf P ops S oi v a → S w →
      wpAnyLast P md ops Q S ds fuel (listed.setIfInBounds i true) (a.put oi.dst v) w → wpAnyLast P md ops Q S ds (fuel + 1) listed a w := by
  intro fuel
  induction fuel with
  | zero =>
    intro listed a w _ _ _ hr hy hS H
    refine ⟨fun h => (by rw [h] at hr; cases hr), fun j hj => ?_⟩
    by_cases hji : j = i
    · subst hji; exact hy.wpOp hi hS ⟨fun _ h => h, H⟩
    · have := ready_mono hj hji
      rw [H.1] at this
      cases this
  | succ fuel ih =>
    intro listed a w hfree hc hd hr hy hS H
    refine ⟨fun h => (by rw [h] at hr; cases hr), fun j hj => ?_⟩
    by_cases hji : j = i
    · subst hji; exact hy.wpOp hi hS ⟨fun _ h => h, H⟩
    · have h1 := H.2 j (ready_mono hj hji)
      obtain ⟨hjun, oj, hoj, hall⟩ := mem_ready.1 hj
      have hiun := (mem_ready.1 hr).1
      have hnot : ∀ e ∈ oj.after, Region.binds md e = true → e.on ≠ i := fun e he hb heq => by
        have h1 := hall e he hb
        rw [heq] at h1
        rcases Nat.lt_or_ge i listed.size with h' | h'
        · simp [h'] at hiun h1; rw [hiun] at h1; cases h1
        · simp [Array.getElem?_eq_none h'] at h1
      have hjd : j ∉ ds := fun hm => Region.reach_not_ready hc (hd j hm hjun) hiun hj
      have h2 := wpOp_putIf hoj (hfree j oj hoj hji hjun hnot) (fun cs b => hsel i oi cs b hi) (fun cs b => hsel j oj cs b hoj) hQ hy h1
      have hfree' : ∀ k ok, ops[k]? = some ok → k ≠ i → (listed.setIfInBounds j true).getD k true = false →
          (∀ e ∈ ok.after, Region.binds md e = true → e.on ≠ i) → oi.apart ops ok = true := fun k ok hk hki hun hno => by
        refine hfree k ok hk hki ?_ hno
        by_cases hjk : j = k
        · subst hjk; exact hjun
        · rw [getD_set_ne true hjk] at hun; exact hun
      have hd' : ∀ d ∈ ds, (listed.setIfInBounds j true).getD d true = false → Region.reachB md ops i n d = true := fun d hm hun => by
        refine hd d hm ?_
        by_cases hjk : j = d
        · subst hjk; exact hjun
        · rw [getD_set_ne true hjk] at hun; exact hun
      refine wpOp_mono (fun a' w' h3 => ⟨h3.2.1, ih (listed.setIfInBounds j true) a' w' hfree' (hc.set hj) hd' (ready_mono hr (Ne.symm hji)) h3.1 (h3.2.1 hjd hS) ?_⟩) h2
      rw [Array.setIfInBounds_comm _ _ hji]
      exact h3.2.2
theorem wpAnyLast_any {i : Nat} {oi : Oper} {v : Value} (hi : ops[i]? = some oi) (hsel : ∀ (j : Nat) (o : Oper) cs b, ops[j]? = some o → o.op ≠ .select cs b)
    (hQ : ∀ c a w, Q (.panic c) (a.put oi.dst v) w → Q (.panic c) a w) :
    ∀ (fuel : Nat) (listed : Array Bool) (a : Act) (w : World),
      (∀ j oj, ops[j]? = some oj → j ≠ i → listed.getD j true = false → (∀ e ∈ oj.after, Region.binds md e = true → e.on ≠ i) → oi.apart ops oj = true) →
      i ∈ Region.ready md ops listed → Yields P ops oi v a →
      wpAnyLast P md ops Q S ds fuel (listed.setIfInBounds i true) (a.put oi.dst v) w → wpAnyLast P md ops Q S ds (fuel + 1) listed a w := by
  intro fuel
  induction fuel with
  | zero =>
    intro listed a w _ hr hy H
    refine ⟨fun h => (by rw [h] at hr; cases hr), fun j hj => ?_⟩
    by_cases hji : j = i
    · subst hji; exact (hy.yieldsIf (S := fun _ => True)).wpOp hi trivial ⟨fun _ h => h, H⟩
    · have := ready_mono hj hji
      rw [H.1] at this
      cases this
  | succ fuel ih =>
    intro listed a w hfree hr hy H
    refine ⟨fun h => (by rw [h] at hr; cases hr), fun j hj => ?_⟩
    by_cases hji : j = i
    · subst hji; exact (hy.yieldsIf (S := fun _ => True)).wpOp hi trivial ⟨fun _ h => h, H⟩
    · have h1 := H.2 j (ready_mono hj hji)
      obtain ⟨hjun, oj, hoj, hall⟩ := mem_ready.1 hj
      have hiun := (mem_ready.1 hr).1
      have hnot : ∀ e ∈ oj.after, Region.binds md e = true → e.on ≠ i := fun e he hb heq => by
        have h1 := hall e he hb
        rw [heq] at h1
        rcases Nat.lt_or_ge i listed.size with h' | h'
        · simp [h'] at hiun h1; rw [hiun] at h1; cases h1
        · simp [Array.getElem?_eq_none h'] at h1
      have h2 := wpOp_put hoj (hfree j oj hoj hji hjun hnot) (fun cs b => hsel i oi cs b hi) (fun cs b => hsel j oj cs b hoj) hQ hy h1
      have hfree' : ∀ k ok, ops[k]? = some ok → k ≠ i → (listed.setIfInBounds j true).getD k true = false →
          (∀ e ∈ ok.after, Region.binds md e = true → e.on ≠ i) → oi.apart ops ok = true := fun k ok hk hki hun hno => by
        refine hfree k ok hk hki ?_ hno
        by_cases hjk : j = k
        · subst hjk; exact hjun
        · rw [getD_set_ne true hjk] at hun; exact hun
      refine wpOp_mono (fun a' w' h3 => ⟨h3.2.1, ih (listed.setIfInBounds j true) a' w' hfree' (ready_mono hr (Ne.symm hji)) h3.1 ?_⟩) h2
      rw [Array.setIfInBounds_comm _ _ hji]
      exact h3.2.2
theorem wpAnyLast_take {i : Nat} {oi : Oper} {v : Value} {fuel : Nat} {listed : Array Bool} {a : Act} {w : World} (hi : ops[i]? = some oi)
    (hs : Region.noSelect ops = true) (hf : Region.free md ops listed i = true) (hr : (Region.ready md ops listed).contains i = true)
    (hc : Region.closedB md ops listed = true) (hl : Region.lastB md ops listed ds i = true)
    (hQ : ∀ c a w, Q (.panic c) (a.put oi.dst v) w → Q (.panic c) a w) (hy : YieldsIf P ops S oi v a) (hS : S w)
    (h : wpAnyLast P md ops Q S ds fuel (listed.setIfInBounds i true) (a.put oi.dst v) w) : wpAnyLast P md ops Q S ds (fuel + 1) listed a w :=
  wpAnyLast_first hi (Region.noSelect_spec hs) hQ ops.size fuel listed a w (Region.free_spec hi hf) (Region.closedB_spec hc)
    (fun d hm hun => by have := List.all_eq_true.1 hl d hm; rw [hun] at this; simpa using this) (by simpa using hr) hy hS h
theorem wpAnyLast_all {rs : List Nat} {fuel : Nat} {listed : Array Bool} {a : Act} {w : World} (hr : Region.ready md ops listed = rs) (hne : rs ≠ [])
    (h : ∀ i ∈ rs, wpOp P ops Q i (fun a' w' => (i ∉ ds → S w → S w') ∧ wpAnyLast P md ops Q S ds fuel (listed.setIfInBounds i true) a' w') a w) : wpAnyLast P md ops Q S ds (fuel + 1) listed a w :=
  ⟨fun h0 => absurd (hr ▸ h0) hne, hr ▸ h⟩
theorem wpAnyLast_done {listed : Array Bool} {a : Act} {w : World} (hr : Region.ready md ops listed = []) (h : Q .normal a w) :
    ∀ fuel, wpAnyLast P md ops Q S ds fuel listed a w
  | 0 => ⟨hr, h⟩
  | _ + 1 => ⟨fun _ => h, by rw [hr]; simp⟩
theorem wp_region_last {id : Nat} {a : Act} {w : World} (hm : P.follows .mixedOrders = true)
    (h : wpAnyLast P .any ops Q S ds ops.size (Array.replicate ops.size false) a { w with drawn := w.drawn + 1 }) : (Code.region id ops true).wp P Q a w :=
  wp_region_any hm (wpAny_of_last _ _ _ _ h)
end
section
variable {P : Program} {ops : Array Oper} {Q : Exit → Act → World → Prop} {md : Region.Mode} {S : World → Prop} {ds : List Nat}
def AllReadyL (P : Program) (md : Region.Mode) (ops : Array Oper) (Q : Exit → Act → World → Prop) (S : World → Prop) (ds : List Nat) (fuel : Nat) (listed : Array Bool) (a : Act) (w : World) (rs : List Nat) : Prop :=
  ∀ i ∈ rs, wpOp P ops Q i (fun a' w' => (i ∉ ds → S w → S w') ∧ wpAnyLast P md ops Q S ds fuel (listed.setIfInBounds i true) a' w') a w
theorem AllReadyL.nil {fuel : Nat} {listed : Array Bool} {a : Act} {w : World} : AllReadyL P md ops Q S ds fuel listed a w [] := fun _ h => by cases h
theorem AllReadyL.cons {fuel : Nat} {listed : Array Bool} {a : Act} {w : World} {i : Nat} {o : Oper} {rs : List Nat} (ho : ops[i]? = some o) (hd : i ∉ ds)
    (h : ∀ K' : Act → World → Prop, Shut (∀ a w, S w → (S w → wpAnyLast P md ops Q S ds fuel (listed.setIfInBounds i true) a w) → K' a w) → if Region.wanted o (yielded ops a.tmps) = true then Oper.wp P o a w K' Q else K' (a.put o.dst undef) w)
    (hs : AllReadyL P md ops Q S ds fuel listed a w rs) : AllReadyL P md ops Q S ds fuel listed a w (i :: rs) := fun j hj => by
  rcases List.mem_cons.1 hj with rfl | hj
  · exact wpOp_step ho (fun K' hK => h K' (fun a w hS hW => hK a w ⟨fun _ _ => hS, hW hS⟩))
  · exact hs j hj
theorem AllReadyL.cons_last {fuel : Nat} {listed : Array Bool} {a : Act} {w : World} {i : Nat} {o : Oper} {rs : List Nat} (ho : ops[i]? = some o) (hd : i ∈ ds)
    (h : ∀ K' : Act → World → Prop, Shut (∀ a w, wpAnyLast P md ops Q S ds fuel (listed.setIfInBounds i true) a w → K' a w) → if Region.wanted o (yielded ops a.tmps) = true then Oper.wp P o a w K' Q else K' (a.put o.dst undef) w)
    (hs : AllReadyL P md ops Q S ds fuel listed a w rs) : AllReadyL P md ops Q S ds fuel listed a w (i :: rs) := fun j hj => by
  rcases List.mem_cons.1 hj with rfl | hj
  · exact wpOp_step ho (fun K' hK => h K' (fun a w hW => hK a w ⟨fun hn => absurd hd hn, hW⟩))
  · exact hs j hj
theorem wpAnyLast_ready {rs : List Nat} {fuel : Nat} {listed : Array Bool} {a : Act} {w : World} (hr : Region.ready md ops listed = rs) (hne : rs ≠ [])
    (h : AllReadyL P md ops Q S ds fuel listed a w rs) : wpAnyLast P md ops Q S ds (fuel + 1) listed a w := wpAnyLast_all hr hne h
theorem start_ {id n : Nat} {a : Act} {w : World} (l : Array Bool) (hm : P.follows .mixedOrders = true) (hn : ops.size = n) (hl : Array.replicate n false = l) (hS : S w.drew)
    (h : S w.drew → wpAnyLast P .any ops Q S ds n l a w.drew) : (Code.region id ops true).wp P Q a w := by
  subst hn
  subst hl
  exact wp_region_last hm (h hS)
def takeB (md : Region.Mode) (ops : Array Oper) (ds : List Nat) (l l' : Array Bool) (i : Nat) : Bool :=
  Region.noSelect ops && Region.free md ops l i && (Region.ready md ops l).contains i && Region.closedB md ops l && Region.lastB md ops l ds i && (l.setIfInBounds i true == l')
theorem take_ {i : Nat} {N : Option Tmp} {oi : Oper} {v : Value} {fuel : Nat} {l : Array Bool} {a : Act} {w : World} (l' : Array Bool) (hi : ops[i]? = some oi) (hN : oi.dst = N) (hc : takeB md ops ds l l' i = true)
    (hQ : ∀ c a w, Q (.panic c) (a.put oi.dst v) w → Q (.panic c) a w) (hy : YieldsIf P ops S oi v a) (hS : S w) {a' : Act} (ha : a.put N v = a')
    (h : wpAnyLast P md ops Q S ds fuel l' a' w) : wpAnyLast P md ops Q S ds (fuel + 1) l a w := by
  subst ha
  subst hN
  simp only [takeB, Bool.and_eq_true, beq_iff_eq] at hc
  obtain ⟨⟨⟨⟨⟨h1, h2⟩, h3⟩, h4⟩, h5⟩, h6⟩ := hc
  subst h6
  exact wpAnyLast_take hi h1 h2 h3 h4 h5 hQ hy hS h
def anyB (md : Region.Mode) (ops : Array Oper) (l l' : Array Bool) (i : Nat) : Bool :=
  Region.noSelect ops && Region.free md ops l i && (Region.ready md ops l).contains i && (l.setIfInBounds i true == l')
theorem pure_ {i : Nat} {N : Option Tmp} {oi : Oper} {v : Value} {fuel : Nat} {l : Array Bool} {a : Act} {w : World} (l' : Array Bool) (hi : ops[i]? = some oi) (hN : oi.dst = N) (hc : anyB md ops l l' i = true)
    (hQ : ∀ c a w, Q (.panic c) (a.put oi.dst v) w → Q (.panic c) a w) (hy : Yields P ops oi v a) {a' : Act} (ha : a.put N v = a')
    (h : wpAnyLast P md ops Q S ds fuel l' a' w) : wpAnyLast P md ops Q S ds (fuel + 1) l a w := by
  subst ha
  subst hN
  simp only [anyB, Bool.and_eq_true, beq_iff_eq] at hc
  obtain ⟨⟨⟨h1, h2⟩, h3⟩, h6⟩ := hc
  subst h6
  exact wpAnyLast_any hi (Region.noSelect_spec h1) hQ fuel l a w (Region.free_spec hi h2) (by simpa using h3) hy h
def readyB (md : Region.Mode) (ops : Array Oper) (l l' : Array Bool) (i : Nat) : Bool := (Region.ready md ops l == [i]) && (l.setIfInBounds i true == l')
theorem one_ {i : Nat} {N : Option Tmp} {oi : Oper} {fuel : Nat} {l : Array Bool} {a : Act} {w : World} (l' : Array Bool) (hi : ops[i]? = some oi) (hN : oi.dst = N) (hc : readyB md ops l l' i = true) (hd : i ∉ ds)
    (h : ∀ K : Act → World → Prop, Shut (∀ a' w', S w' → (S w' → wpAnyLast P md ops Q S ds fuel l' a' w') → K a' w') → if Region.wanted oi (yielded ops a.tmps) = true then Oper.wp P oi a w K Q else K (a.put N undef) w) :
    wpAnyLast P md ops Q S ds (fuel + 1) l a w := by
  subst hN
  simp only [readyB, Bool.and_eq_true, beq_iff_eq] at hc
  obtain ⟨h1, h2⟩ := hc
  subst h2
  exact wpAnyLast_ready h1 (by simp) (AllReadyL.cons hi hd (fun K hK => h K hK) AllReadyL.nil)
theorem last_ {i : Nat} {N : Option Tmp} {oi : Oper} {fuel : Nat} {l : Array Bool} {a : Act} {w : World} (l' : Array Bool) (hi : ops[i]? = some oi) (hN : oi.dst = N) (hc : readyB md ops l l' i = true) (hd : i ∈ ds)
    (h : ∀ K : Act → World → Prop, Shut (∀ a' w', wpAnyLast P md ops Q S ds fuel l' a' w' → K a' w') → if Region.wanted oi (yielded ops a.tmps) = true then Oper.wp P oi a w K Q else K (a.put N undef) w) :
    wpAnyLast P md ops Q S ds (fuel + 1) l a w := by
  subst hN
  simp only [readyB, Bool.and_eq_true, beq_iff_eq] at hc
  obtain ⟨h1, h2⟩ := hc
  subst h2
  exact wpAnyLast_ready h1 (by simp) (AllReadyL.cons_last hi hd (fun K hK => h K hK) AllReadyL.nil)
theorem done_ {l : Array Bool} {a : Act} {w : World} {n : Nat} (hr : (Region.ready md ops l == []) = true) (h : Q .normal a w) : wpAnyLast P md ops Q S ds n l a w := wpAnyLast_done (by simpa using hr) h n
theorem two_ {i j : Nat} {Ni Nj : Option Tmp} {oi oj : Oper} {fuel : Nat} {l : Array Bool} {a : Act} {w : World} (li lj : Array Bool) (hi : ops[i]? = some oi) (hj : ops[j]? = some oj) (hNi : oi.dst = Ni) (hNj : oj.dst = Nj)
    (hc : (Region.ready md ops l == [i, j] && l.setIfInBounds i true == li && l.setIfInBounds j true == lj) = true) (hdi : i ∉ ds) (hdj : j ∉ ds)
    (h1 : ∀ K : Act → World → Prop, Shut (∀ a' w', S w' → (S w' → wpAnyLast P md ops Q S ds fuel li a' w') → K a' w') → if Region.wanted oi (yielded ops a.tmps) = true then Oper.wp P oi a w K Q else K (a.put Ni undef) w)
    (h2 : ∀ K : Act → World → Prop, Shut (∀ a' w', S w' → (S w' → wpAnyLast P md ops Q S ds fuel lj a' w') → K a' w') → if Region.wanted oj (yielded ops a.tmps) = true then Oper.wp P oj a w K Q else K (a.put Nj undef) w) :
    wpAnyLast P md ops Q S ds (fuel + 1) l a w := by
  subst hNi
  subst hNj
  simp only [Bool.and_eq_true, beq_iff_eq] at hc
  obtain ⟨⟨h3, h4⟩, h5⟩ := hc
  subst h4
  subst h5
  exact wpAnyLast_ready h3 (by simp) (AllReadyL.cons hi hdi (fun K hK => h1 K hK) (AllReadyL.cons hj hdj (fun K hK => h2 K hK) AllReadyL.nil))
def putAll : Act → List (Tmp × Value) → Act
  | a, [] => a
  | a, (n, v) :: r => putAll (a.put (some n) v) r
theorem join_ {σ : Type} {fuel : Nat} {l : Array Bool} {a : Act} {w : World} (fuel' : Nat) (l' : Array Bool) (ns : σ → List (Tmp × Value)) (F : σ → World → Prop)
    (hcont : ∀ s w', F s w' → wpAnyLast P md ops Q S ds fuel' l' (putAll a (ns s)) w')
    (h : (∀ s w', F s w' → wpAnyLast P md ops Q S ds fuel' l' (putAll a (ns s)) w') → wpAnyLast P md ops Q S ds fuel l a w) : wpAnyLast P md ops Q S ds fuel l a w := h hcont
theorem norm_ {fuel : Nat} {l : Array Bool} {a a' : Act} {w : World} (ha : a = a') (h : wpAnyLast P md ops Q S ds fuel l a' w) : wpAnyLast P md ops Q S ds fuel l a w := by
  subst ha
  exact h
theorem call_ {oi : Oper} {N : Option Tmp} {a : Act} {w : World} {K : Act → World → Prop} (f : FuncId) (args : Array Value) (hw : Region.wanted oi (yielded ops a.tmps) = true) (hN : oi.dst = N) (hrun : (execOp a.eval oi).run P w = .ok (.enter f args) w)
    (h : Calls P f args w fun e w' => ∃ v, e = .returned v ∧ K (a.put N v) w') : if Region.wanted oi (yielded ops a.tmps) = true then Oper.wp P oi a w K Q else K (a.put N undef) w := by
  rw [if_pos hw]
  subst hN
  unfold Oper.wp
  rw [hrun, Oper.upon_enter]
  refine h.mono fun e w'' hh => ?_
  obtain ⟨v, rfl, hk⟩ := hh
  exact hk
theorem enters_ {f : FuncId} {fn : Func} (hf : P.funcs[f]? = some fn) (hname : (fn.name == "runtime.NumGoroutine") = false) (hb : fn.body.isSome = true) (args : Array Value) (w : World) : (callFunc f args).run P w = .ok (.enter f args) w := by
  have h1 : fn.name ≠ "runtime.NumGoroutine" := by simpa using hname
  obtain ⟨c, hc⟩ := Option.isSome_iff_exists.1 hb
  simp [callFunc, hf, h1, hc]
theorem goes_ {oi : Oper} {N : Option Tmp} {a : Act} {w : World} {K : Act → World → Prop} {f : FuncId} {fn : Func} {as_ : Array Operand} {ts : Array TypeId} (hf : P.funcs[f]? = some fn) (hname : (fn.name == "runtime.NumGoroutine") = false) (hb : fn.body.isSome = true) (args : Array Value)
    (hw : Region.wanted oi (yielded ops a.tmps) = true) (hN : oi.dst = N) (hop : oi.op = .call { callee := .value (.func f), args := as_, argTypes := ts }) (hargs : as_.map a.eval = args)
    (h : Calls P f args w fun e w' => ∃ v, e = .returned v ∧ K (a.put N v) w') : if Region.wanted oi (yielded ops a.tmps) = true then Oper.wp P oi a w K Q else K (a.put N undef) w := by
  refine call_ f args hw hN ?_ h
  have he := enters_ hf hname hb args w
  unfold execOp
  simp [hop, resolve, Deferred.ofValue, invoke, Act.eval, hargs, he]
theorem goesL_ {rest : List Oper} {oi : Oper} {a : Act} {w : World} (N : Option Tmp) (hd : oi.dst = N) (hg : oi.guard = none) {f : FuncId} {fn : Func} {as_ : Array Operand} {ts : Array TypeId} (hf : P.funcs[f]? = some fn) (hname : (fn.name == "runtime.NumGoroutine") = false) (hb : fn.body.isSome = true) (args : Array Value)
    (hop : oi.op = .call { callee := .value (.func f), args := as_, argTypes := ts }) (hargs : as_.map a.eval = args)
    (h : Calls P f args w fun e w' => ∃ v, e = .returned v ∧ wpList P ops Q rest (a.put N v) w') : wpList P ops Q (oi :: rest) a w := by
  refine wpList_plain hg fun K hK => ?_
  have he := enters_ hf hname hb args w
  have hrun : (execOp a.eval oi).run P w = .ok (.enter f args) w := by
    unfold execOp
    simp [hop, resolve, Deferred.ofValue, invoke, Act.eval, hargs, he]
  unfold Oper.wp
  rw [hrun, Oper.upon_enter]
  refine h.mono fun e w'' hh => ?_
  obtain ⟨v, rfl, hk⟩ := hh
  subst hd
  exact hK _ _ hk
theorem value_ {oi : Oper} {N : Option Tmp} {a : Act} {w w1 : World} {v : Value} {K : Act → World → Prop} (hw : Region.wanted oi (yielded ops a.tmps) = true) (hN : oi.dst = N) (hrun : (execOp a.eval oi).run P w = .ok (.value v) w1)
    (h : K (a.put N v) w1) : if Region.wanted oi (yielded ops a.tmps) = true then Oper.wp P oi a w K Q else K (a.put N undef) w := by
  rw [if_pos hw]
  subst hN
  unfold Oper.wp
  rw [hrun]
  exact h
theorem skip_ {oi : Oper} {a : Act} {w w1 : World} {K : Act → World → Prop} (hw : Region.wanted oi (yielded ops a.tmps) = true) (hN : oi.dst = none) (hrun : (execOp a.eval oi).run P w = .ok .skip w1)
    (h : K a w1) : if Region.wanted oi (yielded ops a.tmps) = true then Oper.wp P oi a w K Q else K (a.put none undef) w := by
  rw [if_pos hw]
  unfold Oper.wp
  rw [hrun]
  show K (a.put oi.dst undef) w1
  rw [hN]
  exact h
theorem i64_w (n : Int) : IntKind.i64.wrap n = Go.RowKit.wrap64 n := by unfold Go.RowKit.wrap64; exact IntKind.wrap_i64 n
theorem i32_w (n : Int) : IntKind.i32.wrap n = Go.RowKit.wrap32 n := by unfold Go.RowKit.wrap32; exact IntKind.wrap_i32 n
end
end Go.Proofs.YtahjkibjcibpgaaGreatDoorW.PrintLast
end
section
namespace Go.Proofs.YtahjkibjcibpgaaGreatDoorW.Sq
open Go.RowKit Go.Proofs.YtahjkibjcibpgaaGreatDoorW.PrintWords
theorem cl2 {w : World} {g : Nat} {t : TypeId} {v0 v1 : Value} (h : w.heap[g]? = some (.cells #[v0, v1] t (0, 0))) : w.cell? ⟨g, 0, none⟩ = some v0 ∧ w.cell? ⟨g, 1, none⟩ = some v1 ∧ w.frozen? ⟨g, 0, none⟩ = false ∧ w.frozen? ⟨g, 1, none⟩ = false := ⟨(blk_cell h 0).trans rfl, (blk_cell h 1).trans rfl, blk_frozen h 0, blk_frozen h 1⟩
theorem cl3 {w : World} {g : Nat} {t : TypeId} {v0 v1 v2 : Value} (h : w.heap[g]? = some (.cells #[v0, v1, v2] t (0, 0))) : w.cell? ⟨g, 0, none⟩ = some v0 ∧ w.cell? ⟨g, 1, none⟩ = some v1 ∧ w.cell? ⟨g, 2, none⟩ = some v2 ∧ w.frozen? ⟨g, 0, none⟩ = false ∧ w.frozen? ⟨g, 1, none⟩ = false ∧ w.frozen? ⟨g, 2, none⟩ = false := ⟨(blk_cell h 0).trans rfl, (blk_cell h 1).trans rfl, (blk_cell h 2).trans rfl, blk_frozen h 0, blk_frozen h 1, blk_frozen h 2⟩
theorem cl6 {w : World} {g : Nat} {t : TypeId} {v0 v1 v2 v3 v4 v5 : Value} (h : w.heap[g]? = some (.cells #[v0, v1, v2, v3, v4, v5] t (0, 0))) : w.cell? ⟨g, 0, none⟩ = some v0 ∧ w.cell? ⟨g, 1, none⟩ = some v1 ∧ w.cell? ⟨g, 2, none⟩ = some v2 ∧ w.cell? ⟨g, 3, none⟩ = some v3 ∧ w.cell? ⟨g, 4, none⟩ = some v4 ∧ w.cell? ⟨g, 5, none⟩ = some v5 ∧ w.frozen? ⟨g, 0, none⟩ = false ∧ w.frozen? ⟨g, 1, none⟩ = false ∧ w.frozen? ⟨g, 2, none⟩ = false ∧ w.frozen? ⟨g, 3, none⟩ = false ∧ w.frozen? ⟨g, 4, none⟩ = false ∧ w.frozen? ⟨g, 5, none⟩ = false := ⟨(blk_cell h 0).trans rfl, (blk_cell h 1).trans rfl, (blk_cell h 2).trans rfl, (blk_cell h 3).trans rfl, (blk_cell h 4).trans rfl, (blk_cell h 5).trans rfl, blk_frozen h 0, blk_frozen h 1, blk_frozen h 2, blk_frozen h 3, blk_frozen h 4, blk_frozen h 5⟩
theorem ba {w W : World} (h : Below w.heap.size w W) (o : Obj) : Below w.heap.size w (W.alloc o) := below_alloc h o
theorem bd {w W : World} (h : Below w.heap.size w W) : Below w.heap.size w W.drew := below_drew1 h
theorem bN {w W : World} (h : Below w.heap.size w W) (n : Nat) : Below w.heap.size w (W.drewN n) := pw_below_drewN h n
theorem kN {w : World} {g : Nat} {o : Obj} (h : w.heap[g]? = some o) (m : Nat) : (w.drewN m).heap[g]? = some o := blk_drewN h m
theorem kd {w : World} {g : Nat} {o : Obj} (h : w.heap[g]? = some o) : w.drew.heap[g]? = some o := blk_drew h
theorem ka {w : World} {g : Nat} {o : Obj} (h : w.heap[g]? = some o) (o' : Obj) : (w.alloc o').heap[g]? = some o := blk_alloc h o'
theorem cb {w w1 : World} (h : Below w.heap.size w w1) {a : Addr} {v : Value} (hc : w.cell? a = some v) : w1.cell? a = some v := pw_cell_below h hc
end Go.Proofs.YtahjkibjcibpgaaGreatDoorW.Sq
end
section
namespace Go.Proofs.YtahjkibjcibpgaaGreatDoorW.PrintLast
open Go.Proofs.YtahjkibjcibpgaaGreatDoorW.PrintWords (Aside0)
section
variable {md : Region.Mode} {ops : Array Oper} {T : Bool × List (List Nat × List Nat)} {l l' li lj lk : Array Bool} {ds : List Nat} {i j k : Nat}
end
end Go.Proofs.YtahjkibjcibpgaaGreatDoorW.PrintLast
end
section
namespace Go.Proofs.YtahjkibjcibpgaaGreatDoorW.PrintLast
section
variable {P : Program} {ops : Array Oper} {Q : Exit → Act → World → Prop} {md : Region.Mode} {S : World → Prop} {ds : List Nat} {T : Bool × List (List Nat × List Nat)}
end
end Go.Proofs.YtahjkibjcibpgaaGreatDoorW.PrintLast
end
section
namespace Go.Proofs.YtahjkibjcibpgaaGreatDoorW.PrintWords
open Go.RowKit
namespace Kd
section
variable {α : Type} {d : Kd α} {e base g o n cap : Nat} {ok okp : Nat → Prop} {w W : World} {v : Value} {xs : List α}
end
section
variable {α : Type} {enc : α → Value} {h1 : ∀ x, (enc x).oneCell' = true} {e base g o n cap : Nat} {ok : Nat → Prop} {W : World} {xs : List α}
end
end Kd
end Go.Proofs.YtahjkibjcibpgaaGreatDoorW.PrintWords
end
section
namespace Go.Proofs.YtahjkibjcibpgaaGreatDoorW.PrintWords
open Go.RowKit
namespace Kd
def tag {α : Type} (f : Nat → Nat) (d : Kd α) : Kd (α × Nat) where
  sz := d.sz
  E := d.E
  K := fun w x cs => d.K w x.1 cs
  M := fun w base ok x cs => d.M w base (fun k => ok k ∧ f k = x.2) x.1 cs
  K_len := fun h => d.K_len h
  K_one := fun h => d.K_one h
  K_below := fun hb h => d.K_below hb h
  K_of_M := fun h => d.K_of_M h
  M_mono := fun hok h => d.M_mono (fun k hk => ⟨hok k hk.1, hk.2⟩) h
  M_bound := fun h => d.M_mono (fun _ hk => ⟨⟨hk.1.1, hk.2⟩, hk.1.2⟩) (d.M_bound h)
  M_move := fun hm h => d.M_move (fun k hk => hm k hk.1) h
  M_lower := fun hb h => d.M_lower hb h
def raw (sz : Nat) : Kd (List Value) where
  sz := sz
  E := []
  K := fun _ x cs => cs = x ∧ cs.length = sz ∧ ∀ u ∈ cs, u.oneCell' = true
  M := fun _ _ _ x cs => cs = x ∧ cs.length = sz ∧ ∀ u ∈ cs, u.oneCell' = true
  K_len := fun h => h.2.1
  K_one := fun h => h.2.2
  K_below := fun _ h => h
  K_of_M := fun h => h
  M_mono := fun _ h => h
  M_bound := fun h => h
  M_move := fun _ h => h
  M_lower := fun _ h => h
def S {α : Type} (d : Kd α) (e : Nat) (w : World) (base : Nat) (ok : Nat → Prop) (v : Value) (xs : List α) : Prop := ∃ f, (tag f d).R e w base ok v xs.zipIdx
section
variable {α β : Type} {d : Kd α} {d' : Kd β} {e e' : Nat} {w w1 W : World} {base b : Nat} {ok ok' okv oku : Nat → Prop} {u v : Value} {xs : List α} {ys : List β}
theorem S_nil (d : Kd α) (e : Nat) (w : World) (base : Nat) (ok : Nat → Prop) : S d e w base ok (.slice none 0 0) [] := ⟨fun _ => 0, R_nil _ _ _ _ _⟩
end
section
variable {α β : Type} {d : Kd α} {d' : Kd β} {e e' g : Nat} {w w1 W : World} {base b : Nat} {ok ok' okv oku : Nat → Prop} {u v : Value} {xs : List α} {ys : List β}
end
section
variable {P : Program} {ops : Array Oper} {rest : List Oper} {o : Oper} {a : Act} {Q : Exit → Act → World → Prop} {Kc : Act → World → Prop} {α : Type}
end
def gap {α : Type} (f : Nat → Nat) (d : Kd α) (i : Nat) (c : List Value) : Kd (α × Nat) where
  sz := d.sz
  E := d.E
  K := fun w x cs => (x.2 = i → cs = c ∧ cs.length = d.sz ∧ ∀ u ∈ cs, u.oneCell' = true) ∧ (x.2 ≠ i → d.K w x.1 cs)
  M := fun w base ok x cs => (x.2 = i → cs = c ∧ cs.length = d.sz ∧ ∀ u ∈ cs, u.oneCell' = true) ∧ (x.2 ≠ i → d.M w base (fun k => ok k ∧ f k = x.2) x.1 cs)
  K_len := fun {w x cs} h => by
    by_cases hx : x.2 = i
    · exact (h.1 hx).2.1
    · exact d.K_len (h.2 hx)
  K_one := fun {w x cs} h => by
    by_cases hx : x.2 = i
    · exact (h.1 hx).2.2
    · exact d.K_one (h.2 hx)
  K_below := fun hb h => ⟨h.1, fun hx => d.K_below hb (h.2 hx)⟩
  K_of_M := fun h => ⟨h.1, fun hx => d.K_of_M (h.2 hx)⟩
  M_mono := fun hok h => ⟨h.1, fun hx => d.M_mono (fun k hk => ⟨hok k hk.1, hk.2⟩) (h.2 hx)⟩
  M_bound := fun h => ⟨h.1, fun hx => d.M_mono (fun _ hk => ⟨⟨hk.1.1, hk.2⟩, hk.1.2⟩) (d.M_bound (h.2 hx))⟩
  M_move := fun hm h => ⟨h.1, fun hx => d.M_move (fun k hk => hm k hk.1) (h.2 hx)⟩
  M_lower := fun hb h => ⟨h.1, fun hx => d.M_lower hb (h.2 hx)⟩
def H {α : Type} (d : Kd α) (e : Nat) (w : World) (base : Nat) (ok : Nat → Prop) (v : Value) (xs : List α) (i : Int) (oki : Nat → Prop) (c : List Value) : Prop :=
  (∀ k, oki k → ok k) ∧ ∃ f, (gap f d i.toNat c).R e w base (fun k => ok k ∧ ¬ oki k) v xs.zipIdx
section
variable {α β : Type} {d : Kd α} {e e' g n cap : Nat} {w w1 W : World} {base : Nat} {ok ok' oki okp : Nat → Prop} {u v : Value} {xs : List α} {i : Int} {c : List Value}
end
section
variable {P : Program} {ops : Array Oper} {rest : List Oper} {o : Oper} {a : Act} {Q : Exit → Act → World → Prop} {α : Type}
end
end Kd
end Go.Proofs.YtahjkibjcibpgaaGreatDoorW.PrintWords
end
section
namespace Go.Proofs.YtahjkibjcibpgaaGreatDoorW.PrintWords
open Go.RowKit
namespace Kd
section
variable {α : Type} {n : Nat} {d : Kd α} {hs : 0 < d.sz} {w : World} {base : Nat} {ok : Nat → Prop} {xs : List α} {cs : List Value}
end
section
variable {α : Type} {n : Nat} {enc : α → Value} {h1 : ∀ x, (enc x).oneCell' = true} {hs : 0 < (scalar enc h1).sz} {w : World} {base : Nat} {ok : Nat → Prop} {xs : List α} {cs : List Value}
end
end Kd
end Go.Proofs.YtahjkibjcibpgaaGreatDoorW.PrintWords
end
section
namespace Go.Proofs.YtahjkibjcibpgaaGreatDoorW.PrintWords
open Go.RowKit
section
variable {P : Program}
end
namespace Kd
section
variable {P : Program} {ops : Array Oper} {rest : List Oper} {o : Oper} {a : Act} {Q : Exit → Act → World → Prop} {Kc : Act → World → Prop} {α : Type}
end
section
variable {α : Type} {d : Kd α} {e : Nat} {w : World} {base : Nat} {ok : Nat → Prop} {v : Value} {xs : List α}
end
section
variable {P : Program} {ops : Array Oper} {rest : List Oper} {o : Oper} {a : Act} {Q : Exit → Act → World → Prop} {Kc : Act → World → Prop} {α : Type}
end
end Kd
end Go.Proofs.YtahjkibjcibpgaaGreatDoorW.PrintWords
end
section
namespace Go.Proofs.YtahjkibjcibpgaaGreatDoorW.PrintWords
open Go.RowKit
namespace Kd
section
variable {α : Type} {d : Kd α} {e base g n c : Nat} {ok : Nat → Prop} {w w0 W : World} {A : Option Addr} {xs : List α}
end
end Kd
end Go.Proofs.YtahjkibjcibpgaaGreatDoorW.PrintWords
end
section
namespace Go.Proofs.YtahjkibjcibpgaaGreatDoorW.PrintWords
open Go.RowKit
section
variable {w W W2 : World} {S S2 S' : Nat → Prop}
end
namespace Kd
section
variable {α : Type} {d : Kd α} {e base n c : Nat} {ok oki S S2 : Nat → Prop} {w w0 W W1 W2 : World} {v : Value} {A : Option Addr} {xs : List α} {i : Int} {cs : List Value}
end
end Kd
end Go.Proofs.YtahjkibjcibpgaaGreatDoorW.PrintWords
end
section
namespace Go.Proofs.YtahjkibjcibpgaaGreatDoorW.PrintWords
open Go.RowKit
def Foot (P : World → Prop) (W : World) (ok : Nat → Prop) : Prop := ∀ W' : World, (∀ k, ok k → k < W.heap.size → W'.heap[k]? = W.heap[k]?) → P W'
theorem heap_lt {W W1 : World} {k : Nat} (h : W1.heap[k]? = W.heap[k]?) (hlt : k < W.heap.size) : k < W1.heap.size := by
  rw [Array.getElem?_eq_getElem hlt] at h
  exact (Array.getElem?_eq_some_iff.1 h).1
namespace Foot
variable {P Q : World → Prop} {W W1 : World} {ok ok' : Nat → Prop}
theorem mono (h : Foot P W ok) (hok : ∀ k, ok k → ok' k) : Foot P W ok' := fun W' hW => h W' (fun k hk hlt => hW k (hok k hk) hlt)
theorem bound (h : Foot P W ok) : Foot P W (fun k => ok k ∧ k < W.heap.size) := fun W' hW => h W' (fun k hk hlt => hW k ⟨hk, hlt⟩ hlt)
theorem step (h : Foot P W ok) (hm : ∀ k, ok k → k < W.heap.size → W1.heap[k]? = W.heap[k]?) : Foot P W1 ok := fun W' hW => h W' (fun k hk hlt => (hW k hk (heap_lt (hm k hk hlt) hlt)).trans (hm k hk hlt))
theorem imp (h : Foot P W ok) (hi : ∀ W', P W' → Q W') : Foot Q W ok := fun W' hW => hi W' (h W' hW)
theorem old (h : Foot P W ok) (hb : Below W.heap.size W W1) : Foot P W1 (fun k => ok k ∧ k < W.heap.size) := (h.bound).step (fun k _ hlt => hb.block k hlt)
end Foot
namespace Kd
def F {α : Type} (d : Kd α) (W : World) (ok : Nat → Prop) (A : Option Addr) (n : Nat) (xs : List α) : Prop := Foot (fun W => d.C W A n xs) W ok
def FK {α : Type} (d : Kd α) (W : World) (ok : Nat → Prop) (x : α) (c : List Value) : Prop := Foot (fun W => d.K W x c) W ok
section
variable {α β : Type} {d : Kd α} {e base n n' cc g N : Nat} {ok ok' okp S : Nat → Prop} {w w0 w1 W W1 : World} {A A' : Option Addr} {u v v1 : Value} {xs : List α} {xs' : List β} {d' : Kd β} {x : α} {c : List Value}
theorem F_nil (d : Kd α) (W : World) (ok : Nat → Prop) : F d W ok none ([] : List α).length [] := fun W' _ => C_nil d W'
theorem FK_of_M (h : d.M W base ok x c) : FK d W ok x c := fun _ hW => d.K_of_M (M_step h hW)
end
end Kd
end Go.Proofs.YtahjkibjcibpgaaGreatDoorW.PrintWords
end
section
namespace Go.Proofs.YtahjkibjcibpgaaGreatDoorW.PrintWords
open Go.RowKit
namespace Kd
def chunks (sz : Nat) (n : Nat) (inner : List Value) : List (List Value) := (List.range n).map fun j => (inner.drop (j * sz)).take sz
theorem chunks_length (sz n : Nat) (inner : List Value) : (chunks sz n inner).length = n := by simp [chunks]
theorem chunks_at {sz n : Nat} {inner : List Value} {j : Nat} (hj : j < n) : (chunks sz n inner)[j]? = some ((inner.drop (j * sz)).take sz) := by simp [chunks, hj]
theorem chunks_get {sz n : Nat} {inner : List Value} {j : Nat} {c : List Value} (h : (chunks sz n inner)[j]? = some c) : c = (inner.drop (j * sz)).take sz := by
  have hj : j < n := by have := (List.getElem?_eq_some_iff.1 h).1; rwa [chunks_length] at this
  rw [chunks_at hj] at h
  injection h with h
  exact h.symm
theorem reps_raw {α : Type} {Rr : α → List Value → Prop} {sz : Nat} {xs : List α} {inner : List Value} (h : Reps Rr sz xs inner) (hR : ∀ x c, Rr x c → c.length = sz ∧ ∀ u ∈ c, u.oneCell' = true) : Reps (fun x cs => cs = x ∧ cs.length = sz ∧ ∀ u ∈ cs, u.oneCell' = true) sz (chunks sz xs.length inner) inner := by
  refine ⟨by rw [chunks_length]; exact h.1, fun j p hj => ?_⟩
  have hjl : j < xs.length := by have := (List.getElem?_eq_some_iff.1 hj).1; rwa [chunks_length] at this
  have hp := chunks_get hj
  exact ⟨hp.symm, hR _ _ (h.2 j _ (List.getElem?_eq_getElem hjl))⟩
section
variable {α : Type} {d : Kd α} {e base n cc g : Nat} {ok ok' okp S : Nat → Prop} {w w1 W W1 : World} {A : Option Addr} {u v v1 : Value} {xs : List α} {x : α} {c : List Value}
def N {α : Type} (d : Kd α) (e : Nat) (w : World) (base : Nat) (ok : Nat → Prop) (v : Value) (xs : List α) : Prop :=
  (∀ k, v.ownBlock = some k → ok k) ∧ ∃ rows : List (List Value), rows.length = xs.length ∧ (raw d.sz).R e w base (fun k => some k = v.ownBlock) v rows ∧ ∀ (j : Nat) (x : α) (c : List Value), xs[j]? = some x → rows[j]? = some c → FK d w (fun k => ok k ∧ some k ≠ v.ownBlock) x c
theorem R_N (h : d.R e w base ok v xs) : N d e w base ok v xs := by
  obtain ⟨h0, inner, ho, hr⟩ := h
  refine ⟨h0, chunks d.sz xs.length inner, chunks_length _ _ _, ⟨fun k hk => hk.symm, inner, by rw [chunks_length]; exact ho, reps_raw hr (fun x c hp => ⟨d.K_len (d.K_of_M hp), d.K_one (d.K_of_M hp)⟩)⟩, fun j x c hx hc => ?_⟩
  rw [chunks_get hc]
  exact FK_of_M (hr.2 j x hx)
theorem N_nil (d : Kd α) (e : Nat) (w : World) (base : Nat) (ok : Nat → Prop) : N d e w base ok (.slice none 0 0) [] := R_N (R_nil _ _ _ _ _)
end
end Kd
end Go.Proofs.YtahjkibjcibpgaaGreatDoorW.PrintWords
end
section
namespace Go.Proofs.YtahjkibjcibpgaaGreatDoorW.PrintWords
open Go.RowKit
namespace Kd
section
variable {α : Type} {d : Kd α} {W : World} {g n : Nat} {S ok : Nat → Prop} {A : Option Addr} {ad : Addr} {xs : List α}
end
end Kd
end Go.Proofs.YtahjkibjcibpgaaGreatDoorW.PrintWords
end
section
namespace Go.Proofs.YtahjkibjcibpgaaGreatDoorW.PrintWords
open Go.RowKit
section
variable {w w' u : World} {m B g : Nat} {o : Obj} {row : Option Nat} {S : Nat → Prop} {a : Addr} {v : Value}
end
namespace Kd
section
variable {α : Type} {d : Kd α} {e base n m : Nat} {ok : Nat → Prop} {w w' : World} {v : Value} {A : Option Addr} {xs : List α}
end
end Kd
end Go.Proofs.YtahjkibjcibpgaaGreatDoorW.PrintWords
end
section
namespace Go.Proofs.YtahjkibjcibpgaaGreatDoorW.PrintWords
open Go.RowKit
section
variable {P : Program} {d : Nat} {xs ys : Array Value} {f : Field} {fs : List Field} {a b : Value} {r s : Bool} {w : World}
theorem eqf_last (hn : (f.name == "_") = false) (ha : (part f.type xs f.offset).run P w = .ok a w) (hb : (part f.type ys f.offset).run P w = .ok b w) (he : (Op.equalIn d f.type a b).run P w = .ok r w) : (Op.eqFields d xs ys [f]).run P w = .ok r w := by
  have hn' : f.name ≠ "_" := by simpa using hn
  simp only [Op.eqFields, if_pos hn', Sem.run_bind, ha, hb, he, Result.andThen_ok]
  cases r <;> simp
theorem eqf_cons (hn : (f.name == "_") = false) (ha : (part f.type xs f.offset).run P w = .ok a w) (hb : (part f.type ys f.offset).run P w = .ok b w) (he : (Op.equalIn d f.type a b).run P w = .ok r w) (hr : (Op.eqFields d xs ys fs).run P w = .ok s w) : (Op.eqFields d xs ys (f :: fs)).run P w = .ok (r && s) w := by
  have hn' : f.name ≠ "_" := by simpa using hn
  rw [Op.eqFields]
  simp only [if_pos hn', Sem.run_bind, ha, hb, he, Result.andThen_ok]
  cases r
  · simp
  · simpa using hr
theorem eqA_of {t : TypeId} {fs : Array Field} (hu : P.underlying t = some (.struct fs)) (hp : P.stoodInHeld t = false) (h : (Op.eqFields d xs ys fs.toList).run P w = .ok r w) : (Op.equalIn (d + 1) t (.agg xs) (.agg ys)).run P w = .ok r w := by
  have hf : P.fieldsOf t = fs := by simp [Program.fieldsOf, hu]
  rw [run_equalIn_struct (P := P) w d t xs ys (by rw [hf]; exact hu) hp, hf]
  exact h
end
end Go.Proofs.YtahjkibjcibpgaaGreatDoorW.PrintWords
end
section
namespace Go.Proofs.YtahjkibjcibpgaaGreatDoorW.PrintWords
theorem Reps.front {α : Type} {R : α → List Value → Prop} {size : Nat} {ps : List α} {cs c all : List Value} {p : α} (hp : R p c) (hc : c.length = size) (h : Reps R size ps cs) (ha : c ++ cs = all) : Reps R size (p :: ps) all := by
  subst ha
  refine ⟨by rw [List.length_append, hc, h.1, List.length_cons, Nat.succ_mul, Nat.add_comm], fun j q hq => ?_⟩
  cases j with
  | zero =>
    simp only [List.getElem?_cons_zero, Option.some.injEq] at hq
    subst hq
    rw [Nat.zero_mul, List.drop_zero, List.take_append_of_le_length (by omega), List.take_of_length_le (by omega)]
    exact hp
  | succ j =>
    simp only [List.getElem?_cons_succ] at hq
    have h1 := h.2 j q hq
    rw [Nat.succ_mul, List.drop_append, List.drop_of_length_le (by rw [hc]; exact Nat.le_add_left _ _), List.nil_append, hc, Nat.add_sub_cancel]
    exact h1
theorem Reps.c2 {α : Type} {R : α → List Value → Prop} {ps : List α} {cs : List Value} {p : α} {va vb : Value} (hp : R p [va, vb]) (h : Reps R 2 ps cs) : Reps R 2 (p :: ps) (va :: vb :: cs) := Reps.front hp rfl h rfl
theorem Reps.c3 {α : Type} {R : α → List Value → Prop} {ps : List α} {cs : List Value} {p : α} {va vb vc : Value} (hp : R p [va, vb, vc]) (h : Reps R 3 ps cs) : Reps R 3 (p :: ps) (va :: vb :: vc :: cs) := Reps.front hp rfl h rfl
theorem Reps.c4 {α : Type} {R : α → List Value → Prop} {ps : List α} {cs : List Value} {p : α} {va vb vc vd : Value} (hp : R p [va, vb, vc, vd]) (h : Reps R 4 ps cs) : Reps R 4 (p :: ps) (va :: vb :: vc :: vd :: cs) := Reps.front hp rfl h rfl
theorem Reps.c5 {α : Type} {R : α → List Value → Prop} {ps : List α} {cs : List Value} {p : α} {va vb vc vd ve : Value} (hp : R p [va, vb, vc, vd, ve]) (h : Reps R 5 ps cs) : Reps R 5 (p :: ps) (va :: vb :: vc :: vd :: ve :: cs) := Reps.front hp rfl h rfl
theorem Reps.c6 {α : Type} {R : α → List Value → Prop} {ps : List α} {cs : List Value} {p : α} {va vb vc vd ve vf : Value} (hp : R p [va, vb, vc, vd, ve, vf]) (h : Reps R 6 ps cs) : Reps R 6 (p :: ps) (va :: vb :: vc :: vd :: ve :: vf :: cs) := Reps.front hp rfl h rfl
theorem Reps.c7 {α : Type} {R : α → List Value → Prop} {ps : List α} {cs : List Value} {p : α} {va vb vc vd ve vf vg : Value} (hp : R p [va, vb, vc, vd, ve, vf, vg]) (h : Reps R 7 ps cs) : Reps R 7 (p :: ps) (va :: vb :: vc :: vd :: ve :: vf :: vg :: cs) := Reps.front hp rfl h rfl
theorem Reps.c8 {α : Type} {R : α → List Value → Prop} {ps : List α} {cs : List Value} {p : α} {va vb vc vd ve vf vg vh : Value} (hp : R p [va, vb, vc, vd, ve, vf, vg, vh]) (h : Reps R 8 ps cs) : Reps R 8 (p :: ps) (va :: vb :: vc :: vd :: ve :: vf :: vg :: vh :: cs) := Reps.front hp rfl h rfl
theorem Reps.c9 {α : Type} {R : α → List Value → Prop} {ps : List α} {cs : List Value} {p : α} {va vb vc vd ve vf vg vh vi : Value} (hp : R p [va, vb, vc, vd, ve, vf, vg, vh, vi]) (h : Reps R 9 ps cs) : Reps R 9 (p :: ps) (va :: vb :: vc :: vd :: ve :: vf :: vg :: vh :: vi :: cs) := Reps.front hp rfl h rfl
theorem Reps.c10 {α : Type} {R : α → List Value → Prop} {ps : List α} {cs : List Value} {p : α} {va vb vc vd ve vf vg vh vi vj : Value} (hp : R p [va, vb, vc, vd, ve, vf, vg, vh, vi, vj]) (h : Reps R 10 ps cs) : Reps R 10 (p :: ps) (va :: vb :: vc :: vd :: ve :: vf :: vg :: vh :: vi :: vj :: cs) := Reps.front hp rfl h rfl
end Go.Proofs.YtahjkibjcibpgaaGreatDoorW.PrintWords
end
section
namespace Go.Proofs.YtahjkibjcibpgaaGreatDoorW.PrintLast
def up (b : Nat → Bool) (i : Nat) : Nat → Bool := fun j => if j = i then true else b j
section
variable {P : Program} {ops : Array Oper} {Q : Exit → Act → World → Prop} {md : Region.Mode} {T : Bool × List (List Nat × List Nat)} {B : List Nat} {O : List Nat} {b : Nat → Bool} {i j n : Nat}
end
end Go.Proofs.YtahjkibjcibpgaaGreatDoorW.PrintLast
end
section
namespace Go.Proofs.YtahjkibjcibpgaaGreatDoorW.PrintWords
open Go.RowKit
end Go.Proofs.YtahjkibjcibpgaaGreatDoorW.PrintWords
namespace Go.Proofs.YtahjkibjcibpgaaGreatDoorW.PrintLast
section
variable {ops : Array Oper} {a : Act} {o og : Oper} {g : Nat} {t : Tmp} {u : Bool}
end
end Go.Proofs.YtahjkibjcibpgaaGreatDoorW.PrintLast
end
section
namespace Go.Proofs.YtahjkibjcibpgaaGreatDoorW.PrintWords
open Go.RowKit
section
variable {P : Program} {ops : Array Oper} {rest : List Oper} {o : Oper} {a : Act} {Q : Exit → Act → World → Prop} {W : World}
theorem gate_guard (hw : Region.wanted o (yielded ops a.tmps) = true) (h : wpList P ops Q ({ o with guard := none } :: rest) a W) : wpList P ops Q (o :: rest) a W := by
  have h1 : Region.wanted { o with guard := none } (yielded ops a.tmps) = true := rfl
  unfold wpList at h ⊢
  rw [if_pos h1] at h
  rw [if_pos hw]
  exact h
end
end Go.Proofs.YtahjkibjcibpgaaGreatDoorW.PrintWords
end
section
namespace Go.Proofs.YtahjkibjcibpgaaGreatDoorW.PrintWords
open Go.RowKit
namespace Kd
section
variable {α : Type} {d : Kd α} {e base n cap g : Nat} {ok ok' okp : Nat → Prop} {w w1 W : World} {v v1 : Value} {xs ys : List α}
end
section
variable {P : Program} {ops : Array Oper} {rest : List Oper} {o : Oper} {a : Act} {Q : Exit → Act → World → Prop} {Kc : Act → World → Prop} {α : Type}
end
end Kd
end Go.Proofs.YtahjkibjcibpgaaGreatDoorW.PrintWords
end
section
namespace Go.Proofs.YtahjkibjcibpgaaGreatDoorW.PrintMore
open Go.RowKit Go.Proofs.YtahjkibjcibpgaaGreatDoorW.PrintWords
namespace Kd
open Go.Proofs.YtahjkibjcibpgaaGreatDoorW.PrintWords.Kd
end Kd
namespace Kd
open Go.Proofs.YtahjkibjcibpgaaGreatDoorW.PrintWords.Kd
section
variable {α : Type} {d : Kd α} {e base g N : Nat} {ok : Nat → Prop} {W w1 : World} {u v : Value} {xs : List α}
end
end Kd
theorem max2_int (k k' : IntKind) (x y : Int) : Builtin.max2 (.int k x) (.int k' y) = pure (.int k (if x < y then y else x)) := by simp only [Builtin.max2, gt_iff_lt]
theorem min2_int (k k' : IntKind) (x y : Int) : Builtin.min2 (.int k x) (.int k' y) = pure (.int k (if y < x then y else x)) := by simp only [Builtin.min2]
theorem max_two (ats : Array TypeId) (ty : TypeId) (a b : Value) : Builtin.max_ ats ty #[a, b] = (Builtin.max2 a b >>= fun s => pure s) := by simp only [Builtin.max_, List.foldlM_cons, List.foldlM_nil]
theorem min_two (ats : Array TypeId) (ty : TypeId) (a b : Value) : Builtin.min_ ats ty #[a, b] = (Builtin.min2 a b >>= fun s => pure s) := by simp only [Builtin.min_, List.foldlM_cons, List.foldlM_nil]
theorem max_three (ats : Array TypeId) (ty : TypeId) (a b c : Value) : Builtin.max_ ats ty #[a, b, c] = (Builtin.max2 a b >>= fun s => Builtin.max2 s c >>= fun s => pure s) := by simp only [Builtin.max_, List.foldlM_cons, List.foldlM_nil]
theorem min_three (ats : Array TypeId) (ty : TypeId) (a b c : Value) : Builtin.min_ ats ty #[a, b, c] = (Builtin.min2 a b >>= fun s => Builtin.min2 s c >>= fun s => pure s) := by simp only [Builtin.min_, List.foldlM_cons, List.foldlM_nil]
theorem max_four (ats : Array TypeId) (ty : TypeId) (a b c d : Value) : Builtin.max_ ats ty #[a, b, c, d] = (Builtin.max2 a b >>= fun s => Builtin.max2 s c >>= fun s => Builtin.max2 s d >>= fun s => pure s) := by simp only [Builtin.max_, List.foldlM_cons, List.foldlM_nil]
theorem min_four (ats : Array TypeId) (ty : TypeId) (a b c d : Value) : Builtin.min_ ats ty #[a, b, c, d] = (Builtin.min2 a b >>= fun s => Builtin.min2 s c >>= fun s => Builtin.min2 s d >>= fun s => pure s) := by simp only [Builtin.min_, List.foldlM_cons, List.foldlM_nil]
end Go.Proofs.YtahjkibjcibpgaaGreatDoorW.PrintMore
namespace Go.Proofs.YtahjkibjcibpgaaGreatDoorW.PrintWords
open Go.RowKit
section
variable {P : Program} {ops : Array Oper} {rest : List Oper} {o : Oper} {a : Act} {Q : Exit → Act → World → Prop} {W : World}
theorem gate_callee {f : FuncId} {as_ : Array Operand} {ts : Array TypeId} (_ho : o.op = .call { callee := .value (.func f), args := as_, argTypes := ts }) (h : wpList P ops Q (o :: rest) a W) : wpList P ops Q (o :: rest) a W := h
theorem gate_builtin {b : Builtin} {xs : Array Operand} {ts : Array TypeId} (_ho : o.op = .call { callee := .builtin b, args := xs, argTypes := ts }) (h : wpList P ops Q (o :: rest) a W) : wpList P ops Q (o :: rest) a W := h
end
def mn (a b : Int) : Int := if b < a then b else a
namespace Kd
section
variable {α : Type} {d : Kd α} {e base : Nat} {ok : Nat → Prop} {W w1 : World} {v : Value} {xs : List α}
end
section
variable {α : Type} {d : Kd α} {e base g n cap : Nat} {ok oki okp : Nat → Prop} {W : World} {xs : List α} {i : Int} {c : List Value}
end
section
variable {α : Type} {d : Kd α} {e base b b' g N : Nat} {ok ok1 : Nat → Prop} {W W2 w1 : World} {u v : Value} {xs ys : List α} {S : Nat → Prop}
end
end Kd
end Go.Proofs.YtahjkibjcibpgaaGreatDoorW.PrintWords
namespace Go.Proofs.YtahjkibjcibpgaaGreatDoorW.PrintWords
open Go.RowKit
namespace Kd
def V {α : Type} (d : Kd α) (_e : Nat) (W : World) (_base : Nat) (ok : Nat → Prop) (v : Value) (xs : List α) : Prop := ∃ A c, v = .slice A xs.length c ∧ xs.length ≤ c ∧ F d W ok A xs.length xs
section
variable {α β : Type} {d : Kd α} {e base base' n m c g N' lo hi : Nat} {ok ok' S : Nat → Prop} {w W w1 : World} {A : Option Addr} {ad : Addr} {u v v1 : Value} {xs : List α}
theorem V_nil (d : Kd α) (e : Nat) (W : World) (base : Nat) (ok : Nat → Prop) : V d e W base ok (.slice none 0 0) [] := ⟨none, 0, rfl, Nat.le_refl _, F_nil d W ok⟩
end
end Kd
end Go.Proofs.YtahjkibjcibpgaaGreatDoorW.PrintWords
end
section
namespace Go.Proofs.YtahjkibjcibpgaaGreatDoor.PTr
open Go.RowKit Go.Proofs.YtahjkibjcibpgaaGreatDoorW.Sq Go.Proofs.YtahjkibjcibpgaaGreatDoorW.PrintWords Go.Proofs.YtahjkibjcibpgaaGreatDoorW.PrintLast Go.Proofs.YtahjkibjcibpgaaGreatDoorW.PrintMore
attribute [local go_sem] max2_int min2_int max_two min_two max_three min_three max_four min_four   -- for this text's walks alone
set_option linter.unusedVariables false
set_option linter.unusedSimpArgs false
structure S23 where
  f0 : Int
  f1 : Int
def z23 : S23 := ⟨(0 : Int), (0 : Int)⟩
def k23 : Kd S23 := Kd.iso (Kd.pair (Kd.int .i64) (Kd.int .i64)) (fun x : S23 => (x.f0, x.f1))
theorem k23_open {w : World} {x : S23} {cs : List Value} (h : k23.K w x cs) : cs = [.int .i64 x.f0, .int .i64 x.f1] := by
  obtain ⟨_, _, rfl, rfl, rfl⟩ := h
  exact rfl
theorem k23_openM {w : World} {base : Nat} {ok : Nat → Prop} {x : S23} {cs : List Value} (h : k23.M w base ok x cs) : cs = [.int .i64 x.f0, .int .i64 x.f1] := by
  obtain ⟨_, _, rfl, rfl, rfl⟩ := h
  exact rfl
theorem k23_mkM (w : World) (base : Nat) (ok : Nat → Prop) (x : S23)  : k23.M w base ok x [.int .i64 x.f0, .int .i64 x.f1] := ⟨[.int .i64 x.f0], [.int .i64 x.f1], rfl, rfl, rfl⟩
structure S26 where
  f0 : Int
  f1 : ByteArray
  f2 : S23
  f3 : Int
  f4 : (List S26)
def z26 : S26 := ⟨(0 : Int), (⟨#[]⟩ : ByteArray), z23, (0 : Int), ([] : List S26)⟩
def F26 (d : Kd S26) : Kd S26 := Kd.iso (Kd.pair (Kd.int .i64) (Kd.pair Kd.string (Kd.pair k23 (Kd.pair (Kd.int .i64) (Kd.slice 26 d))))) (fun x : S26 => (x.f0, x.f1, x.f2, x.f3, x.f4))
theorem mono26 : Kd.Mono F26 := Kd.mono_iso _ (Kd.mono_pair (Kd.mono_const _) (Kd.mono_pair (Kd.mono_const _) (Kd.mono_pair (Kd.mono_const _) (Kd.mono_pair (Kd.mono_const _) (Kd.mono_slice 26 Kd.mono_id)))))
theorem sub26 : Kd.Sub F26 [26] := Kd.sub_iso _ (Kd.sub_pair (Kd.sub_const _ (by decide)) (Kd.sub_pair (Kd.sub_const _ (by decide)) (Kd.sub_pair (Kd.sub_const _ (by decide)) (Kd.sub_pair (Kd.sub_const _ (by decide)) (Kd.sub_slice 26 (by decide) Kd.sub_id)))))
theorem sz26 : ∀ n, (Kd.upto F26 6 [26] n).sz = 6 := Kd.upto_sz (fun _ => rfl)
def k26 : Kd S26 := Kd.fix F26 6 [26] sz26 (Kd.upto_E sub26)
theorem k26_open {w : World} {x : S26} {cs : List Value} (h : k26.K w x cs) : ∃ A5 c5, cs = [.int .i64 x.f0, .string x.f1, .int .i64 x.f2.f0, .int .i64 x.f2.f1, .int .i64 x.f3, .slice A5 x.f4.length c5] ∧ x.f4.length ≤ c5 ∧ k26.C w A5 x.f4.length x.f4 := by
  obtain ⟨n, h⟩ := h
  cases n with
  | zero => exact h.elim
  | succ n =>
    obtain ⟨_, _, rfl, rfl, ⟨_, _, rfl, rfl, ⟨_, _, rfl, s2, ⟨_, _, rfl, rfl, ⟨A5, c5, rfl, l5, g5⟩⟩⟩⟩⟩ := h
    obtain rfl := k23_open s2
    exact ⟨A5, c5, rfl, l5, Kd.fix_C g5⟩
theorem k26_openM {w : World} {base : Nat} {ok : Nat → Prop} {x : S26} {cs : List Value} (h : k26.M w base ok x cs) : ∃ v5, cs = [.int .i64 x.f0, .string x.f1, .int .i64 x.f2.f0, .int .i64 x.f2.f1, .int .i64 x.f3, v5] ∧ k26.R 26 w base ok v5 x.f4 := by
  obtain ⟨n, h⟩ := h
  cases n with
  | zero => exact h.elim
  | succ n =>
    obtain ⟨_, _, rfl, rfl, ⟨_, _, rfl, rfl, ⟨_, _, rfl, s2, ⟨_, _, rfl, rfl, ⟨v5, rfl, g5⟩⟩⟩⟩⟩ := h
    obtain rfl := k23_openM s2
    exact ⟨v5, rfl, Kd.fix_R g5⟩
theorem k26_mkM (w : World) (base : Nat) (ok : Nat → Prop) (x : S26) {v5 : Value} (g5 : k26.R 26 w base ok v5 x.f4) : k26.M w base ok x [.int .i64 x.f0, .string x.f1, .int .i64 x.f2.f0, .int .i64 x.f2.f1, .int .i64 x.f3, v5] := by
  obtain ⟨n5, q5⟩ := Kd.fix_R_back mono26 g5
  have r5 := Kd.upto_R_le mono26 sz26 (show n5 ≤ n5 by omega) q5
  exact ⟨n5 + 1, ⟨[.int .i64 x.f0], [.string x.f1, .int .i64 x.f2.f0, .int .i64 x.f2.f1, .int .i64 x.f3, v5], rfl, rfl, ⟨[.string x.f1], [.int .i64 x.f2.f0, .int .i64 x.f2.f1, .int .i64 x.f3, v5], rfl, rfl, ⟨[.int .i64 x.f2.f0, .int .i64 x.f2.f1], [.int .i64 x.f3, v5], rfl, (k23_mkM w base ok x.f2 ), ⟨[.int .i64 x.f3], [v5], rfl, rfl, ⟨v5, rfl, r5⟩⟩⟩⟩⟩⟩
def rd_T26 (xs : List S26) (i : Int) : S26 := xs.getD i.toNat z26
theorem at_T26 {w : World} {A : Option Addr} {n : Nat} {xs : List S26} (h : Kd.C k26 w A n xs) (i : Int) (h0 : 0 ≤ i) (h1 : i < n) : ∃ ad A5 c5, A = some ad ∧ w.cell? (ad.add (i.toNat * 6)) = some (.int .i64 (rd_T26 xs i).f0) ∧ w.cell? ⟨(ad.add (i.toNat * 6)).block, (ad.add (i.toNat * 6)).off + 1, none⟩ = some (.string (rd_T26 xs i).f1) ∧ w.cell? ⟨(ad.add (i.toNat * 6)).block, (ad.add (i.toNat * 6)).off + 2, none⟩ = some (.int .i64 (rd_T26 xs i).f2.f0) ∧ w.cell? ⟨(ad.add (i.toNat * 6)).block, (ad.add (i.toNat * 6)).off + 3, none⟩ = some (.int .i64 (rd_T26 xs i).f2.f1) ∧ w.cell? ⟨(ad.add (i.toNat * 6)).block, (ad.add (i.toNat * 6)).off + 4, none⟩ = some (.int .i64 (rd_T26 xs i).f3) ∧ w.cell? ⟨(ad.add (i.toNat * 6)).block, (ad.add (i.toNat * 6)).off + 5, none⟩ = some (.slice A5 (rd_T26 xs i).f4.length c5) ∧ (rd_T26 xs i).f4.length ≤ c5 ∧ k26.C w A5 (rd_T26 xs i).f4.length (rd_T26 xs i).f4 := by
  obtain ⟨ad, c, e, _, hK, hc0⟩ := Kd.C_get h z26 i h0 h1
  have hc : ∀ j u, c[j]? = some u → w.cell? (ad.add (i.toNat * 6 + j)) = some u := hc0
  obtain ⟨A5, c5, rfl, l5, g5⟩ := k26_open hK
  exact ⟨ad, A5, c5, e, hc 0 _ rfl, by rw [← add_field _ _ 1 (by omega)]; exact hc 1 _ rfl, by rw [← add_field _ _ 2 (by omega)]; exact hc 2 _ rfl, by rw [← add_field _ _ 3 (by omega)]; exact hc 3 _ rfl, by rw [← add_field _ _ 4 (by omega)]; exact hc 4 _ rfl, by rw [← add_field _ _ 5 (by omega)]; exact hc 5 _ rfl, l5, g5⟩
structure S41 where
  f0 : Int
  f1 : ByteArray
  f2 : Int
def z41 : S41 := ⟨(0 : Int), (⟨#[]⟩ : ByteArray), (0 : Int)⟩
def k41 : Kd S41 := Kd.iso (Kd.pair (Kd.int .i64) (Kd.pair Kd.string (Kd.int .i64))) (fun x : S41 => (x.f0, x.f1, x.f2))
theorem k41_open {w : World} {x : S41} {cs : List Value} (h : k41.K w x cs) : cs = [.int .i64 x.f0, .string x.f1, .int .i64 x.f2] := by
  obtain ⟨_, _, rfl, rfl, ⟨_, _, rfl, rfl, rfl⟩⟩ := h
  exact rfl
theorem k41_openM {w : World} {base : Nat} {ok : Nat → Prop} {x : S41} {cs : List Value} (h : k41.M w base ok x cs) : cs = [.int .i64 x.f0, .string x.f1, .int .i64 x.f2] := by
  obtain ⟨_, _, rfl, rfl, ⟨_, _, rfl, rfl, rfl⟩⟩ := h
  exact rfl
theorem k41_mkM (w : World) (base : Nat) (ok : Nat → Prop) (x : S41)  : k41.M w base ok x [.int .i64 x.f0, .string x.f1, .int .i64 x.f2] := ⟨[.int .i64 x.f0], [.string x.f1, .int .i64 x.f2], rfl, rfl, ⟨[.string x.f1], [.int .i64 x.f2], rfl, rfl, rfl⟩⟩
def rd_T41 (xs : List S41) (i : Int) : S41 := xs.getD i.toNat z41
theorem at_T41 {w : World} {A : Option Addr} {n : Nat} {xs : List S41} (h : Kd.C k41 w A n xs) (i : Int) (h0 : 0 ≤ i) (h1 : i < n) : ∃ ad , A = some ad ∧ w.cell? (ad.add (i.toNat * 3)) = some (.int .i64 (rd_T41 xs i).f0) ∧ w.cell? ⟨(ad.add (i.toNat * 3)).block, (ad.add (i.toNat * 3)).off + 1, none⟩ = some (.string (rd_T41 xs i).f1) ∧ w.cell? ⟨(ad.add (i.toNat * 3)).block, (ad.add (i.toNat * 3)).off + 2, none⟩ = some (.int .i64 (rd_T41 xs i).f2) := by
  obtain ⟨ad, c, e, _, hK, hc0⟩ := Kd.C_get h z41 i h0 h1
  have hc : ∀ j u, c[j]? = some u → w.cell? (ad.add (i.toNat * 3 + j)) = some u := hc0
  obtain rfl := k41_open hK
  exact ⟨ad, e, hc 0 _ rfl, by rw [← add_field _ _ 1 (by omega)]; exact hc 1 _ rfl, by rw [← add_field _ _ 2 (by omega)]; exact hc 2 _ rfl⟩
end Go.Proofs.YtahjkibjcibpgaaGreatDoor.PTr
end
section
namespace Go.Proofs.YtahjkibjcibpgaaGreatDoor.L
open Go.Proofs.YtahjkibjcibpgaaGreatDoor.U
def letterB (c : UInt8) : Bool := decide (97 ≤ (c ||| 32).toNat) && decide ((c ||| 32).toNat ≤ 122)
def nameB (c : UInt8) : Bool := letterB c || isDig c || c == 95
def textB (c : UInt8) : Bool := decide (32 ≤ c.toNat) && decide (c.toNat ≤ 126) && c != 34 && c != 92
def signs : List (List UInt8) := [[60, 61], [62, 61], [61, 61], [33, 61], [123], [125], [40], [41], [44], [59], [58], [61], [43], [45], [42], [47], [37], [60], [62]]
def signL (s : List UInt8) : List UInt8 := ((signs.find? (fun g => g.isPrefixOf s))).getD []
def numL (s : List UInt8) : List UInt8 :=
  match s.dropWhile isDig with
  | 46 :: rest => if rest.takeWhile isDig = [] then s.takeWhile isDig else s.takeWhile isDig ++ 46 :: rest.takeWhile isDig
  | _ => s.takeWhile isDig
def strL (s : List UInt8) : List UInt8 :=
  match s.dropWhile textB with
  | 34 :: _ => 34 :: s.takeWhile textB ++ [34]
  | _ => []
def firstL : List UInt8 → Nat × List UInt8
  | [] => (3, [])
  | c :: r =>
    if letterB c then (0, (c :: r).takeWhile nameB)
    else if isDig c then (1, numL (c :: r))
    else if c = 34 then (2, strL r)
    else (3, signL (c :: r))
def cs4 : List UInt8 := [32, 9, 13, 10]
def skipL (fuel : Nat) (s : List UInt8) : List UInt8 :=
  match fuel with
  | 0 => s
  | fuel + 1 =>
    match s.dropWhile (cs4.contains ·) with
    | 35 :: r => skipL fuel ((35 :: r).dropWhile (· != 10))
    | t => t
def spaceL (s : List UInt8) : Nat := s.length - (skipL (s.length + 1) s).length
structure Tok where
  kind : Nat
  text : List UInt8
  at_ : Nat
def okTok (t : Nat × List UInt8) : Bool := !t.2.isEmpty && decide (t.2.length ≤ if t.1 = 2 then 502 else 24)
def tokOf (t : Nat × List UInt8) (at_ : Nat) : Tok := ⟨t.1, if t.1 = 2 ∧ t.2 ≠ [] then (t.2.take (t.2.length - 1)).drop 1 else t.2, at_⟩
def ysL (s : List UInt8) : Nat → Nat → List (Tok × Bool)
  | 0, _ => []
  | fuel + 1, at_ =>
    if s.length ≤ at_ then []
    else if okTok (firstL (s.drop at_)) then
      (tokOf (firstL (s.drop at_)) at_, true) :: ysL s fuel (at_ + (firstL (s.drop at_)).2.length + spaceL (s.drop (at_ + (firstL (s.drop at_)).2.length)))
    else [(tokOf (firstL (s.drop at_)) at_, false)]
def visits (s : List UInt8) : List (Tok × Bool) := ysL s (s.length + 1) (spaceL s)
def scanL (s : List UInt8) : List Tok × Nat × Nat :=
  if 65536 < s.length then ([], 8, 0)
  else match (visits s).find? (fun y => !y.2) with
    | none => ((visits s).map (·.1) ++ [⟨4, [], s.length⟩], 0, 0)
    | some y => ([], 2, y.1.at_)
end Go.Proofs.YtahjkibjcibpgaaGreatDoor.L
end
section
namespace Go.Proofs.YtahjkibjcibpgaaGreatDoor.L
open Go.Proofs.YtahjkibjcibpgaaGreatDoor.U
theorem tw_take (p : UInt8 → Bool) (s : List UInt8) : ∀ n, (s.takeWhile p).length ≤ n → (s.take n).takeWhile p = s.takeWhile p := by
  induction s with
  | nil => intro n _; simp
  | cons c r ih =>
    intro n h
    by_cases hc : p c = true
    · rw [List.takeWhile_cons, if_pos hc] at h ⊢
      cases n with
      | zero => simp at h
      | succ n => rw [List.take_succ_cons, List.takeWhile_cons, if_pos hc, ih n (by simpa using h)]
    · rw [List.takeWhile_cons, if_neg hc]
      cases n with
      | zero => rfl
      | succ n => rw [List.take_succ_cons, List.takeWhile_cons, if_neg hc]
theorem dw_take (p : UInt8 → Bool) (s : List UInt8) : ∀ n, (s.takeWhile p).length ≤ n → (s.take n).dropWhile p = (s.dropWhile p).take (n - (s.takeWhile p).length) := by
  induction s with
  | nil => intro n _; simp
  | cons c r ih =>
    intro n h
    by_cases hc : p c = true
    · rw [List.takeWhile_cons, if_pos hc] at h ⊢
      cases n with
      | zero => simp at h
      | succ n =>
        rw [List.take_succ_cons, List.dropWhile_cons, if_pos hc, List.dropWhile_cons, if_pos hc, ih n (by simpa using h)]
        congr 1
        simp
    · rw [List.takeWhile_cons, if_neg hc, List.dropWhile_cons, if_neg hc]
      cases n with
      | zero => rfl
      | succ n => rw [List.take_succ_cons, List.dropWhile_cons, if_neg hc]; simp
theorem tw_dw (p : UInt8 → Bool) (s : List UInt8) : s.takeWhile p ++ s.dropWhile p = s := List.takeWhile_append_dropWhile
theorem tw_all (p : UInt8 → Bool) (s : List UInt8) : ∀ c ∈ s.takeWhile p, p c = true := by
  induction s with
  | nil => intro c h; simp at h
  | cons a r ih =>
    intro c h
    by_cases ha : p a = true
    · rw [List.takeWhile_cons, if_pos ha] at h
      rcases List.mem_cons.1 h with rfl | h
      · exact ha
      · exact ih c h
    · rw [List.takeWhile_cons, if_neg ha] at h; simp at h
def out (p : UInt8 → Bool) (r : List UInt8) : Prop := ∀ c ∈ r.head?, p c = false
theorem tw_app (p : UInt8 → Bool) (x r : List UInt8) (hx : ∀ c ∈ x, p c = true) (hr : out p r) : (x ++ r).takeWhile p = x := by
  induction x with
  | nil =>
    cases r with
    | nil => rfl
    | cons c r => rw [List.nil_append, List.takeWhile_cons, if_neg (by simp [hr c (by simp)])]
  | cons a x ih => rw [List.cons_append, List.takeWhile_cons, if_pos (hx a (by simp)), ih (fun c h => hx c (by simp [h]))]
theorem dw_app (p : UInt8 → Bool) (x r : List UInt8) (hx : ∀ c ∈ x, p c = true) (hr : out p r) : (x ++ r).dropWhile p = r := by
  induction x with
  | nil =>
    cases r with
    | nil => rfl
    | cons c r => rw [List.nil_append, List.dropWhile_cons, if_neg (by simp [hr c (by simp)])]
  | cons a x ih => rw [List.cons_append, List.dropWhile_cons, if_pos (hx a (by simp)), ih (fun c h => hx c (by simp [h]))]
theorem numL_form (s : List UInt8) :
    (numL s = s.takeWhile isDig ∧ ∀ r, s.dropWhile isDig = 46 :: r → r.takeWhile isDig = []) ∨
    (∃ rest, s.dropWhile isDig = 46 :: rest ∧ rest.takeWhile isDig ≠ [] ∧ numL s = s.takeWhile isDig ++ 46 :: rest.takeWhile isDig) := by
  unfold numL
  split
  · rename_i rest h
    by_cases hr : rest.takeWhile isDig = []
    · left
      refine ⟨by rw [if_pos hr], fun r e => ?_⟩
      injection h.symm.trans e with _ e2
      rw [← e2]; exact hr
    · right
      exact ⟨rest, h, hr, by rw [if_neg hr]⟩
  · rename_i h
    left
    exact ⟨rfl, fun r e => absurd e (h r)⟩
theorem numL_a (s : List UInt8) (h : ∀ r, s.dropWhile isDig = 46 :: r → r.takeWhile isDig = []) : numL s = s.takeWhile isDig := by
  rcases numL_form s with ⟨e, _⟩ | ⟨rest, h1, h2, _⟩
  · exact e
  · exact absurd (h rest h1) h2
theorem numL_b (s rest : List UInt8) (h : s.dropWhile isDig = 46 :: rest) (h2 : rest.takeWhile isDig ≠ []) : numL s = s.takeWhile isDig ++ 46 :: rest.takeWhile isDig := by
  rcases numL_form s with ⟨_, h3⟩ | ⟨r, h1, _, e⟩
  · exact absurd (h3 rest h) h2
  · injection h.symm.trans h1 with _ e2
    rw [e, e2]
theorem numL_take (s : List UInt8) (n : Nat) (h : (numL s).length ≤ n) : numL (s.take n) = numL s := by
  rcases numL_form s with ⟨e, h3⟩ | ⟨rest, h1, h2, e⟩
  · rw [e] at h ⊢
    rw [numL_a, tw_take _ _ _ h]
    intro r hr
    rw [dw_take _ _ _ h] at hr
    cases hd : s.dropWhile isDig with
    | nil => rw [hd] at hr; simp at hr
    | cons a q =>
      rw [hd] at hr
      cases hm : n - (s.takeWhile isDig).length with
      | zero => rw [hm] at hr; simp at hr
      | succ m =>
        rw [hm, List.take_succ_cons] at hr
        injection hr with ha hq
        subst ha
        have := h3 q hd
        rw [← hq, tw_take _ _ _ (by rw [this]; exact Nat.zero_le _), this]
  · rw [e] at h ⊢
    have hl : (s.takeWhile isDig).length + 1 + (rest.takeWhile isDig).length ≤ n := by simp at h; omega
    have hw : (s.takeWhile isDig).length ≤ n := by omega
    have h4 : (s.take n).dropWhile isDig = 46 :: rest.take (n - (s.takeWhile isDig).length - 1) := by
      rw [dw_take _ _ _ hw, h1]
      obtain ⟨m, hm⟩ : ∃ m, n - (s.takeWhile isDig).length = m + 1 := ⟨n - (s.takeWhile isDig).length - 1, by omega⟩
      rw [hm, List.take_succ_cons]; simp
    have h5 : (rest.take (n - (s.takeWhile isDig).length - 1)).takeWhile isDig = rest.takeWhile isDig := tw_take _ _ _ (by omega)
    rw [numL_b _ _ h4 (by rw [h5]; exact h2), h5, tw_take _ _ _ hw]
theorem numL_app (x r : List UInt8) (hx : numL x = x) (hr : out isDig r) (hp : r.head? ≠ some 46) : numL (x ++ r) = x := by
  rcases numL_form x with ⟨e, _⟩ | ⟨rest, h1, h2, e⟩
  · rw [hx] at e
    have ha : ∀ c ∈ x, isDig c = true := by rw [e]; exact tw_all _ _
    rw [numL_a, tw_app _ _ _ ha hr]
    intro q hq
    rw [dw_app _ _ _ ha hr] at hq
    rw [hq] at hp; simp at hp
  · rw [hx] at e
    have hrest : rest = rest.takeWhile isDig := by
      have := tw_dw isDig x
      rw [h1] at this
      have h5 := this.trans e
      have h6 := List.append_cancel_left h5
      injection h6
    have ha := tw_all isDig x
    have hb : ∀ c ∈ rest, isDig c = true := by rw [hrest]; exact tw_all _ _
    have hw : x = x.takeWhile isDig ++ 46 :: rest := by rw [← h1, tw_dw]
    generalize x.takeWhile isDig = wh at *
    have ho : out isDig (46 :: (rest ++ r)) := by intro c hc; simp at hc; subst hc; rfl
    have hs : x ++ r = wh ++ 46 :: (rest ++ r) := by rw [hw]; simp
    have hd : (x ++ r).dropWhile isDig = 46 :: (rest ++ r) := by rw [hs]; exact dw_app _ _ _ ha ho
    have ht : (x ++ r).takeWhile isDig = wh := by rw [hs]; exact tw_app _ _ _ ha ho
    have hu : (rest ++ r).takeWhile isDig = rest := tw_app _ _ _ hb hr
    rw [numL_b _ _ hd (by rw [hu, hrest]; exact h2), ht, hu, hw]
theorem numL_pre (s : List UInt8) : numL s <+: s := by
  rcases numL_form s with ⟨e, _⟩ | ⟨rest, h1, _, e⟩
  · rw [e]; exact List.takeWhile_prefix _
  · rw [e]
    refine ⟨rest.dropWhile isDig, ?_⟩
    rw [List.append_assoc, List.cons_append, tw_dw, ← h1, tw_dw]
theorem strL_form (s : List UInt8) : (strL s = [] ∧ ∀ r, s.dropWhile textB ≠ 34 :: r) ∨ (∃ r, s.dropWhile textB = 34 :: r ∧ strL s = 34 :: s.takeWhile textB ++ [34]) := by
  unfold strL
  split
  · rename_i r h
    exact .inr ⟨r, h, rfl⟩
  · rename_i h
    exact .inl ⟨rfl, h⟩
theorem strL_b (s r : List UInt8) (h : s.dropWhile textB = 34 :: r) : strL s = 34 :: s.takeWhile textB ++ [34] := by
  rcases strL_form s with ⟨_, h2⟩ | ⟨_, _, e⟩
  · exact absurd h (h2 r)
  · exact e
theorem strL_take (s : List UInt8) (n : Nat) (h0 : strL s ≠ []) (h : (strL s).length ≤ n + 1) : strL (s.take n) = strL s := by
  rcases strL_form s with ⟨e, _⟩ | ⟨r, h1, e⟩
  · exact absurd e h0
  · rw [e] at h ⊢
    have hl : (s.takeWhile textB).length + 1 ≤ n := by simp at h; omega
    have hd : (s.take n).dropWhile textB = 34 :: r.take (n - (s.takeWhile textB).length - 1) := by
      rw [dw_take _ _ _ (by omega), h1]
      obtain ⟨m, hm⟩ : ∃ m, n - (s.takeWhile textB).length = m + 1 := ⟨n - (s.takeWhile textB).length - 1, by omega⟩
      rw [hm, List.take_succ_cons]; simp
    rw [strL_b _ _ hd, tw_take _ _ _ (by omega)]
theorem strL_app (y r : List UInt8) (h0 : strL y = 34 :: y) : strL (y ++ r) = 34 :: y := by
  rcases strL_form y with ⟨e, _⟩ | ⟨q, h1, e⟩
  · rw [e] at h0; simp at h0
  · rw [e] at h0
    have hy : y = y.takeWhile textB ++ [34] := by simpa using h0.symm
    have ha := tw_all textB y
    generalize y.takeWhile textB = t at *
    have ho : out textB (34 :: r) := by intro c hc; simp at hc; subst hc; rfl
    have hs : y ++ r = t ++ 34 :: r := by rw [hy]; simp
    rw [strL_b (y ++ r) r (by rw [hs]; exact dw_app _ _ _ ha ho), show (y ++ r).takeWhile textB = t by rw [hs]; exact tw_app _ _ _ ha ho, hy]
    simp
theorem strL_pre (c : UInt8) (s : List UInt8) (hc : c = 34) : strL s <+: c :: s := by
  rcases strL_form s with ⟨e, _⟩ | ⟨r, h1, e⟩
  · rw [e]; exact List.nil_prefix
  · rw [e, hc]
    refine ⟨r, ?_⟩
    rw [List.cons_append, List.cons_append]
    congr 1
    rw [List.append_assoc, List.singleton_append, ← h1, tw_dw]
theorem find_imp {p q : List UInt8 → Bool} {l : List (List UInt8)} {x : List UInt8} (h : l.find? p = some x) (hq : q x = true) (hi : ∀ g, q g = true → p g = true) : l.find? q = some x := by
  induction l with
  | nil => simp at h
  | cons a l ih =>
    by_cases ha : p a = true
    · rw [List.find?_cons, ha] at h
      injection h with h; subst h
      rw [List.find?_cons, hq]
    · rw [List.find?_cons] at h
      have hpa : p a = false := by simpa using ha
      rw [hpa] at h
      have hqa : q a = false := by
        cases hh : q a with
        | false => rfl
        | true => exact absurd (hi a hh) ha
      rw [List.find?_cons, hqa]
      exact ih h
theorem signL_some {s : List UInt8} (h : signL s ≠ []) : signs.find? (fun g => g.isPrefixOf s) = some (signL s) := by
  unfold signL at h ⊢
  cases hf : signs.find? (fun g => g.isPrefixOf s) with
  | none => rw [hf] at h; exact absurd rfl h
  | some x => rfl
theorem signL_pre (s : List UInt8) : signL s <+: s := by
  by_cases h : signL s = []
  · rw [h]; exact List.nil_prefix
  · have := List.find?_some (signL_some h)
    simpa using this
theorem signL_take (s : List UInt8) (n : Nat) (h0 : signL s ≠ []) (h : (signL s).length ≤ n) : signL (s.take n) = signL s := by
  have h1 := signL_some h0
  have h2 := find_imp (q := fun g => g.isPrefixOf (s.take n)) h1 (by
    simp only [List.isPrefixOf_iff_prefix]
    exact List.prefix_take_iff.2 ⟨signL_pre s, h⟩) (by
    intro g hg
    simp only [List.isPrefixOf_iff_prefix] at hg ⊢
    exact hg.trans (List.take_prefix _ _))
  show ((signs.find? (fun g => g.isPrefixOf (s.take n)))).getD [] = _
  rw [h2]; rfl
theorem signL_mem {s : List UInt8} (h : signL s ≠ []) : signL s ∈ signs := List.mem_of_find?_eq_some (signL_some h)
theorem signL_app (x r : List UInt8) (hx : x ∈ signs) (hr : r.head? ≠ some 61) : signL (x ++ r) = x := by
  have key : ∀ x ∈ signs, ∀ c : UInt8, c ≠ 61 → ∀ q, signL (x ++ c :: q) = x := by
    intro x hx c hc q
    have hc' : (61 == c) = false := by simpa using Ne.symm hc
    simp only [signs, List.mem_cons, List.not_mem_nil, or_false] at hx
    rcases hx with rfl | rfl | rfl | rfl | rfl | rfl | rfl | rfl | rfl | rfl | rfl | rfl | rfl | rfl | rfl | rfl | rfl | rfl | rfl
    all_goals simp [signL, signs, List.isPrefixOf, hc']
  cases r with
  | nil =>
    have : ∀ x ∈ signs, signL x = x := by decide +kernel
    rw [List.append_nil]; exact this x hx
  | cons c q => exact key x hx c (by simpa using hr) q
theorem firstL_pre (s : List UInt8) : (firstL s).2 <+: s := by
  unfold firstL
  split
  · exact List.nil_prefix
  · split
    · exact List.takeWhile_prefix _
    · split
      · exact numL_pre _
      · split
        · rename_i h; exact strL_pre _ _ h
        · exact signL_pre _
theorem firstL_take (s : List UInt8) (n : Nat) (h0 : (firstL s).2 ≠ []) (h : (firstL s).2.length ≤ n) : firstL (s.take n) = firstL s := by
  cases s with
  | nil => exact absurd rfl h0
  | cons c r =>
    have hn : 0 < n := by
      have := List.length_pos_iff.2 h0
      omega
    obtain ⟨m, rfl⟩ : ∃ m, n = m + 1 := ⟨n - 1, by omega⟩
    rw [List.take_succ_cons]
    unfold firstL at h0 h ⊢
    by_cases h1 : letterB c = true
    · simp only [h1, if_true] at h0 h ⊢
      have := tw_take nameB (c :: r) (m + 1) h
      rw [List.take_succ_cons] at this
      rw [this]
    · simp only [h1] at h0 h ⊢
      by_cases h2 : isDig c = true
      · simp only [h2, if_true] at h0 h ⊢
        simp at h0 h ⊢
        have := numL_take (c :: r) (m + 1) h
        rw [List.take_succ_cons] at this
        exact this
      · simp only [h2] at h0 h ⊢
        by_cases h3 : c = 34
        · simp only [h3, if_true] at h0 h ⊢
          simp at h0 h ⊢
          exact strL_take r m h0 h
        · simp only [h3, if_false] at h0 h ⊢
          simp at h0 h ⊢
          have := signL_take (c :: r) (m + 1) h0 h
          rw [List.take_succ_cons] at this
          exact this
theorem firstL_self (s : List UInt8) (h0 : (firstL s).2 ≠ []) : firstL (firstL s).2 = firstL s := by
  obtain ⟨t, ht⟩ := firstL_pre s
  have h1 := firstL_take s (firstL s).2.length h0 (Nat.le_refl _)
  have h2 : s.take (firstL s).2.length = (firstL s).2 := by
    generalize (firstL s).2 = x at ht
    rw [← ht]; simp
  rw [h2] at h1
  exact h1
def bnd (k : Nat) (r : List UInt8) : Prop := (k = 0 → out nameB r) ∧ (k = 1 → out isDig r ∧ r.head? ≠ some 46) ∧ (k = 3 → r.head? ≠ some 61)
theorem firstL_app (k : Nat) (x r : List UInt8) (hx : firstL x = (k, x)) (h0 : x ≠ []) (hb : bnd k r) : firstL (x ++ r) = (k, x) := by
  cases x with
  | nil => exact absurd rfl h0
  | cons c q =>
    rw [List.cons_append]
    unfold firstL at hx ⊢
    by_cases h1 : letterB c = true
    · simp only [h1, if_true] at hx ⊢
      injection hx with hk hx
      have ha : ∀ d ∈ c :: q, nameB d = true := by rw [← hx]; exact tw_all _ _
      rw [← List.cons_append, tw_app _ _ _ ha (hb.1 hk.symm), ← hk]
    · simp only [h1] at hx ⊢
      by_cases h2 : isDig c = true
      · simp only [h2, if_true] at hx ⊢
        simp at hx ⊢
        obtain ⟨hk, hx⟩ := hx
        obtain ⟨b1, b2⟩ := hb.2.1 hk.symm
        rw [← List.cons_append, numL_app _ _ hx b1 b2]
        exact ⟨hk, rfl⟩
      · simp only [h2] at hx ⊢
        by_cases h3 : c = 34
        · simp only [h3, if_true] at hx ⊢
          simp at hx ⊢
          exact ⟨hx.1, strL_app q r hx.2⟩
        · simp only [h3, if_false] at hx ⊢
          simp at hx ⊢
          obtain ⟨hk, hx⟩ := hx
          refine ⟨hk, ?_⟩
          have hm : (c :: q) ∈ signs := by rw [← hx]; exact signL_mem (by rw [hx]; simp)
          have := signL_app (c :: q) r hm (hb.2.2 hk.symm)
          exact this
theorem skipL_len (f : Nat) (s : List UInt8) : (skipL f s).length ≤ s.length := by
  induction f generalizing s with
  | zero => exact Nat.le_refl _
  | succ f ih =>
    unfold skipL
    split
    · rename_i r h
      have h1 := ih ((35 :: r).dropWhile (· != 10))
      have h2 := (List.dropWhile_sublist (· != (10 : UInt8)) (l := 35 :: r)).length_le
      have h3 := (List.dropWhile_sublist (cs4.contains ·) (l := s)).length_le
      rw [h] at h3
      omega
    · exact (List.dropWhile_sublist _).length_le
theorem cmt_len (r : List UInt8) : ((35 :: r).dropWhile (fun x : UInt8 => x != 10)).length ≤ r.length := by
  rw [List.dropWhile_cons, if_pos (by decide)]
  exact (List.dropWhile_sublist _).length_le
theorem skipL_fuel (s : List UInt8) : ∀ f g, s.length < f → s.length < g → skipL f s = skipL g s := by
  generalize hn : s.length = n
  induction n using Nat.strongRecOn generalizing s with
  | ind n ih =>
    intro f g hf hg
    obtain ⟨f, rfl⟩ : ∃ m, f = m + 1 := ⟨f - 1, by omega⟩
    obtain ⟨g, rfl⟩ : ∃ m, g = m + 1 := ⟨g - 1, by omega⟩
    unfold skipL
    split
    · rename_i r h
      have h1 := cmt_len r
      have h3 := (List.dropWhile_sublist (cs4.contains ·) (l := s)).length_le
      rw [h] at h3
      simp at h3
      exact ih _ (by omega) _ rfl f g (by omega) (by omega)
    · rfl
theorem skipL_take (f : Nat) (s : List UInt8) : ∀ n, s.length - (skipL f s).length ≤ n → n ≤ s.length → skipL f (s.take n) = (skipL f s).take (n - (s.length - (skipL f s).length)) := by
  induction f generalizing s with
  | zero =>
    intro n _ _
    show s.take n = s.take (n - (s.length - s.length))
    rw [Nat.sub_self, Nat.sub_zero]
  | succ f ih =>
    intro n h hn
    have htw : (s.takeWhile (cs4.contains ·)).length + (s.dropWhile (cs4.contains ·)).length = s.length := by
      rw [← List.length_append, tw_dw]
    cases hd : s.dropWhile (cs4.contains ·) with
    | nil =>
      have hs : skipL (f + 1) s = [] := by unfold skipL; rw [hd]
      rw [hs] at h ⊢
      simp at h
      have : n = s.length := by omega
      subst this
      rw [List.take_length, hs, List.take_nil]
    | cons a r =>
      rw [hd, List.length_cons] at htw
      by_cases ha : a = 35
      · subst ha
        have hs : skipL (f + 1) s = skipL f ((35 :: r).dropWhile (· != 10)) := by
          conv => lhs; unfold skipL
          rw [hd]
          rfl
        have h1 := cmt_len r
        have h2 := skipL_len f ((35 :: r).dropWhile (· != 10))
        have hl : ((35 :: r).takeWhile (fun x : UInt8 => x != 10)).length + ((35 :: r).dropWhile (fun x : UInt8 => x != 10)).length = r.length + 1 := by
          rw [← List.length_append, tw_dw]; simp
        rw [hs] at h ⊢
        have hk : (s.takeWhile (cs4.contains ·)).length + 1 ≤ n := by omega
        obtain ⟨m, hm⟩ : ∃ m, n = (s.takeWhile (cs4.contains ·)).length + (m + 1) := ⟨n - (s.takeWhile (cs4.contains ·)).length - 1, by omega⟩
        have hd2 : (s.take n).dropWhile (cs4.contains ·) = 35 :: r.take m := by
          rw [dw_take _ _ _ (by omega), hd, hm, Nat.add_sub_cancel_left, List.take_succ_cons]
        have hs2 : skipL (f + 1) (s.take n) = skipL f ((35 :: r.take m).dropWhile (· != 10)) := by
          conv => lhs; unfold skipL
          rw [hd2]
          rfl
        rw [hs2, show (35 : UInt8) :: r.take m = (35 :: r).take (m + 1) from rfl]
        have e1 := dw_take (fun x : UInt8 => x != 10) (35 :: r) (m + 1) (by omega)
        rw [e1, ih _ _ (by omega) (by omega)]
        congr 1
        omega
      · have hs : skipL (f + 1) s = a :: r := by
          unfold skipL; rw [hd]
          split
          · rename_i e; injection e with e _; exact absurd e ha
          · rfl
        rw [hs] at h ⊢
        simp at h
        have hd2 : (s.take n).dropWhile (cs4.contains ·) = (a :: r).take (n - (s.takeWhile (cs4.contains ·)).length) := by
          rw [dw_take _ _ _ (by omega), hd]
        have hs2 : skipL (f + 1) (s.take n) = (a :: r).take (n - (s.takeWhile (cs4.contains ·)).length) := by
          unfold skipL; rw [hd2]
          split
          · rename_i e
            cases hm : n - (s.takeWhile (cs4.contains ·)).length with
            | zero => rw [hm] at e; simp at e
            | succ m => rw [hm, List.take_succ_cons] at e; injection e with e _; exact absurd e ha
          · rfl
        rw [hs2]
        congr 1
        rw [List.length_cons]
        omega
theorem spaceL_ws (ws r : List UInt8) (hw : ∀ c ∈ ws, cs4.contains c = true) (hr : out (cs4.contains ·) r) (h35 : r.head? ≠ some 35) : spaceL (ws ++ r) = ws.length := by
  have : skipL ((ws ++ r).length + 1) (ws ++ r) = r := by
    unfold skipL
    rw [dw_app _ _ _ hw hr]
    split
    · rename_i e; exact absurd rfl h35
    · rfl
  unfold spaceL
  rw [this]; simp
theorem spaceL_le (s : List UInt8) : spaceL s ≤ s.length := Nat.sub_le _ _
theorem spaceL_take (s : List UInt8) (n : Nat) (h : spaceL s ≤ n) (hn : n ≤ s.length) : spaceL (s.take n) = spaceL s := by
  have h1 : skipL ((s.take n).length + 1) (s.take n) = skipL (s.length + 1) (s.take n) := skipL_fuel _ _ _ (by omega) (by rw [List.length_take]; omega)
  unfold spaceL at h ⊢
  rw [h1, skipL_take _ _ _ h hn]
  simp only [List.length_take]
  have := skipL_len (s.length + 1) s
  omega
end Go.Proofs.YtahjkibjcibpgaaGreatDoor.L
end
section
namespace Go.Proofs.YtahjkibjcibpgaaGreatDoor.L
open Go.Proofs.YtahjkibjcibpgaaGreatDoor.U
def rawT (t : Tok) : List UInt8 := if t.kind = 2 then 34 :: (t.text ++ [34]) else t.text
def Ch (s : List UInt8) : Nat → List Tok → Prop
  | at_, [] => s.length ≤ at_
  | at_, t :: ts => at_ < s.length ∧ okTok (firstL (s.drop at_)) = true ∧ t = tokOf (firstL (s.drop at_)) at_ ∧ Ch s (at_ + (firstL (s.drop at_)).2.length + spaceL (s.drop (at_ + (firstL (s.drop at_)).2.length))) ts
theorem okTok_ne {x : Nat × List UInt8} (h : okTok x = true) : x.2 ≠ [] := by
  intro e
  unfold okTok at h
  rw [e] at h; simp at h
theorem ysL_of_ch (s : List UInt8) (ts : List Tok) : ∀ at_ f, Ch s at_ ts → s.length - at_ < f → ysL s f at_ = ts.map (fun t => (t, true)) := by
  induction ts with
  | nil =>
    intro at_ f h hf
    obtain ⟨f, rfl⟩ : ∃ m, f = m + 1 := ⟨f - 1, by omega⟩
    unfold ysL
    rw [if_pos (show s.length ≤ at_ from h)]; rfl
  | cons t ts ih =>
    intro at_ f h hf
    obtain ⟨f, rfl⟩ : ∃ m, f = m + 1 := ⟨f - 1, by omega⟩
    obtain ⟨h1, h2, h3, h4⟩ := h
    have := List.length_pos_iff.2 (okTok_ne h2)
    unfold ysL
    rw [if_neg (by omega), if_pos h2, ih _ f h4 (by omega), ← h3]
    rfl
theorem ch_of_ysL (s : List UInt8) : ∀ f at_, s.length - at_ < f → (∃ ts, Ch s at_ ts ∧ ysL s f at_ = ts.map (fun t => (t, true))) ∨ (∃ y ∈ ysL s f at_, y.2 = false) := by
  intro f
  induction f with
  | zero => intro at_ h; omega
  | succ f ih =>
    intro at_ h
    unfold ysL
    by_cases h1 : s.length ≤ at_
    · rw [if_pos h1]
      exact .inl ⟨[], h1, rfl⟩
    · rw [if_neg h1]
      by_cases h2 : okTok (firstL (s.drop at_)) = true
      · rw [if_pos h2]
        have := List.length_pos_iff.2 (okTok_ne h2)
        rcases ih (at_ + (firstL (s.drop at_)).2.length + spaceL (s.drop (at_ + (firstL (s.drop at_)).2.length))) (by omega) with ⟨ts, c, e⟩ | ⟨y, hy, e⟩
        · exact .inl ⟨tokOf (firstL (s.drop at_)) at_ :: ts, ⟨by omega, h2, rfl, c⟩, by rw [e]; rfl⟩
        · exact .inr ⟨y, List.mem_cons_of_mem _ hy, e⟩
      · rw [if_neg h2]
        exact .inr ⟨_, List.mem_cons_self .., rfl⟩
theorem visits_ch {s : List UInt8} {ts : List Tok} (h : Ch s (spaceL s) ts) : visits s = ts.map (fun t => (t, true)) := by
  unfold visits
  exact ysL_of_ch s ts _ _ h (by omega)
theorem scanL_ch {s : List UInt8} {ts : List Tok} (h : Ch s (spaceL s) ts) (hl : s.length ≤ 65536) : scanL s = (ts ++ [⟨4, [], s.length⟩], 0, 0) := by
  unfold scanL
  rw [if_neg (by omega), visits_ch h]
  have : (ts.map (fun t => (t, true))).find? (fun y => !y.2) = none := by
    rw [List.find?_eq_none]
    intro y hy
    obtain ⟨t, _, rfl⟩ := List.mem_map.1 hy
    simp
  rw [this]
  have e : (ts.map (fun t => (t, true))).map (·.1) = ts := by rw [List.map_map]; exact List.map_id _
  simp only [e]
theorem ch_of_scanL {s : List UInt8} (h : (scanL s).2.1 = 0) : ∃ ts, Ch s (spaceL s) ts ∧ s.length ≤ 65536 ∧ scanL s = (ts ++ [⟨4, [], s.length⟩], 0, 0) := by
  have hl : s.length ≤ 65536 := by
    unfold scanL at h
    by_cases hl : 65536 < s.length
    · rw [if_pos hl] at h; simp at h
    · omega
  rcases ch_of_ysL s (s.length + 1) (spaceL s) (by omega) with ⟨ts, c, _⟩ | ⟨y, hy, e⟩
  · exact ⟨ts, c, hl, scanL_ch c hl⟩
  · exfalso
    unfold scanL at h
    rw [if_neg (by omega)] at h
    cases hf : (visits s).find? (fun y => !y.2) with
    | none =>
      rw [List.find?_eq_none] at hf
      have := hf y hy
      rw [e] at this; simp at this
    | some z => rw [hf] at h; simp at h
theorem scanL_err (s : List UInt8) : ((scanL s).2.1 = 0 ∧ (scanL s).2.2 = 0) ∨ ((scanL s).1 = [] ∧ ((scanL s).2.1 = 2 ∨ (scanL s).2.1 = 8)) := by
  unfold scanL
  by_cases hl : 65536 < s.length
  · rw [if_pos hl]; exact .inr ⟨rfl, .inr rfl⟩
  · rw [if_neg hl]
    cases (visits s).find? (fun y => !y.2) with
    | none => exact .inl ⟨rfl, rfl⟩
    | some y => exact .inr ⟨rfl, .inl rfl⟩
theorem tok_form {s : List UInt8} (h : okTok (firstL s) = true) (at_ : Nat) : (tokOf (firstL s) at_).kind = (firstL s).1 ∧ rawT (tokOf (firstL s) at_) = (firstL s).2 := by
  refine ⟨rfl, ?_⟩
  have h0 := okTok_ne h
  unfold rawT tokOf
  by_cases hk : (firstL s).1 = 2
  · rw [if_pos (by exact hk), if_pos ⟨hk, h0⟩]
    have hs : ∃ r, (firstL s).2 = strL r := by
      unfold firstL at hk ⊢
      split at hk
      · simp at hk
      · rename_i c r
        refine ⟨r, ?_⟩
        split at hk
        · simp at hk
        · split at hk
          · simp at hk
          · split at hk
            · rename_i a b c'
              simp only [a, b, if_pos c']; simp
            · simp at hk
    obtain ⟨r, hr⟩ := hs
    rcases strL_form r with ⟨e, _⟩ | ⟨q, _, e⟩
    · rw [hr, e] at h0; exact absurd rfl h0
    · rw [hr, e]
      simp
  · rw [if_neg (by exact hk), if_neg (fun h => hk h.1)]
def good (t : Tok) : Prop := okTok (t.kind, rawT t) = true ∧ firstL (rawT t) = (t.kind, rawT t)
theorem good_of {s : List UInt8} (h : okTok (firstL s) = true) (at_ : Nat) : good (tokOf (firstL s) at_) := by
  obtain ⟨h1, h2⟩ := tok_form h at_
  refine ⟨by rw [h1, h2]; exact h, ?_⟩
  rw [h1, h2]
  exact firstL_self s (okTok_ne h)
theorem Ch.good {s : List UInt8} {ts : List Tok} : ∀ {at_ : Nat}, Ch s at_ ts → ∀ t ∈ ts, good t := by
  induction ts with
  | nil => intro _ _ t h; simp at h
  | cons a ts ih =>
    intro at_ h t ht
    obtain ⟨_, h2, h3, h4⟩ := h
    rcases List.mem_cons.1 ht with rfl | ht
    · rw [h3]; exact good_of h2 _
    · exact ih h4 t ht
theorem Ch.at_ge {s : List UInt8} {ts : List Tok} : ∀ {at_ : Nat}, Ch s at_ ts → ∀ t ∈ ts, at_ ≤ t.at_ := by
  induction ts with
  | nil => intro _ _ t h; simp at h
  | cons a ts ih =>
    intro at_ h t ht
    obtain ⟨_, h2, h3, h4⟩ := h
    rcases List.mem_cons.1 ht with rfl | ht
    · rw [h3]; exact Nat.le_refl _
    · have := ih h4 t ht; omega
theorem Ch.asc {s : List UInt8} {ts : List Tok} : ∀ {at_ : Nat}, Ch s at_ ts → ts.Pairwise (fun t u => t.at_ + (rawT t).length ≤ u.at_) := by
  induction ts with
  | nil => intro _ _; exact List.Pairwise.nil
  | cons a ts ih =>
    intro at_ h
    obtain ⟨_, h2, h3, h4⟩ := h
    refine List.Pairwise.cons ?_ (ih h4)
    intro u hu
    have := Ch.at_ge h4 u hu
    rw [h3, (tok_form h2 at_).2]
    show at_ + _ ≤ _
    omega
theorem Ch.text {s : List UInt8} {ts : List Tok} : ∀ {at_ : Nat}, Ch s at_ ts → ∀ t ∈ ts, rawT t <+: s.drop t.at_ ∧ t.at_ < s.length := by
  induction ts with
  | nil => intro _ _ t h; simp at h
  | cons a ts ih =>
    intro at_ h t ht
    obtain ⟨h1, h2, h3, h4⟩ := h
    rcases List.mem_cons.1 ht with rfl | ht
    · rw [h3, (tok_form h2 at_).2]
      exact ⟨firstL_pre _, h1⟩
    · exact ih h4 t ht
theorem Ch.next {s : List UInt8} {at_ : Nat} {t : Tok} {ts : List Tok} (h : Ch s at_ (t :: ts)) : at_ + (firstL (s.drop at_)).2.length ≤ s.length := by
  have := (firstL_pre (s.drop at_)).length_le
  rw [List.length_drop] at this
  have := h.1
  omega
theorem Ch.cut {s : List UInt8} (ts : List Tok) (t : Tok) (us : List Tok) : ∀ {at_ : Nat}, Ch s at_ (ts ++ t :: us) → Ch (s.take t.at_) at_ ts := by
  induction ts with
  | nil =>
    intro at_ h
    obtain ⟨h1, h2, h3, h4⟩ := h
    have : t.at_ = at_ := by rw [h3]; rfl
    show (s.take t.at_).length ≤ at_
    rw [List.length_take]; omega
  | cons a ts ih =>
    intro at_ h
    have hge := Ch.at_ge h t (by simp)
    have htx := (Ch.text h t (by simp)).2
    have hnx := Ch.next h
    obtain ⟨h1, h2, h3, h4⟩ := h
    have h5 := Ch.at_ge h4 t (by simp)
    have hp := List.length_pos_iff.2 (okTok_ne h2)
    have e1 : firstL ((s.take t.at_).drop at_) = firstL (s.drop at_) := by
      rw [List.drop_take]
      exact firstL_take _ _ (okTok_ne h2) (by omega)
    have e2 : spaceL ((s.take t.at_).drop (at_ + (firstL (s.drop at_)).2.length)) = spaceL (s.drop (at_ + (firstL (s.drop at_)).2.length)) := by
      rw [List.drop_take]
      exact spaceL_take _ _ (by omega) (by rw [List.length_drop]; omega)
    refine ⟨by rw [List.length_take]; omega, by rw [e1]; exact h2, by rw [e1]; exact h3, ?_⟩
    rw [e1, e2]
    exact ih h4
def cat : List (Nat × List UInt8 × List UInt8) → List UInt8
  | [] => []
  | (_, x, w) :: r => x ++ (w ++ cat r)
def toks : List (Nat × List UInt8 × List UInt8) → Nat → List Tok
  | [], _ => []
  | (k, x, w) :: r, at_ => tokOf (k, x) at_ :: toks r (at_ + x.length + w.length)
def okP : List (Nat × List UInt8 × List UInt8) → Prop
  | [] => True
  | (k, x, w) :: r => okTok (k, x) = true ∧ firstL x = (k, x) ∧ (∀ c ∈ w, cs4.contains c = true) ∧ bnd k (w ++ cat r) ∧ okP r
theorem tok_head {k : Nat} {c : UInt8} {x : List UInt8} (h : firstL (c :: x) = (k, c :: x)) : cs4.contains c = false ∧ c ≠ 35 := by
  have hb : ∀ n : Fin 256, cs4.contains (UInt8.ofNat n.val) = true ∨ (UInt8.ofNat n.val) = 35 → letterB (UInt8.ofNat n.val) = false ∧ isDig (UInt8.ofNat n.val) = false ∧ (UInt8.ofNat n.val) ≠ 34 ∧ signs.all (fun g => g.head? != some (UInt8.ofNat n.val)) = true := by decide +kernel
  have hb := hb ⟨c.toNat, c.toNat_lt⟩
  simp only [show UInt8.ofNat c.toNat = c by simp] at hb
  by_cases hc : cs4.contains c = true ∨ c = 35
  · exfalso
    obtain ⟨h1, h2, h3, h4⟩ := hb hc
    unfold firstL at h
    simp only [h1, h2, h3, if_false] at h
    simp at h
    have h5 : signL (c :: x) ≠ [] := by rw [h.2]; simp
    have h6 := signL_mem h5
    rw [h.2] at h6
    have := List.all_eq_true.1 h4 _ h6
    simp at this
  · constructor
    · cases h : cs4.contains c with
      | false => rfl
      | true => exact absurd (.inl h) hc
    · intro e; exact hc (.inr e)
theorem cat_head {l : List (Nat × List UInt8 × List UInt8)} (h : okP l) : out (cs4.contains ·) (cat l) ∧ (cat l).head? ≠ some 35 := by
  cases l with
  | nil => exact ⟨by intro c hc; simp [cat] at hc, by simp [cat]⟩
  | cons a r =>
    obtain ⟨k, x, w⟩ := a
    obtain ⟨h1, h2, _⟩ := h
    cases x with
    | nil => exact absurd rfl (okTok_ne h1)
    | cons c x =>
      obtain ⟨h3, h4⟩ := tok_head h2
      refine ⟨?_, ?_⟩
      · intro d hd; simp [cat] at hd; subst hd; exact h3
      · simp [cat]; exact h4
theorem spaceL_cat (w : List UInt8) (l : List (Nat × List UInt8 × List UInt8)) (hw : ∀ c ∈ w, cs4.contains c = true) (h : okP l) : spaceL (w ++ cat l) = w.length :=
  spaceL_ws w (cat l) hw (cat_head h).1 (cat_head h).2
theorem ch_cat (s : List UInt8) (l : List (Nat × List UInt8 × List UInt8)) : ∀ at_, okP l → s.drop at_ = cat l → at_ ≤ s.length → Ch s at_ (toks l at_) := by
  induction l with
  | nil =>
    intro at_ _ h ha
    have := congrArg List.length h
    rw [List.length_drop] at this
    simp [cat] at this
    show s.length ≤ at_
    omega
  | cons a r ih =>
    obtain ⟨k, x, w⟩ := a
    intro at_ ⟨h1, h2, h3, h4, h5⟩ h ha
    have h0 : x ≠ [] := okTok_ne h1
    have hp := List.length_pos_iff.2 h0
    have hf : firstL (s.drop at_) = (k, x) := by rw [h]; exact firstL_app k x _ h2 h0 h4
    have hl := congrArg List.length h
    rw [List.length_drop] at hl
    simp [cat] at hl
    have hd : s.drop (at_ + x.length) = w ++ cat r := by
      rw [← List.drop_drop, h]
      show (x ++ (w ++ cat r)).drop x.length = _
      simp
    have hd2 : s.drop (at_ + x.length + w.length) = cat r := by
      rw [← List.drop_drop, hd]; simp
    refine ⟨by omega, by rw [hf]; exact h1, by rw [hf], ?_⟩
    rw [hf]
    show Ch s (at_ + x.length + spaceL (s.drop (at_ + x.length))) _
    rw [hd, spaceL_cat w r h3 h5]
    exact ih _ h5 hd2 (by omega)
theorem scanL_cat (l : List (Nat × List UInt8 × List UInt8)) (h : okP l) (hl : (cat l).length ≤ 65536) : scanL (cat l) = (toks l 0 ++ [⟨4, [], (cat l).length⟩], 0, 0) := by
  have hs : spaceL (cat l) = 0 := spaceL_cat [] l (by simp) h
  refine scanL_ch ?_ hl
  rw [hs]
  exact ch_cat (cat l) l 0 h rfl (Nat.zero_le _)
end Go.Proofs.YtahjkibjcibpgaaGreatDoor.L
end
section
namespace Go.Proofs.YtahjkibjcibpgaaGreatDoor.L
open Go.Proofs.YtahjkibjcibpgaaGreatDoor.U
def toS (t : Tok) : PTr.S41 := ⟨(t.kind : Nat), ⟨t.text.toArray⟩, (t.at_ : Nat)⟩
def tokAt (T : List PTr.S41) (i : Nat) : PTr.S41 := PTr.rd_T41 T (i : Int)
def isP (T : List PTr.S41) (i : Nat) (s : ByteArray) : Bool := decide ((tokAt T i).f0 = 3) && ((tokAt T i).f1.toList == s.toList)
def leafN (kd : Int) (x : PTr.S41) : PTr.S26 := ⟨kd, x.f1, ⟨0, 0⟩, x.f2, []⟩
def knownP (s : ByteArray) : Bool := (amt [48] s.data.toList).2.2 != 6
abbrev PR (α : Type) := Except (Int × Int) (α × Nat)
def unitP (T : List PTr.S41) (i : Nat) : ByteArray × Nat := if (tokAt T i).f0 == 0 && knownP (tokAt T i).f1 then ((tokAt T i).f1, i + 1) else (⟨#[]⟩, i)
def amountP (T : List PTr.S41) (i : Nat) : PR PTr.S26 :=
  if (tokAt T i).f0 == 1 then
    match amt (tokAt T i).f1.data.toList (unitP T (i + 1)).1.data.toList with
    | (n, d, e) => if e = 0 then .ok (⟨5, ⟨#[]⟩, ⟨n, d⟩, (tokAt T i).f2, []⟩, (unitP T (i + 1)).2) else .error (7, (tokAt T i).f2)
  else .error (2, (tokAt T i).f2)
mutual
def valueP : Nat → List PTr.S41 → Nat → Nat → Option (PR PTr.S26)
  | 0, _, _, _ => none
  | f + 1, T, i, d =>
    if isP T i ⟨#[40]⟩ then
      if d = 40 then some (.error (8, (tokAt T i).f2))
      else match groupP f T i (d + 1) ⟨#[40]⟩ [] with
        | none => none
        | some (.error e) => some (.error e)
        | some (.ok (ks, j)) => if isP T j ⟨#[41]⟩ then some (.ok (⟨6, ⟨#[]⟩, ⟨0, 0⟩, (tokAt T i).f2, ks⟩, j + 1)) else some (.error (2, (tokAt T j).f2))
    else if (tokAt T i).f0 == 0 then some (.ok (leafN 3 (tokAt T i), i + 1))
    else if (tokAt T i).f0 == 2 then some (.ok (leafN 4 (tokAt T i), i + 1))
    else some (amountP T i)
def groupP : Nat → List PTr.S41 → Nat → Nat → ByteArray → List PTr.S26 → Option (PR (List PTr.S26))
  | 0, _, _, _, _, _ => none
  | f + 1, T, i, d, sep, ks =>
    if isP T i sep then
      match valueP f T (i + 1) d with
      | none => none
      | some (.error e) => some (.error e)
      | some (.ok (v, j)) => if isP T j ⟨#[41]⟩ then some (.ok (ks ++ [v], j)) else groupP f T j d ⟨#[44]⟩ (ks ++ [v])
    else some (.error (2, (tokAt T i).f2))
end
def propL : Nat → List PTr.S41 → Nat → List PTr.S26 → Option (PR (List PTr.S26))
  | 0, _, _, _ => none
  | f + 1, T, i, ks =>
    if isP T i ⟨#[59]⟩ then some (.ok (ks, i + 1))
    else match valueP f T i 0 with
      | none => none
      | some (.error e) => some (.error e)
      | some (.ok (v, j)) => propL f T j (ks ++ [v])
def propP (f : Nat) (T : List PTr.S41) (i : Nat) : Option (PR PTr.S26) :=
  if (tokAt T i).f0 == 0 then
    match propL f T (i + 1) [] with
    | none => none
    | some (.error e) => some (.error e)
    | some (.ok (ks, j)) => some (.ok (⟨2, (tokAt T i).f1, ⟨0, 0⟩, (tokAt T i).f2, ks⟩, j))
  else some (.error (2, (tokAt T i).f2))
def declA : Nat → List PTr.S41 → Nat → List PTr.S26 → Option (List PTr.S26 × Nat)
  | 0, _, _, _ => none
  | f + 1, T, i, ks =>
    if (tokAt T i).f0 == 0 then declA f T (i + 1) (ks ++ [leafN 3 (tokAt T i)])
    else if (tokAt T i).f0 == 2 then declA f T (i + 1) (ks ++ [leafN 4 (tokAt T i)])
    else some (ks, i)
def declB : Nat → List PTr.S41 → Nat → List PTr.S26 → Option (PR (List PTr.S26))
  | 0, _, _, _ => none
  | f + 1, T, i, ks =>
    if isP T i ⟨#[125]⟩ then some (.ok (ks, i + 1))
    else match propP f T i with
      | none => none
      | some (.error e) => some (.error e)
      | some (.ok (v, j)) => declB f T j (ks ++ [v])
def declP (f : Nat) (T : List PTr.S41) (i : Nat) : Option (PR PTr.S26) :=
  if (tokAt T i).f0 == 0 then
    match declA f T (i + 1) [] with
    | none => none
    | some (ks, j) =>
      if isP T j ⟨#[123]⟩ then
        match declB f T (j + 1) ks with
        | none => none
        | some (.error e) => some (.error e)
        | some (.ok (ks', j')) => some (.ok (⟨1, (tokAt T i).f1, ⟨0, 0⟩, (tokAt T i).f2, ks'⟩, j'))
      else some (.error (2, (tokAt T j).f2))
  else some (.error (2, (tokAt T i).f2))
def rootL : Nat → List PTr.S41 → Nat → List PTr.S26 → Option (PR (List PTr.S26))
  | 0, _, _, _ => none
  | f + 1, T, i, ks =>
    if (tokAt T i).f0 == 4 then some (.ok (ks, i))
    else match declP f T i with
      | none => none
      | some (.error e) => some (.error e)
      | some (.ok (v, j)) => rootL f T j (ks ++ [v])
end Go.Proofs.YtahjkibjcibpgaaGreatDoor.L
end
section
namespace Go.Proofs.YtahjkibjcibpgaaGreatDoor.L
open Go.Proofs.YtahjkibjcibpgaaGreatDoor.U
theorem vg_mono : ∀ f g, f ≤ g → (∀ T i d r, valueP f T i d = some r → valueP g T i d = some r) ∧ (∀ T i d s ks r, groupP f T i d s ks = some r → groupP g T i d s ks = some r) := by
  intro f
  induction f with
  | zero => intro g _; constructor <;> (intros; rename_i h; simp [valueP, groupP] at h)
  | succ f ih =>
    intro g hg
    obtain ⟨g, rfl⟩ : ∃ m, g = m + 1 := ⟨g - 1, by omega⟩
    obtain ⟨ihv, ihg⟩ := ih g (by omega)
    constructor
    · intro T i d r h
      rw [valueP] at h ⊢
      by_cases c1 : isP T i ⟨#[40]⟩ = true
      · rw [if_pos c1] at h ⊢
        by_cases c2 : d = 40
        · rw [if_pos c2] at h ⊢; exact h
        · rw [if_neg c2] at h ⊢
          cases hq : groupP f T i (d + 1) ⟨#[40]⟩ [] with
          | none => rw [hq] at h; simp at h
          | some q => rw [ihg _ _ _ _ _ _ hq]; rw [hq] at h; exact h
      · rw [if_neg c1] at h ⊢; exact h
    · intro T i d s ks r h
      rw [groupP] at h ⊢
      by_cases c1 : isP T i s = true
      · rw [if_pos c1] at h ⊢
        cases hq : valueP f T (i + 1) d with
        | none => rw [hq] at h; simp at h
        | some q =>
          rw [ihv _ _ _ _ hq]; rw [hq] at h
          match q, h with
          | .error e, h => exact h
          | .ok (v, j), h =>
            simp only at h ⊢
            by_cases c2 : isP T j ⟨#[41]⟩ = true
            · rw [if_pos c2] at h ⊢; exact h
            · rw [if_neg c2] at h ⊢; exact ihg _ _ _ _ _ _ h
      · rw [if_neg c1] at h ⊢; exact h
def V (T : List PTr.S41) (i d : Nat) (r : PR PTr.S26) : Prop := ∃ f, valueP f T i d = some r
def G (T : List PTr.S41) (i d : Nat) (s : ByteArray) (ks : List PTr.S26) (r : PR (List PTr.S26)) : Prop := ∃ f, groupP f T i d s ks = some r
section
variable {T : List PTr.S41}
theorem V.full {i : Nat} (c : isP T i ⟨#[40]⟩ = true) : V T i 40 (.error (8, (tokAt T i).f2)) := ⟨1, by rw [valueP, if_pos c, if_pos rfl]⟩
theorem V.groupE {i d : Nat} {e : Int × Int} (c : isP T i ⟨#[40]⟩ = true) (hd : d ≠ 40) (h : G T i (d + 1) ⟨#[40]⟩ [] (.error e)) : V T i d (.error e) := by
  obtain ⟨f, h⟩ := h
  exact ⟨f + 1, by rw [valueP, if_pos c, if_neg hd, h]⟩
theorem V.group {i d : Nat} {ks : List PTr.S26} {j : Nat} (c : isP T i ⟨#[40]⟩ = true) (hd : d ≠ 40) (h : G T i (d + 1) ⟨#[40]⟩ [] (.ok (ks, j))) (c2 : isP T j ⟨#[41]⟩ = true) : V T i d (.ok (⟨6, ⟨#[]⟩, ⟨0, 0⟩, (tokAt T i).f2, ks⟩, j + 1)) := by
  obtain ⟨f, h⟩ := h
  exact ⟨f + 1, by rw [valueP, if_pos c, if_neg hd, h]; simp only; rw [if_pos c2]⟩
theorem V.word {i d : Nat} (c : isP T i ⟨#[40]⟩ = false) (h : ((tokAt T i).f0 == 0) = true) : V T i d (.ok (leafN 3 (tokAt T i), i + 1)) := ⟨1, by rw [valueP, if_neg (by rw [c]; simp), if_pos h]⟩
theorem V.text {i d : Nat} (c : isP T i ⟨#[40]⟩ = false) (h0 : ((tokAt T i).f0 == 0) = false) (h : ((tokAt T i).f0 == 2) = true) : V T i d (.ok (leafN 4 (tokAt T i), i + 1)) :=
  ⟨1, by rw [valueP, if_neg (by rw [c]; simp), if_neg (by rw [h0]; simp), if_pos h]⟩
theorem V.amount {i d : Nat} (c : isP T i ⟨#[40]⟩ = false) (h0 : ((tokAt T i).f0 == 0) = false) (h : ((tokAt T i).f0 == 2) = false) : V T i d (amountP T i) :=
  ⟨1, by rw [valueP, if_neg (by rw [c]; simp), if_neg (by rw [h0]; simp), if_neg (by rw [h]; simp)]⟩
theorem G.no {i d : Nat} {s : ByteArray} {ks : List PTr.S26} (c : isP T i s = false) : G T i d s ks (.error (2, (tokAt T i).f2)) := ⟨1, by rw [groupP, if_neg (by rw [c]; simp)]⟩
theorem G.err {i d : Nat} {s : ByteArray} {ks : List PTr.S26} {e : Int × Int} (c : isP T i s = true) (h : V T (i + 1) d (.error e)) : G T i d s ks (.error e) := by
  obtain ⟨f, h⟩ := h
  exact ⟨f + 1, by rw [groupP, if_pos c, h]⟩
theorem G.last {i d j : Nat} {s : ByteArray} {ks : List PTr.S26} {v : PTr.S26} (c : isP T i s = true) (h : V T (i + 1) d (.ok (v, j))) (c2 : isP T j ⟨#[41]⟩ = true) : G T i d s ks (.ok (ks ++ [v], j)) := by
  obtain ⟨f, h⟩ := h
  exact ⟨f + 1, by rw [groupP, if_pos c, h]; simp only; rw [if_pos c2]⟩
theorem G.more {i d j : Nat} {s : ByteArray} {ks : List PTr.S26} {v : PTr.S26} {r : PR (List PTr.S26)} (c : isP T i s = true) (h : V T (i + 1) d (.ok (v, j))) (c2 : isP T j ⟨#[41]⟩ = false) (h2 : G T j d ⟨#[44]⟩ (ks ++ [v]) r) : G T i d s ks r := by
  obtain ⟨f, h⟩ := h
  obtain ⟨g, h2⟩ := h2
  refine ⟨max f g + 1, ?_⟩
  rw [groupP, if_pos c, (vg_mono f _ (Nat.le_max_left f g)).1 _ _ _ _ h]
  simp only
  rw [if_neg (by rw [c2]; simp), (vg_mono g _ (Nat.le_max_right f g)).2 _ _ _ _ _ _ h2]
theorem vg_ind (T : List PTr.S41) (PV : Nat → Nat → PR PTr.S26 → Prop) (PG : Nat → Nat → ByteArray → List PTr.S26 → PR (List PTr.S26) → Prop)
    (full : ∀ i, isP T i ⟨#[40]⟩ = true → PV i 40 (.error (8, (tokAt T i).f2)))
    (groupE : ∀ i d e, isP T i ⟨#[40]⟩ = true → d ≠ 40 → G T i (d + 1) ⟨#[40]⟩ [] (.error e) → PG i (d + 1) ⟨#[40]⟩ [] (.error e) → PV i d (.error e))
    (group : ∀ i d ks j, isP T i ⟨#[40]⟩ = true → d ≠ 40 → G T i (d + 1) ⟨#[40]⟩ [] (.ok (ks, j)) → PG i (d + 1) ⟨#[40]⟩ [] (.ok (ks, j)) → isP T j ⟨#[41]⟩ = true → PV i d (.ok (⟨6, ⟨#[]⟩, ⟨0, 0⟩, (tokAt T i).f2, ks⟩, j + 1)))
    (word : ∀ i d, isP T i ⟨#[40]⟩ = false → ((tokAt T i).f0 == 0) = true → PV i d (.ok (leafN 3 (tokAt T i), i + 1)))
    (text : ∀ i d, isP T i ⟨#[40]⟩ = false → ((tokAt T i).f0 == 0) = false → ((tokAt T i).f0 == 2) = true → PV i d (.ok (leafN 4 (tokAt T i), i + 1)))
    (amount : ∀ i d, isP T i ⟨#[40]⟩ = false → ((tokAt T i).f0 == 0) = false → ((tokAt T i).f0 == 2) = false → PV i d (amountP T i))
    (no : ∀ i d s ks, isP T i s = false → PG i d s ks (.error (2, (tokAt T i).f2)))
    (err : ∀ i d s ks e, isP T i s = true → V T (i + 1) d (.error e) → PV (i + 1) d (.error e) → PG i d s ks (.error e))
    (last : ∀ i d s ks v j, isP T i s = true → V T (i + 1) d (.ok (v, j)) → PV (i + 1) d (.ok (v, j)) → isP T j ⟨#[41]⟩ = true → PG i d s ks (.ok (ks ++ [v], j)))
    (more : ∀ i d s ks v j r, isP T i s = true → V T (i + 1) d (.ok (v, j)) → PV (i + 1) d (.ok (v, j)) → isP T j ⟨#[41]⟩ = false → G T j d ⟨#[44]⟩ (ks ++ [v]) r → PG j d ⟨#[44]⟩ (ks ++ [v]) r → PG i d s ks r) :
    (∀ i d r, V T i d r → PV i d r) ∧ (∀ i d s ks r, G T i d s ks r → PG i d s ks r) := by
  have main : ∀ f, (∀ i d r, valueP f T i d = some r → PV i d r) ∧ (∀ i d s ks r, groupP f T i d s ks = some r → PG i d s ks r ∧ (∀ ks' j, r = .ok (ks', j) → isP T j ⟨#[41]⟩ = true)) := by
    intro f
    induction f with
    | zero => constructor <;> (intros; rename_i h; simp [valueP, groupP] at h)
    | succ f ih =>
      obtain ⟨ihv, ihg⟩ := ih
      constructor
      · intro i d r h
        rw [valueP] at h
        by_cases c1 : isP T i ⟨#[40]⟩ = true
        · rw [if_pos c1] at h
          by_cases c2 : d = 40
          · rw [if_pos c2] at h; injection h with h; subst h; subst c2; exact full i c1
          · rw [if_neg c2] at h
            cases hq : groupP f T i (d + 1) ⟨#[40]⟩ [] with
            | none => rw [hq] at h; simp at h
            | some q =>
              obtain ⟨hp, hj⟩ := ihg _ _ _ _ _ hq
              rw [hq] at h
              match q, h, hq, hp, hj with
              | .error e, h, hq, hp, _ => simp only at h; injection h with h; subst h; exact groupE i d e c1 c2 ⟨f, hq⟩ hp
              | .ok (ks, j), h, hq, hp, hj =>
                simp only at h
                have hj := hj ks j rfl
                rw [if_pos hj] at h
                injection h with h; subst h
                exact group i d ks j c1 c2 ⟨f, hq⟩ hp hj
        · have c1' : isP T i ⟨#[40]⟩ = false := by simpa using c1
          rw [if_neg c1] at h
          by_cases c2 : ((tokAt T i).f0 == 0) = true
          · rw [if_pos c2] at h; injection h with h; subst h; exact word i d c1' c2
          · have c2' : ((tokAt T i).f0 == 0) = false := by simpa using c2
            rw [if_neg c2] at h
            by_cases c3 : ((tokAt T i).f0 == 2) = true
            · rw [if_pos c3] at h; injection h with h; subst h; exact text i d c1' c2' c3
            · have c3' : ((tokAt T i).f0 == 2) = false := by simpa using c3
              rw [if_neg c3] at h; injection h with h; subst h; exact amount i d c1' c2' c3'
      · intro i d s ks r h
        rw [groupP] at h
        by_cases c1 : isP T i s = true
        · rw [if_pos c1] at h
          cases hq : valueP f T (i + 1) d with
          | none => rw [hq] at h; simp at h
          | some q =>
            have hp := ihv _ _ _ hq
            rw [hq] at h
            match q, h, hq, hp with
            | .error e, h, hq, hp => simp only at h; injection h with h; subst h; exact ⟨err i d s ks e c1 ⟨f, hq⟩ hp, fun _ _ e => by cases e⟩
            | .ok (v, j), h, hq, hp =>
              simp only at h
              by_cases c2 : isP T j ⟨#[41]⟩ = true
              · rw [if_pos c2] at h; injection h with h; subst h
                exact ⟨last i d s ks v j c1 ⟨f, hq⟩ hp c2, fun _ _ e => by injection e with e; injection e with _ e; rw [← e]; exact c2⟩
              · have c2' : isP T j ⟨#[41]⟩ = false := by simpa using c2
                rw [if_neg c2] at h
                obtain ⟨hp2, hj⟩ := ihg _ _ _ _ _ h
                exact ⟨more i d s ks v j r c1 ⟨f, hq⟩ hp c2' ⟨f, h⟩ hp2, hj⟩
        · have c1' : isP T i s = false := by simpa using c1
          rw [if_neg c1] at h; injection h with h; subst h
          exact ⟨no i d s ks c1', fun _ _ e => by cases e⟩
  exact ⟨fun i d r ⟨f, h⟩ => (main f).1 i d r h, fun i d s ks r ⟨f, h⟩ => ((main f).2 i d s ks r h).1⟩
theorem V.det {i d : Nat} {r r' : PR PTr.S26} (h : V T i d r) (h' : V T i d r') : r = r' := by
  obtain ⟨f, h⟩ := h
  obtain ⟨g, h'⟩ := h'
  have a := (vg_mono f _ (Nat.le_max_left f g)).1 _ _ _ _ h
  have b := (vg_mono g _ (Nat.le_max_right f g)).1 _ _ _ _ h'
  rw [a] at b; injection b
def EndT (T : List PTr.S41) (n : Nat) : Prop := T.length = n + 1 ∧ (tokAt T n).f0 = 4 ∧ ∀ i, i < n → (tokAt T i).f0 ≠ 4
theorem EndT.next {n i : Nat} (h : EndT T n) (hi : i ≤ n) (hk : (tokAt T i).f0 ≠ 4) : i < n := by
  rcases Nat.lt_or_ge i n with h1 | h1
  · exact h1
  · have : i = n := by omega
    subst this
    exact absurd h.2.1 hk
theorem isP_kind {i : Nat} {s : ByteArray} (h : isP T i s = true) : (tokAt T i).f0 = 3 := by
  unfold isP at h
  simp at h
  exact h.1
def Flt (T : List PTr.S41) (n i : Nat) (e : Int × Int) : Prop := ∃ m, i ≤ m ∧ m ≤ n ∧ e.2 = (tokAt T m).f2 ∧ ((e.1 = 2 ∧ 0 = 0) ∨ e.1 = 7 ∨ e.1 = 8)
theorem Flt.le {n i j : Nat} {e : Int × Int} (h : Flt T n j e) (hi : i ≤ j) : Flt T n i e := by
  obtain ⟨m, h1, h2⟩ := h
  exact ⟨m, by omega, h2⟩
theorem amountP_goes {n i : Nat} (hE : EndT T n) (hi : i ≤ n) : (∀ v j, amountP T i = .ok (v, j) → i < j ∧ j ≤ n) ∧ (∀ e, amountP T i = .error e → Flt T n i e) := by
  unfold amountP
  by_cases c : ((tokAt T i).f0 == 1) = true
  · rw [if_pos c]
    have hk : (tokAt T i).f0 = 1 := by simpa using c
    have h1 := hE.next hi (by rw [hk]; decide)
    have h2 : i + 1 ≤ (unitP T (i + 1)).2 ∧ (unitP T (i + 1)).2 ≤ n := by
      unfold unitP
      by_cases c2 : ((tokAt T (i + 1)).f0 == 0 && knownP (tokAt T (i + 1)).f1) = true
      · rw [if_pos c2]
        have : (tokAt T (i + 1)).f0 = 0 := by simp at c2; exact c2.1
        have := hE.next (show i + 1 ≤ n by omega) (by rw [this]; decide)
        exact ⟨Nat.le_succ _, this⟩
      · rw [if_neg c2]; exact ⟨Nat.le_refl _, h1⟩
    generalize amt (tokAt T i).f1.data.toList (unitP T (i + 1)).1.data.toList = x
    obtain ⟨a, b, e⟩ := x
    simp only
    by_cases c3 : e = 0
    · rw [if_pos c3]
      exact ⟨fun v j h => by injection h with h; injection h with _ h; omega, fun _ h => by cases h⟩
    · rw [if_neg c3]
      exact ⟨(fun _ _ h => by cases h), fun e h => by injection h with h; subst h; exact ⟨i, Nat.le_refl _, hi, rfl, .inr (.inl rfl)⟩⟩
  · rw [if_neg c]
    exact ⟨(fun _ _ h => by cases h), fun e h => by injection h with h; subst h; exact ⟨i, Nat.le_refl _, hi, rfl, .inl ⟨rfl, rfl⟩⟩⟩
theorem vg_goes {n : Nat} (hE : EndT T n) :
    (∀ i d r, V T i d r → i ≤ n → (∀ v j, r = .ok (v, j) → i < j ∧ j ≤ n) ∧ (∀ e, r = .error e → Flt T n i e)) ∧
    (∀ i d s ks r, G T i d s ks r → i ≤ n → (∀ v j, r = .ok (v, j) → i < j ∧ j ≤ n) ∧ (∀ e, r = .error e → Flt T n i e)) := by
  refine vg_ind T (fun i _ r => i ≤ n → (∀ v j, r = .ok (v, j) → i < j ∧ j ≤ n) ∧ (∀ e, r = .error e → Flt T n i e))
    (fun i _ _ _ r => i ≤ n → (∀ v j, r = .ok (v, j) → i < j ∧ j ≤ n) ∧ (∀ e, r = .error e → Flt T n i e)) ?_ ?_ ?_ ?_ ?_ ?_ ?_ ?_ ?_ ?_
  · intro i _ hi
    exact ⟨(fun _ _ h => by cases h), fun e h => by injection h with h; subst h; exact ⟨i, Nat.le_refl _, hi, rfl, .inr (.inr rfl)⟩⟩
  · intro i d e _ _ _ h hi
    exact ⟨(fun _ _ h => by cases h), fun e' h' => by injection h' with h'; subst h'; exact (h hi).2 _ rfl⟩
  · intro i d ks j _ _ _ h c hi
    obtain ⟨h1, h2⟩ := (h hi).1 _ _ rfl
    have h3 := hE.next h2 (by rw [isP_kind c]; decide)
    exact ⟨fun v j' h => by injection h with h; injection h with _ h; omega, fun _ h => by cases h⟩
  · intro i d _ c hi
    have h3 := hE.next hi (by rw [show (tokAt T i).f0 = 0 by simpa using c]; decide)
    exact ⟨fun v j' h => by injection h with h; injection h with _ h; omega, fun _ h => by cases h⟩
  · intro i d _ _ c hi
    have h3 := hE.next hi (by rw [show (tokAt T i).f0 = 2 by simpa using c]; decide)
    exact ⟨fun v j' h => by injection h with h; injection h with _ h; omega, fun _ h => by cases h⟩
  · intro i d _ _ _ hi
    exact amountP_goes hE hi
  · intro i d s ks _ hi
    exact ⟨(fun _ _ h => by cases h), fun e h => by injection h with h; subst h; exact ⟨i, Nat.le_refl _, hi, rfl, .inl ⟨rfl, rfl⟩⟩⟩
  · intro i d s ks e c _ h hi
    have h3 := hE.next hi (by rw [isP_kind c]; decide)
    exact ⟨(fun _ _ h => by cases h), fun e' h' => by injection h' with h'; subst h'; exact ((h h3).2 _ rfl).le (Nat.le_succ _)⟩
  · intro i d s ks v j c _ h _ hi
    have h3 := hE.next hi (by rw [isP_kind c]; decide)
    have h4 := (h h3).1 _ _ rfl
    exact ⟨fun v j' h => by injection h with h; injection h with _ h; omega, fun _ h => by cases h⟩
  · intro i d s ks v j r c _ h _ _ h2 hi
    have h3 := hE.next hi (by rw [isP_kind c]; decide)
    have h4 := (h h3).1 _ _ rfl
    have h5 := h2 h4.2
    exact ⟨fun v j' h => by have := h5.1 v j' h; omega, fun e h => (h5.2 e h).le (by omega)⟩
theorem vg_total {n : Nat} (hE : EndT T n) : ∀ m, (∀ i d, i ≤ n → n - i < m → ∃ r, V T i d r) ∧ (∀ i d s ks, i ≤ n → n - i < m → ∃ r, G T i d s ks r) := by
  intro m
  induction m with
  | zero => constructor <;> (intros; omega)
  | succ m ih =>
    have hg : ∀ i d s ks, i ≤ n → n - i < m + 1 → ∃ r, G T i d s ks r := by
      intro i d s ks hi hm
      cases c : isP T i s with
      | false => exact ⟨_, G.no c⟩
      | true =>
        have h3 := hE.next hi (by rw [isP_kind c]; decide)
        obtain ⟨r, hr⟩ := ih.1 (i + 1) d h3 (by omega)
        match r, hr with
        | .error e, hr => exact ⟨_, G.err c hr⟩
        | .ok (v, j), hr =>
          have h4 := ((vg_goes hE).1 _ _ _ hr h3).1 _ _ rfl
          cases c2 : isP T j ⟨#[41]⟩ with
          | true => exact ⟨_, G.last c hr c2⟩
          | false =>
            obtain ⟨r2, hr2⟩ := ih.2 j d ⟨#[44]⟩ (ks ++ [v]) h4.2 (by omega)
            exact ⟨_, G.more c hr c2 hr2⟩
    refine ⟨?_, hg⟩
    intro i d hi hm
    cases c : isP T i ⟨#[40]⟩ with
    | true =>
      by_cases hd : d = 40
      · subst hd; exact ⟨_, V.full c⟩
      · obtain ⟨r, hr⟩ := hg i (d + 1) ⟨#[40]⟩ [] hi hm
        match r, hr with
        | .error e, hr => exact ⟨_, V.groupE c hd hr⟩
        | .ok (ks, j), hr =>
          cases c2 : isP T j ⟨#[41]⟩ with
          | true => exact ⟨_, V.group c hd hr c2⟩
          | false =>
            have := (vg_ind T (fun _ _ _ => True) (fun _ _ _ _ r => ∀ ks j, r = .ok (ks, j) → isP T j ⟨#[41]⟩ = true)
              (fun _ _ => trivial) (fun _ _ _ _ _ _ _ => trivial) (fun _ _ _ _ _ _ _ _ _ => trivial) (fun _ _ _ _ => trivial) (fun _ _ _ _ _ => trivial) (fun _ _ _ _ _ => trivial)
              (fun _ _ _ _ _ _ _ e => by cases e) (fun _ _ _ _ _ _ _ _ _ _ e => by cases e) (fun _ _ _ _ _ _ _ _ _ c _ _ e => by injection e with e; injection e with _ e; rw [← e]; exact c)
              (fun _ _ _ _ _ _ _ _ _ _ _ _ h => h)).2 _ _ _ _ _ hr ks j rfl
            rw [this] at c2; cases c2
    | false =>
      cases h0 : ((tokAt T i).f0 == 0) with
      | true => exact ⟨_, V.word c h0⟩
      | false =>
        cases h2 : ((tokAt T i).f0 == 2) with
        | true => exact ⟨_, V.text c h0 h2⟩
        | false => exact ⟨_, V.amount c h0 h2⟩
end
end Go.Proofs.YtahjkibjcibpgaaGreatDoor.L
end
section
namespace Go.Proofs.YtahjkibjcibpgaaGreatDoor.L
open Go.Proofs.YtahjkibjcibpgaaGreatDoor.U
inductive PLoop (stop : Nat → Bool) (fin : Nat → Nat) (I : Nat → PR PTr.S26 → Prop) : Nat → List PTr.S26 → PR (List PTr.S26) → Prop
  | done (i : Nat) (ks : List PTr.S26) (h : stop i = true) : PLoop stop fin I i ks (.ok (ks, fin i))
  | err (i : Nat) (ks : List PTr.S26) (e : Int × Int) (h : stop i = false) (hi : I i (.error e)) : PLoop stop fin I i ks (.error e)
  | more (i : Nat) (ks : List PTr.S26) (v : PTr.S26) (j : Nat) (r : PR (List PTr.S26)) (h : stop i = false) (hi : I i (.ok (v, j))) (hr : PLoop stop fin I j (ks ++ [v]) r) : PLoop stop fin I i ks r
theorem PLoop.det {stop : Nat → Bool} {fin : Nat → Nat} {I : Nat → PR PTr.S26 → Prop} (hI : ∀ i r r', I i r → I i r' → r = r') {i : Nat} {ks : List PTr.S26} {r r' : PR (List PTr.S26)}
    (h : PLoop stop fin I i ks r) (h' : PLoop stop fin I i ks r') : r = r' := by
  induction h with
  | done i ks h =>
    cases h' with
    | done _ _ _ => rfl
    | err _ _ _ h2 _ => rw [h] at h2; cases h2
    | more _ _ _ _ _ h2 _ _ => rw [h] at h2; cases h2
  | err i ks e h hi =>
    cases h' with
    | done _ _ h2 => rw [h] at h2; cases h2
    | err _ _ _ h2 hi2 => have := hI _ _ _ hi hi2; injection this with this; rw [this]
    | more _ _ _ _ _ h2 hi2 _ => have := hI _ _ _ hi hi2; cases this
  | more i ks v j r h hi hr ih =>
    cases h' with
    | done _ _ h2 => rw [h] at h2; cases h2
    | err _ _ _ h2 hi2 => have := hI _ _ _ hi hi2; cases this
    | more _ _ _ _ _ h2 hi2 hr2 =>
      have := hI _ _ _ hi hi2
      injection this with this; injection this with a b
      subst a b
      exact ih hr2
theorem PLoop.inv {stop : Nat → Bool} {fin : Nat → Nat} {I : Nat → PR PTr.S26 → Prop} {i : Nat} {ks : List PTr.S26} {r : PR (List PTr.S26)} (h : PLoop stop fin I i ks r) :
    (stop i = true ∧ r = .ok (ks, fin i)) ∨ (stop i = false ∧ ((∃ e, I i (.error e) ∧ r = .error e) ∨ (∃ v j, I i (.ok (v, j)) ∧ PLoop stop fin I j (ks ++ [v]) r))) := by
  cases h with
  | done _ _ h => exact .inl ⟨h, rfl⟩
  | err _ _ e h hi => exact .inr ⟨h, .inl ⟨e, hi, rfl⟩⟩
  | more _ _ v j _ h hi hr => exact .inr ⟨h, .inr ⟨v, j, hi, hr⟩⟩
theorem PLoop.ext {stop : Nat → Bool} {fin : Nat → Nat} {I : Nat → PR PTr.S26 → Prop} {i : Nat} {ks : List PTr.S26} {r : PR (List PTr.S26)} (h : PLoop stop fin I i ks r) :
    (∀ e, r = .error e → ∀ ks2, PLoop stop fin I i ks2 (.error e)) ∧ (∀ l j, r = .ok (l, j) → ∃ m, l = ks ++ m ∧ ∀ ks2, PLoop stop fin I i ks2 (.ok (ks2 ++ m, j))) := by
  induction h with
  | done i ks h =>
    refine ⟨(fun _ e => by cases e), fun l j e => ?_⟩
    injection e with e; injection e with e1 e2
    subst e1 e2
    exact ⟨[], by simp, fun ks2 => by rw [List.append_nil]; exact .done i ks2 h⟩
  | err i ks e h hi =>
    refine ⟨fun e' h' => ?_, fun _ _ e => by cases e⟩
    injection h' with h'; subst h'
    exact fun ks2 => .err i ks2 _ h hi
  | more i ks v j r h hi hr ih =>
    obtain ⟨ih1, ih2⟩ := ih
    refine ⟨fun e he ks2 => .more i ks2 v j _ h hi (ih1 e he _), fun l j' e => ?_⟩
    obtain ⟨m, h1, h2⟩ := ih2 l j' e
    refine ⟨v :: m, by rw [h1]; simp, fun ks2 => .more i ks2 v j _ h hi ?_⟩
    have := h2 (ks2 ++ [v])
    rw [List.append_assoc] at this
    exact this
section
variable (T : List PTr.S41)
abbrev PL : Nat → List PTr.S26 → PR (List PTr.S26) → Prop := PLoop (fun i => isP T i ⟨#[59]⟩) (· + 1) (fun i r => V T i 0 r)
def PP (i : Nat) (r : PR PTr.S26) : Prop :=
  (((tokAt T i).f0 == 0) = false ∧ r = .error (2, (tokAt T i).f2)) ∨
  (((tokAt T i).f0 == 0) = true ∧ ((∃ e, PL T (i + 1) [] (.error e) ∧ r = .error e) ∨ (∃ ks j, PL T (i + 1) [] (.ok (ks, j)) ∧ r = .ok (⟨2, (tokAt T i).f1, ⟨0, 0⟩, (tokAt T i).f2, ks⟩, j))))
def LP (i : Nat) (r : PR PTr.S26) : Prop :=
  (((tokAt T i).f0 == 0) = true ∧ r = .ok (leafN 3 (tokAt T i), i + 1)) ∨ (((tokAt T i).f0 == 0) = false ∧ ((tokAt T i).f0 == 2) = true ∧ r = .ok (leafN 4 (tokAt T i), i + 1))
abbrev DA : Nat → List PTr.S26 → PR (List PTr.S26) → Prop := PLoop (fun i => !((tokAt T i).f0 == 0) && !((tokAt T i).f0 == 2)) id (LP T)
abbrev DB : Nat → List PTr.S26 → PR (List PTr.S26) → Prop := PLoop (fun i => isP T i ⟨#[125]⟩) (· + 1) (PP T)
def DP (i : Nat) (r : PR PTr.S26) : Prop :=
  (((tokAt T i).f0 == 0) = false ∧ r = .error (2, (tokAt T i).f2)) ∨
  (((tokAt T i).f0 == 0) = true ∧ ∃ ks j, DA T (i + 1) [] (.ok (ks, j)) ∧
    ((isP T j ⟨#[123]⟩ = false ∧ r = .error (2, (tokAt T j).f2)) ∨
     (isP T j ⟨#[123]⟩ = true ∧ ((∃ e, DB T (j + 1) ks (.error e) ∧ r = .error e) ∨ (∃ ks' j', DB T (j + 1) ks (.ok (ks', j')) ∧ r = .ok (⟨1, (tokAt T i).f1, ⟨0, 0⟩, (tokAt T i).f2, ks'⟩, j'))))))
abbrev RL : Nat → List PTr.S26 → PR (List PTr.S26) → Prop := PLoop (fun i => (tokAt T i).f0 == 4) id (DP T)
end
section
variable {T : List PTr.S41}
theorem PL.det {i : Nat} {ks : List PTr.S26} {r r' : PR (List PTr.S26)} (h : PL T i ks r) (h' : PL T i ks r') : r = r' := PLoop.det (I := fun i r => V T i 0 r) (fun _ _ _ a b => V.det a b) h h'
theorem PP.det {i : Nat} {r r' : PR PTr.S26} (h : PP T i r) (h' : PP T i r') : r = r' := by
  rcases h with ⟨h, rfl⟩ | ⟨h, ⟨e, h2, rfl⟩ | ⟨ks, j, h2, rfl⟩⟩ <;> rcases h' with ⟨g, rfl⟩ | ⟨g, ⟨e', g2, rfl⟩ | ⟨ks', j', g2, rfl⟩⟩
  · rfl
  · rw [h] at g; cases g
  · rw [h] at g; cases g
  · rw [h] at g; cases g
  · have := h2.det g2; injection this with this; rw [this]
  · have := h2.det g2; cases this
  · rw [h] at g; cases g
  · have := h2.det g2; cases this
  · have := h2.det g2; injection this with this; injection this with a b; rw [a, b]
theorem LP.det {i : Nat} {r r' : PR PTr.S26} (h : LP T i r) (h' : LP T i r') : r = r' := by
  rcases h with ⟨h, rfl⟩ | ⟨h, _, rfl⟩ <;> rcases h' with ⟨g, rfl⟩ | ⟨g, _, rfl⟩
  · rfl
  · rw [h] at g; cases g
  · rw [h] at g; cases g
  · rfl
theorem DA.det {i : Nat} {ks : List PTr.S26} {r r' : PR (List PTr.S26)} (h : DA T i ks r) (h' : DA T i ks r') : r = r' := PLoop.det (I := LP T) (fun _ _ _ a b => LP.det a b) h h'
theorem DB.det {i : Nat} {ks : List PTr.S26} {r r' : PR (List PTr.S26)} (h : DB T i ks r) (h' : DB T i ks r') : r = r' := PLoop.det (I := PP T) (fun _ _ _ a b => PP.det a b) h h'
theorem DP.det {i : Nat} {r r' : PR PTr.S26} (h : DP T i r) (h' : DP T i r') : r = r' := by
  rcases h with ⟨h, rfl⟩ | ⟨h, ks, j, ha, hb⟩ <;> rcases h' with ⟨g, rfl⟩ | ⟨g, ks', j', ha', hb'⟩
  · rfl
  · rw [h] at g; cases g
  · rw [h] at g; cases g
  · have := ha.det ha'
    injection this with this; injection this with a b
    subst a b
    rcases hb with ⟨h, rfl⟩ | ⟨h, ⟨e, h2, rfl⟩ | ⟨ks, j, h2, rfl⟩⟩ <;> rcases hb' with ⟨g, rfl⟩ | ⟨g, ⟨e', g2, rfl⟩ | ⟨ks', j', g2, rfl⟩⟩
    · rfl
    · rw [h] at g; cases g
    · rw [h] at g; cases g
    · rw [h] at g; cases g
    · have := h2.det g2; injection this with this; rw [this]
    · have := h2.det g2; cases this
    · rw [h] at g; cases g
    · have := h2.det g2; cases this
    · have := h2.det g2; injection this with this; injection this with a b; rw [a, b]
theorem RL.det {i : Nat} {ks : List PTr.S26} {r r' : PR (List PTr.S26)} (h : RL T i ks r) (h' : RL T i ks r') : r = r' := PLoop.det (I := DP T) (fun _ _ _ a b => DP.det a b) h h'
theorem PL_of (f : Nat) : ∀ i ks r, propL f T i ks = some r → PL T i ks r := by
  induction f with
  | zero => intro i ks r h; simp [propL] at h
  | succ f ih =>
    intro i ks r h
    rw [propL] at h
    by_cases c : isP T i ⟨#[59]⟩ = true
    · rw [if_pos c] at h; injection h with h; subst h; exact .done i ks c
    · have c' : isP T i ⟨#[59]⟩ = false := by simpa using c
      rw [if_neg c] at h
      cases hq : valueP f T i 0 with
      | none => rw [hq] at h; simp at h
      | some q =>
        rw [hq] at h
        match q, hq, h with
        | .error e, hq, h => simp only at h; injection h with h; subst h; exact .err i ks e c' ⟨f, hq⟩
        | .ok (v, j), hq, h => exact .more i ks v j r c' ⟨f, hq⟩ (ih _ _ _ h)
theorem PP_of (f : Nat) (i : Nat) (r : PR PTr.S26) (h : propP f T i = some r) : PP T i r := by
  unfold propP at h
  by_cases c : ((tokAt T i).f0 == 0) = true
  · rw [if_pos c] at h
    refine .inr ⟨c, ?_⟩
    cases hq : propL f T (i + 1) [] with
    | none => rw [hq] at h; simp at h
    | some q =>
      rw [hq] at h
      match q, hq, h with
      | .error e, hq, h => simp only at h; injection h with h; exact .inl ⟨e, PL_of f _ _ _ hq, h.symm⟩
      | .ok (ks, j), hq, h => simp only at h; injection h with h; exact .inr ⟨ks, j, PL_of f _ _ _ hq, h.symm⟩
  · rw [if_neg c] at h; injection h with h
    exact .inl ⟨by simpa using c, h.symm⟩
theorem DA_of (f : Nat) : ∀ i ks l j, declA f T i ks = some (l, j) → DA T i ks (.ok (l, j)) := by
  induction f with
  | zero => intro i ks l j h; simp [declA] at h
  | succ f ih =>
    intro i ks l j h
    rw [declA] at h
    by_cases c : ((tokAt T i).f0 == 0) = true
    · rw [if_pos c] at h
      exact .more i ks _ _ _ (by simp only [c]; rfl) (.inl ⟨c, rfl⟩) (ih _ _ _ _ h)
    · have c' : ((tokAt T i).f0 == 0) = false := by simpa using c
      rw [if_neg c] at h
      by_cases c2 : ((tokAt T i).f0 == 2) = true
      · rw [if_pos c2] at h
        exact .more i ks _ _ _ (by simp only [c', c2]; rfl) (.inr ⟨c', c2, rfl⟩) (ih _ _ _ _ h)
      · have c2' : ((tokAt T i).f0 == 2) = false := by simpa using c2
        rw [if_neg c2] at h
        injection h with h; injection h with h1 h2
        subst h1 h2
        exact .done i ks (by simp only [c', c2']; rfl)
theorem DB_of (f : Nat) : ∀ i ks r, declB f T i ks = some r → DB T i ks r := by
  induction f with
  | zero => intro i ks r h; simp [declB] at h
  | succ f ih =>
    intro i ks r h
    rw [declB] at h
    by_cases c : isP T i ⟨#[125]⟩ = true
    · rw [if_pos c] at h; injection h with h; subst h; exact .done i ks c
    · have c' : isP T i ⟨#[125]⟩ = false := by simpa using c
      rw [if_neg c] at h
      cases hq : propP f T i with
      | none => rw [hq] at h; simp at h
      | some q =>
        rw [hq] at h
        match q, hq, h with
        | .error e, hq, h => simp only at h; injection h with h; subst h; exact .err i ks e c' (PP_of f _ _ hq)
        | .ok (v, j), hq, h => exact .more i ks v j r c' (PP_of f _ _ hq) (ih _ _ _ h)
theorem DP_of (f : Nat) (i : Nat) (r : PR PTr.S26) (h : declP f T i = some r) : DP T i r := by
  unfold declP at h
  by_cases c : ((tokAt T i).f0 == 0) = true
  · rw [if_pos c] at h
    refine .inr ⟨c, ?_⟩
    cases hq : declA f T (i + 1) [] with
    | none => rw [hq] at h; simp at h
    | some q =>
      obtain ⟨ks, j⟩ := q
      rw [hq] at h
      simp only at h
      refine ⟨ks, j, DA_of f _ _ _ _ hq, ?_⟩
      by_cases c2 : isP T j ⟨#[123]⟩ = true
      · rw [if_pos c2] at h
        refine .inr ⟨c2, ?_⟩
        cases hq2 : declB f T (j + 1) ks with
        | none => rw [hq2] at h; simp at h
        | some q =>
          rw [hq2] at h
          match q, hq2, h with
          | .error e, hq, h => simp only at h; injection h with h; exact .inl ⟨e, DB_of f _ _ _ hq, h.symm⟩
          | .ok (ks', j'), hq, h => simp only at h; injection h with h; exact .inr ⟨ks', j', DB_of f _ _ _ hq, h.symm⟩
      · rw [if_neg c2] at h; injection h with h
        exact .inl ⟨by simpa using c2, h.symm⟩
  · rw [if_neg c] at h; injection h with h
    exact .inl ⟨by simpa using c, h.symm⟩
theorem RL_of (f : Nat) : ∀ i ks r, rootL f T i ks = some r → RL T i ks r := by
  induction f with
  | zero => intro i ks r h; simp [rootL] at h
  | succ f ih =>
    intro i ks r h
    rw [rootL] at h
    by_cases c : ((tokAt T i).f0 == 4) = true
    · rw [if_pos c] at h; injection h with h; subst h; exact .done i ks c
    · have c' : ((tokAt T i).f0 == 4) = false := by simpa using c
      rw [if_neg c] at h
      cases hq : declP f T i with
      | none => rw [hq] at h; simp at h
      | some q =>
        rw [hq] at h
        match q, hq, h with
        | .error e, hq, h => simp only at h; injection h with h; subst h; exact .err i ks e c' (DP_of f _ _ hq)
        | .ok (v, j), hq, h => exact .more i ks v j r c' (DP_of f _ _ hq) (ih _ _ _ h)
def Goes (n : Nat) (α : Type) (i : Nat) (r : PR α) : Prop := (∀ v j, r = .ok (v, j) → i < j ∧ j ≤ n) ∧ (∀ e, r = .error e → Flt T n i e)
theorem PLoop.goes {n : Nat} {stop : Nat → Bool} {fin : Nat → Nat} {I : Nat → PR PTr.S26 → Prop} (hI : ∀ i r, I i r → i ≤ n → Goes (T := T) n _ i r) (hf : ∀ i, i ≤ n → stop i = true → i ≤ fin i ∧ fin i ≤ n)
    {i : Nat} {ks : List PTr.S26} {r : PR (List PTr.S26)} (h : PLoop stop fin I i ks r) : i ≤ n → (∀ v j, r = .ok (v, j) → i ≤ j ∧ j ≤ n) ∧ (∀ e, r = .error e → Flt T n i e) := by
  induction h with
  | done i ks h =>
    intro hi
    exact ⟨fun v j e => by injection e with e; injection e with _ e; subst e; exact hf i hi h, fun _ e => by cases e⟩
  | err i ks e h hi =>
    intro hin
    exact ⟨(fun _ _ e => by cases e), fun e' h' => by injection h' with h'; subst h'; exact (hI _ _ hi hin).2 _ rfl⟩
  | more i ks v j r h hi hr ih =>
    intro hin
    have h1 := (hI _ _ hi hin).1 _ _ rfl
    have h2 := ih h1.2
    exact ⟨fun v j' e => by have := h2.1 v j' e; omega, fun e he => (h2.2 e he).le (by omega)⟩
theorem PLoop.total {n : Nat} {stop : Nat → Bool} {fin : Nat → Nat} {I : Nat → PR PTr.S26 → Prop} (hI : ∀ i r, I i r → i ≤ n → Goes (T := T) n _ i r) (ht : ∀ i, i ≤ n → stop i = false → ∃ r, I i r) :
    ∀ m i ks, i ≤ n → n - i < m → ∃ r, PLoop stop fin I i ks r := by
  intro m
  induction m with
  | zero => intro i ks _ h; omega
  | succ m ih =>
    intro i ks hi hm
    cases c : stop i with
    | true => exact ⟨_, .done i ks c⟩
    | false =>
      obtain ⟨r, hr⟩ := ht i hi c
      match r, hr with
      | .error e, hr => exact ⟨_, .err i ks e c hr⟩
      | .ok (v, j), hr =>
        have h1 := (hI _ _ hr hi).1 _ _ rfl
        obtain ⟨r2, hr2⟩ := ih j (ks ++ [v]) h1.2 (by omega)
        exact ⟨_, .more i ks v j r2 c hr hr2⟩
variable {n : Nat} (hE : EndT T n)
include hE
theorem fin1 (s : ByteArray) (i : Nat) (hi : i ≤ n) (c : isP T i s = true) : i ≤ i + 1 ∧ i + 1 ≤ n := ⟨Nat.le_succ _, hE.next hi (by rw [isP_kind c]; decide)⟩
theorem PL.goes {i : Nat} {ks : List PTr.S26} {r : PR (List PTr.S26)} (h : PL T i ks r) (hi : i ≤ n) : (∀ v j, r = .ok (v, j) → i ≤ j ∧ j ≤ n) ∧ (∀ e, r = .error e → Flt T n i e) :=
  PLoop.goes (fun i r h hi => (vg_goes hE).1 i 0 r h hi) (fun i hi c => fin1 hE _ i hi c) h hi
theorem kind0 {i : Nat} (c : ((tokAt T i).f0 == 0) = true) (hi : i ≤ n) : i + 1 ≤ n := hE.next hi (by rw [show (tokAt T i).f0 = 0 by simpa using c]; decide)
theorem PP.goes {i : Nat} {r : PR PTr.S26} (h : PP T i r) (hi : i ≤ n) : Goes (T := T) n _ i r := by
  rcases h with ⟨c, rfl⟩ | ⟨c, ⟨e, h, rfl⟩ | ⟨ks, j, h, rfl⟩⟩
  · exact ⟨(fun _ _ e => by cases e), fun e h => by injection h with h; subst h; exact ⟨i, Nat.le_refl _, hi, rfl, .inl ⟨rfl, rfl⟩⟩⟩
  · exact ⟨(fun _ _ e => by cases e), fun e' h' => by injection h' with h'; subst h'; exact ((h.goes hE (kind0 hE c hi)).2 _ rfl).le (Nat.le_succ _)⟩
  · have := (h.goes hE (kind0 hE c hi)).1 _ _ rfl
    exact ⟨fun v j' h => by injection h with h; injection h with _ h; omega, fun _ h => by cases h⟩
theorem LP.goes {i : Nat} {r : PR PTr.S26} (h : LP T i r) (hi : i ≤ n) : Goes (T := T) n _ i r := by
  rcases h with ⟨c, rfl⟩ | ⟨c, c2, rfl⟩
  · have := kind0 hE c hi
    exact ⟨fun v j' h => by injection h with h; injection h with _ h; omega, fun _ h => by cases h⟩
  · have : i + 1 ≤ n := hE.next hi (by rw [show (tokAt T i).f0 = 2 by simpa using c2]; decide)
    exact ⟨fun v j' h => by injection h with h; injection h with _ h; omega, fun _ h => by cases h⟩
theorem DA.goes {i : Nat} {ks : List PTr.S26} {r : PR (List PTr.S26)} (h : DA T i ks r) (hi : i ≤ n) : (∀ v j, r = .ok (v, j) → i ≤ j ∧ j ≤ n) ∧ (∀ e, r = .error e → Flt T n i e) :=
  PLoop.goes (fun _ _ h hi => h.goes hE hi) (fun _ hi _ => ⟨Nat.le_refl _, hi⟩) h hi
theorem DB.goes {i : Nat} {ks : List PTr.S26} {r : PR (List PTr.S26)} (h : DB T i ks r) (hi : i ≤ n) : (∀ v j, r = .ok (v, j) → i ≤ j ∧ j ≤ n) ∧ (∀ e, r = .error e → Flt T n i e) :=
  PLoop.goes (fun _ _ h hi => h.goes hE hi) (fun i hi c => fin1 hE _ i hi c) h hi
theorem DP.goes {i : Nat} {r : PR PTr.S26} (h : DP T i r) (hi : i ≤ n) : Goes (T := T) n _ i r := by
  rcases h with ⟨c, rfl⟩ | ⟨c, ks, j, ha, hb⟩
  · exact ⟨(fun _ _ e => by cases e), fun e h => by injection h with h; subst h; exact ⟨i, Nat.le_refl _, hi, rfl, .inl ⟨rfl, rfl⟩⟩⟩
  · have h1 := (ha.goes hE (kind0 hE c hi)).1 _ _ rfl
    rcases hb with ⟨c2, rfl⟩ | ⟨c2, ⟨e, h, rfl⟩ | ⟨ks', j', h, rfl⟩⟩
    · exact ⟨(fun _ _ e => by cases e), fun e h => by injection h with h; subst h; exact ⟨j, by omega, h1.2, rfl, .inl ⟨rfl, rfl⟩⟩⟩
    · have h2 := fin1 hE _ j h1.2 c2
      exact ⟨(fun _ _ e => by cases e), fun e' h' => by injection h' with h'; subst h'; exact ((h.goes hE h2.2).2 _ rfl).le (by omega)⟩
    · have h2 := fin1 hE _ j h1.2 c2
      have := (h.goes hE h2.2).1 _ _ rfl
      exact ⟨fun v j' h => by injection h with h; injection h with _ h; omega, fun _ h => by cases h⟩
theorem RL.goes {i : Nat} {ks : List PTr.S26} {r : PR (List PTr.S26)} (h : RL T i ks r) (hi : i ≤ n) : (∀ v j, r = .ok (v, j) → i ≤ j ∧ j ≤ n) ∧ (∀ e, r = .error e → Flt T n i e) :=
  PLoop.goes (fun _ _ h hi => h.goes hE hi) (fun _ hi _ => ⟨Nat.le_refl _, hi⟩) h hi
theorem PL.total (i : Nat) (ks : List PTr.S26) (hi : i ≤ n) : ∃ r, PL T i ks r :=
  PLoop.total (fun i r h hi => (vg_goes hE).1 i 0 r h hi) (fun i hi _ => (vg_total hE (n + 1)).1 i 0 hi (by omega)) (n + 1) i ks hi (by omega)
theorem PP.total (i : Nat) (hi : i ≤ n) : ∃ r, PP T i r := by
  cases c : ((tokAt T i).f0 == 0) with
  | false => exact ⟨_, .inl ⟨c, rfl⟩⟩
  | true =>
    obtain ⟨r, hr⟩ := PL.total hE (i + 1) [] (kind0 hE c hi)
    match r, hr with
    | .error e, hr => exact ⟨_, .inr ⟨c, .inl ⟨e, hr, rfl⟩⟩⟩
    | .ok (ks, j), hr => exact ⟨_, .inr ⟨c, .inr ⟨ks, j, hr, rfl⟩⟩⟩
theorem DA.total (i : Nat) (ks : List PTr.S26) (hi : i ≤ n) : ∃ l j, DA T i ks (.ok (l, j)) := by
  obtain ⟨r, hr⟩ := PLoop.total (T := T) (stop := fun i => !((tokAt T i).f0 == 0) && !((tokAt T i).f0 == 2)) (fin := id) (I := LP T) (fun i r h hi => h.goes hE hi) (fun i hi c => by
    cases c0 : ((tokAt T i).f0 == 0) with
    | true => exact ⟨_, .inl ⟨c0, rfl⟩⟩
    | false =>
      cases c2 : ((tokAt T i).f0 == 2) with
      | true => exact ⟨_, .inr ⟨c0, c2, rfl⟩⟩
      | false => rw [c0, c2] at c; cases c) (n + 1) i ks hi (by omega)
  have : ∀ e, r ≠ .error e := by
    intro e he
    subst he
    generalize hq : (Except.error e : PR (List PTr.S26)) = q at hr
    induction hr with
    | done => cases hq
    | err _ _ _ _ h => rcases h with ⟨_, h⟩ | ⟨_, _, h⟩ <;> cases h
    | more i ks v j r h h1 h2 ih =>
      have h4 := (LP.goes hE h1 hi).1 _ _ rfl
      exact ih h4.2 hq
  match r, hr, this with
  | .ok (l, j), hr, _ => exact ⟨l, j, hr⟩
  | .error e, _, h => exact absurd rfl (h e)
theorem DB.total (i : Nat) (ks : List PTr.S26) (hi : i ≤ n) : ∃ r, DB T i ks r :=
  PLoop.total (fun i r h hi => h.goes hE hi) (fun i hi _ => PP.total hE i hi) (n + 1) i ks hi (by omega)
theorem DP.total (i : Nat) (hi : i ≤ n) : ∃ r, DP T i r := by
  cases c : ((tokAt T i).f0 == 0) with
  | false => exact ⟨_, .inl ⟨c, rfl⟩⟩
  | true =>
    obtain ⟨l, j, ha⟩ := DA.total hE (i + 1) [] (kind0 hE c hi)
    have h1 := (ha.goes hE (kind0 hE c hi)).1 _ _ rfl
    cases c2 : isP T j ⟨#[123]⟩ with
    | false => exact ⟨_, .inr ⟨c, l, j, ha, .inl ⟨c2, rfl⟩⟩⟩
    | true =>
      have h2 := fin1 hE _ j h1.2 c2
      obtain ⟨r, hr⟩ := DB.total hE (j + 1) l h2.2
      match r, hr with
      | .error e, hr => exact ⟨_, .inr ⟨c, l, j, ha, .inr ⟨c2, .inl ⟨e, hr, rfl⟩⟩⟩⟩
      | .ok (ks', j'), hr => exact ⟨_, .inr ⟨c, l, j, ha, .inr ⟨c2, .inr ⟨ks', j', hr, rfl⟩⟩⟩⟩
theorem RL.total (i : Nat) (ks : List PTr.S26) (hi : i ≤ n) : ∃ r, RL T i ks r :=
  PLoop.total (fun i r h hi => h.goes hE hi) (fun i hi _ => DP.total hE i hi) (n + 1) i ks hi (by omega)
end
end Go.Proofs.YtahjkibjcibpgaaGreatDoor.L
end
section
namespace Go.Proofs.YtahjkibjcibpgaaGreatDoor.L
open Go.Proofs.YtahjkibjcibpgaaGreatDoor.U
def firstB (k : PTr.S26) : List UInt8 := if k.f0 = 6 then [40] else if k.f0 = 4 then 34 :: (k.f1.data.toList ++ [34]) else k.f1.data.toList
inductive PlL (s : List UInt8) : List PTr.S26 → Int → Int → Prop
  | nil (a : Int) : PlL s [] a a
  | cons (k : PTr.S26) (r : List PTr.S26) (a m b : Int) (h1 : a ≤ k.f3) (h0 : 0 ≤ k.f3) (h2 : firstB k <+: s.drop k.f3.toNat) (h2' : k.f3 < s.length) (h3 : k.f0 = 5 → ∃ c, s[k.f3.toNat]? = some c ∧ isDig c = true)
      (hk : PlL s k.f4 (k.f3 + 1) m) (hr : PlL s r m b) : PlL s (k :: r) a b
theorem PlL.append {s : List UInt8} {l r : List PTr.S26} {a m b : Int} (h : PlL s l a m) (h' : PlL s r m b) : PlL s (l ++ r) a b := by
  generalize hl : l = l' at h
  induction h generalizing l with
  | nil a => exact h'
  | cons k q a m' b h1 h0 h2 h2' h3 hk hr ih1 ih2 => exact .cons k _ a m' _ h1 h0 h2 h2' h3 hk (ih2 h' rfl)
structure Src (s : List UInt8) (T : List PTr.S41) (n : Nat) : Prop where
  hE : EndT T n
  asc : ∀ i j, i < j → j ≤ n → (tokAt T i).f2 < (tokAt T j).f2
  pos : ∀ i, i < n → 0 ≤ (tokAt T i).f2 ∧ (tokAt T i).f2 < s.length
  nn : ∀ i, n = i → 0 ≤ (tokAt T i).f2
  raw : ∀ i, i < n → (if (tokAt T i).f0 = 2 then 34 :: ((tokAt T i).f1.data.toList ++ [34]) else (tokAt T i).f1.data.toList) <+: s.drop (tokAt T i).f2.toNat
  dig : ∀ i, i < n → (tokAt T i).f0 = 1 → ∃ c, s[(tokAt T i).f2.toNat]? = some c ∧ isDig c = true
section
variable {s : List UInt8} {T : List PTr.S41} {n : Nat} (S : Src s T n)
theorem isP_text {i : Nat} {x : List UInt8} (c : isP T i ⟨x.toArray⟩ = true) : (tokAt T i).f1.data.toList = x := by
  unfold isP at c
  simp only [Bool.and_eq_true, beq_iff_eq] at c
  have := c.2
  rw [ByteArray.toList_eq, ByteArray.toList_eq] at this
  rw [this]
def One (s : List UInt8) (T : List PTr.S41) (i : Nat) (r : PR PTr.S26) : Prop := ∀ v j, r = .ok (v, j) → ∀ a, a ≤ (tokAt T i).f2 → ∃ b, PlL s [v] a b ∧ b ≤ (tokAt T j).f2
theorem One.err {i : Nat} {e : Int × Int} : One s T i (.error e) := fun _ _ h => by cases h
include S
theorem Src.step {i j : Nat} (h : i < j) (hj : j ≤ n) : (tokAt T i).f2 + 1 ≤ (tokAt T j).f2 := S.asc i j h hj
theorem Src.leaf {i : Nat} (hi : i < n) (k : Int) (hk : (k = 3 ∧ (tokAt T i).f0 = 0) ∨ (k = 4 ∧ (tokAt T i).f0 = 2)) : One s T i (.ok (leafN k (tokAt T i), i + 1)) := by
  intro v j e a ha
  injection e with e; injection e with e1 e2
  subst e1 e2
  refine ⟨(tokAt T i).f2 + 1, .cons _ _ a _ _ ha (S.pos i hi).1 ?_ (S.pos i hi).2 ?_ (.nil _) (.nil _), S.step (Nat.lt_add_one i) hi⟩
  · have := S.raw i hi
    rcases hk with ⟨rfl, h0⟩ | ⟨rfl, h0⟩
    · rw [if_neg (by rw [h0]; decide)] at this
      exact this
    · rw [if_pos h0] at this
      exact this
  · intro h
    rcases hk with ⟨rfl, _⟩ | ⟨rfl, _⟩
    · exact absurd (show (3 : Int) = 5 from h) (by decide)
    · exact absurd (show (4 : Int) = 5 from h) (by decide)
theorem Src.amount {i : Nat} (hi : i ≤ n) : One s T i (amountP T i) := by
  intro v j e a ha
  have hg := (amountP_goes S.hE hi).1 v j e
  unfold amountP at e
  by_cases c : ((tokAt T i).f0 == 1) = true
  · rw [if_pos c] at e
    have hk : (tokAt T i).f0 = 1 := by simpa using c
    have h1 := S.hE.next hi (by rw [hk]; decide)
    generalize amt (tokAt T i).f1.data.toList (unitP T (i + 1)).1.data.toList = x at e
    obtain ⟨p, q, er⟩ := x
    simp only at e
    by_cases c3 : er = 0
    · rw [if_pos c3] at e
      injection e with e; injection e with e1 e2
      subst e1
      exact ⟨(tokAt T i).f2 + 1, .cons _ _ a _ _ ha (S.pos i h1).1 (List.nil_prefix) (S.pos i h1).2 (fun _ => S.dig i h1 hk) (.nil _) (.nil _), S.step hg.1 hg.2⟩
    · rw [if_neg c3] at e; cases e
  · rw [if_neg c] at e; cases e
theorem Src.vg :
    (∀ i d r, V T i d r → i ≤ n → One s T i r) ∧
    (∀ i d sg ks r, G T i d sg ks r → i ≤ n → ∀ l j, r = .ok (l, j) → ∃ m, l = ks ++ m ∧ ∀ a, a ≤ (tokAt T i).f2 + 1 → ∃ b, PlL s m a b ∧ b ≤ (tokAt T j).f2) := by
  refine vg_ind T (fun i _ r => i ≤ n → One s T i r) (fun i _ _ ks r => i ≤ n → ∀ l j, r = .ok (l, j) → ∃ m, l = ks ++ m ∧ ∀ a, a ≤ (tokAt T i).f2 + 1 → ∃ b, PlL s m a b ∧ b ≤ (tokAt T j).f2) ?_ ?_ ?_ ?_ ?_ ?_ ?_ ?_ ?_ ?_
  · intro i _ _; exact One.err
  · intro i d e _ _ _ _ _; exact One.err
  · intro i d ks j c hd hg ih c2 hi v j' e a ha
    injection e with e; injection e with e1 e2
    subst e1 e2
    have h1 := S.hE.next hi (by rw [isP_kind c]; decide)
    have hj := ((vg_goes S.hE).2 _ _ _ _ _ hg hi).1 _ _ rfl
    have hj2 := S.hE.next hj.2 (by rw [isP_kind c2]; decide)
    obtain ⟨m, hm, hp⟩ := ih hi _ _ rfl
    rw [List.nil_append] at hm
    subst hm
    obtain ⟨b, hb, hle⟩ := hp _ (Int.le_refl _)
    refine ⟨b, .cons _ _ a _ _ ha (S.pos i h1).1 ?_ (S.pos i h1).2 (fun h => absurd (show (6 : Int) = 5 from h) (by decide)) hb (.nil _), ?_⟩
    · have h2 := S.raw i h1
      rw [if_neg (by rw [isP_kind c]; decide)] at h2
      rw [isP_text c] at h2
      exact h2
    · have := S.step (Nat.lt_add_one j) hj2
      omega
  · intro i d _ c hi
    have hk : (tokAt T i).f0 = 0 := by simpa using c
    exact S.leaf (S.hE.next hi (by rw [hk]; decide)) 3 (.inl ⟨rfl, hk⟩)
  · intro i d _ _ c hi
    have hk : (tokAt T i).f0 = 2 := by simpa using c
    exact S.leaf (S.hE.next hi (by rw [hk]; decide)) 4 (.inr ⟨rfl, hk⟩)
  · intro i d _ _ _ hi
    exact S.amount hi
  · intro i d sg ks _ _ l j e; cases e
  · intro i d sg ks e _ _ _ _ l j e; cases e
  · intro i d sg ks v j c hv ih c2 hi l j' e
    injection e with e; injection e with e1 e2
    subst e1 e2
    have h1 : i + 1 ≤ n := S.hE.next hi (by rw [isP_kind c]; decide)
    refine ⟨[v], rfl, fun a ha => ?_⟩
    exact ih h1 v j rfl a (by have := S.step (Nat.lt_add_one i) h1; omega)
  · intro i d sg ks v j r c hv ih c2 hg ih2 hi l j' e
    have h1 : i + 1 ≤ n := S.hE.next hi (by rw [isP_kind c]; decide)
    have h2 := ((vg_goes S.hE).1 _ _ _ hv h1).1 _ _ rfl
    obtain ⟨m, hm, hp⟩ := ih2 h2.2 l j' e
    refine ⟨v :: m, by rw [hm]; simp, fun a ha => ?_⟩
    obtain ⟨b, hb, hle⟩ := ih h1 v j rfl a (by have := S.step (Nat.lt_add_one i) h1; omega)
    obtain ⟨b2, hb2, hle2⟩ := hp b (by omega)
    exact ⟨b2, hb.append hb2, hle2⟩
omit S in
theorem Src.loop {stop : Nat → Bool} {fin : Nat → Nat} {I : Nat → PR PTr.S26 → Prop} (hg : ∀ i r, I i r → i ≤ n → Goes (T := T) n _ i r) (hI : ∀ i r, I i r → i ≤ n → One s T i r)
    (hf : ∀ i, i ≤ n → stop i = true → (tokAt T i).f2 ≤ (tokAt T (fin i)).f2) {i : Nat} {ks : List PTr.S26} {r : PR (List PTr.S26)} (h : PLoop stop fin I i ks r) : i ≤ n →
    ∀ l j, r = .ok (l, j) → ∃ m, l = ks ++ m ∧ ∀ a, a ≤ (tokAt T i).f2 → ∃ b, PlL s m a b ∧ b ≤ (tokAt T j).f2 := by
  induction h with
  | done i ks h =>
    intro hi l j e
    injection e with e; injection e with e1 e2
    subst e1 e2
    exact ⟨[], by simp, fun a ha => ⟨a, .nil a, by have := hf i hi h; omega⟩⟩
  | err i ks e h hi => intro _ _ _ e; cases e
  | more i ks v j r h hi hr ih =>
    intro hin l j' e
    have h2 := (hg _ _ hi hin).1 _ _ rfl
    obtain ⟨m, hm, hp⟩ := ih h2.2 l j' e
    refine ⟨v :: m, by rw [hm]; simp, fun a ha => ?_⟩
    obtain ⟨b, hb, hle⟩ := hI _ _ hi hin v j rfl a ha
    obtain ⟨b2, hb2, hle2⟩ := hp b hle
    exact ⟨b2, hb.append hb2, hle2⟩
theorem Src.sign (sg : ByteArray) (i : Nat) (hi : i ≤ n) (c : isP T i sg = true) : (tokAt T i).f2 ≤ (tokAt T (i + 1)).f2 := by
  have := S.step (Nat.lt_add_one i) (fin1 S.hE sg i hi c).2
  omega
theorem Src.node {i j : Nat} (hi : i < n) (h0 : (tokAt T i).f0 = 0) (k : Int) (hk : k = 1 ∨ k = 2) (ks : List PTr.S26) (hp : ∀ a, a ≤ (tokAt T (i + 1)).f2 → ∃ b, PlL s ks a b ∧ b ≤ (tokAt T j).f2) : One s T i (.ok (⟨k, (tokAt T i).f1, ⟨0, 0⟩, (tokAt T i).f2, ks⟩, j)) := by
  intro v j' e a ha
  injection e with e; injection e with e1 e2
  subst e1 e2
  obtain ⟨b, hb, hle⟩ := hp ((tokAt T i).f2 + 1) (S.step (Nat.lt_add_one i) hi)
  refine ⟨b, .cons _ _ a _ _ ha (S.pos i hi).1 ?_ (S.pos i hi).2 ?_ hb (.nil _), hle⟩
  · have := S.raw i hi
    rw [if_neg (by rw [h0]; decide)] at this
    rcases hk with rfl | rfl <;> exact this
  · intro h
    rcases hk with rfl | rfl
    · exact absurd (show (1 : Int) = 5 from h) (by decide)
    · exact absurd (show (2 : Int) = 5 from h) (by decide)
theorem Src.pp (i : Nat) (r : PR PTr.S26) (h : PP T i r) (hi : i ≤ n) : One s T i r := by
  rcases h with ⟨c, rfl⟩ | ⟨c, ⟨e, h, rfl⟩ | ⟨ks, j, h, rfl⟩⟩
  · exact One.err
  · exact One.err
  · have h1 := kind0 S.hE c hi
    obtain ⟨m, hm, hp⟩ := Src.loop (I := fun i r => V T i 0 r) (fun i r h hi => (vg_goes S.hE).1 i 0 r h hi) (fun i r h hi => S.vg.1 i 0 r h hi) (fun i hi c => S.sign _ i hi c) h h1 _ _ rfl
    rw [List.nil_append] at hm
    subst hm
    exact S.node h1 (by simpa using c) 2 (.inr rfl) _ hp
theorem Src.dp (i : Nat) (r : PR PTr.S26) (h : DP T i r) (hi : i ≤ n) : One s T i r := by
  rcases h with ⟨c, rfl⟩ | ⟨c, ks, j, ha, ⟨c2, rfl⟩ | ⟨c2, ⟨e, h, rfl⟩ | ⟨ks', j', h, rfl⟩⟩⟩
  · exact One.err
  · exact One.err
  · exact One.err
  · have h1 := kind0 S.hE c hi
    have h2 := (DA.goes S.hE ha h1).1 _ _ rfl
    have h3 := fin1 S.hE _ j h2.2 c2
    obtain ⟨m, hm, hp⟩ := Src.loop (I := LP T) (fun _ _ h hi => h.goes S.hE hi) (fun i r h hi => by
      rcases h with ⟨c, rfl⟩ | ⟨c0, c, rfl⟩
      · have hk : (tokAt T i).f0 = 0 := by simpa using c
        exact S.leaf (S.hE.next hi (by rw [hk]; decide)) 3 (.inl ⟨rfl, hk⟩)
      · have hk : (tokAt T i).f0 = 2 := by simpa using c
        exact S.leaf (S.hE.next hi (by rw [hk]; decide)) 4 (.inr ⟨rfl, hk⟩)) (fun _ _ _ => Int.le_refl _) ha h1 _ _ rfl
    obtain ⟨m2, hm2, hp2⟩ := Src.loop (I := PP T) (fun _ _ h hi => h.goes S.hE hi) S.pp (fun i hi c => S.sign _ i hi c) h h3.2 _ _ rfl
    rw [List.nil_append] at hm
    subst hm
    subst hm2
    refine S.node h1 (by simpa using c) 1 (.inl rfl) _ (fun a ha => ?_)
    obtain ⟨b, hb, hle⟩ := hp a ha
    have := S.step (Nat.lt_add_one j) h3.2
    obtain ⟨b2, hb2, hle2⟩ := hp2 b (by omega)
    exact ⟨b2, hb.append hb2, hle2⟩
theorem Src.rl {l : List PTr.S26} {j : Nat} (h : RL T 0 [] (.ok (l, j))) : ∃ b, PlL s l 0 b := by
  obtain ⟨m, hm, hp⟩ := Src.loop (I := DP T) (fun _ _ h hi => h.goes S.hE hi) S.dp (fun _ _ _ => Int.le_refl _) h (Nat.zero_le _) _ _ rfl
  rw [List.nil_append] at hm
  subst hm
  obtain ⟨b, hb, _⟩ := hp 0 (by
    rcases Nat.eq_zero_or_pos n with h0 | h0
    · exact S.nn 0 h0
    · exact (S.pos 0 h0).1)
  exact ⟨b, hb⟩
end
end Go.Proofs.YtahjkibjcibpgaaGreatDoor.L
end
section
namespace Go.Proofs.YtahjkibjcibpgaaGreatDoor.U
theorem cut_nil : Lib.cut [] [46] = ([], [], false) := rfl
theorem cut_cons (c : UInt8) (r : List UInt8) (hc : c ≠ 46) : Lib.cut (c :: r) [46] = (c :: (Lib.cut r [46]).1, (Lib.cut r [46]).2.1, (Lib.cut r [46]).2.2) := by
  have hge := Lib.index_ge r [46]
  have hp : ([46] : List UInt8).isPrefixOf (c :: r) = false := by
    simp [List.isPrefixOf]
    exact fun h => hc h.symm
  have h : Lib.index (c :: r) [46] = if Lib.index r [46] == -1 then -1 else Lib.index r [46] + 1 := by
    conv => lhs; unfold Lib.index
    rw [hp]; rfl
  unfold Lib.cut
  rw [h]
  by_cases hm : Lib.index r [46] = -1
  · rw [hm]; simp
  · have hm' : (Lib.index r [46] == -1) = false := by simpa using hm
    rw [hm']
    have h0 : 0 ≤ Lib.index r [46] := by omega
    simp only [Bool.false_eq_true, if_false, h0, if_true]
    rw [if_pos (by omega)]
    have e : (Lib.index r [46] + 1).toNat = (Lib.index r [46]).toNat + 1 := by omega
    rw [e, List.take_succ_cons]
    have e2 : (Lib.index r [46]).toNat + 1 + [(46 : UInt8)].length = ((Lib.index r [46]).toNat + [(46 : UInt8)].length) + 1 := by omega
    rw [e2, List.drop_succ_cons]
theorem dig_ne_dot {c : UInt8} (h : isDig c = true) : c ≠ 46 := by
  rintro rfl; revert h; decide
theorem cut_digits (l m : List UInt8) (h : l.all isDig = true) : Lib.cut (l ++ m) [46] = (l ++ (Lib.cut m [46]).1, (Lib.cut m [46]).2.1, (Lib.cut m [46]).2.2) := by
  induction l with
  | nil => rfl
  | cons c r ih =>
    simp only [List.all_cons, Bool.and_eq_true] at h
    rw [List.cons_append, cut_cons c _ (dig_ne_dot h.1), ih h.2]
    rfl
theorem cut_all_digits (l : List UInt8) (h : l.all isDig = true) : Lib.cut l [46] = (l, [], false) := by
  have := cut_digits l [] h
  rw [List.append_nil] at this
  rw [this, cut_nil]; simp
def good (l : List UInt8) : Bool := digsOk (Lib.cut l [46]).1 20 && (!(Lib.cut l [46]).2.2 || digsOk (Lib.cut l [46]).2.1 9)
theorem amt_good (l name : List UInt8) (h : good l = true) : amt l name = match unitOf name with
    | none => (0, 0, 6)
    | some (dim, num, den) => amtOf (val (Lib.cut l [46]).1) (val (Lib.cut l [46]).2.1) (Lib.cut l [46]).2.1.length dim num den := by
  unfold good at h
  unfold amt
  have : (!digsOk (Lib.cut l [46]).1 20 || (Lib.cut l [46]).2.2 && !digsOk (Lib.cut l [46]).2.1 9) = false := by
    revert h
    cases digsOk (Lib.cut l [46]).1 20 <;> cases (Lib.cut l [46]).2.2 <;> cases digsOk (Lib.cut l [46]).2.1 9 <;> simp
  simp only [this]
  rfl
theorem decDigits_all (n : Nat) : (Lib.decDigits n).all isDig = true := by
  induction n using Nat.strongRecOn with
  | _ n ih =>
    have hd : ∀ m, m < 10 → isDig (UInt8.ofNat (48 + m)) = true := by decide
    rw [Lib.decDigits]
    split
    · rw [List.all_cons, hd n ‹_›]; rfl
    · rw [List.all_append, ih (n / 10) (by omega)]
      rw [List.all_cons, hd (n % 10) (Nat.mod_lt _ (by omega))]; rfl
theorem decDigits_val (n : Nat) : val (Lib.decDigits n) = n := by
  induction n using Nat.strongRecOn with
  | _ n ih =>
    have hd : ∀ m, m < 10 → (UInt8.ofNat (48 + m)).toNat - 48 = m := by decide
    rw [Lib.decDigits]
    split
    · unfold val; rw [valFrom_cons, hd n ‹_›, valFrom_nil]; omega
    · rw [val_append, ih (n / 10) (by omega)]
      unfold val; rw [valFrom_cons, hd (n % 10) (Nat.mod_lt _ (by omega)), valFrom_nil]
      simp; omega
theorem nDigits20 (n : Nat) (h : n < 100000000000000000000) : Lib.nDigits n ≤ 20 := by
  rcases Nat.lt_or_ge 20 (Lib.nDigits n) with h1 | h1
  · exfalso
    have key : ∀ (k m : Nat), k + 1 ≤ Lib.nDigits m → 1 ≤ k → 10 ^ k ≤ m := by
      intro k
      induction k with
      | zero => intro m _ h; omega
      | succ k ih =>
        intro m hm _
        have hb : ¬ m < 10 := fun h => by rw [Lib.nDigits_small h] at hm; omega
        rw [Lib.nDigits_big hb] at hm
        rcases Nat.eq_zero_or_pos k with rfl | hk
        · simp; omega
        · have := ih (m / 10) (by omega) hk
          rw [Nat.pow_succ]
          omega
    have := key 20 n (by omega) (by omega)
    omega
  · exact h1
theorem good_dec (n : Nat) (h : n < 100000000000000000000) : good (Lib.decDigits n) = true := by
  have h1 := decDigits_all n
  have h2 := nDigits20 n h
  have h3 := Lib.nDigits_pos n
  have h4 := Lib.decDigits_length n
  unfold good
  rw [cut_all_digits _ h1]
  simp only [Bool.not_false, Bool.true_or, Bool.and_true]
  unfold digsOk
  rw [h1]
  have : (Lib.decDigits n).isEmpty = false := by
    cases hh : Lib.decDigits n with
    | nil => rw [hh] at h4; simp at h4; omega
    | cons => rfl
  rw [this]
  simp; omega
theorem amt_dec (n : Nat) (h : n < 100000000000000000000) (name : List UInt8) : amt (Lib.decDigits n) name = match unitOf name with
    | none => (0, 0, 6)
    | some (dim, num, den) => amtOf n 0 0 dim num den := by
  rw [amt_good _ _ (good_dec n h), cut_all_digits _ (decDigits_all n)]
  simp only [decDigits_val]
  rfl
end Go.Proofs.YtahjkibjcibpgaaGreatDoor.U
end
