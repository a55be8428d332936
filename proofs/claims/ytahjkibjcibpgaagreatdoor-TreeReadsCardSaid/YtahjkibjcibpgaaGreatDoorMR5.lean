/- What this claim's texts prove on the way, joined by program (wip/tools/merge.py), without what no text of the claim names. -/
import Derived.Test.YtahjkibjcibpgaaGreatDoorMR4
section
namespace Go.Proofs.YtahjkibjcibpgaaGreatDoor.L
open Go.RowKit Go.Proofs.YtahjkibjcibpgaaGreatDoor.U Go.Proofs.YtahjkibjcibpgaaGreatDoorW.PrintWords Go.Proofs.YtahjkibjcibpgaaGreatDoor.PTr
theorem SameL.len {a b : List PTr.S26} (h : SameL a b) : a.length = b.length := by
  induction h with
  | nil => rfl
  | cons k k2 r r2 h0 h1 h2 hk hr _ ih => rw [List.length_cons, List.length_cons, ih]
theorem same_l0 {a b : List PTr.S26} (h : SameL a b) : ∀ (pre pre2 : List PTr.S26) (x0 : Int) (x1 : ByteArray) (x2 x3 x4 : Int) (y0 : Int) (y1 : ByteArray) (y2 y3 y4 : Int), pre.length = pre2.length → wtVs (pre ++ a) < 1000000000 →
    Ev (fun k => bournelaw15_same.l0 k (pre.length : Int) x0 x1 x2 x3 x4 (pre ++ a) y0 y1 y2 y3 y4 (pre2 ++ b)) true := by
  induction h with
  | nil =>
    intro pre pre2 x0 x1 x2 x3 x4 y0 y1 y2 y3 y4 hl _
    refine Ev.step (f := fun _ => some true) (fun k => ?_) (Ev.now _)
    simp only [bournelaw15_same.l0]
    rw [if_neg (by simp)]
  | cons k k2 r r2 h0 h1 h2 hk hr ihk ihr =>
    intro pre pre2 x0 x1 x2 x3 x4 y0 y1 y2 y3 y4 hl hw
    have hlen := wtVs_len (pre ++ k :: r)
    have hw2 := hw
    rw [wtVs_app, wtVs_cons, wtV_eq] at hw2
    have hl1 : (pre ++ k :: r).length = pre.length + 1 + r.length := by simp; omega
    have hl2 : (pre2 ++ k2 :: r2).length = pre2.length + 1 + r2.length := by simp; omega
    have hrd := rd_at pre k r
    have hrd2 : PTr.rd_T26 (pre2 ++ k2 :: r2) (pre.length : Int) = k2 := by rw [hl]; exact rd_at pre2 k2 r2
    have hkl := hk.len
    have h5 := ihk [] [] k.f0 k.f1 k.f2.f0 k.f2.f1 k.f3 k2.f0 k2.f1 k2.f2.f0 k2.f2.f1 k2.f3 rfl (by rw [List.nil_append]; omega)
    rw [List.nil_append, List.nil_append] at h5
    have h6 := ihr (pre ++ [k]) (pre2 ++ [k2]) x0 x1 x2 x3 x4 y0 y1 y2 y3 y4 (by simp [hl]) (by rw [List.append_assoc]; exact hw)
    rw [List.append_assoc, List.append_assoc, List.singleton_append, List.singleton_append, show (pre ++ [k]).length = pre.length + 1 by simp] at h6
    have hf : Ev (fun n => bournelaw15_same.f n k.f0 k.f1 k.f2.f0 k.f2.f1 k.f3 k.f4 k2.f0 k2.f1 k2.f2.f0 k2.f2.f1 k2.f3 k2.f4) true := by
      refine Ev.step (f := fun n => bournelaw15_same.j0 n false k.f0 k.f1 k.f2.f0 k.f2.f1 k.f3 k.f4 k2.f0 k2.f1 k2.f2.f0 k2.f2.f1 k2.f3 k2.f4) (fun n => ?_) (Ev.step (fun n => ?_) h5)
      · simp only [bournelaw15_same.f, h0, h1, h2]
        rw [if_pos trivial, if_pos trivial, if_neg (by simp), show ((k.f4.length : Int) != (k2.f4.length : Int)) = false by rw [hkl]; simp]
      · simp only [bournelaw15_same.j0, Bool.false_eq_true, if_false]
        rfl
    refine Ev.step (f := fun n => (bournelaw15_same.f n k.f0 k.f1 k.f2.f0 k.f2.f1 k.f3 k.f4 k2.f0 k2.f1 k2.f2.f0 k2.f2.f1 k2.f3 k2.f4).bind fun t166 => if t166 = true then bournelaw15_same.l0 n ((pre.length + 1 : Nat) : Int) x0 x1 x2 x3 x4 (pre ++ k :: r) y0 y1 y2 y3 y4 (pre2 ++ k2 :: r2) else some false) (fun n => ?_) (Ev.bind hf (by simpa using h6))
    simp only [bournelaw15_same.l0, hrd, hrd2]
    rw [if_pos (by omega), if_pos (by omega), if_pos (by omega), wrap_nat _ (by omega)]
theorem same_root {a b : List PTr.S26} (h : SameL a b) (hw : wtVs a < 1000000000) : Ev (fun k => bournelaw15_same.f k 0 ⟨#[]⟩ 0 0 0 a 0 ⟨#[]⟩ 0 0 0 b) true := by
  have h5 := same_l0 h [] [] 0 ⟨#[]⟩ 0 0 0 0 ⟨#[]⟩ 0 0 0 rfl (by rw [List.nil_append]; exact hw)
  rw [List.nil_append, List.nil_append] at h5
  refine Ev.step (f := fun n => bournelaw15_same.j0 n false 0 ⟨#[]⟩ 0 0 0 a 0 ⟨#[]⟩ 0 0 0 b) (fun n => ?_) (Ev.step (fun n => ?_) h5)
  · simp only [bournelaw15_same.f]
    rw [if_pos trivial, if_pos trivial, if_neg (by simp), show ((a.length : Int) != (b.length : Int)) = false by rw [h.len]; simp]
  · simp only [bournelaw15_same.j0, Bool.false_eq_true, if_false]
    rfl
def cost (t : PTr.S41) : Nat := t.f1.size + 31
def cs (T : List PTr.S41) (i : Nat) : Nat := ((T.take i).map cost).sum
theorem cs_step {T : List PTr.S41} {i : Nat} (h : i < T.length) : cs T (i + 1) = cs T i + cost (tokAt T i) := by
  unfold cs
  rw [List.take_succ_eq_append_getElem h, List.map_append, List.sum_append, tokAt_of h]
  simp
theorem cs_mono {T : List PTr.S41} {i j : Nat} (h : i ≤ j) : cs T i ≤ cs T j := by
  obtain ⟨d, rfl⟩ : ∃ d, j = i + d := ⟨j - i, by omega⟩
  induction d with
  | zero => exact Nat.le_refl _
  | succ d ih =>
    have ih := ih (by omega)
    rcases Nat.lt_or_ge (i + d) T.length with h1 | h1
    · have := cs_step h1
      rw [← Nat.add_assoc]; omega
    · have e : cs T (i + (d + 1)) = cs T (i + d) := by unfold cs; rw [List.take_of_length_le (by omega), List.take_of_length_le (by omega)]
      rw [e]; exact ih
theorem cs_next (T : List PTr.S41) (i : Nat) : cs T i ≤ cs T (i + 1) := cs_mono (by omega)
section
variable {T : List PTr.S41} {n : Nat} (hE : EndT T n)
include hE
theorem cs_tok {i j : Nat} (h : i < n) (hj : i < j) : cs T i + ((tokAt T i).f1.size + 31) ≤ cs T j := by
  have h1 := cs_step (T := T) (i := i) (by have := hE.1; omega)
  have h2 := cs_mono (T := T) (i := i + 1) (j := j) hj
  unfold cost at h1
  omega
theorem leaf_cost {i : Nat} (h : i < n) (k : Int) : cs T i + wrV (leafN k (tokAt T i)) ≤ cs T (i + 1) := by
  have := cs_tok hE h (show i < i + 1 by omega)
  rw [wrV_eq]
  unfold leafN
  simp only [wrVs_nil]
  omega
theorem amount_cost {i : Nat} (hi : i ≤ n) (v : PTr.S26) (j : Nat) (h : amountP T i = .ok (v, j)) : cs T i + wrV v ≤ cs T j := by
  have hgo := (amountP_goes hE hi).1 v j h
  unfold amountP at h
  by_cases c : ((tokAt T i).f0 == 1) = true
  · rw [if_pos c] at h
    have h1 := hE.next hi (by rw [show (tokAt T i).f0 = 1 by simpa using c]; decide)
    have h2 := cs_tok hE h1 hgo.1
    generalize amt (tokAt T i).f1.data.toList (unitP T (i + 1)).1.data.toList = x at h
    obtain ⟨a, b, e⟩ := x
    simp only at h
    by_cases c3 : e = 0
    · rw [if_pos c3] at h
      injection h with h; injection h with h3 h4
      rw [← h3, wrV_eq]
      simp only [wrVs_nil]
      have : (⟨#[]⟩ : ByteArray).size = 0 := rfl
      omega
    · rw [if_neg c3] at h; cases h
  · rw [if_neg c] at h; cases h
theorem vg_cost :
    (∀ i d r, V T i d r → i ≤ n → ∀ v j, r = .ok (v, j) → cs T i + wrV v ≤ cs T j) ∧
    (∀ i d s ks r, G T i d s ks r → i ≤ n → ∀ l j, r = .ok (l, j) → ∃ m, l = ks ++ m ∧ cs T i + wrVs m ≤ cs T j) := by
  refine vg_ind T (fun i _ r => i ≤ n → ∀ v j, r = .ok (v, j) → cs T i + wrV v ≤ cs T j)
    (fun i _ _ ks r => i ≤ n → ∀ l j, r = .ok (l, j) → ∃ m, l = ks ++ m ∧ cs T i + wrVs m ≤ cs T j) ?_ ?_ ?_ ?_ ?_ ?_ ?_ ?_ ?_ ?_
  · intro i _ _ v j e; cases e
  · intro i d er _ _ _ _ _ v j e; cases e
  · intro i d ks j c hd hG ih c2 hi v j' e
    injection e with e; injection e with e1 e2
    subst e1 e2
    obtain ⟨m, hm, h1⟩ := ih hi _ _ rfl
    rw [List.nil_append] at hm
    subst hm
    have h2 := ((vg_goes hE).2 _ _ _ _ _ hG hi).1 _ _ rfl
    have h3 := hE.next h2.2 (by rw [isP_kind c2]; decide)
    have h4 := cs_tok hE h3 (show j < j + 1 by omega)
    rw [wrV_eq]
    simp only
    have : (⟨#[]⟩ : ByteArray).size = 0 := rfl
    omega
  · intro i d _ c hi v j e
    injection e with e; injection e with e1 e2
    subst e1 e2
    exact leaf_cost hE (kind0 hE c hi) 3
  · intro i d _ _ c hi v j e
    injection e with e; injection e with e1 e2
    subst e1 e2
    exact leaf_cost hE (hE.next hi (by rw [show (tokAt T i).f0 = 2 by simpa using c]; decide)) 4
  · intro i d _ _ _ hi v j e
    exact amount_cost hE hi v j e
  · intro i d s ks _ _ l j e; cases e
  · intro i d s ks e _ _ _ _ l j e; cases e
  · intro i d s ks v j c hv ih c2 hi l j' e
    injection e with e; injection e with e1 e2
    subst e1 e2
    have h1 := (fin1 hE s i hi c).2
    have h2 := ih h1 v _ rfl
    have h3 := cs_next T i
    exact ⟨[v], rfl, by rw [wrVs_cons, wrVs_nil]; omega⟩
  · intro i d s ks v j r c hv ih c2 hgr ih2 hi l j' e
    have h1 := (fin1 hE s i hi c).2
    have h2 := ((vg_goes hE).1 _ _ _ hv h1).1 _ _ rfl
    obtain ⟨m, hm, h3⟩ := ih2 h2.2 l j' e
    have h4 := ih h1 v j rfl
    have h5 := cs_next T i
    exact ⟨v :: m, by rw [hm]; simp, by rw [wrVs_cons]; omega⟩
omit hE in
theorem loop_cost {stop : Nat → Bool} {fin : Nat → Nat} {I : Nat → PR PTr.S26 → Prop} (hgo : ∀ i r, I i r → i ≤ n → Goes (T := T) n _ i r) (hI : ∀ i r, I i r → i ≤ n → ∀ v j, r = .ok (v, j) → cs T i + wrV v ≤ cs T j) (hf : ∀ i, i ≤ fin i)
    {i : Nat} {ks : List PTr.S26} {r : PR (List PTr.S26)} (h : PLoop stop fin I i ks r) : i ≤ n → ∀ l j, r = .ok (l, j) → ∃ m, l = ks ++ m ∧ cs T i + wrVs m ≤ cs T j := by
  induction h with
  | done i ks h =>
    intro _ l j e
    injection e with e; injection e with e1 e2
    subst e1 e2
    exact ⟨[], by simp, by rw [wrVs_nil]; exact cs_mono (hf i)⟩
  | err i ks e h hi => intro _ _ _ e; cases e
  | more i ks v j r h hi hr ih =>
    intro hin l j' e
    have h2 := (hgo _ _ hi hin).1 _ _ rfl
    obtain ⟨m, hm, ho⟩ := ih h2.2 l j' e
    have h3 := hI _ _ hi hin v j rfl
    exact ⟨v :: m, by rw [hm]; simp, by rw [wrVs_cons]; omega⟩
theorem node_cost {i j : Nat} (h : i < n) (k : Int) (ks : List PTr.S26) (h1 : cs T (i + 1) + wrVs ks ≤ cs T j) : cs T i + wrV ⟨k, (tokAt T i).f1, ⟨0, 0⟩, (tokAt T i).f2, ks⟩ ≤ cs T j := by
  have h2 := cs_tok hE h (show i < i + 1 by omega)
  rw [wrV_eq]
  simp only
  omega
theorem pp_cost (i : Nat) (r : PR PTr.S26) (h : PP T i r) (hi : i ≤ n) : ∀ v j, r = .ok (v, j) → cs T i + wrV v ≤ cs T j := by
  intro v j e
  rcases h with ⟨c, rfl⟩ | ⟨c, ⟨er, h, rfl⟩ | ⟨ks, j2, h, rfl⟩⟩
  · cases e
  · cases e
  · injection e with e; injection e with e1 e2
    subst e1 e2
    obtain ⟨m, hm, ho⟩ := loop_cost (I := fun i r => V T i 0 r) (fun _ _ h hi => (vg_goes hE).1 _ _ _ h hi) (fun i r h hi => (vg_cost hE).1 i 0 r h hi) (fun i => (by omega : i ≤ i + 1)) h (kind0 hE c hi) _ _ rfl
    rw [List.nil_append] at hm
    subst hm
    exact node_cost hE (kind0 hE c hi) 2 _ ho
theorem dp_cost (i : Nat) (r : PR PTr.S26) (h : DP T i r) (hi : i ≤ n) : ∀ v j, r = .ok (v, j) → cs T i + wrV v ≤ cs T j := by
  intro v j e
  rcases h with ⟨c, rfl⟩ | ⟨c, ks, j1, ha, ⟨c2, rfl⟩ | ⟨c2, ⟨er, h, rfl⟩ | ⟨ks', j', h, rfl⟩⟩⟩
  · cases e
  · cases e
  · cases e
  · injection e with e; injection e with e1 e2
    subst e1 e2
    have h1 := (DA.goes hE ha (kind0 hE c hi)).1 _ _ rfl
    have h2 := fin1 hE _ j1 h1.2 c2
    obtain ⟨m, hm, ho⟩ := loop_cost (I := LP T) (fun _ _ h hi => h.goes hE hi) (fun i r h hi v j e => by
      have hg := h.goes hE hi
      rcases h with ⟨c, rfl⟩ | ⟨_, c, rfl⟩
      · injection e with e; injection e with e1 e2
        subst e1 e2
        exact leaf_cost hE (kind0 hE c hi) 3
      · injection e with e; injection e with e1 e2
        subst e1 e2
        exact leaf_cost hE (hE.next hi (by rw [show (tokAt T i).f0 = 2 by simpa using c]; decide)) 4) (fun _ => Nat.le_refl _) ha (kind0 hE c hi) _ _ rfl
    obtain ⟨m2, hm2, ho2⟩ := loop_cost (I := PP T) (fun _ _ h hi => h.goes hE hi) (pp_cost hE) (fun i => (by omega : i ≤ i + 1)) h h2.2 _ _ rfl
    rw [List.nil_append] at hm
    subst hm
    have h3 := cs_next T j1
    refine node_cost hE (kind0 hE c hi) 1 _ ?_
    rw [hm2, wrVs_app]
    omega
theorem rl_cost {l : List PTr.S26} {j : Nat} (h : RL T 0 [] (.ok (l, j))) : wrVs l ≤ cs T n := by
  obtain ⟨m, hm, ho⟩ := loop_cost (I := DP T) (fun _ _ h hi => h.goes hE hi) (dp_cost hE) (fun _ => Nat.le_refl _) h (Nat.zero_le _) _ _ rfl
  rw [List.nil_append] at hm
  subst hm
  have h1 := ((RL.goes hE h (Nat.zero_le _)).1 _ _ rfl).2
  have h2 := cs_mono (T := T) h1
  omega
end
theorem ch_sum {s : List UInt8} {ts : List Tok} : ∀ {at_ : Nat}, Ch s at_ ts → (ts.map (fun t => (rawT t).length)).sum ≤ s.length - at_ ∧ ts.length ≤ s.length - at_ := by
  induction ts with
  | nil => intro at_ _; simp
  | cons t ts ih =>
    intro at_ h
    have hn := Ch.next h
    obtain ⟨h1, h2, h3, h4⟩ := h
    obtain ⟨i1, i2⟩ := ih h4
    have hr := (tok_form h2 at_).2
    have hp := List.length_pos_iff.2 (okTok_ne h2)
    rw [List.map_cons, List.sum_cons, List.length_cons, h3, hr]
    omega
theorem text_le_raw (t : Tok) : t.text.length ≤ (rawT t).length := by
  unfold rawT
  split
  · simp; omega
  · exact Nat.le_refl _
theorem cs_endT {s : List UInt8} {ts : List Tok} (h : Ch s (spaceL s) ts) : cs (endT ts s.length) ts.length ≤ 32 * s.length := by
  obtain ⟨h1, h2⟩ := ch_sum h
  have key : cs (endT ts s.length) ts.length ≤ (ts.map (fun t => (rawT t).length)).sum + 31 * ts.length := by
    unfold cs endT
    rw [List.map_append, List.take_left' (by simp)]
    clear h h1 h2
    induction ts with
    | nil => simp
    | cons t ts ih =>
      have h3 := text_le_raw t
      rw [List.map_cons, List.map_cons, List.sum_cons, List.map_cons, List.sum_cons, List.length_cons]
      have h4 : cost (toS t) = t.text.length + 31 := by unfold cost toS; rw [Lib.size_eq]
      omega
  omega
def ptoks : List Tok → Pcs
  | [] => []
  | [t] => [(t.kind, rawT t, [])]
  | t :: u :: r => (t.kind, rawT t, [32]) :: ptoks (u :: r)
theorem cat_ptoks (ts : List Tok) : cat (ptoks ts) = writeL ts := by
  induction ts with
  | nil => rfl
  | cons t r ih =>
    cases r with
    | nil => rw [writeL_one, show ptoks [t] = [(t.kind, rawT t, [])] from rfl, cat_one, cat_nil]; simp
    | cons u r =>
      rw [show ptoks (t :: u :: r) = (t.kind, rawT t, [32]) :: ptoks (u :: r) from rfl, cat_one, ih]
      unfold writeL
      rw [List.map_cons, List.map_cons, Lib.join_cons, Lib.join_cons]
      simp [Lib.joinTail]
theorem okP_ptoks (ts : List Tok) (h : ∀ t ∈ ts, good t) : okP (ptoks ts) := by
  induction ts with
  | nil => trivial
  | cons t r ih =>
    have ht := h t (by simp)
    cases r with
    | nil => exact ⟨ht.1, ht.2, by simp, by simp only [cat, List.nil_append]; exact bnd_nil _, trivial⟩
    | cons u r => exact ⟨ht.1, ht.2, sp32, safe_bnd (safe_cons _ _ (by decide)) _, ih (fun v hv => h v (by simp [hv]))⟩
theorem len_ptoks (ts : List Tok) : (cat (ptoks ts)).length ≤ (ts.map (fun t => (rawT t).length)).sum + ts.length := by
  induction ts with
  | nil => simp [ptoks, cat]
  | cons t r ih =>
    cases r with
    | nil => rw [show ptoks [t] = [(t.kind, rawT t, [])] from rfl, cat_one, cat_nil]; simp
    | cons u r =>
      rw [show ptoks (t :: u :: r) = (t.kind, rawT t, [32]) :: ptoks (u :: r) from rfl, cat_one, List.map_cons, List.sum_cons, List.length_cons]
      simp only [List.length_append, List.length_cons, List.length_nil] at ih ⊢
      omega
theorem text_of (t : Tok) (h : good t) (at_ : Nat) : (tokOf (t.kind, rawT t) at_).kind = t.kind ∧ (tokOf (t.kind, rawT t) at_).text = t.text := by
  refine ⟨rfl, ?_⟩
  have h0 := okTok_ne h.1
  unfold tokOf
  by_cases c : t.kind = 2
  · rw [if_pos ⟨c, h0⟩]
    unfold rawT
    rw [if_pos c]
    simp
  · rw [if_neg (fun h => c h.1)]
    unfold rawT
    rw [if_neg c]
theorem toks_ptoks (ts : List Tok) (h : ∀ t ∈ ts, good t) : ∀ at_, (toks (ptoks ts) at_).length = ts.length ∧ ∀ i (h1 : i < ts.length) (h2 : i < (toks (ptoks ts) at_).length), (toks (ptoks ts) at_)[i].kind = ts[i].kind ∧ (toks (ptoks ts) at_)[i].text = ts[i].text := by
  induction ts with
  | nil => intro at_; exact ⟨rfl, fun i h1 => by simp at h1⟩
  | cons t r ih =>
    intro at_
    have ht := text_of t (h t (by simp)) at_
    cases r with
    | nil =>
      refine ⟨rfl, fun i h1 h2 => ?_⟩
      obtain rfl : i = 0 := by simp at h1; omega
      exact ht
    | cons u r =>
      obtain ⟨i1, i2⟩ := ih (fun v hv => h v (by simp [hv])) (at_ + (rawT t).length + ([32] : List UInt8).length)
      refine ⟨by show ((toks (ptoks (u :: r)) _).length + 1) = _; rw [i1]; rfl, fun i h1 h2 => ?_⟩
      cases i with
      | zero => exact ht
      | succ i => exact i2 i (by simpa using h1) (by rw [i1]; simpa using h1)
theorem again {s : List UInt8} {ts : List Tok} (h : Ch s (spaceL s) ts) (hl : (writeL ts).length ≤ 65536) :
    ∃ us, scanL (writeL ts) = (us ++ [⟨4, [], (writeL ts).length⟩], 0, 0) ∧ ∀ i, (tokAt (endT us (writeL ts).length) i).f0 = (tokAt (endT ts s.length) i).f0 ∧ (tokAt (endT us (writeL ts).length) i).f1 = (tokAt (endT ts s.length) i).f1 := by
  have hg := Ch.good h
  have hc := cat_ptoks ts
  have h1 := scanL_cat (ptoks ts) (okP_ptoks ts hg) (by rw [hc]; exact hl)
  rw [hc] at h1
  obtain ⟨h2, h3⟩ := toks_ptoks ts hg 0
  refine ⟨_, h1, fun i => ?_⟩
  rcases Nat.lt_trichotomy i ts.length with c | c | c
  · rw [endT_lt c, endT_lt (by rw [h2]; exact c)]
    obtain ⟨e1, e2⟩ := h3 i c (by rw [h2]; exact c)
    unfold toS
    simp only
    rw [e1, e2]
    exact ⟨rfl, rfl⟩
  · subst c
    rw [endT_n]
    have := endT_n (toks (ptoks ts) 0) (writeL ts).length
    rw [h2] at this
    rw [this]
    exact ⟨rfl, rfl⟩
  · rw [endT_out c, endT_out (by rw [h2]; exact c)]
    exact ⟨rfl, rfl⟩
theorem root_of {s : List UInt8} {ts : List Tok} (h : Ch s (spaceL s) ts) (hl : s.length ≤ 65536) {l : List PTr.S26} {j : Nat} (hr : RL (endT ts s.length) 0 [] (.ok (l, j))) : okRoot ⟨0, ⟨#[]⟩, ⟨0, 0⟩, 0, l⟩ := by
  obtain ⟨hg, hn⟩ := goodT_of h
  exact ⟨rfl, rfl, rfl, right_rl (src_of h hl).hE hg hn hr⟩
open Classical in
theorem reads_calls (s : ByteArray) (w : World) (hg : UW w) : Calls Tryz.prog 4 #[.string s] w fun e w' => e = .returned (.bool true) ∧ Below w.heap.size w w' := by
  have hsz : s.size = s.data.toList.length := Lib.size_eq s
  by_cases hbig : 2000 < (s.size : Int)
  · exact reads_long s (decide_eq_true hbig) w (Lib.hid hg)
  · have hb := decide_eq_false hbig
    rcases parse_cases s with ⟨hs, h28, hp⟩ | ⟨ts, hc, hl, hsc, ⟨l, j, hr, hp⟩ | ⟨e, a, hr, hp⟩⟩
    · have he : ¬ (((scanL s.data.toList).2.1 : Nat) : Int) = 0 := by omega
      exact reads_err s hb _ _ (by simpa using he) (Lib.hid hp) _ _ _ (Lib.hid rfl) w (Lib.hid hg)
    · have hcost := rl_cost (src_of hc hl).hE hr
      have hce := cs_endT hc
      have hroot := root_of hc hl hr
      have hwr : wrVs l ≤ 64000 := by omega
      have hwt := wtVs_le l
      -- the tokens, written
      have hsum := ch_sum hc
      have hlw : (writeL ts).length ≤ 4000 := by have := len_ptoks ts; rw [cat_ptoks] at this; omega
      obtain ⟨us, hsu, hsim⟩ := again hc (by omega)
      obtain ⟨l2, hr2, hS2⟩ := sim_rl hsim hr
      have hlx := lexW_f ts s.data.toList.length (by omega) (fun t ht => good_kind (Ch.good hc t ht)) (by omega)
      have hp2 : Ex.tree_Parse.f ⟨(writeL ts).toArray⟩ = some (0, ⟨#[]⟩, 0, 0, 0, l2, 0, 0) := by
        have hx : (⟨(writeL ts).toArray⟩ : ByteArray).data.toList = writeL ts := rfl
        refine Ex.tree_Parse.f_ok (n := j) (by rw [hx, hsu]) ?_
        unfold srcT
        rw [hx, hsu]
        exact hr2
      -- the tree, written
      obtain ⟨q, hq, hd⟩ := parts_of l hroot.2.2.2
      have hlq := lenF q hd
      rw [hq] at hlq
      have hwrV : wrV ⟨0, ⟨#[]⟩, ⟨0, 0⟩, 0, l⟩ < 200000000 := by
        rw [wrV_eq]; simp only
        have : (⟨#[]⟩ : ByteArray).size = 0 := rfl
        omega
      obtain ⟨kw, hkw⟩ := rootW_f ⟨0, ⟨#[]⟩, ⟨0, 0⟩, 0, l⟩ q hq hd hroot hwrV
      have hwf : Ex.tree_Write.f 0 ⟨#[]⟩ 0 0 0 l = some ⟨(cat (pF q)).toArray⟩ := Ex.tree_Write.f_of (n := ⟨0, ⟨#[]⟩, ⟨0, 0⟩, 0, l⟩) hkw (by omega)
      obtain ⟨T3, hsc3, l3, n3, hr3, hS3⟩ := back_F q hd (by omega)
      rw [hq] at hS3
      have hp3 : Ex.tree_Parse.f ⟨(cat (pF q)).toArray⟩ = some (0, ⟨#[]⟩, 0, 0, 0, l3, 0, 0) := by
        have hx : (⟨(cat (pF q)).toArray⟩ : ByteArray).data.toList = cat (pF q) := rfl
        refine Ex.tree_Parse.f_ok (n := n3) (by rw [hx, hsc3]) ?_
        unfold srcT
        rw [hx, hsc3]
        exact hr3
      have hright := right_f ⟨0, ⟨#[]⟩, ⟨0, 0⟩, 0, l⟩ (by rw [wtV_eq]; simp only; have : (⟨#[]⟩ : ByteArray).size = 0 := rfl; omega)
      rw [decide_eq_true hroot] at hright
      obtain ⟨K1, h1⟩ := hlx
      obtain ⟨K2, h2⟩ := hright
      obtain ⟨K3, h3⟩ := same_root hS2 (by omega)
      obtain ⟨K4, h4⟩ := same_root hS3 (by omega)
      have hT : Ex.lex_Scan.f s = some (endT ts s.data.toList.length, 0, 0) := by
        unfold Ex.lex_Scan.f
        rw [hsc]
        rfl
      exact reads_all s hb (max (max K1 K2) (max K3 K4)) l l2 l3 _ _ _ (Lib.hid hp) (Lib.hid hT) (Lib.hid (h1 _ (by omega))) (Lib.hid hp2) (Lib.hid hwf) (Lib.hid hp3) (Lib.hid (h2 _ (by omega))) (Lib.hid (h3 _ (by omega))) (Lib.hid (h4 _ (by omega))) w (Lib.hid hg)
    · have he : ¬ e = 0 := by
        obtain ⟨m, _, _, _, h⟩ := (RL.goes (tk_of hc hl).hE hr (Nat.zero_le _)).2 _ rfl
        rcases h with h | h | h
        · have := h.1; simp only at this; omega
        · simp only at h; omega
        · simp only at h; omega
      exact reads_err s hb _ _ (by simpa using he) (Lib.hid hp) _ _ _ (Lib.hid rfl) w (Lib.hid hg)
end Go.Proofs.YtahjkibjcibpgaaGreatDoor.L
end
