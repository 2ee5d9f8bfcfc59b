/-
  What differs between two rows of cells, plain: the changes are stretches at all of whose columns the rows differ, as long as they can be; put into the one row they make it the other. No program in sight.
-/
import Derived.Test.YtphdagmaamcapaaDoorView0
namespace Go.Proofs.YtphdagmaamcapaaDoor
open Go.RowKit
set_option linter.unusedVariables false
set_option linter.unusedSimpArgs false

/-- Cells that stand somewhere: their row, their column. -/
abbrev ChangeV : Type := Int × Int × List CellV
def cAt (l : List CellV) (k : Nat) : CellV := l.getD k (0, [])
def apB (a b : List CellV) (k : Nat) : Bool := decide (cAt a k ≠ cAt b k)
def stepD (n : Nat) (a b : List CellV) (i : Nat) (s : List ChangeV × Int) : List ChangeV × Int :=
  if (i < a.length ∧ apB a b i = true) ∧ s.2 < 0 then (s.1, (i : Int)) else if ¬ (i < a.length ∧ apB a b i = true) ∧ 0 ≤ s.2 then (s.1 ++ [((n : Int), s.2, (b.take i).drop s.2.toNat)], -1) else s
def stD (n : Nat) (a b : List CellV) : Nat → List ChangeV × Int
  | 0 => ([], -1)
  | i + 1 => stepD n a b i (stD n a b i)
def rowD (n : Nat) (a b : List CellV) : List ChangeV := (stD n a b (a.length + 1)).1

/-- A change is a stretch at all of whose columns both lines differ, as long as it can be. -/
structure GoodC (a b : List CellV) (c : ChangeV) : Prop where
  col : 0 ≤ c.2.1
  some_ : 0 < c.2.2.length
  fits : c.2.1.toNat + c.2.2.length ≤ a.length
  cells : c.2.2 = (b.take (c.2.1.toNat + c.2.2.length)).drop c.2.1.toNat
  all_ : ∀ k, c.2.1.toNat ≤ k → k < c.2.1.toNat + c.2.2.length → apB a b k = true
  left : 0 < c.2.1.toNat → apB a b (c.2.1.toNat - 1) = false
  right : c.2.1.toNat + c.2.2.length < a.length → apB a b (c.2.1.toNat + c.2.2.length) = false
def cntA (a b : List CellV) (n : Nat) : Nat := ((List.range n).filter (apB a b)).length
def lenD (o : List ChangeV) : Nat := (o.map fun c => c.2.2.length).sum
def putC (l : List CellV) (c : ChangeV) : List CellV := l.take c.2.1.toNat ++ c.2.2 ++ l.drop (c.2.1.toNat + c.2.2.length)

structure InvD (n : Nat) (a b : List CellV) (i : Nat) (s : List ChangeV × Int) : Prop where
  good : ∀ c ∈ s.1, c.1 = n ∧ GoodC a b c ∧ c.2.1.toNat + c.2.2.length < i
  asc : s.1.Pairwise fun c d => c.2.1 < d.2.1
  open_ : 0 ≤ s.2 → s.2.toNat < i ∧ i ≤ a.length ∧ (∀ k, s.2.toNat ≤ k → k < i → apB a b k = true) ∧ (0 < s.2.toNat → apB a b (s.2.toNat - 1) = false) ∧ ∀ c ∈ s.1, c.2.1.toNat + c.2.2.length < s.2.toNat
  shut : s.2 < 0 → s.2 = -1 ∧ (0 < i → i ≤ a.length → apB a b (i - 1) = false)
  count : lenD s.1 = cntA a b (min a.length (if 0 ≤ s.2 then s.2.toNat else i))
  put : s.1.foldl putC a = b.take (if 0 ≤ s.2 then s.2.toNat else i) ++ a.drop (if 0 ≤ s.2 then s.2.toNat else i)

theorem cnt_succ (a b : List CellV) (n : Nat) : cntA a b (n + 1) = cntA a b n + if apB a b n = true then 1 else 0 := by
  unfold cntA
  rw [List.range_succ, List.filter_append, List.length_append]
  cases h : apB a b n <;> simp [h]
theorem cnt_run (a b : List CellV) (f : Nat) : ∀ (m : Nat), (∀ k, f ≤ k → k < f + m → apB a b k = true) → cntA a b (f + m) = cntA a b f + m
  | 0, _ => rfl
  | m + 1, h => by
    rw [← Nat.add_assoc, cnt_succ, cnt_run a b f m (fun k h1 h2 => h k h1 (by omega)), if_pos (h _ (by omega) (by omega))]
    omega
theorem same_take (a b : List CellV) (h : a.length = b.length) (i : Nat) (hi : i < a.length) (hs : apB a b i = false) : b.take (i + 1) ++ a.drop (i + 1) = b.take i ++ a.drop i := by
  unfold apB cAt at hs
  simp only [ne_eq, decide_not, Bool.not_eq_false', decide_eq_true_eq] at hs
  rw [List.getD_eq_getElem?_getD, List.getD_eq_getElem?_getD, List.getElem?_eq_getElem hi, List.getElem?_eq_getElem (by omega)] at hs
  simp only [Option.getD_some] at hs
  rw [List.drop_eq_getElem_cons hi, hs, List.take_succ_eq_append_getElem (show i < b.length by omega), List.append_assoc]
  rfl

theorem inv_zero (n : Nat) (a b : List CellV) : InvD n a b 0 ([], -1) :=
  ⟨fun c h => (by cases h), List.Pairwise.nil, fun h => absurd h (by decide), fun _ => ⟨rfl, fun h => absurd h (by omega)⟩, by simp [lenD, cntA], by simp⟩
theorem inv_step {n : Nat} {a b : List CellV} (hab : a.length = b.length) {i : Nat} (hi : i ≤ a.length) {s : List ChangeV × Int} (h : InvD n a b i s) : InvD n a b (i + 1) (stepD n a b i s) := by
  obtain ⟨o, f⟩ := s
  obtain ⟨good, asc, op, sh, cnt, put⟩ := h
  simp only at good asc op sh cnt put
  unfold stepD
  simp only
  by_cases hd : i < a.length ∧ apB a b i = true
  · by_cases hf : f < 0
    · rw [if_pos ⟨hd, hf⟩]
      obtain ⟨rfl, hleft⟩ := sh hf
      rw [if_neg (by omega)] at cnt put
      refine ⟨fun c hc => ?_, asc, fun _ => ⟨by simp, by omega, fun k h1 h2 => ?_, fun h0 => ?_, fun c hc => ?_⟩, fun h => absurd h (by simp only; omega), ?_, ?_⟩
      · obtain ⟨g1, g2, g3⟩ := good c hc
        exact ⟨g1, g2, by omega⟩
      · simp only at h1
        rw [show k = i by omega]; exact hd.2
      · simp only at h0 ⊢
        exact hleft (by omega) hi
      · exact (good c hc).2.2
      · simp only
        rw [if_pos (by omega), cnt]
        rfl
      · simp only
        rw [if_pos (by omega), put]
        rfl
    · rw [if_neg (fun e => hf e.2), if_neg (fun e => e.1 hd)]
      obtain ⟨h1, h2, h3, h4, h5⟩ := op (by omega)
      refine ⟨fun c hc => ?_, asc, fun _ => ⟨by simp only; omega, by omega, fun k hk1 hk2 => ?_, h4, h5⟩, fun h => absurd h hf, ?_, ?_⟩
      · obtain ⟨g1, g2, g3⟩ := good c hc
        exact ⟨g1, g2, by omega⟩
      · by_cases e : k = i
        · rw [e]; exact hd.2
        · exact h3 k hk1 (by omega)
      · simp only
        rw [if_pos (by omega)] at cnt ⊢
        exact cnt
      · simp only
        rw [if_pos (by omega)] at put ⊢
        exact put
  · by_cases hf : 0 ≤ f
    · rw [if_neg (fun e => hd e.1), if_pos ⟨hd, hf⟩]
      obtain ⟨h1, h2, h3, h4, h5⟩ := op hf
      rw [if_pos hf] at cnt put
      obtain ⟨g, rfl⟩ := Int.eq_ofNat_of_zero_le hf
      simp only [Int.toNat_natCast] at h1 h2 h3 h4 h5 cnt put
      have hl : ((b.take i).drop g).length = i - g := by rw [List.length_drop, List.length_take, Nat.min_eq_left (by omega)]
      have hgi : g + ((b.take i).drop g).length = i := by omega
      have hg : GoodC a b ((n : Int), (g : Int), (b.take i).drop g) := by
        refine ⟨hf, by simp only; omega, by simp only [Int.toNat_natCast]; omega, ?_, fun k k1 k2 => ?_, fun h0 => ?_, fun h0 => ?_⟩
        · simp only [Int.toNat_natCast]; rw [hgi]
        · simp only [Int.toNat_natCast] at k1 k2; exact h3 k k1 (by omega)
        · simp only [Int.toNat_natCast] at h0 ⊢; exact h4 h0
        · simp only [Int.toNat_natCast] at h0 ⊢
          rw [hgi] at h0 ⊢
          cases e : apB a b i with
          | false => rfl
          | true => exact absurd ⟨h0, e⟩ hd
      simp only [Int.toNat_natCast]
      have hce : cntA a b (min a.length (i + 1)) = cntA a b i := by
        by_cases hil : i < a.length
        · rw [Nat.min_eq_right (by omega), cnt_succ, if_neg (fun e => hd ⟨hil, e⟩), Nat.add_zero]
        · rw [Nat.min_eq_left (by omega), show a.length = i by omega]
      refine ⟨fun c hc => ?_, ?_, fun h => absurd h (by simp), fun _ => ⟨rfl, fun _ hle => ?_⟩, ?_, ?_⟩
      · rcases List.mem_append.1 hc with hc | hc
        · obtain ⟨g1, g2, g3⟩ := good c hc
          exact ⟨g1, g2, by omega⟩
        · rw [List.mem_singleton] at hc
          subst hc
          exact ⟨rfl, hg, by simp only [Int.toNat_natCast]; omega⟩
      · refine List.pairwise_append.2 ⟨asc, List.pairwise_singleton _ _, fun c hc d hdd => ?_⟩
        rw [List.mem_singleton] at hdd
        subst hdd
        have := h5 c hc
        have := (good c hc).2.1.col
        simp only
        omega
      · rw [Nat.add_sub_cancel]
        cases e : apB a b i with
        | false => rfl
        | true => exact absurd ⟨by omega, e⟩ hd
      · simp only
        rw [if_neg (by omega), hce]
        unfold lenD at cnt ⊢
        rw [List.map_append, List.sum_append, cnt]
        simp only [List.map_cons, List.map_nil, List.sum_cons, List.sum_nil, Nat.add_zero]
        have := cnt_run a b g (i - g) (fun k k1 k2 => h3 k k1 (by omega))
        rw [show g + (i - g) = i by omega] at this
        rw [hl, this, Nat.min_eq_right (by omega)]
      · simp only
        rw [if_neg (by omega), List.foldl_append, put]
        simp only [List.foldl_cons, List.foldl_nil]
        unfold putC
        simp only [Int.toNat_natCast]
        rw [hgi]
        have e1 : (b.take g ++ a.drop g).take g = b.take g := by
          rw [List.take_append_of_le_length (by rw [List.length_take]; omega), List.take_take, Nat.min_self]
        have e2 : (b.take g ++ a.drop g).drop i = a.drop i := by
          rw [List.drop_append, List.drop_eq_nil_of_le (by rw [List.length_take]; omega), List.length_take, Nat.min_eq_left (by omega), List.nil_append, List.drop_drop]
          congr 1
          omega
        have e3 : b.take g ++ (b.take i).drop g = b.take i := by
          have := List.take_append_drop g (b.take i)
          rw [List.take_take, Nat.min_eq_left (by omega)] at this
          exact this
        rw [e1, e2, e3]
        by_cases hil : i < a.length
        · refine (same_take a b hab i hil ?_).symm
          cases e : apB a b i with
          | false => rfl
          | true => exact absurd ⟨hil, e⟩ hd
        · rw [List.drop_eq_nil_of_le (by omega), List.drop_eq_nil_of_le (by omega), List.take_of_length_le (by omega), List.take_of_length_le (by omega)]
    · rw [if_neg (fun e => hd e.1), if_neg (fun e => hf e.2)]
      have hs := sh (by omega)
      obtain ⟨rfl, hleft⟩ := hs
      rw [if_neg (by omega)] at cnt put
      have hfl : i < a.length → apB a b i = false := fun hil => by
        cases e : apB a b i with
        | false => rfl
        | true => exact absurd ⟨hil, e⟩ hd
      refine ⟨fun c hc => ?_, asc, fun h => absurd h (by simp), fun _ => ⟨rfl, fun _ hle => by rw [Nat.add_sub_cancel]; exact hfl (by omega)⟩, ?_, ?_⟩
      · obtain ⟨g1, g2, g3⟩ := good c hc
        exact ⟨g1, g2, by omega⟩
      · simp only
        rw [if_neg (by omega), cnt]
        by_cases hil : i < a.length
        · rw [Nat.min_eq_right (by omega), Nat.min_eq_right (by omega), cnt_succ, hfl hil]; simp
        · rw [Nat.min_eq_left (by omega), Nat.min_eq_left (by omega)]
      · simp only
        rw [if_neg (by omega), put]
        by_cases hil : i < a.length
        · exact (same_take a b hab i hil (hfl hil)).symm
        · rw [List.drop_eq_nil_of_le (by omega), List.drop_eq_nil_of_le (by omega), List.take_of_length_le (by omega), List.take_of_length_le (by omega)]
theorem inv_st {n : Nat} {a b : List CellV} (hab : a.length = b.length) : ∀ i, i ≤ a.length + 1 → InvD n a b i (stD n a b i)
  | 0, _ => inv_zero n a b
  | i + 1, hi => inv_step hab (by omega) (inv_st hab i (by omega))
theorem st_end {n : Nat} {a b : List CellV} (hab : a.length = b.length) : (stD n a b (a.length + 1)).2 < 0 := by
  have h := inv_st (n := n) hab (a.length + 1) (Nat.le_refl _)
  refine Decidable.byContradiction fun hn => ?_
  have := (h.open_ (by omega)).2.1
  omega
theorem row_good {n : Nat} {a b : List CellV} (hab : a.length = b.length) : (∀ c ∈ rowD n a b, c.1 = n ∧ GoodC a b c) ∧ (rowD n a b).Pairwise fun c d => c.2.1 < d.2.1 := by
  have h := inv_st (n := n) hab (a.length + 1) (Nat.le_refl _)
  exact ⟨fun c hc => ⟨(h.good c hc).1, (h.good c hc).2.1⟩, h.asc⟩
theorem row_count {n : Nat} {a b : List CellV} (hab : a.length = b.length) : lenD (rowD n a b) = cntA a b a.length := by
  have h := inv_st (n := n) hab (a.length + 1) (Nat.le_refl _)
  have he := st_end (n := n) hab
  have := h.count
  rw [if_neg (by omega), Nat.min_eq_left (by omega)] at this
  exact this
theorem row_put {n : Nat} {a b : List CellV} (hab : a.length = b.length) : (rowD n a b).foldl putC a = b := by
  have h := inv_st (n := n) hab (a.length + 1) (Nat.le_refl _)
  have he := st_end (n := n) hab
  have := h.put
  rw [if_neg (by omega), List.drop_eq_nil_of_le (by omega), List.take_of_length_le (by omega), List.append_nil] at this
  exact this

/-! ### All lines -/
def lnD (ls : List LineV) (i : Nat) : LineV := ls.getD i ([], false)
def chgU (A B : List LineV) (k : Nat) : List ChangeV := (List.range k).flatMap fun i => rowD i (lnD A i).1 (lnD B i).1
def wrapU (A B : List LineV) (k : Nat) : List Int := (List.range k).flatMap fun i => if (lnD A i).2 ≠ (lnD B i).2 then [(i : Int)] else []
theorem chgU_snoc (A B : List LineV) (k : Nat) : chgU A B (k + 1) = chgU A B k ++ rowD k (lnD A k).1 (lnD B k).1 := by
  unfold chgU; rw [List.range_succ, List.flatMap_append]; simp
theorem wrapU_snoc (A B : List LineV) (k : Nat) : wrapU A B (k + 1) = wrapU A B k ++ if (lnD A k).2 ≠ (lnD B k).2 then [(k : Int)] else [] := by
  unfold wrapU; rw [List.range_succ, List.flatMap_append]; simp
/-- The earlier place first. -/
def EarC (c d : ChangeV) : Prop := c.1 < d.1 ∨ c.1 = d.1 ∧ c.2.1 < d.2.1
theorem chg_good (A B : List LineV) : ∀ k, (∀ i, i < k → (lnD A i).1.length = (lnD B i).1.length) →
    (∀ c ∈ chgU A B k, ∃ i, i < k ∧ c.1 = (i : Int) ∧ GoodC (lnD A i).1 (lnD B i).1 c) ∧ (chgU A B k).Pairwise EarC
  | 0, _ => ⟨fun c h => by simp [chgU] at h, List.Pairwise.nil⟩
  | k + 1, hab => by
    obtain ⟨h1, h2⟩ := chg_good A B k (fun i hi => hab i (by omega))
    obtain ⟨g1, g2⟩ := row_good (n := k) (hab k (by omega))
    rw [chgU_snoc]
    refine ⟨fun c hc => ?_, List.pairwise_append.2 ⟨h2, ?_, fun c hc d hd => ?_⟩⟩
    · rcases List.mem_append.1 hc with hc | hc
      · obtain ⟨i, hi, e, hg⟩ := h1 c hc
        exact ⟨i, by omega, e, hg⟩
      · exact ⟨k, by omega, (g1 c hc).1, (g1 c hc).2⟩
    · refine List.Pairwise.imp_of_mem (fun {c d} hc hd h => ?_) g2
      exact .inr ⟨by rw [(g1 c hc).1, (g1 d hd).1], h⟩
    · obtain ⟨i, hi, e, _⟩ := h1 c hc
      have := (g1 d hd).1
      exact .inl (by rw [e, this]; omega)
theorem chg_next {A B : List LineV} {k : Nat} (hab : ∀ i, i < k → (lnD A i).1.length = (lnD B i).1.length) {m : Nat} (hm : m + 1 < (chgU A B k).length) : EarC (chgU A B k)[m] (chgU A B k)[m + 1] :=
  List.pairwise_iff_getElem.1 (chg_good A B k hab).2 m (m + 1) (by omega) hm (by omega)
theorem chg_count (A B : List LineV) : ∀ k, (∀ i, i < k → (lnD A i).1.length = (lnD B i).1.length) → lenD (chgU A B k) = ((List.range k).map fun i => cntA (lnD A i).1 (lnD B i).1 (lnD A i).1.length).sum
  | 0, _ => rfl
  | k + 1, hab => by
    have ih := chg_count A B k (fun i hi => hab i (by omega))
    have h := row_count (n := k) (hab k (by omega))
    rw [chgU_snoc, List.range_succ, List.map_append, List.sum_append, ← ih]
    unfold lenD at *
    rw [List.map_append, List.sum_append, h]
    simp
/-- A change is put into its line; a line's mark turns. -/
def putL (ls : List LineV) (c : ChangeV) : List LineV := ls.set c.1.toNat (putC (lnD ls c.1.toNat).1 c, (lnD ls c.1.toNat).2)
def flipL (ls : List LineV) (i : Int) : List LineV := ls.set i.toNat ((lnD ls i.toNat).1, !(lnD ls i.toNat).2)
theorem lnD_set (ls : List LineV) (i j : Nat) (x : LineV) (hi : i < ls.length) : lnD (ls.set i x) j = if i = j then x else lnD ls j := by
  unfold lnD
  rw [List.getD_eq_getElem?_getD, List.getElem?_set, List.getD_eq_getElem?_getD]
  by_cases h : i = j
  · subst h; rw [if_pos rfl, if_pos rfl, if_pos hi]; rfl
  · rw [if_neg h, if_neg h]
theorem set_same (ls : List LineV) (i : Nat) (hi : i < ls.length) : ls.set i (lnD ls i) = ls := by
  unfold lnD
  rw [List.getD_eq_getElem?_getD, List.getElem?_eq_getElem hi]
  simp
theorem fold_row (i : Nat) : ∀ (cs : List ChangeV) (ls : List LineV), i < ls.length → (∀ c ∈ cs, c.1 = (i : Int)) → cs.foldl putL ls = ls.set i (cs.foldl putC (lnD ls i).1, (lnD ls i).2)
  | [], ls, hi, _ => (set_same ls i hi).symm
  | c :: cs, ls, hi, h => by
    have hc : c.1.toNat = i := by rw [h c (List.mem_cons.2 (.inl rfl))]; rfl
    rw [List.foldl_cons, List.foldl_cons]
    have e : putL ls c = ls.set i (putC (lnD ls i).1 c, (lnD ls i).2) := by unfold putL; rw [hc]
    rw [e, fold_row i cs _ (by simpa using hi) (fun d hd => h d (List.mem_cons.2 (.inr hd))), lnD_set _ _ _ _ hi, if_pos rfl, List.set_set]
theorem fold_all (A B : List LineV) : ∀ k, k ≤ A.length → (∀ i, i < k → (lnD A i).1.length = (lnD B i).1.length) →
    ((chgU A B k).foldl putL A).length = A.length ∧ ∀ j, j < A.length → lnD ((chgU A B k).foldl putL A) j = (if j < k then (lnD B j).1 else (lnD A j).1, (lnD A j).2)
  | 0, _, _ => ⟨rfl, fun j _ => by rw [if_neg (by omega)]; rfl⟩
  | k + 1, hk, hab => by
    obtain ⟨h1, h2⟩ := fold_all A B k (by omega) (fun i hi => hab i (by omega))
    rw [chgU_snoc, List.foldl_append]
    generalize (chgU A B k).foldl putL A = L at *
    have hrow := (row_good (n := k) (hab k (by omega))).1
    rw [fold_row k _ L (by omega) (fun c hc => (hrow c hc).1)]
    refine ⟨by rw [List.length_set]; exact h1, fun j hj => ?_⟩
    rw [lnD_set _ _ _ _ (by omega)]
    by_cases h : k = j
    · subst h
      rw [if_pos rfl, if_pos (by omega), h2 k hj, if_neg (by omega)]
      simp only
      rw [row_put (hab k (by omega))]
    · rw [if_neg h, h2 j hj]
      by_cases h3 : j < k
      · rw [if_pos h3, if_pos (by omega)]
      · rw [if_neg h3, if_neg (by omega)]
theorem flip_all (A B : List LineV) (L : List LineV) (hL : L.length = A.length) (hw : ∀ j, j < A.length → (lnD L j).2 = (lnD A j).2) : ∀ k, k ≤ A.length →
    ((wrapU A B k).foldl flipL L).length = A.length ∧ ∀ j, j < A.length → lnD ((wrapU A B k).foldl flipL L) j = ((lnD L j).1, if j < k then (lnD B j).2 else (lnD A j).2)
  | 0, _ => ⟨hL, fun j hj => by rw [if_neg (by omega), ← hw j hj]; rfl⟩
  | k + 1, hk => by
    obtain ⟨h1, h2⟩ := flip_all A B L hL hw k (by omega)
    rw [wrapU_snoc, List.foldl_append]
    generalize (wrapU A B k).foldl flipL L = M at *
    by_cases hne : (lnD A k).2 ≠ (lnD B k).2
    · rw [if_pos hne]
      simp only [List.foldl_cons, List.foldl_nil]
      unfold flipL
      rw [Int.toNat_natCast]
      refine ⟨by rw [List.length_set]; exact h1, fun j hj => ?_⟩
      rw [lnD_set _ _ _ _ (by omega)]
      by_cases h : k = j
      · subst h
        rw [if_pos rfl, h2 k hj, if_neg (Nat.lt_irrefl k), if_pos (Nat.lt_succ_self k)]
        simp only
        congr 1
        cases h3 : (lnD A k).2 <;> cases h4 : (lnD B k).2 <;> simp_all
      · rw [if_neg h, h2 j hj]
        by_cases h3 : j < k
        · rw [if_pos h3, if_pos (by omega)]
        · rw [if_neg h3, if_neg (by omega)]
    · rw [if_neg hne]
      refine ⟨h1, fun j hj => ?_⟩
      simp only [List.foldl_nil]
      rw [h2 j hj]
      by_cases h : k = j
      · subst h
        rw [if_neg (by omega), if_pos (by omega)]
        congr 1
        exact Decidable.byContradiction hne
      · by_cases h3 : j < k
        · rw [if_pos h3, if_pos (by omega)]
        · rw [if_neg h3, if_neg (by omega)]
theorem lines_ext {L M : List LineV} (h : L.length = M.length) (hj : ∀ j, j < L.length → lnD L j = lnD M j) : L = M := by
  refine List.ext_getElem h fun j h1 h2 => ?_
  have := hj j h1
  unfold lnD at this
  rw [List.getD_eq_getElem?_getD, List.getD_eq_getElem?_getD, List.getElem?_eq_getElem h1, List.getElem?_eq_getElem h2] at this
  exact this
/-- The patch, put into the one, makes it the other. -/
theorem apply_all (A B : List LineV) (hn : A.length = B.length) (hab : ∀ i, i < A.length → (lnD A i).1.length = (lnD B i).1.length) :
    (wrapU A B A.length).foldl flipL ((chgU A B A.length).foldl putL A) = B := by
  obtain ⟨h1, h2⟩ := fold_all A B A.length (Nat.le_refl _) hab
  obtain ⟨h3, h4⟩ := flip_all A B _ h1 (fun j hj => by rw [h2 j hj]) A.length (Nat.le_refl _)
  refine lines_ext (by omega) fun j hj => ?_
  rw [h4 j (by omega), h2 j (by omega), if_pos (by omega), if_pos (by omega)]
end Go.Proofs.YtphdagmaamcapaaDoor
