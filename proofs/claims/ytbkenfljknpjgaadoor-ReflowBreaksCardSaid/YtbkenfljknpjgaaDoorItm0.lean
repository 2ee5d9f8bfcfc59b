/-
  Items, plain: which may be, how wide they are, their cells, the items of cells. No program in sight.
-/
import Derived.Test.YtbkenfljknpjgaaDoorTxt0
import Derived.Test.YtbkenfljknpjgaaDoorCell5
namespace Go.Proofs.YtbkenfljknpjgaaDoor
open Go.RowKit
set_option linter.unusedVariables false
set_option linter.unusedSimpArgs false

def rightI (i : ItemV) : Bool := if i.2.length = 0 then decide (i.1 = 1) else (decide (i.1 = 1) || decide (i.1 = 2)) && rightB (1, i.2)
def wOf (n : Int) : Nat := if 1 < n then 2 else 1
def wideI (x : List ItemV) : Nat := (x.map fun i => wOf i.1).sum
def cellsI (x : List ItemV) : List CellV := x.flatMap fun i => ofF i.1 i.2
/-- One cell more: a spacer makes the last item wide. -/
def itG (acc : List ItemV) (c : CellV) : List ItemV := if c.1 = 3 then acc.set (acc.length - 1) (2, (acc.getD (acc.length - 1) (0, [])).2) else acc ++ [(1, c.2)]
def itF (l : List CellV) : List ItemV := l.foldl itG []

theorem wide_snoc (x : List ItemV) (i : ItemV) : wideI (x ++ [i]) = wideI x + wOf i.1 := by
  unfold wideI; simp
theorem wide_take (x : List ItemV) (k : Nat) (h : k < x.length) : wideI (x.take (k + 1)) = wideI (x.take k) + wOf x[k].1 := by
  rw [take_snoc' x k h, wide_snoc]
theorem wide_le (x : List ItemV) : wideI x ≤ 2 * x.length := by
  unfold wideI
  induction x with
  | nil => simp
  | cons i x ih =>
    rw [List.map_cons, List.sum_cons, List.length_cons]
    have : wOf i.1 ≤ 2 := by unfold wOf; split <;> omega
    omega
theorem itF_snoc (l : List CellV) (k : Nat) (h : k < l.length) : itF (l.take (k + 1)) = itG (itF (l.take k)) l[k] := by
  unfold itF; rw [take_snoc' l k h, List.foldl_append]; rfl

theorem it_fold : ∀ (n : Nat) (l : List CellV) (acc : List ItemV), l.length = n → soundG false l = true → l.foldl itG acc = acc ++ itemsF l
  | _, [], acc, _, _ => by simp [itemsF]
  | 0, c :: l, _, h, _ => by simp at h
  | n + 1, c :: l, acc, h, hs => by
    simp only [soundG, Bool.and_eq_true] at hs
    obtain ⟨⟨hr, h3⟩, hrest⟩ := hs
    have h3 : c.1 ≠ 3 := by simpa using h3
    rw [List.foldl_cons, items_cons]
    have hg : itG acc c = acc ++ [(1, c.2)] := by unfold itG; rw [if_neg h3]
    rw [hg]
    rcases right_kind c hr with ⟨h1, h2⟩ | ⟨h1, h2⟩ | ⟨h1, h2⟩ | ⟨h1, h2⟩
    · rw [h1] at hrest
      rw [it_fold n l _ (by simpa using h) hrest]
      simp [itemOf, h1]
    · rw [h1] at hrest
      rw [it_fold n l _ (by simpa using h) hrest]
      simp [itemOf, h1]
    · rw [h1] at hrest
      match l, h, hrest with
      | [], _, hrest => simp [soundG] at hrest
      | d :: l, h, hrest =>
        simp only [soundG, Bool.and_eq_true] at hrest
        obtain ⟨⟨hr2, h32⟩, hrest2⟩ := hrest
        have h32 : d.1 = 3 := by simpa using h32
        rw [h32] at hrest2
        match n, h with
        | 0, h => simp at h
        | n + 1, h =>
          rw [List.foldl_cons, items_cons]
          have hd : itG (acc ++ [(1, c.2)]) d = acc ++ [(2, c.2)] := by
            unfold itG
            rw [if_pos h32]
            simp
          rw [hd, it_fold n l _ (by simpa using h) hrest2]
          simp [itemOf, h1, h32]
    · omega
theorem itF_eq (l : List CellV) (h : soundB l = true) : itF l = itemsF l := by
  unfold itF
  rw [it_fold l.length l [] rfl h, List.nil_append]
theorem itF_pos (l : List CellV) (h : Good l) (k : Nat) (hk : k < l.length) (h3 : l[k].1 = 3) : 0 < (itF (l.take k)).length := by
  obtain ⟨h0, h2⟩ := h.2 k hk h3
  obtain ⟨j, rfl⟩ : ∃ j, k = j + 1 := ⟨k - 1, by omega⟩
  rw [itF_snoc l j (by omega)]
  unfold itG
  have h2 : l[j].1 = 2 := h2
  rw [if_neg (by omega)]
  simp
theorem itF_len (l : List CellV) : (itF l).length ≤ l.length := by
  have : ∀ (l : List CellV) (acc : List ItemV), (l.foldl itG acc).length ≤ acc.length + l.length := by
    intro l
    induction l with
    | nil => intro acc; simp
    | cons c l ih =>
      intro acc
      rw [List.foldl_cons, List.length_cons]
      have h1 := ih (itG acc c)
      have h2 : (itG acc c).length ≤ acc.length + 1 := by unfold itG; split <;> simp
      omega
  have := this l []
  unfold itF
  simpa using this

theorem repl_all : ∀ (t : List Int), t.all validB = true → t.map replF = t
  | [], _ => rfl
  | a :: t, h => by
    rw [List.all_cons, Bool.and_eq_true] at h
    rw [List.map_cons, repl_all t h.2]
    unfold replF
    rw [if_pos h.1]
theorem right_text (k : Int) (hk : k = 1 ∨ k = 2) (t : List Int) (h : rightB (k, t) = true) : 0 < t.length ∧ t.length ≤ 16 ∧ t.all validB = true := by
  unfold rightB at h
  simp only at h
  rw [if_neg (by omega), if_pos hk, Bool.and_eq_true] at h
  have := of_decide_eq_true h.1
  exact ⟨this.1, this.2, h.2⟩
theorem of_right (wd : Int) (t : List Int) (h : 0 < t.length ∧ t.length ≤ 16 ∧ t.all validB = true) : ofF wd t = if 1 < wd then [(2, t), (3, [])] else [(1, t)] := by
  unfold ofF
  rw [if_neg (by omega), List.take_of_length_le h.2.1, repl_all t h.2.2]
theorem rightB_1 (t : List Int) (h : 0 < t.length ∧ t.length ≤ 16 ∧ t.all validB = true) (k : Int) (hk : k = 1 ∨ k = 2) : rightB (k, t) = true := by
  unfold rightB
  simp only
  rw [if_neg (by omega), if_pos hk, Bool.and_eq_true]
  exact ⟨decide_eq_true ⟨h.1, h.2.1⟩, h.2.2⟩

/-- A sound strip: its items may all be, are as wide, and make the strip again. -/
theorem items_back : ∀ (n : Nat) (l : List CellV), l.length = n → soundG false l = true → cellsI (itemsF l) = l ∧ wideI (itemsF l) = l.length ∧ ∀ i ∈ itemsF l, rightI i = true
  | _, [], _, _ => by simp [itemsF, cellsI, wideI]
  | 0, c :: l, h, _ => by simp at h
  | n + 1, c :: l, h, hs => by
    simp only [soundG, Bool.and_eq_true] at hs
    obtain ⟨⟨hr, h3⟩, hrest⟩ := hs
    have h3 : c.1 ≠ 3 := by simpa using h3
    have hrc := right_kind c hr
    obtain ⟨k, t⟩ := c
    simp only at h3 hrc hrest
    rw [items_cons]
    rcases hrc with ⟨h1, h2⟩ | ⟨h1, h2⟩ | ⟨h1, h2⟩ | ⟨h1, h2⟩
    · subst h1; subst h2
      obtain ⟨e1, e2, e3⟩ := items_back n l (by simpa using h) hrest
      refine ⟨?_, ?_, ?_⟩
      · unfold cellsI at e1 ⊢
        rw [List.flatMap_append, e1]
        simp [itemOf, ofF]
      · unfold wideI at e2 ⊢
        rw [List.map_append, List.sum_append, e2]
        simp [itemOf, wOf]; omega
      · intro i hi
        rcases List.mem_append.1 hi with hi | hi
        · simp [itemOf] at hi
          subst hi
          simp [rightI]
        · exact e3 i hi
    · subst h1
      obtain ⟨e1, e2, e3⟩ := items_back n l (by simpa using h) hrest
      have ht := right_text 1 (.inl rfl) t hr
      refine ⟨?_, ?_, ?_⟩
      · unfold cellsI at e1 ⊢
        rw [List.flatMap_append, e1]
        simp [itemOf, of_right _ _ ht]
      · unfold wideI at e2 ⊢
        rw [List.map_append, List.sum_append, e2]
        simp [itemOf, wOf]; omega
      · intro i hi
        rcases List.mem_append.1 hi with hi | hi
        · simp [itemOf] at hi
          subst hi
          unfold rightI
          simp only
          rw [if_neg (by omega), hr]
          rfl
        · exact e3 i hi
    · subst h1
      have ht := right_text 2 (.inr rfl) t hr
      match l, h, hrest with
      | [], _, hrest => simp [soundG] at hrest
      | d :: l, h, hrest =>
        simp only [soundG, Bool.and_eq_true] at hrest
        obtain ⟨⟨hr2, h32⟩, hrest2⟩ := hrest
        obtain ⟨dk, dt⟩ := d
        have h32 : dk = 3 := by simpa using h32
        subst h32
        have hd2 : dt = [] := by
          rcases right_kind _ hr2 with h | h | h | h
          · exact absurd h.1 (by simp)
          · exact absurd h.1 (by simp)
          · exact absurd h.1 (by simp)
          · exact h.2
        subst hd2
        match n, h with
        | 0, h => simp at h
        | n + 1, h =>
          obtain ⟨e1, e2, e3⟩ := items_back n l (by simpa using h) hrest2
          rw [items_cons]
          refine ⟨?_, ?_, ?_⟩
          · unfold cellsI at e1 ⊢
            rw [List.flatMap_append, List.flatMap_append, e1]
            simp [itemOf, of_right _ _ ht]
          · unfold wideI at e2 ⊢
            rw [List.map_append, List.sum_append, List.map_append, List.sum_append, e2]
            simp [itemOf, wOf]; omega
          · intro i hi
            rcases List.mem_append.1 hi with hi | hi
            · simp [itemOf] at hi
              subst hi
              unfold rightI
              simp only
              rw [if_neg (by omega), rightB_1 t ht 1 (.inl rfl)]
              rfl
            · rcases List.mem_append.1 hi with hi | hi
              · simp [itemOf] at hi
              · exact e3 i hi
    · omega

theorem repl_valid (l : List Int) : (l.map replF).all validB = true := by
  rw [List.all_eq_true]; intro x hx
  obtain ⟨y, _, rfl⟩ := List.mem_map.1 hx
  exact replF_valid y
theorem right_of_repl (l : List Int) (k : Int) (hk : k = 1 ∨ k = 2) (hl : l.length ≠ 0) : rightB (k, (l.take 16).map replF) = true := by
  unfold rightB
  rw [if_neg (by simp only; omega), if_pos (by simpa using hk), repl_valid, Bool.and_true, decide_eq_true]
  simp; omega
theorem sound_of_app (wide : Int) (t : List Int) (l : List CellV) : soundB (ofF wide t ++ l) = soundB l := by
  unfold ofF soundB
  have hb : rightB (0, []) = true := by decide
  have h3 : rightB (3, []) = true := by decide
  by_cases h : t.length = 0
  · rw [if_pos h]
    by_cases hw : 1 < wide
    · rw [if_pos hw]; simp [soundG, hb]
    · rw [if_neg hw]; simp [soundG, hb]
  · rw [if_neg h]
    by_cases hw : 1 < wide
    · rw [if_pos hw]; have r2 := right_of_repl t 2 (.inr rfl) h; generalize (t.take 16).map replF = T at *; simp [soundG, r2, h3]
    · rw [if_neg hw]; have r1 := right_of_repl t 1 (.inl rfl) h; generalize (t.take 16).map replF = T at *; simp [soundG, r1]
/-- Items that may all be: their strip is sound, and read again it is they. -/
theorem cells_back : ∀ (x : List ItemV), (∀ i ∈ x, rightI i = true) → itemsF (cellsI x) = x ∧ soundB (cellsI x) = true ∧ (cellsI x).length = wideI x
  | [], _ => by simp [itemsF, cellsI, wideI, soundB, soundG]
  | i :: x, h => by
    obtain ⟨e1, e2, e3⟩ := cells_back x (fun j hj => h j (List.mem_cons.2 (.inr hj)))
    have hi := h i (List.mem_cons.2 (.inl rfl))
    obtain ⟨k, t⟩ := i
    have hc : cellsI ((k, t) :: x) = ofF k t ++ cellsI x := by unfold cellsI; rw [List.flatMap_cons]
    rw [hc]
    refine ⟨?_, by rw [sound_of_app]; exact e2, ?_⟩
    · unfold itemsF at e1 ⊢
      rw [List.flatMap_append, e1]
      unfold rightI at hi
      simp only at hi
      by_cases ht : t.length = 0
      · rw [if_pos ht] at hi
        have : t = [] := List.eq_nil_of_length_eq_zero ht
        subst this
        have : k = 1 := of_decide_eq_true hi
        subst this
        simp [ofF, itemOf]
      · rw [if_neg ht, Bool.and_eq_true] at hi
        have hk : k = 1 ∨ k = 2 := by simpa using hi.1
        rw [of_right k t (right_text 1 (.inl rfl) t hi.2)]
        rcases hk with rfl | rfl <;> simp [itemOf]
    · have hw : wideI ((k, t) :: x) = wOf k + wideI x := by unfold wideI; simp
      rw [List.length_append, e3, hw]
      congr 1
      unfold ofF wOf
      split <;> split <;> rfl
end Go.Proofs.YtbkenfljknpjgaaDoor
