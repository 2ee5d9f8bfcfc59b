/-
  Rows as texts, plain: what a row tells, and what its items tell. No program in sight.
-/
import Derived.Test.YtbkenfljknpjgaaDoorFit5
namespace Go.Proofs.YtbkenfljknpjgaaDoor
open Go.RowKit
set_option linter.unusedVariables false
set_option linter.unusedSimpArgs false

/-- An item: how wide it is, and its scalar values. -/
abbrev ItemV : Type := Int × List Int
def itemOf (c : CellV) : List ItemV := if c.1 < 2 then [(1, c.2)] else if c.1 = 2 then [(2, c.2)] else []
def itemsF (l : List CellV) : List ItemV := l.flatMap itemOf
def textF (l : List CellV) : List Int := l.flatMap (·.2)
def textI (x : List ItemV) : List Int := x.flatMap (·.2)
def usedF (l : List CellV) : Nat := (l.reverse.dropWhile (fun c => decide (c.1 = 0))).length
def plOf (c : CellV) : List Int := (if c.1 = 0 then [32] else []) ++ c.2
def plainF (l : List CellV) : List Int := (l.take (usedF l)).flatMap plOf
def lastI (x : List ItemV) : Nat := (x.reverse.dropWhile (fun i => decide (i.2.length = 0))).length
def plI (i : ItemV) : List Int := (if i.2.length = 0 then [32] else []) ++ i.2
def plainI (x : List ItemV) : List Int := (x.take (lastI x)).flatMap plI

theorem used_snoc (l : List CellV) (c : CellV) : usedF (l ++ [c]) = if c.1 = 0 then usedF l else l.length + 1 := by
  unfold usedF
  rw [List.reverse_append, List.reverse_singleton, List.singleton_append, List.dropWhile_cons]
  by_cases h : c.1 = 0
  · simp [h]
  · simp [h]
theorem used_le (l : List CellV) : usedF l ≤ l.length := by
  unfold usedF
  have h := (List.dropWhile_sublist (l := l.reverse) (fun c => decide (c.1 = 0))).length_le
  simpa using h
theorem used_take (l : List CellV) (k : Nat) (h : k < l.length) : usedF (l.take (k + 1)) = if l[k].1 = 0 then usedF (l.take k) else k + 1 := by
  rw [take_snoc' l k h, used_snoc, List.length_take, Nat.min_eq_left (by omega)]
theorem last_snoc (x : List ItemV) (i : ItemV) : lastI (x ++ [i]) = if i.2.length = 0 then lastI x else x.length + 1 := by
  unfold lastI
  rw [List.reverse_append, List.reverse_singleton, List.singleton_append, List.dropWhile_cons]
  by_cases h : i.2.length = 0
  · simp [h]
  · simp [h]
theorem last_le (x : List ItemV) : lastI x ≤ x.length := by
  unfold lastI
  have h := (List.dropWhile_sublist (l := x.reverse) (fun i => decide (i.2.length = 0))).length_le
  simpa using h
theorem last_take (x : List ItemV) (k : Nat) (h : k < x.length) : lastI (x.take (k + 1)) = if x[k].2.length = 0 then lastI (x.take k) else k + 1 := by
  rw [take_snoc' x k h, last_snoc, List.length_take, Nat.min_eq_left (by omega)]

theorem right_kind (c : CellV) (h : rightB c = true) : (c.1 = 0 ∧ c.2 = []) ∨ (c.1 = 1 ∧ c.2 ≠ []) ∨ (c.1 = 2 ∧ c.2 ≠ []) ∨ (c.1 = 3 ∧ c.2 = []) := by
  unfold rightB at h
  split at h
  · next h1 =>
    have h2 : c.2 = [] := List.eq_nil_of_length_eq_zero (by simpa using h)
    rcases h1 with h1 | h1
    · exact .inl ⟨h1, h2⟩
    · exact .inr (.inr (.inr ⟨h1, h2⟩))
  · split at h
    · next h1 =>
      have h2 : c.2 ≠ [] := by
        intro e
        rw [e] at h
        simp at h
      rcases h1 with h1 | h1
      · exact .inr (.inl ⟨h1, h2⟩)
      · exact .inr (.inr (.inl ⟨h1, h2⟩))
    · cases h
theorem right_of_sound : ∀ (l : List CellV) (lead : Bool), soundG lead l = true → ∀ c ∈ l, rightB c = true
  | [], _, _, c, hc => by cases hc
  | d :: l, lead, h, c, hc => by
    simp only [soundG, Bool.and_eq_true] at h
    rcases List.mem_cons.1 hc with rfl | hc
    · exact h.1.1
    · exact right_of_sound l _ h.2 c hc

/-- Cells that may be, and before every spacer a lead. -/
def Good (l : List CellV) : Prop := (∀ c ∈ l, rightB c = true) ∧ ∀ k (h : k < l.length), l[k].1 = 3 → 0 < k ∧ (l[k - 1]'(by omega)).1 = 2
theorem good_of_sound (l : List CellV) (h : soundB l = true) : Good l := by
  refine ⟨right_of_sound l false h, fun k hk h3 => ?_⟩
  match k with
  | 0 =>
    match l with
    | [] => simp at hk
    | c :: l =>
      unfold soundB at h
      simp only [soundG, Bool.and_eq_true, List.getElem_cons_zero] at h h3
      have h2 := h.1.2
      simp [h3] at h2
  | k + 1 => exact ⟨Nat.succ_pos k, (sound_next l false h k hk).1 h3⟩
theorem Good.left {l m : List CellV} (h : Good (l ++ m)) : Good l := by
  refine ⟨fun c hc => h.1 c (List.mem_append.2 (.inl hc)), fun k hk h3 => ?_⟩
  have h' := h.2 k (by rw [List.length_append]; omega) (by rw [List.getElem_append_left hk]; exact h3)
  refine ⟨h'.1, ?_⟩
  have h2 := h'.2
  rw [List.getElem_append_left (by omega)] at h2
  exact h2

theorem items_snoc (l : List CellV) (c : CellV) : itemsF (l ++ [c]) = itemsF l ++ itemOf c := by
  unfold itemsF; rw [List.flatMap_append]; simp
theorem items_cons (l : List CellV) (c : CellV) : itemsF (c :: l) = itemOf c ++ itemsF l := by
  unfold itemsF; rw [List.flatMap_cons]
theorem items_take (l : List CellV) (k : Nat) (h : k < l.length) : itemsF (l.take (k + 1)) = itemsF (l.take k) ++ itemOf l[k] := by
  rw [take_snoc' l k h, items_snoc]
theorem pl_items : ∀ (l : List CellV), (∀ c ∈ l, rightB c = true) → (itemsF l).flatMap plI = l.flatMap plOf
  | [], _ => rfl
  | c :: l, h => by
    rw [items_cons, List.flatMap_append, pl_items l (fun d hd => h d (List.mem_cons.2 (.inr hd))), List.flatMap_cons]
    congr 1
    rcases right_kind c (h c (List.mem_cons.2 (.inl rfl))) with ⟨h1, h2⟩ | ⟨h1, h2⟩ | ⟨h1, h2⟩ | ⟨h1, h2⟩ <;> simp [itemOf, plI, plOf, h1, h2]
theorem text_items : ∀ (l : List CellV), (∀ c ∈ l, rightB c = true) → textI (itemsF l) = textF l
  | [], _ => rfl
  | c :: l, h => by
    unfold textI textF
    rw [items_cons, List.flatMap_append, List.flatMap_cons]
    have ih := text_items l (fun d hd => h d (List.mem_cons.2 (.inr hd)))
    unfold textI textF at ih
    rw [ih]
    congr 1
    rcases right_kind c (h c (List.mem_cons.2 (.inl rfl))) with ⟨h1, h2⟩ | ⟨h1, h2⟩ | ⟨h1, h2⟩ | ⟨h1, h2⟩ <;> simp [itemOf, h1, h2]
theorem plain_eq : ∀ (n : Nat) (l : List CellV), l.length = n → Good l → plainI (itemsF l) = plainF l
  | 0, l, h, _ => by
    have : l = [] := List.eq_nil_of_length_eq_zero h
    subst this; rfl
  | n + 1, l, h, hg => by
    rcases List.eq_nil_or_concat l with rfl | ⟨L, c, rfl⟩
    · simp at h
    · rw [List.concat_eq_append] at h hg ⊢
      have hc := hg.1 c (by simp)
      have ih := plain_eq n L (by simpa using h) hg.left
      have all : (∀ d ∈ L ++ [c], rightB d = true) → lastI (itemsF (L ++ [c])) = (itemsF (L ++ [c])).length → c.1 ≠ 0 → plainI (itemsF (L ++ [c])) = plainF (L ++ [c]) := by
        intro h1 h2 h3
        unfold plainI plainF
        rw [h2, List.take_length, used_snoc, if_neg h3, pl_items _ h1]
        congr 1
        rw [List.take_of_length_le (by simp)]
      rcases right_kind c hc with ⟨h1, h2⟩ | ⟨h1, h2⟩ | ⟨h1, h2⟩ | ⟨h1, h2⟩
      · unfold plainI plainF at ih ⊢
        rw [items_snoc, show itemOf c = [(1, c.2)] by simp [itemOf, h1], last_snoc, if_pos (by simp [h2]), used_snoc, if_pos h1, List.take_append_of_le_length (last_le _), List.take_append_of_le_length (used_le _)]
        exact ih
      · refine all hg.1 ?_ (by omega)
        rw [items_snoc, show itemOf c = [(1, c.2)] by simp [itemOf, h1], last_snoc, if_neg (by simp [h2])]
        simp
      · refine all hg.1 ?_ (by omega)
        rw [items_snoc, show itemOf c = [(2, c.2)] by simp [itemOf, h1], last_snoc, if_neg (by simp [h2])]
        simp
      · refine all hg.1 ?_ (by omega)
        have h3 := hg.2 L.length (by simp) (by simpa using h1)
        rw [items_snoc, show itemOf c = [] by simp [itemOf, h1], List.append_nil]
        rcases List.eq_nil_or_concat L with rfl | ⟨M, d, rfl⟩
        · simp at h3
        · rw [List.concat_eq_append] at *
          have hd2 : d.1 = 2 := by
            have h4 := h3.2
            rw [List.getElem_append_left (by simp), List.getElem_append_right (by simp)] at h4
            simpa using h4
          have hd : d.2 ≠ [] := by
            rcases right_kind d (hg.1 d (by simp)) with ⟨h1, h2⟩ | ⟨h1, h2⟩ | ⟨h1, h2⟩ | ⟨h1, h2⟩
            · omega
            · omega
            · exact h2
            · omega
          rw [items_snoc, show itemOf d = [(2, d.2)] by simp [itemOf, hd2], last_snoc, if_neg (by simp [hd])]
          simp

theorem used_rest (l : List CellV) : ∀ c ∈ l.drop (usedF l), c.1 = 0 := by
  obtain ⟨D, T, hd, h, ht⟩ : ∃ D T : List CellV, D.length = usedF l ∧ l = D ++ T ∧ ∀ c ∈ T, c.1 = 0 := by
    refine ⟨(l.reverse.dropWhile (fun c => decide (c.1 = 0))).reverse, (l.reverse.takeWhile (fun c => decide (c.1 = 0))).reverse, by simp [usedF], ?_, ?_⟩
    · rw [← List.reverse_append, List.takeWhile_append_dropWhile, List.reverse_reverse]
    · intro c hc
      rw [List.mem_reverse] at hc
      have ha : (l.reverse.takeWhile (fun c => decide (c.1 = 0))).all (fun c => decide (c.1 = 0)) = true := List.all_takeWhile
      have := List.all_eq_true.1 ha c hc
      simpa using this
  intro c hc
  rw [← hd, h, List.drop_left] at hc
  exact ht c hc
theorem alike (l : List CellV) (hr : ∀ c ∈ l, rightB c = true) (h : ∀ k (hk : k < l.length), k < usedF l → l[k].1 ≠ 0) : textF l = plainF l := by
  unfold textF plainF
  conv => lhs; rw [← List.take_append_drop (usedF l) l]
  rw [List.flatMap_append]
  have h1 : (l.drop (usedF l)).flatMap (·.2) = [] := by
    rw [List.flatMap_eq_nil_iff]
    intro c hc
    have h0 := used_rest l c hc
    rcases right_kind c (hr c (List.mem_of_mem_drop hc)) with ⟨h1, h2⟩ | ⟨h1, h2⟩ | ⟨h1, h2⟩ | ⟨h1, h2⟩
    · exact h2
    · omega
    · omega
    · omega
  rw [h1, List.append_nil]
  have h2 : ∀ c ∈ l.take (usedF l), c.2 = plOf c := by
    intro c hc
    obtain ⟨k, hk, rfl⟩ := List.getElem_of_mem hc
    rw [List.length_take] at hk
    rw [List.getElem_take]
    unfold plOf
    rw [if_neg (h k (by omega) (by omega)), List.nil_append]
  generalize l.take (usedF l) = m at h2
  induction m with
  | nil => rfl
  | cons c m ih =>
    rw [List.flatMap_cons, List.flatMap_cons, ih (fun d hd => h2 d (List.mem_cons.2 (.inr hd))), h2 c (List.mem_cons.2 (.inl rfl))]

/-! ### Where a text stands -/
def fromF : List CellV → List Int → Bool
  | [], t => decide (t = [])
  | c :: l, t => if t = [] then true else if c.1 = 3 then fromF l t else if c.1 = 0 ∨ t.length < c.2.length ∨ t.take c.2.length ≠ c.2 then false else fromF l (t.drop c.2.length)
def gotF : List ItemV → List Int → Nat → List Int
  | [], acc, _ => acc
  | i :: x, acc, n => if i.2.length = 0 ∨ n ≤ acc.length then acc else gotF x (acc ++ i.2) n
def findF : List CellV → Nat → List Int → Int
  | [], _, _ => -1
  | c :: l, i, t => if c.1 ≠ 3 ∧ fromF (c :: l) t = true then i else findF l (i + 1) t
def findI : List ItemV → Int → List Int → Int
  | [], _, _ => -1
  | i :: x, col, t => if gotF (i :: x) [] t.length = t then col else findI x (col + i.1) t

theorem fromF_cons (c : CellV) (l : List CellV) (t : List Int) : fromF (c :: l) t = if t = [] then true else if c.1 = 3 then fromF l t else if c.1 = 0 ∨ t.length < c.2.length ∨ t.take c.2.length ≠ c.2 then false else fromF l (t.drop c.2.length) := rfl
theorem gotF_cons (i : ItemV) (x : List ItemV) (acc : List Int) (n : Nat) : gotF (i :: x) acc n = if i.2.length = 0 ∨ n ≤ acc.length then acc else gotF x (acc ++ i.2) n := rfl
theorem findF_cons (c : CellV) (l : List CellV) (i : Nat) (t : List Int) : findF (c :: l) i t = if c.1 ≠ 3 ∧ fromF (c :: l) t = true then (i : Int) else findF l (i + 1) t := rfl
theorem findI_cons (i : ItemV) (x : List ItemV) (col : Int) (t : List Int) : findI (i :: x) col t = if gotF (i :: x) [] t.length = t then col else findI x (col + i.1) t := rfl
theorem got_acc : ∀ (x : List ItemV) (acc : List Int) (n : Nat), ∃ s, gotF x acc n = acc ++ s
  | [], acc, _ => ⟨[], by simp [gotF]⟩
  | i :: x, acc, n => by
    unfold gotF
    split
    · exact ⟨[], by simp⟩
    · obtain ⟨s, h⟩ := got_acc x (acc ++ i.2) n
      exact ⟨i.2 ++ s, by rw [h, List.append_assoc]⟩
theorem got_full (x : List ItemV) (acc : List Int) : gotF x acc acc.length = acc := by
  cases x with
  | nil => rfl
  | cons i x => unfold gotF; rw [if_pos (.inr (Nat.le_refl _))]
theorem from_nil (l : List CellV) : fromF l [] = true := by
  cases l <;> simp [fromF]
theorem from_got : ∀ (l : List CellV), (∀ c ∈ l, rightB c = true) → ∀ (acc t : List Int), fromF l t = true ↔ gotF (itemsF l) acc (acc ++ t).length = acc ++ t
  | [], _, acc, t => by simp [fromF, itemsF, gotF]
  | c :: l, h, acc, t => by
    have ih := from_got l (fun d hd => h d (List.mem_cons.2 (.inr hd)))
    by_cases ht : t = []
    · subst ht
      rw [List.append_nil, got_full, from_nil]
      simp
    · have htl : 0 < t.length := List.length_pos_iff.2 ht
      have hacc : ¬ (acc ++ t).length ≤ acc.length := by rw [List.length_append]; omega
      rw [items_cons]
      have text : ∀ wd : Int, c.1 ≠ 0 → c.1 ≠ 3 → c.2 ≠ [] → (fromF (c :: l) t = true ↔ gotF ([(wd, c.2)] ++ itemsF l) acc (acc ++ t).length = acc ++ t) := by
        intro wd h0 h3 h2
        rw [List.singleton_append]
        rw [gotF_cons, if_neg (by simp only [hacc, or_false]; simpa using h2), fromF_cons, if_neg ht, if_neg h3]
        by_cases hp : t.length < c.2.length ∨ t.take c.2.length ≠ c.2
        · rw [if_pos (.inr hp)]
          simp only [Bool.false_eq_true, false_iff]
          intro he
          obtain ⟨s, hs⟩ := got_acc (itemsF l) (acc ++ c.2) (acc ++ t).length
          rw [hs, List.append_assoc] at he
          have he := List.append_cancel_left he
          rcases hp with hp | hp
          · rw [← he, List.length_append] at hp; omega
          · apply hp; rw [← he]; simp
        · rw [if_neg (by simp only [h0, false_or]; exact hp)]
          have hp1 : ¬ t.length < c.2.length := fun e => hp (.inl e)
          have hp2 : t.take c.2.length = c.2 := Decidable.byContradiction fun e => hp (.inr e)
          have hh := ih (acc ++ c.2) (t.drop c.2.length)
          have e : acc ++ c.2 ++ t.drop c.2.length = acc ++ t := by
            rw [List.append_assoc]
            conv => lhs; rw [← hp2]
            congr 1
            rw [hp2]
            conv => rhs; rw [← List.take_append_drop c.2.length t, hp2]
          rw [e] at hh
          exact hh
      rcases right_kind c (h c (List.mem_cons.2 (.inl rfl))) with ⟨h1, h2⟩ | ⟨h1, h2⟩ | ⟨h1, h2⟩ | ⟨h1, h2⟩
      · rw [show itemOf c = [(1, c.2)] by simp [itemOf, h1], List.singleton_append]
        rw [gotF_cons, if_pos (.inl (by simp [h2])), fromF_cons, if_neg ht, if_neg (by omega), if_pos (.inl h1)]
        constructor
        · intro e; cases e
        · intro e
          have := congrArg List.length e
          rw [List.length_append] at this; omega
      · rw [show itemOf c = [(1, c.2)] by simp [itemOf, h1]]
        exact text 1 (by omega) (by omega) h2
      · rw [show itemOf c = [(2, c.2)] by simp [itemOf, h1]]
        exact text 2 (by omega) (by omega) h2
      · rw [show itemOf c = [] by simp [itemOf, h1], List.nil_append, ← ih acc t]
        rw [fromF_cons, if_neg ht, if_pos h1]
theorem find_eq : ∀ (l : List CellV) (lead : Bool) (i : Nat) (t : List Int), t ≠ [] → soundG lead l = true → findF l i t = findI (itemsF l) ((i : Int) + if lead then 1 else 0) t
  | [], _, _, _, _, _ => rfl
  | c :: l, lead, i, t, ht, hs => by
    have hr := right_of_sound _ _ hs
    have hs' := hs
    simp only [soundG, Bool.and_eq_true] at hs'
    obtain ⟨⟨hrc, hl⟩, hrest⟩ := hs'
    have ih := find_eq l _ (i + 1) t ht hrest
    have hl : lead = decide (c.1 = 3) := by simpa using hl
    subst hl
    have hfg := from_got (c :: l) hr [] t
    simp only [List.nil_append] at hfg
    rw [items_cons] at hfg ⊢
    rw [findF_cons, ih]
    have one : ∀ wd : Int, c.1 ≠ 3 → itemOf c = [(wd, c.2)] → (wd = 1 + if decide (c.1 = 2) then 1 else 0) → (if c.1 ≠ 3 ∧ fromF (c :: l) t = true then (i : Int) else findI (itemsF l) (((i + 1 : Nat) : Int) + if decide (c.1 = 2) then 1 else 0) t) = findI (itemOf c ++ itemsF l) ((i : Int) + if decide (c.1 = 3) then 1 else 0) t := by
      intro wd h3 hi hw
      rw [hi] at hfg ⊢
      rw [List.singleton_append] at hfg ⊢
      rw [findI_cons]
      by_cases hf : fromF (c :: l) t = true
      · rw [if_pos ⟨h3, hf⟩, if_pos (hfg.1 hf)]
        simp [h3]
      · rw [if_neg (fun e => hf e.2), if_neg (fun e => hf (hfg.2 e))]
        have e : (((i + 1 : Nat) : Int) + if decide (c.1 = 2) then 1 else 0) = (i : Int) + (if decide (c.1 = 3) then 1 else 0) + (wd, c.2).1 := by
          rw [hw]
          simp only [h3, decide_false, Bool.false_eq_true, if_false]
          omega
        rw [e]
    rcases right_kind c hrc with ⟨h1, h2⟩ | ⟨h1, h2⟩ | ⟨h1, h2⟩ | ⟨h1, h2⟩
    · exact one 1 (by omega) (by simp [itemOf, h1]) (by simp [h1])
    · exact one 1 (by omega) (by simp [itemOf, h1]) (by simp [h1])
    · exact one 2 (by omega) (by simp [itemOf, h1]) (by simp [h1])
    · rw [if_neg (fun e => e.1 h1)]
      simp [itemOf, h1]
end Go.Proofs.YtbkenfljknpjgaaDoor
