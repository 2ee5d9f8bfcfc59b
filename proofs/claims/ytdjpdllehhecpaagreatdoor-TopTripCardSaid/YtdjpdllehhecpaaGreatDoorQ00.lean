import Derived.Test.YtdjpdllehhecpaaGreatDoorChecked
open List renaming getElem?_toArray → zA, getElem?_cons_succ → zB, getElem?_cons_zero → zC, setIfInBounds_toArray → zD, set_cons_zero → zE, set_cons_succ → zF
namespace Go.Proofs.YtdjpdllehhecpaaGreatDoor
set_option linter.unusedVariables false
set_option linter.unusedSimpArgs false
structure PropV where
  brk : Int
  pict : Bool
  conj : Int
  east : Int
def classF (c : Int) : Int := if c < 0 ∨ 13 < c then 0 else c
def breaksF (c : Int) : Bool := decide (c = 1 ∨ c = 2 ∨ c = 3)
def syllF (a b : Int) : Bool :=
  if a = 9 then decide (b = 9 ∨ b = 10 ∨ b = 12 ∨ b = 13)
  else if a = 12 ∨ a = 10 then decide (b = 10 ∨ b = 11)
  else if a = 13 ∨ a = 11 then decide (b = 11) else false
def pairC (a b : Int) : Int :=
  if a = 1 ∧ b = 2 then 1
  else if breaksF a = true ∨ breaksF b = true then 0
  else if syllF a b = true ∨ b = 4 ∨ b = 5 ∨ b = 8 ∨ a = 7 then 1
  else if (b = 0 ∧ (a = 5 ∨ a = 4)) ∨ (a = 6 ∧ b = 6) then 2 else 0
def pairF (a b : Int) : Int := pairC (classF a) (classF b)
theorem classF_six (c : Int) : classF c = 6 ↔ c = 6 := by unfold classF; split <;> omega
theorem classF_in {c : Int} (h0 : 0 ≤ c) (h1 : c ≤ 13) : classF c = c := if_neg (by omega)
theorem pairC_two {a b : Int} (h : pairC a b = 2) : (b = 0 ∧ (a = 5 ∨ a = 4)) ∨ (a = 6 ∧ b = 6) := by
  unfold pairC at h
  split at h
  · cases h
  · split at h
    · cases h
    · split at h
      · cases h
      · split at h
        · assumption
        · cases h
theorem pair_ri : pairF 6 6 = 2 := by decide
theorem pair_ext {a b : Int} (ha : breaksF (classF a) = false) (hb : b = 4 ∨ b = 5) : pairF a b = 1 := by
  unfold pairF pairC
  have h4 : classF b = b := classF_in (by omega) (by omega)
  rw [h4]
  have hbb : breaksF b = false := by rcases hb with rfl | rfl <;> rfl
  rw [ha, hbb]
  split
  · rfl
  · rw [if_neg (by simp)]
    rw [if_pos (by rcases hb with rfl | rfl <;> simp)]
structure SegV where
  any : Bool
  last : Int
  pict : Int
  conj : Int
  odd : Bool
def seg0 : SegV := ⟨false, 0, 0, 0, false⟩
def joinsF (s : SegV) (p : PropV) : Bool :=
  if s.any = false then false
  else if (p.conj = 1 ∧ s.conj = 2) ∨ (p.pict = true ∧ s.pict = 2) then true
  else if pairF s.last p.brk = 1 then true
  else if pairF s.last p.brk = 2 then decide (s.last = 6) && s.odd else false
def pictF (s : SegV) (p : PropV) : Int := if p.pict = true then 1 else if s.pict = 1 ∧ p.brk = 4 then 1 else if s.pict = 1 ∧ p.brk = 5 then 2 else 0
def conjF (s : SegV) (p : PropV) : Int := if p.conj = 1 then 1 else if s.conj = 0 then 0 else if p.conj = 2 then 2 else if p.conj = 3 then s.conj else 0
def segN (s : SegV) (p : PropV) : SegV := ⟨true, p.brk, pictF s p, conjF s p, decide (p.brk = 6) && !(s.any && decide (s.last = 6) && s.odd)⟩
def segR : List PropV → SegV
  | [] => seg0
  | p :: r => segN (segR r) p
def linkS (k : Bool) : List PropV → Bool
  | [] => false
  | q :: r => if q.conj = 1 then k else if q.conj = 2 then linkS true r else if q.conj = 3 then linkS k r else false
def pictS : List PropV → Bool
  | [] => false
  | q :: r => if q.pict = true then true else if q.brk = 4 then pictS r else false
def pictZ : List PropV → Bool
  | [] => false
  | q :: r => decide (q.brk = 5) && !q.pict && pictS r
def riN : List PropV → Nat
  | [] => 0
  | q :: r => if q.brk = 6 then riN r + 1 else 0
def rJoins (p : PropV) : List PropV → Bool
  | [] => false
  | q :: r => if pairF q.brk p.brk = 1 ∨ (p.conj = 1 ∧ linkS false (q :: r) = true) ∨ (p.pict = true ∧ pictZ (q :: r) = true) then true
    else if pairF q.brk p.brk ≠ 2 ∨ p.brk ≠ 6 then false else decide (riN (q :: r) % 2 = 1)
theorem conj_range : ∀ r : List PropV, (segR r).conj = 0 ∨ (segR r).conj = 1 ∨ (segR r).conj = 2
  | [] => .inl rfl
  | p :: r => by
    have ih := conj_range r
    show conjF (segR r) p = 0 ∨ conjF (segR r) p = 1 ∨ conjF (segR r) p = 2
    unfold conjF
    split
    · simp
    · split
      · simp
      · split
        · simp
        · split
          · exact ih
          · simp
theorem link_is : ∀ r : List PropV, linkS false r = decide ((segR r).conj = 2) ∧ linkS true r = decide ((segR r).conj ≠ 0)
  | [] => ⟨rfl, rfl⟩
  | p :: r => by
    obtain ⟨h1, h2⟩ := link_is r
    have h3 := conj_range r
    have e : (segR (p :: r)).conj = conjF (segR r) p := rfl
    rw [e]
    unfold linkS conjF
    by_cases c1 : p.conj = 1
    · simp [c1]
    · rw [if_neg c1, if_neg c1, if_neg c1]
      by_cases c2 : p.conj = 2
      · rw [if_pos c2, if_pos c2, if_pos c2, h2]
        by_cases c0 : (segR r).conj = 0
        · simp [c0]
        · simp [c0]
      · rw [if_neg c2, if_neg c2, if_neg c2]
        by_cases c3 : p.conj = 3
        · rw [if_pos c3, if_pos c3, if_pos c3, h1, h2]
          by_cases c0 : (segR r).conj = 0
          · simp [c0]
          · simp [c0]
        · rw [if_neg c3, if_neg c3, if_neg c3]
          by_cases c0 : (segR r).conj = 0
          · simp [c0]
          · simp [c0]
theorem pict_is : ∀ r : List PropV, pictS r = decide ((segR r).pict = 1) ∧ pictZ r = decide ((segR r).pict = 2)
  | [] => ⟨rfl, rfl⟩
  | p :: r => by
    obtain ⟨h1, _⟩ := pict_is r
    have e : (segR (p :: r)).pict = pictF (segR r) p := rfl
    rw [e]
    unfold pictS pictZ pictF
    rw [h1]
    by_cases c1 : p.pict = true
    · simp [c1]
    · have c1' : p.pict = false := by simpa using c1
      by_cases c2 : p.brk = 4
      · by_cases c0 : (segR r).pict = 1 <;> simp [c1', c2, c0]
      · by_cases c3 : p.brk = 5
        · by_cases c0 : (segR r).pict = 1 <;> simp [c1', c3, c0, h1]
        · simp [c1', c2, c3]
theorem odd_is : ∀ r : List PropV, (segR r).odd = decide (riN r % 2 = 1)
  | [] => rfl
  | p :: r => by
    have ih := odd_is r
    have e : (segR (p :: r)).odd = (decide (p.brk = 6) && !((segR r).any && decide ((segR r).last = 6) && (segR r).odd)) := rfl
    have e1 : riN (p :: r) = if p.brk = 6 then riN r + 1 else 0 := rfl
    rw [e, ih, e1]
    by_cases c : p.brk = 6
    · rw [if_pos c]
      cases r with
      | nil => simp [c, segR, seg0, riN]
      | cons q r =>
        have ea : (segR (q :: r)).any = true := rfl
        have el : (segR (q :: r)).last = q.brk := rfl
        rw [ea, el]
        by_cases c2 : q.brk = 6
        · have hm : ∀ n : Nat, (!decide (n % 2 = 1)) = decide ((n + 1) % 2 = 1) := by
            intro n
            by_cases h : n % 2 = 1
            · rw [decide_eq_true h, decide_eq_false (by omega)]; rfl
            · rw [decide_eq_false h, decide_eq_true (by omega)]; rfl
          simp only [c, c2, decide_true, Bool.true_and]
          exact hm _
        · have e0 : riN (q :: r) = 0 := if_neg c2
          simp [c, c2, e0]
    · rw [if_neg c]
      simp [c]
theorem joins_is (p : PropV) (r : List PropV) : rJoins p r = joinsF (segR r) p := by
  cases r with
  | nil => rfl
  | cons q r =>
    have ea : (segR (q :: r)).any = true := rfl
    have el : (segR (q :: r)).last = q.brk := rfl
    have e0 : rJoins p (q :: r) = if pairF q.brk p.brk = 1 ∨ (p.conj = 1 ∧ linkS false (q :: r) = true) ∨ (p.pict = true ∧ pictZ (q :: r) = true) then true
      else if pairF q.brk p.brk ≠ 2 ∨ p.brk ≠ 6 then false else decide (riN (q :: r) % 2 = 1) := rfl
    have ej : joinsF (segR (q :: r)) p = if (p.conj = 1 ∧ (segR (q :: r)).conj = 2) ∨ (p.pict = true ∧ (segR (q :: r)).pict = 2) then true
        else if pairF q.brk p.brk = 1 then true else if pairF q.brk p.brk = 2 then decide (q.brk = 6) && (segR (q :: r)).odd else false := by
      unfold joinsF
      rw [ea, el, if_neg (by decide)]
    rw [e0, ej, (link_is (q :: r)).1, (pict_is (q :: r)).2, odd_is (q :: r)]
    simp only [decide_eq_true_eq]
    by_cases h1 : pairF q.brk p.brk = 1
    · rw [if_pos (.inl h1), if_pos h1]
      split <;> rfl
    · by_cases h2 : (p.conj = 1 ∧ (segR (q :: r)).conj = 2) ∨ (p.pict = true ∧ (segR (q :: r)).pict = 2)
      · rw [if_pos (.inr h2), if_pos h2]
      · rw [if_neg (by rintro (h | h); exact h1 h; exact h2 h), if_neg h2, if_neg h1]
        by_cases h3 : pairF q.brk p.brk = 2
        · rw [if_pos h3]
          have h4 := pairC_two h3
          by_cases h6 : p.brk = 6
          · rw [if_neg (by rintro (h | h); exact h h3; exact h h6)]
            have hb := (classF_six p.brk).2 h6
            have : q.brk = 6 := (classF_six q.brk).1 (by omega)
            simp [this, h3, h6]
          · rw [if_pos (.inr h6)]
            have : ¬ q.brk = 6 := fun hq => by
              have ha := (classF_six q.brk).2 hq
              have hb : ¬ classF p.brk = 6 := fun h => h6 ((classF_six _).1 h)
              omega
            simp [this, h3, h6]
        · rw [if_pos (.inl h3), if_neg h3]
def TblP (p : PropV) : Prop := (0 ≤ p.brk ∧ p.brk ≤ 13) ∧ (breaksF p.brk = true → p.pict = false ∧ p.conj = 0) ∧ (p.conj = 2 ∨ p.conj = 3 → p.brk = 4 ∨ p.brk = 5)
def SegOk (s : SegV) : Prop := (s.any = false → s = seg0) ∧ (breaksF (classF s.last) = true → s.pict = 0 ∧ s.conj = 0)
theorem segOk0 : SegOk seg0 := ⟨fun _ => rfl, fun h => (by cases h)⟩
theorem segOk_step {s : SegV} {p : PropV} (hp : TblP p) : SegOk (segN s p) := by
  refine ⟨fun h => (by cases h), fun h => ?_⟩
  have e : classF (segN s p).last = p.brk := classF_in hp.1.1 hp.1.2
  rw [e] at h
  obtain ⟨h1, h2⟩ := hp.2.1 h
  have hb : ¬ p.brk = 4 ∧ ¬ p.brk = 5 := by
    unfold breaksF at h
    have := of_decide_eq_true h
    omega
  constructor
  · show pictF s p = 0
    unfold pictF
    simp [h1, hb.1, hb.2]
  · show conjF s p = 0
    unfold conjF
    simp [h2]
theorem seg_anew {s : SegV} {p : PropV} (hs : SegOk s) (hp : TblP p) (h : joinsF s p = false) : segN s p = segN seg0 p := by
  cases ha : s.any with
  | false => rw [hs.1 ha]
  | true =>
    have hj : pairF s.last p.brk = 1 → False := fun h1 => by
      unfold joinsF at h
      rw [ha] at h
      rw [if_neg (by decide)] at h
      split at h
      · cases h
      · first | cases h | (rw [if_pos h1] at h; cases h)
    have hext : (p.brk = 4 ∨ p.brk = 5) → s.pict = 0 ∧ s.conj = 0 := fun hb => by
      cases hbr : breaksF (classF s.last) with
      | true => exact hs.2 hbr
      | false => exact (hj (pair_ext hbr hb)).elim
    have e1 : pictF s p = pictF seg0 p := by
      unfold pictF
      by_cases c : p.pict = true
      · simp [c]
      · by_cases hb : p.brk = 4 ∨ p.brk = 5
        · rw [(hext hb).1]; simp [seg0]
        · simp only [not_or] at hb
          simp [hb.1, hb.2, seg0]
    have e2 : conjF s p = conjF seg0 p := by
      unfold conjF
      by_cases c : p.conj = 1
      · simp [c]
      · by_cases c2 : p.conj = 2 ∨ p.conj = 3
        · rw [(hext (hp.2.2 c2)).2]; simp [seg0]
        · simp only [not_or] at c2
          simp [c, c2.1, c2.2, seg0]
    have e3 : (decide (p.brk = 6) && !(s.any && decide (s.last = 6) && s.odd)) = (decide (p.brk = 6) && !(seg0.any && decide (seg0.last = 6) && seg0.odd)) := by
      by_cases c : p.brk = 6
      · by_cases c2 : s.last = 6
        · cases ho : s.odd with
          | false => simp [seg0]
          | true =>
            exfalso
            unfold joinsF at h
            rw [ha, if_neg (by decide)] at h
            have hn1 : ¬ pairF s.last p.brk = 1 := hj
            have hp2 : pairF s.last p.brk = 2 := by rw [c2, c]; exact pair_ri
            rw [if_neg hn1, if_pos hp2, c2, ho] at h
            split at h <;> cases h
        · simp [c2, seg0]
      · simp [c]
    unfold segN
    rw [e1, e2, e3]
def cutS (P : Int → PropV) : SegV → List Int → List Int → List (List Int)
  | _, cur, [] => if cur = [] then [] else [cur]
  | s, cur, r :: t => if joinsF s (P r) = true ∨ cur = [] then cutS P (segN s (P r)) (cur ++ [r]) t else cur :: cutS P (segN s (P r)) [r] t
def clusF' (P : Int → PropV) (l : List Int) : List (List Int) := cutS P seg0 [] l
def allJ (P : Int → PropV) : SegV → List Int → Bool
  | _, [] => true
  | s, r :: t => joinsF s (P r) && allJ P (segN s (P r)) t
def segL (P : Int → PropV) : SegV → List Int → SegV
  | s, [] => s
  | s, r :: t => segL P (segN s (P r)) t
theorem allJ_snoc (P : Int → PropV) : ∀ (t : List Int) (s : SegV) (r : Int), allJ P s (t ++ [r]) = (allJ P s t && joinsF (segL P s t) (P r))
  | [], s, r => by simp [allJ, segL]
  | x :: t, s, r => by
    rw [List.cons_append, allJ, allJ_snoc P t, allJ, segL, Bool.and_assoc]
theorem segL_snoc (P : Int → PropV) : ∀ (t : List Int) (s : SegV) (r : Int), segL P s (t ++ [r]) = segN (segL P s t) (P r)
  | [], s, r => rfl
  | x :: t, s, r => by rw [List.cons_append, segL, segL_snoc P t, segL]
def OneC (P : Int → PropV) (c : List Int) : Prop := ∃ r t, c = r :: t ∧ allJ P (segN seg0 (P r)) t = true
theorem cut_all (P : Int → PropV) : ∀ (t : List Int) (s : SegV) (cur : List Int), cur ≠ [] → allJ P s t = true → cutS P s cur t = [cur ++ t]
  | [], s, cur, hc, _ => by rw [cutS, if_neg hc, List.append_nil]
  | r :: t, s, cur, hc, h => by
    rw [allJ, Bool.and_eq_true] at h
    rw [cutS, if_pos (.inl h.1), cut_all P t _ _ (by simp) h.2]
    simp
theorem one_clus (P : Int → PropV) {c : List Int} (h : OneC P c) : clusF' P c = [c] := by
  obtain ⟨r, t, rfl, h⟩ := h
  unfold clusF'
  rw [cutS, if_pos (.inr rfl), cut_all P t _ _ (by simp) h]
  simp
def HandOk (P : Int → PropV) (s : SegV) (cur : List Int) : Prop := (cur = [] ∧ s = seg0) ∨ (OneC P cur ∧ s = segL P seg0 cur)
theorem hand_join (P : Int → PropV) {s : SegV} {cur : List Int} {r : Int} (h : HandOk P s cur) (hj : joinsF s (P r) = true) : HandOk P (segN s (P r)) (cur ++ [r]) := by
  rcases h with ⟨rfl, rfl⟩ | ⟨⟨x, t, rfl, h⟩, rfl⟩
  · cases hj
  · refine .inr ⟨⟨x, t ++ [r], rfl, ?_⟩, ?_⟩
    · rw [allJ_snoc, h]; exact hj
    · rw [segL_snoc]
theorem hand_one (P : Int → PropV) (r : Int) : HandOk P (segN seg0 (P r)) [r] := .inr ⟨⟨r, [], rfl, rfl⟩, rfl⟩
theorem hand_seg (P : Int → PropV) (hP : ∀ r, TblP (P r)) {s : SegV} {cur : List Int} (h : HandOk P s cur) : SegOk s := by
  rcases h with ⟨_, rfl⟩ | ⟨⟨x, t, rfl, _⟩, rfl⟩
  · exact segOk0
  · rw [segL]
    have : ∀ (t : List Int) (s : SegV), SegOk s → SegOk (segL P s t) := by
      intro t
      induction t with
      | nil => exact fun s h => h
      | cons y t ih => exact fun s h => ih _ (segOk_step (hP y))
    exact this t _ (segOk_step (hP x))
theorem hand_next (P : Int → PropV) (hP : ∀ r, TblP (P r)) {s : SegV} {cur : List Int} {r : Int} (h : HandOk P s cur) (hj : joinsF s (P r) = false) : HandOk P (segN s (P r)) [r] := by
  rw [seg_anew (hand_seg P hP h) (hP r) hj]
  exact hand_one P r
theorem cut_ones (P : Int → PropV) (hP : ∀ r, TblP (P r)) : ∀ (l : List Int) (s : SegV) (cur : List Int), HandOk P s cur → ∀ c ∈ cutS P s cur l, OneC P c
  | [], s, cur, h, c, hc => by
    rw [cutS] at hc
    split at hc
    · cases hc
    · rename_i hne
      rw [List.mem_singleton] at hc
      subst hc
      rcases h with ⟨rfl, _⟩ | ⟨h, _⟩
      · exact (hne rfl).elim
      · exact h
  | r :: t, s, cur, h, c, hc => by
    rw [cutS] at hc
    cases hj : joinsF s (P r) with
    | true =>
      rw [if_pos (.inl hj)] at hc
      exact cut_ones P hP t _ _ (hand_join P h hj) c hc
    | false =>
      by_cases hn : cur = []
      · rw [if_pos (.inr hn)] at hc
        subst hn
        have hs := hand_next P hP h hj
        exact cut_ones P hP t _ _ hs c hc
      · rw [if_neg (by rintro (h1 | h1); rw [hj] at h1; cases h1; exact hn h1)] at hc
        rcases List.mem_cons.1 hc with rfl | hc
        · rcases h with ⟨rfl, _⟩ | ⟨h, _⟩
          · exact (hn rfl).elim
          · exact h
        · exact cut_ones P hP t _ _ (hand_next P hP h hj) c hc
theorem cut_join (P : Int → PropV) : ∀ (l : List Int) (s : SegV) (cur : List Int), (cutS P s cur l).flatten = cur ++ l
  | [], s, cur => by
    rw [cutS]
    split
    · rename_i h; subst h; rfl
    · simp
  | r :: t, s, cur => by
    rw [cutS]
    split
    · rw [cut_join P t]; simp
    · rw [List.flatten_cons, cut_join P t]; simp
end Go.Proofs.YtdjpdllehhecpaaGreatDoor
