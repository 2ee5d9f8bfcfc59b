/-
  Texts sought on a view, plain: the pieces of a view in reading order and the document's way from cluster to cluster tell the same places. No program in sight.
-/
import Derived.Test.YtejhaepgbfngcaaDoorView0
namespace Go.Proofs.YtejhaepgbfngcaaDoor
open Go.RowKit
set_option linter.unusedVariables false
set_option linter.unusedSimpArgs false

/-- A piece: its row, its column, its numbers. -/
abbrev PieceV : Type := Int × Int × List Int
def kAt (l : List CellV) (k : Nat) : Int := (l.getD k (0, [])).1
def tAt (l : List CellV) (k : Nat) : List Int := (l.getD k (0, [])).2
def lnAt (ls : List LineV) (i : Nat) : LineV := ls.getD i ([], false)
def padB (l : LineV) (k : Nat) : Bool := l.2 && decide (k = l.1.length - 1) && decide (kAt l.1 k = 0)
def pieceAt (i : Nat) (l : LineV) (k : Nat) : List PieceV := if kAt l.1 k ≠ 3 ∧ padB l k = false then [((i : Int), (k : Int), tAt l.1 k)] else []
def rowU (i : Nat) (l : LineV) (k : Nat) : List PieceV := (List.range k).flatMap (pieceAt i l)
def rowS (i : Nat) (l : LineV) (j : Nat) : List PieceV := (List.range' j (l.1.length - j)).flatMap (pieceAt i l)
def sepP (i : Nat) (l : LineV) : List PieceV := if l.2 = false then [((i : Int), 0, [])] else []
def lineP (i : Nat) (l : LineV) : List PieceV := rowU i l l.1.length ++ sepP i l
def piecesU (ls : List LineV) (m : Nat) : List PieceV := (List.range m).flatMap fun i => lineP i (lnAt ls i)
def restP (ls : List LineV) (i : Nat) : List PieceV := (List.range' i (ls.length - i)).flatMap fun i => lineP i (lnAt ls i)
def suf (ls : List LineV) (i j : Nat) : List PieceV := rowS i (lnAt ls i) j ++ (sepP i (lnAt ls i) ++ restP ls (i + 1))

theorem rowU_snoc (i : Nat) (l : LineV) (k : Nat) : rowU i l (k + 1) = rowU i l k ++ pieceAt i l k := by
  unfold rowU; rw [List.range_succ, List.flatMap_append]; simp
theorem rowS_step (i : Nat) (l : LineV) (j : Nat) (h : j < l.1.length) : rowS i l j = pieceAt i l j ++ rowS i l (j + 1) := by
  unfold rowS
  rw [show l.1.length - j = (l.1.length - (j + 1)) + 1 by omega, List.range'_succ]; simp
theorem rowS_end (i : Nat) (l : LineV) (j : Nat) (h : l.1.length ≤ j) : rowS i l j = [] := by
  unfold rowS; rw [show l.1.length - j = 0 by omega]; rfl
theorem rowU_all (i : Nat) (l : LineV) : rowU i l l.1.length = rowS i l 0 := by
  unfold rowU rowS; rw [List.range_eq_range']; rfl
theorem piecesU_snoc (ls : List LineV) (m : Nat) : piecesU ls (m + 1) = piecesU ls m ++ lineP m (lnAt ls m) := by
  unfold piecesU; rw [List.range_succ, List.flatMap_append]; simp
theorem piecesU_all (ls : List LineV) : piecesU ls ls.length = restP ls 0 := by
  unfold piecesU restP; rw [List.range_eq_range']; rfl
theorem restP_step (ls : List LineV) (i : Nat) (h : i < ls.length) : restP ls i = suf ls i 0 := by
  unfold suf
  rw [← rowU_all]
  show (List.range' i (ls.length - i)).flatMap _ = _
  rw [show ls.length - i = (ls.length - (i + 1)) + 1 by omega, List.range'_succ]
  simp [restP, lineP]
theorem restP_end (ls : List LineV) (i : Nat) (h : ls.length ≤ i) : restP ls i = [] := by
  unfold restP; rw [show ls.length - i = 0 by omega]; rfl

/-- How many pieces in front are just a text. -/
def cntP : List PieceV → List Int → Nat → Nat
  | [], _, _ => 0
  | p :: l, text, i => if p.2.2.length = 0 ∨ text.length < p.2.2.length ∨ text.take p.2.2.length ≠ p.2.2 then 0 else if (text.drop p.2.2.length).length = 0 then i + 1 else cntP l (text.drop p.2.2.length) (i + 1)

/-- Rows of one blank that go on are passed over. -/
def passedG (i : Nat) : List LineV → Option (Nat × Nat)
  | [] => none
  | l :: r => if l.2 = true ∧ kAt l.1 0 = 0 then passedG (i + 1) r else if kAt l.1 0 ≠ 0 then some (i, 0) else none
def behind (ls : List LineV) (i j : Nat) : Nat := if padB (lnAt ls i) (j + (kAt (lnAt ls i).1 j).toNat) = true then j + (kAt (lnAt ls i).1 j).toNat + 1 else j + (kAt (lnAt ls i).1 j).toNat
def enterF (ls : List LineV) (i : Nat) : Option (Nat × Nat) :=
  if (lnAt ls i).1.length = 1 ∧ (lnAt ls i).2 = true ∧ kAt (lnAt ls i).1 0 = 0 then passedG i (ls.drop i) else if kAt (lnAt ls i).1 0 ≠ 0 then some (i, 0) else none
def nextF (ls : List LineV) (i j : Nat) : Option (Nat × Nat) :=
  if (lnAt ls i).1.length ≤ behind ls i j then (if (lnAt ls i).2 = false ∨ ls.length ≤ i + 1 then none else enterF ls (i + 1))
  else if kAt (lnAt ls i).1 (behind ls i j) ≠ 0 then some (i, behind ls i j) else none
def refC (ls : List LineV) (text : List Int) : Nat → Nat → List Int → Nat → Nat → Nat
  | 0, _, _, _, _ => 0
  | f + 1, n, got, i, j => if got ++ tAt (lnAt ls i).1 j = text then n else match nextF ls i j with
    | none => 0
    | some q => refC ls text f (n + 1) (got ++ tAt (lnAt ls i).1 j) q.1 q.2

/-- What is known of the lines of a right view. -/
structure Rght (ls : List LineV) (wd : Nat) : Prop where
  pos : 0 < wd
  wide : ∀ i, i < ls.length → (lnAt ls i).1.length = wd
  lead : ∀ i k, i < ls.length → k < wd → kAt (lnAt ls i).1 k = 2 → kAt (lnAt ls i).1 (k + 1) = 3 ∧ k + 1 < wd
  spac : ∀ i k, i < ls.length → k < wd → kAt (lnAt ls i).1 k = 3 → 0 < k ∧ kAt (lnAt ls i).1 (k - 1) = 2
  some_ : ∀ i k, i < ls.length → k < wd → kAt (lnAt ls i).1 k = 1 ∨ kAt (lnAt ls i).1 k = 2 → 0 < (tAt (lnAt ls i).1 k).length
  none_ : ∀ i k, i < ls.length → k < wd → kAt (lnAt ls i).1 k = 0 ∨ kAt (lnAt ls i).1 k = 3 → (tAt (lnAt ls i).1 k).length = 0
  kind : ∀ i k, i < ls.length → k < wd → 0 ≤ kAt (lnAt ls i).1 k ∧ kAt (lnAt ls i).1 k ≤ 3

/-- A cluster's head. -/
def Head (ls : List LineV) (wd i j : Nat) : Prop := i < ls.length ∧ j < wd ∧ (kAt (lnAt ls i).1 j = 1 ∨ kAt (lnAt ls i).1 j = 2)
/-- What stands there begins with nothing. -/
def Bare (l : List PieceV) : Prop := ∀ p r, l = p :: r → p.2.2.length = 0
theorem cnt_bare {l : List PieceV} (h : Bare l) (text : List Int) (i : Nat) : cntP l text i = 0 := by
  cases l with
  | nil => rfl
  | cons p r => unfold cntP; rw [if_pos (.inl (h p r rfl))]

theorem ref_off (ls : List LineV) (text : List Int) : ∀ (f n : Nat) (got : List Int) (i j : Nat), (¬ ∃ r, text = got ++ r) → refC ls text f n got i j = 0
  | 0, _, _, _, _, _ => rfl
  | f + 1, n, got, i, j, hn => by
    unfold refC
    rw [if_neg (fun e => hn ⟨_, e.symm⟩)]
    cases nextF ls i j with
    | none => rfl
    | some q => exact ref_off ls text f (n + 1) _ q.1 q.2 (fun ⟨r, e⟩ => hn ⟨tAt (lnAt ls i).1 j ++ r, by rw [e]; simp⟩)

section
variable {ls : List LineV} {wd : Nat} (h : Rght ls wd)
include h

theorem suf_head {i j : Nat} (hd : Head ls wd i j) : suf ls i j = ((i : Int), (j : Int), tAt (lnAt ls i).1 j) :: suf ls i (j + (kAt (lnAt ls i).1 j).toNat) := by
  obtain ⟨hi, hj, hk⟩ := hd
  have hw := h.wide i hi
  have hp : pieceAt i (lnAt ls i) j = [((i : Int), (j : Int), tAt (lnAt ls i).1 j)] := by
    unfold pieceAt padB
    rw [if_pos ⟨by omega, by rw [decide_eq_false (p := kAt (lnAt ls i).1 j = 0) (by omega)]; simp⟩]
  unfold suf
  rw [rowS_step i _ j (by omega), hp]
  rcases hk with hk | hk
  · rw [hk]; rfl
  · have h3 := (h.lead i j hi hj hk)
    rw [hk, rowS_step i _ (j + 1) (by omega)]
    have hp2 : pieceAt i (lnAt ls i) (j + 1) = [] := by unfold pieceAt; rw [if_neg]; rintro ⟨h1, _⟩; exact h1 h3.1
    rw [hp2]; rfl

/-- A row's start. -/
theorem suf_start {i : Nat} (hi : i < ls.length) (hn : ¬ (kAt (lnAt ls i).1 0 = 0)) : Head ls wd i 0 := by
  have hk := h.kind i 0 hi h.pos
  refine ⟨hi, h.pos, ?_⟩
  have : kAt (lnAt ls i).1 0 ≠ 3 := fun e => by have := (h.spac i 0 hi h.pos e).1; omega
  omega
theorem suf_blank {i k : Nat} (hi : i < ls.length) (hk : k < wd) (h0 : kAt (lnAt ls i).1 k = 0) (hp : padB (lnAt ls i) k = false) : Bare (suf ls i k) := by
  have hw := h.wide i hi
  intro p r e
  unfold suf at e
  rw [rowS_step i _ k (by omega)] at e
  have : pieceAt i (lnAt ls i) k = [((i : Int), (k : Int), tAt (lnAt ls i).1 k)] := by
    unfold pieceAt; rw [if_pos ⟨by omega, hp⟩]
  rw [this] at e
  simp only [List.singleton_append, List.cons_append, List.nil_append] at e
  injection e with e1 e2
  rw [← e1]
  exact h.none_ i k hi hk (.inl h0)
theorem suf_pad {i k : Nat} (hi : i < ls.length) (hk : k < wd) (hp : padB (lnAt ls i) k = true) : suf ls i k = restP ls (i + 1) := by
  have hw := h.wide i hi
  have hp' := hp
  unfold padB at hp
  simp only [Bool.and_eq_true, decide_eq_true_eq] at hp
  obtain ⟨⟨h1, h2⟩, h3⟩ := hp
  unfold suf
  rw [rowS_step i _ k (by omega), rowS_end i _ (k + 1) (by omega)]
  have e1 : pieceAt i (lnAt ls i) k = [] := by unfold pieceAt; rw [if_neg]; rintro ⟨_, h4⟩; rw [hp'] at h4; cases h4
  have e2 : sepP i (lnAt ls i) = [] := by unfold sepP; rw [if_neg (by rw [h1]; decide)]
  rw [e1, e2]; rfl
theorem suf_over {i : Nat} (hi : i < ls.length) (hw2 : (lnAt ls i).2 = true) : suf ls i wd = restP ls (i + 1) := by
  have hw := h.wide i hi
  unfold suf
  rw [rowS_end i _ wd (by omega)]
  have e2 : sepP i (lnAt ls i) = [] := by unfold sepP; rw [if_neg (by rw [hw2]; decide)]
  rw [e2]; rfl
theorem suf_stop {i : Nat} (hi : i < ls.length) (hw2 : (lnAt ls i).2 = false) : Bare (suf ls i wd) := by
  have hw := h.wide i hi
  intro p r e
  unfold suf at e
  rw [rowS_end i _ wd (by omega)] at e
  have e2 : sepP i (lnAt ls i) = [((i : Int), 0, [])] := by unfold sepP; rw [if_pos hw2]
  rw [e2] at e
  simp only [List.singleton_append, List.cons_append, List.nil_append] at e
  injection e with e1 _
  rw [← e1]; rfl

theorem passed_ok : ∀ (n i : Nat), ls.length - i = n → (wd = 1) →
    (passedG i (ls.drop i) = none → Bare (restP ls i)) ∧ (∀ q, passedG i (ls.drop i) = some q → Head ls wd q.1 q.2 ∧ restP ls i = suf ls q.1 q.2)
  | 0, i, hn, h1 => by
    rw [List.drop_eq_nil_of_le (by omega), restP_end ls i (by omega)]
    exact ⟨fun _ p r e => (by cases e), fun q e => (by simp [passedG] at e)⟩
  | n + 1, i, hn, h1 => by
    have hi : i < ls.length := by omega
    have hw := h.wide i hi
    have e0 : lnAt ls i = ls[i] := by unfold lnAt; rw [List.getD_eq_getElem?_getD, List.getElem?_eq_getElem hi]; rfl
    rw [List.drop_eq_getElem_cons hi, restP_step ls i hi]
    unfold passedG
    rw [← e0]
    by_cases hc : (lnAt ls i).2 = true ∧ kAt (lnAt ls i).1 0 = 0
    · have ih := passed_ok n (i + 1) (by omega) h1
      rw [if_pos hc]
      have hp : padB (lnAt ls i) 0 = true := by
        unfold padB
        rw [hc.1, decide_eq_true hc.2, decide_eq_true (show 0 = (lnAt ls i).1.length - 1 by omega)]; rfl
      rw [suf_pad h hi h.pos hp]
      exact ih
    · rw [if_neg hc]
      by_cases h0 : kAt (lnAt ls i).1 0 = 0
      · rw [if_neg (by simpa using h0)]
        refine ⟨fun _ => ?_, fun q e => (by cases e)⟩
        have hw2 : (lnAt ls i).2 = false := by
          cases hb : (lnAt ls i).2 with
          | false => rfl
          | true => exact absurd ⟨hb, h0⟩ hc
        exact suf_blank h hi h.pos h0 (by unfold padB; rw [hw2]; rfl)
      · rw [if_pos h0]
        refine ⟨fun e => (by cases e), fun q e => ?_⟩
        injection e with e
        subst e
        exact ⟨suf_start h hi h0, rfl⟩
theorem enter_ok {i : Nat} (hi : i < ls.length) :
    (enterF ls i = none → Bare (restP ls i)) ∧ (∀ q, enterF ls i = some q → Head ls wd q.1 q.2 ∧ restP ls i = suf ls q.1 q.2) := by
  have hw := h.wide i hi
  unfold enterF
  by_cases h1 : (lnAt ls i).1.length = 1 ∧ (lnAt ls i).2 = true ∧ kAt (lnAt ls i).1 0 = 0
  · rw [if_pos h1]
    exact passed_ok h _ i rfl (by omega)
  · rw [if_neg h1, restP_step ls i hi]
    by_cases h0 : kAt (lnAt ls i).1 0 = 0
    · rw [if_neg (by simpa using h0)]
      refine ⟨fun _ => suf_blank h hi h.pos h0 ?_, fun q e => (by cases e)⟩
      unfold padB
      by_cases hb : (lnAt ls i).2 = true
      · rw [decide_eq_false (p := 0 = (lnAt ls i).1.length - 1) (fun e => h1 ⟨by have := h.pos; omega, hb, h0⟩)]; simp
      · simp [hb]
    · rw [if_pos h0]
      refine ⟨fun e => (by cases e), fun q e => ?_⟩
      injection e with e
      subst e
      exact ⟨suf_start h hi h0, rfl⟩
theorem next_law {i j : Nat} (hd : Head ls wd i j) :
    (nextF ls i j = none → Bare (suf ls i (j + (kAt (lnAt ls i).1 j).toNat))) ∧ (∀ q, nextF ls i j = some q → Head ls wd q.1 q.2 ∧ suf ls i (j + (kAt (lnAt ls i).1 j).toNat) = suf ls q.1 q.2) := by
  obtain ⟨hi, hj, hk⟩ := hd
  have hw := h.wide i hi
  have hle : j + (kAt (lnAt ls i).1 j).toNat ≤ wd := by
    rcases hk with hk | hk
    · rw [hk]; omega
    · have := (h.lead i j hi hj hk).2; rw [hk]; omega
  have hn3 : ∀ m, m = j + (kAt (lnAt ls i).1 j).toNat → m < wd → kAt (lnAt ls i).1 m ≠ 3 := by
    intro m hm hlt e
    have := h.spac i m hi hlt e
    rcases hk with hk | hk
    · rw [hk] at hm
      have : kAt (lnAt ls i).1 j = 2 := by rw [show m - 1 = j by omega] at this; exact this.2
      omega
    · rw [hk] at hm
      have e2 := (h.lead i j hi hj hk).1
      rw [show m - 1 = j + 1 by omega] at this
      omega
  unfold nextF behind
  generalize j + (kAt (lnAt ls i).1 j).toNat = m at *
  have over : (lnAt ls i).2 = true → suf ls i m = restP ls (i + 1) → ((if (lnAt ls i).2 = false ∨ ls.length ≤ i + 1 then none else enterF ls (i + 1)) = none → Bare (suf ls i m)) ∧ (∀ q, (if (lnAt ls i).2 = false ∨ ls.length ≤ i + 1 then none else enterF ls (i + 1)) = some q → Head ls wd q.1 q.2 ∧ suf ls i m = suf ls q.1 q.2) := by
    intro hb hs
    rw [hs]
    by_cases hl : ls.length ≤ i + 1
    · rw [if_pos (.inr hl), restP_end ls (i + 1) hl]
      exact ⟨fun _ p r e => (by cases e), fun q e => (by cases e)⟩
    · rw [if_neg (by rintro (h1 | h1); · rw [hb] at h1; cases h1
                     · omega)]
      exact enter_ok h (by omega)
  by_cases hp : padB (lnAt ls i) m = true
  · rw [if_pos hp]
    have hp' := hp
    unfold padB at hp'
    simp only [Bool.and_eq_true, decide_eq_true_eq] at hp'
    obtain ⟨⟨h1, h2⟩, h3⟩ := hp'
    rw [if_pos (by omega)]
    have hmw : m < wd := by have := h.pos; omega
    exact over h1 (suf_pad h hi hmw hp)
  · rw [if_neg hp]
    by_cases hm : m < wd
    · rw [if_neg (by omega)]
      have hk2 := h.kind i m hi hm
      have h3 := hn3 m rfl hm
      by_cases h0 : kAt (lnAt ls i).1 m = 0
      · rw [if_neg (by simpa using h0)]
        exact ⟨fun _ => suf_blank h hi hm h0 (by simpa using hp), fun q e => (by cases e)⟩
      · rw [if_pos h0]
        refine ⟨fun e => (by cases e), fun q e => ?_⟩
        injection e with e
        subst e
        exact ⟨⟨hi, hm, by simp only; omega⟩, rfl⟩
    · obtain rfl : m = wd := by omega
      rw [if_pos (by omega)]
      cases hb : (lnAt ls i).2 with
      | true =>
        have := over hb (suf_over h hi hb)
        rw [hb] at this
        exact this
      | false =>
        rw [if_pos (.inl rfl)]
        exact ⟨fun _ => suf_stop h hi hb, fun q e => (by cases e)⟩

theorem ref_cnt (text : List Int) : ∀ (f n : Nat) (got rest : List Int) (i j : Nat), Head ls wd i j → text = got ++ rest → 0 < rest.length → rest.length ≤ f →
    refC ls text f (n + 1) got i j = cntP (suf ls i j) rest n
  | 0, _, _, _, _, _, _, _, h1, h2 => by omega
  | f + 1, n, got, rest, i, j, hd, ht, h1, h2 => by
    have hs := suf_head h hd
    obtain ⟨hi, hj, hk⟩ := hd
    have hpos := h.some_ i j hi hj hk
    have hnx := next_law h ⟨hi, hj, hk⟩
    rw [hs]
    unfold refC cntP
    generalize suf ls i (j + (kAt (lnAt ls i).1 j).toNat) = tl at *
    generalize tAt (lnAt ls i).1 j = t at *
    simp only
    by_cases hc : t.length = 0 ∨ rest.length < t.length ∨ rest.take t.length ≠ t
    · rw [if_pos hc]
      have hne : ¬ ∃ r, text = (got ++ t) ++ r := by
        rintro ⟨r, e⟩
        rw [ht, List.append_assoc] at e
        have e := List.append_cancel_left e
        rcases hc with hc | hc | hc
        · omega
        · rw [e, List.length_append] at hc; omega
        · rw [e] at hc; exact hc (by simp)
      rw [if_neg (fun e => hne ⟨[], by rw [e]; simp⟩)]
      cases nextF ls i j with
      | none => rfl
      | some q => exact ref_off ls text f _ _ q.1 q.2 hne
    · rw [if_neg hc]
      have hle : t.length ≤ rest.length := Nat.le_of_not_lt fun e => hc (.inr (.inl e))
      have htk : rest.take t.length = t := Decidable.byContradiction fun e => hc (.inr (.inr e))
      have hr : rest = t ++ rest.drop t.length := by rw [← htk, List.length_take, Nat.min_eq_left hle, List.take_append_drop]
      have hdl : (rest.drop t.length).length = rest.length - t.length := List.length_drop
      generalize rest.drop t.length = r2 at *
      subst hr
      by_cases hz : r2.length = 0
      · have : r2 = [] := List.eq_nil_of_length_eq_zero hz
        subst this
        rw [if_pos (by rw [ht]; simp), if_pos hz]
      · rw [if_neg (by rw [ht]; intro e; have := congrArg List.length e; simp at this; exact hz (by rw [this]; rfl)), if_neg hz]
        cases hq : nextF ls i j with
        | none => exact (cnt_bare (hnx.1 hq) _ _).symm
        | some q =>
          obtain ⟨hq1, hq2⟩ := hnx.2 q hq
          rw [hq2]
          exact ref_cnt text f (n + 1) (got ++ t) r2 q.1 q.2 hq1 (by rw [ht]; simp) (by omega) (by rw [List.length_append] at h2; omega)


/-! ### All places -/
/-- A place where a text stands: its row, its column, how many clusters. -/
def hitsOf (text : List Int) : List PieceV → List (Int × Int × Int)
  | [] => []
  | p :: l => (if 0 < cntP (p :: l) text 0 then [(p.1, p.2.1, (cntP (p :: l) text 0 : Int))] else []) ++ hitsOf text l
def hitAt (l : List PieceV) (text : List Int) (i : Nat) : List (Int × Int × Int) := if 0 < cntP (l.drop i) text 0 then [((l.getD i (0, 0, [])).1, (l.getD i (0, 0, [])).2.1, (cntP (l.drop i) text 0 : Int))] else []
def hitsU (l : List PieceV) (text : List Int) (k : Nat) : List (Int × Int × Int) := (List.range k).flatMap (hitAt l text)
def lawAt (ls : List LineV) (text : List Int) (i j : Nat) : List (Int × Int × Int) :=
  if (kAt (lnAt ls i).1 j = 1 ∨ kAt (lnAt ls i).1 j = 2) ∧ refC ls text text.length 1 [] i j ≠ 0 then [((i : Int), (j : Int), (refC ls text text.length 1 [] i j : Int))] else []
def lawRow (ls : List LineV) (text : List Int) (i j : Nat) : List (Int × Int × Int) := (List.range j).flatMap (lawAt ls text i)
def lawU (ls : List LineV) (wd : Nat) (text : List Int) (i : Nat) : List (Int × Int × Int) := (List.range i).flatMap fun i => lawRow ls text i wd

omit h in
theorem hitsU_snoc (l : List PieceV) (text : List Int) (k : Nat) : hitsU l text (k + 1) = hitsU l text k ++ hitAt l text k := by
  unfold hitsU; rw [List.range_succ, List.flatMap_append]; simp
omit h in
theorem hits_drop (l : List PieceV) (text : List Int) : ∀ (n k : Nat), l.length - k = n → hitsOf text (l.drop k) = (List.range' k n).flatMap (hitAt l text)
  | 0, k, hn => by rw [List.drop_eq_nil_of_le (by omega)]; rfl
  | n + 1, k, hn => by
    have hk : k < l.length := by omega
    rw [List.range'_succ, List.flatMap_cons, ← hits_drop l text n (k + 1) (by omega)]
    unfold hitAt
    rw [List.getD_eq_getElem?_getD, List.getElem?_eq_getElem hk, List.drop_eq_getElem_cons hk]
    rfl
omit h in
theorem hitsU_all (l : List PieceV) (text : List Int) : hitsU l text l.length = hitsOf text l := by
  have := hits_drop l text l.length 0 (by omega)
  rw [List.drop_zero] at this
  rw [this]
  unfold hitsU
  rw [List.range_eq_range']
omit h in
theorem hits_bare (p : PieceV) (l : List PieceV) (text : List Int) (hp : p.2.2.length = 0) : hitsOf text (p :: l) = hitsOf text l := by
  have : cntP (p :: l) text 0 = 0 := cnt_bare (fun p' r e => by injection e with e _; rw [← e]; exact hp) _ _
  show (if _ then _ else _) ++ _ = _
  rw [this, if_neg (by omega), List.nil_append]

theorem hits_row (text : List Int) (ht : 0 < text.length) {i : Nat} (hi : i < ls.length) : ∀ (n j : Nat), wd - j = n → j ≤ wd →
    hitsOf text (suf ls i j) = (List.range' j n).flatMap (lawAt ls text i) ++ hitsOf text (restP ls (i + 1))
  | 0, j, hn, hj => by
    obtain rfl : j = wd := by omega
    cases hb : (lnAt ls i).2 with
    | true => rw [suf_over h hi hb]; rfl
    | false =>
      have hw := h.wide i hi
      unfold suf
      rw [rowS_end i _ _ (by omega)]
      have e2 : sepP i (lnAt ls i) = [((i : Int), 0, [])] := by unfold sepP; rw [if_pos hb]
      rw [e2]
      exact hits_bare _ _ _ rfl
  | n + 1, j, hn, hj => by
    have hw := h.wide i hi
    have hjw : j < wd := by omega
    have ih := hits_row text ht hi n (j + 1) (by omega) (by omega)
    have hs : suf ls i j = pieceAt i (lnAt ls i) j ++ suf ls i (j + 1) := by
      unfold suf
      rw [rowS_step i _ j (by omega), List.append_assoc]
    rw [List.range'_succ, List.flatMap_cons, List.append_assoc, ← ih]
    have hk := h.kind i j hi hjw
    by_cases h12 : kAt (lnAt ls i).1 j = 1 ∨ kAt (lnAt ls i).1 j = 2
    · have hp : pieceAt i (lnAt ls i) j = [((i : Int), (j : Int), tAt (lnAt ls i).1 j)] := by
        unfold pieceAt padB
        rw [if_pos ⟨by omega, by rw [decide_eq_false (p := kAt (lnAt ls i).1 j = 0) (by omega)]; simp⟩]
      have hc := ref_cnt h text text.length 0 [] text i j ⟨hi, hjw, h12⟩ rfl ht (Nat.le_refl _)
      rw [hs, hp] at hc
      unfold lawAt
      rw [Nat.zero_add] at hc
      rw [hs, hp, hc]
      simp only [List.singleton_append] at hc ⊢
      show (if _ then _ else _) ++ _ = _
      by_cases h0 : cntP (((i : Int), (j : Int), tAt (lnAt ls i).1 j) :: suf ls i (j + 1)) text 0 = 0
      · rw [if_neg (by omega), if_neg (fun e => e.2 h0)]
      · rw [if_pos (by omega), if_pos ⟨h12, h0⟩]
    · have hla : lawAt ls text i j = [] := by unfold lawAt; rw [if_neg (fun e => h12 e.1)]
      rw [hs, hla]
      unfold pieceAt
      by_cases hc : kAt (lnAt ls i).1 j ≠ 3 ∧ padB (lnAt ls i) j = false
      · rw [if_pos hc]
        exact hits_bare _ _ _ (h.none_ i j hi hjw (by omega))
      · rw [if_neg hc]; rfl
theorem hits_rest (text : List Int) (ht : 0 < text.length) : ∀ (n i : Nat), ls.length - i = n → hitsOf text (restP ls i) = (List.range' i n).flatMap fun i => lawRow ls text i wd
  | 0, i, hn => by rw [restP_end ls i (by omega)]; rfl
  | n + 1, i, hn => by
    have hi : i < ls.length := by omega
    rw [restP_step ls i hi, hits_row h text ht hi wd 0 (by omega) (by omega), List.range'_succ, List.flatMap_cons, ← hits_rest text ht n (i + 1) (by omega)]
    unfold lawRow
    rw [List.range_eq_range']
/-- All places where a text stands, piece by piece and cell by cell. -/
theorem hits_law (text : List Int) (ht : 0 < text.length) : hitsU (piecesU ls ls.length) text (piecesU ls ls.length).length = lawU ls wd text ls.length := by
  rw [hitsU_all, piecesU_all, hits_rest h text ht ls.length 0 (by omega)]
  unfold lawU
  rw [List.range_eq_range']
end

theorem lawRow_snoc (ls : List LineV) (text : List Int) (i j : Nat) : lawRow ls text i (j + 1) = lawRow ls text i j ++ lawAt ls text i j := by
  unfold lawRow; rw [List.range_succ, List.flatMap_append]; simp
theorem lawU_snoc (ls : List LineV) (wd : Nat) (text : List Int) (i : Nat) : lawU ls wd text (i + 1) = lawU ls wd text i ++ lawRow ls text i wd := by
  unfold lawU; rw [List.range_succ, List.flatMap_append]; simp
theorem range_flat_prefix {α : Type} (f : Nat → List α) {j n : Nat} (h : j ≤ n) : ∃ r, (List.range n).flatMap f = (List.range j).flatMap f ++ r := by
  obtain ⟨d, rfl⟩ := Nat.le.dest h
  refine ⟨(List.range' j d).flatMap f, ?_⟩
  have e := List.range'_append_1 (s := 0) (m := j) (n := d)
  rw [← List.flatMap_append, List.range_eq_range', List.range_eq_range', ← e, Nat.zero_add]
/-- What stands at a place comes next. -/
theorem law_prefix (ls : List LineV) (wd : Nat) (text : List Int) {i j n : Nat} (hi : i < n) (hj : j < wd) : ∃ r, lawU ls wd text n = (lawU ls wd text i ++ lawRow ls text i j) ++ (lawAt ls text i j ++ r) := by
  obtain ⟨r1, h1⟩ := range_flat_prefix (fun i => lawRow ls text i wd) (show i + 1 ≤ n by omega)
  obtain ⟨r2, h2⟩ := range_flat_prefix (lawAt ls text i) (show j + 1 ≤ wd by omega)
  refine ⟨r2 ++ r1, ?_⟩
  have e1 : lawU ls wd text n = lawU ls wd text (i + 1) ++ r1 := h1
  have e2 : lawRow ls text i wd = lawRow ls text i (j + 1) ++ r2 := h2
  rw [e1, lawU_snoc, e2, lawRow_snoc]
  simp [List.append_assoc]

theorem kAt_at (l : List CellV) {k : Nat} (h : k < l.length) : kAt l k = l[k].1 := by unfold kAt; rw [List.getD_eq_getElem?_getD, List.getElem?_eq_getElem h]; rfl
theorem tAt_at (l : List CellV) {k : Nat} (h : k < l.length) : tAt l k = l[k].2 := by unfold tAt; rw [List.getD_eq_getElem?_getD, List.getElem?_eq_getElem h]; rfl
theorem lnAt_at (ls : List LineV) {i : Nat} (h : i < ls.length) : lnAt ls i = ls[i] := by unfold lnAt; rw [List.getD_eq_getElem?_getD, List.getElem?_eq_getElem h]; rfl
theorem Rght.of {wd : Nat} {v : ViewV} (hw : v.wide = wd) (h : rightV v = true) : Rght v.lines wd := by
  unfold rightV headR at h
  rw [Bool.and_eq_true, Bool.and_eq_true, decide_eq_true_eq, List.all_eq_true] at h
  obtain ⟨⟨⟨_, _, _, hw1, _⟩, _⟩, hl⟩ := h
  have hln : ∀ i, i < v.lines.length → (lnAt v.lines i).1.length = wd ∧ soundB (lnAt v.lines i).1 = true := by
    intro i hi
    have := hl _ (List.getElem_mem hi)
    unfold lineR at this
    rw [Bool.and_eq_true, decide_eq_true_eq] at this
    rw [lnAt_at _ hi]
    exact ⟨by omega, this.2⟩
  have hk : ∀ i k, i < v.lines.length → k < wd → rightB ((lnAt v.lines i).1.getD k (0, [])) = true ∧ (kAt (lnAt v.lines i).1 k = 2 → kindI (lnAt v.lines i).1 ((k : Int) + 1) = 3) ∧ (kAt (lnAt v.lines i).1 k = 3 → kindI (lnAt v.lines i).1 ((k : Int) - 1) = 2) := by
    intro i k hi hk
    obtain ⟨h1, h2⟩ := hln i hi
    have hkl : k < (lnAt v.lines i).1.length := by omega
    have hw := (wrong_sound _).2 h2 k hkl
    rw [kAt_at _ hkl, List.getD_eq_getElem?_getD, List.getElem?_eq_getElem hkl]
    unfold wrongAt at hw
    rw [dif_pos hkl] at hw
    split at hw
    · cases hw
    · rename_i h3
      split at hw
      · cases hw
      · rename_i h4
        refine ⟨by simpa using h3, fun e => ?_, fun e => ?_⟩
        · exact Decidable.byContradiction fun n => h4 (.inl ⟨e, n⟩)
        · exact Decidable.byContradiction fun n => h4 (.inr ⟨e, n⟩)
  have kI : ∀ i k, i < v.lines.length → kindI (lnAt v.lines i).1 (k : Nat) ≠ 0 → k < wd ∧ kAt (lnAt v.lines i).1 k = kindI (lnAt v.lines i).1 (k : Nat) := by
    intro i k hi hne
    have hkl : k < (lnAt v.lines i).1.length := Decidable.byContradiction fun hge => hne (kindI_out _ _ (by omega))
    rw [kindI_at _ _ hkl, kAt_at _ hkl]
    exact ⟨by have := (hln i hi).1; omega, rfl⟩
  refine ⟨by omega, fun i hi => (hln i hi).1, fun i k hi hkw h2 => ?_, fun i k hi hkw h3 => ?_, fun i k hi hkw h12 => ?_, fun i k hi hkw h03 => ?_, fun i k hi hkw => ?_⟩
  · have := (hk i k hi hkw).2.1 h2
    have e := kI i (k + 1) hi (by rw [show ((k + 1 : Nat) : Int) = (k : Int) + 1 by omega, this]; decide)
    rw [show ((k + 1 : Nat) : Int) = (k : Int) + 1 by omega, this] at e
    exact ⟨e.2, e.1⟩
  · have := (hk i k hi hkw).2.2 h3
    have hp : 0 < k := Decidable.byContradiction fun hn => by
      rw [kindI_neg _ _ (by omega)] at this; cases this
    have e := kI i (k - 1) hi (by rw [show ((k - 1 : Nat) : Int) = (k : Int) - 1 by omega, this]; decide)
    rw [show ((k - 1 : Nat) : Int) = (k : Int) - 1 by omega, this] at e
    exact ⟨hp, e.2⟩
  · have := (hk i k hi hkw).1
    unfold rightB at this
    unfold kAt at h12
    unfold tAt
    rw [if_neg (by omega), if_pos h12, Bool.and_eq_true, decide_eq_true_eq] at this
    exact this.1.1
  · have := (hk i k hi hkw).1
    unfold rightB at this
    unfold kAt at h03
    unfold tAt
    rw [if_pos h03, decide_eq_true_eq] at this
    exact this
  · have := (hk i k hi hkw).1
    unfold rightB at this
    unfold kAt
    split at this
    · omega
    · split at this
      · omega
      · cases this
end Go.Proofs.YtejhaepgbfngcaaDoor
