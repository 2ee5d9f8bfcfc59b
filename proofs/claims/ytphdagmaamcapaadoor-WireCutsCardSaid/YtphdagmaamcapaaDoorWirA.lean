/-
  Several texts of this seat as one: Wir0, Wir1, Wir2, Wir3, Wir4, Wir5.
-/
import Derived.Test.YtphdagmaamcapaaDoorUtf5
import Derived.Test.YtphdagmaamcapaaDoorView0
import Derived.Test.YtphdagmaamcapaaDoorLit
import Derived.Deep.RegionHeld3
import Derived.RegionTactic
import Derived.Deep.CutRange
import Derived.BigQuiet
import Derived.Test.YtphdagmaamcapaaDoorPuts0
import Derived.Test.YtphdagmaamcapaaDoorDif1
import Derived.Test.YtphdagmaamcapaaDoorAud6
namespace Go.Proofs.YtphdagmaamcapaaDoor
open Go.RowKit
set_option linter.unusedVariables false
set_option linter.unusedSimpArgs false

/-! ### A view's bytes -/
def numF (n : Nat) : List Int := if n < 128 then [(n : Int)] else ((128 + n % 128 : Nat) : Int) :: numF (n / 128)
termination_by n
decreasing_by omega
theorem numF_one {n : Nat} (h : n < 128) : numF n = [(n : Int)] := by rw [numF, if_pos h]
theorem numF_more {n : Nat} (h : ¬ n < 128) : numF n = ((128 + n % 128 : Nat) : Int) :: numF (n / 128) := by rw [numF, if_neg h]
def clusF (c : CellV) : List Int := if c.2.length = 0 then [] else numF (2 * (putF c.2).length + (if c.1 = 2 then 1 else 0)) ++ putF c.2
def alikeN (k : Bool) : List CellV → Nat
  | [] => 0
  | c :: l => if decide (c.1 = 0) = k then alikeN k l + 1 else 0
def headK : List CellV → Bool
  | [] => false
  | c :: _ => decide (c.1 = 0)
def runN (l : List CellV) : Nat := alikeN (headK l) l
def kindN (l : List CellV) : Nat := if headK l = true then 0 else 1
theorem alike_le (k : Bool) : ∀ l, alikeN k l ≤ l.length
  | [] => Nat.le_refl _
  | c :: l => by
    have := alike_le k l
    unfold alikeN
    split
    · rw [List.length_cons]; omega
    · exact Nat.zero_le _
theorem run_pos {l : List CellV} (h : l ≠ []) : 0 < runN l := by
  cases l with
  | nil => exact absurd rfl h
  | cons c t => unfold runN headK alikeN; rw [if_pos rfl]; omega
theorem run_le (l : List CellV) : runN l ≤ l.length := alike_le _ _
def runsF (l : List CellV) : List Int := if h : l = [] then [] else numF (2 * runN l + kindN l) ++ (l.take (runN l)).flatMap clusF ++ runsF (l.drop (runN l))
termination_by l.length
decreasing_by
  have h1 := run_pos h
  have h2 := run_le l
  rw [List.length_drop]
  omega
theorem runs_nil : runsF [] = [] := by rw [runsF, dif_pos rfl]
theorem runs_cons {l : List CellV} (h : l ≠ []) : runsF l = numF (2 * runN l + kindN l) ++ (l.take (runN l)).flatMap clusF ++ runsF (l.drop (runN l)) := by rw [runsF, dif_neg h]
def lineE (p : LineV) : List Int := (if p.2 = true then 1 else 0) :: runsF p.1
def markN (p a : Bool) : Nat := (if p = true then 1 else 0) + (if a = true then 2 else 0)
def encF (v : ViewV) : List Int := 76 :: (numF v.wide.toNat ++ numF v.high.toNat ++ numF v.row.toNat ++ numF v.col.toNat ++ [(markN v.pend v.auto : Int)] ++ v.lines.flatMap lineE)

/-! ### What is read -/
def nextP (s : List Int) (bad : Bool) : Nat × List Int × Bool := if bad = true then (0, s, true) else match s with
  | [] => (0, [], true)
  | x :: t => (x.toNat, t, false)
def numL : Nat → Nat → Nat → List Int → Bool → Nat × List Int × Bool
  | 0, _, _, s, _ => (0, s, true)
  | f + 1, sh, n, s, bad => if bad = true then (0, s, true) else
    if (nextP s bad).1 < 128 then (n + (nextP s bad).1 % 128 * 2 ^ sh, (nextP s bad).2) else numL f (sh + 7) (n + (nextP s bad).1 % 128 * 2 ^ sh) (nextP s bad).2.1 (nextP s bad).2.2
def numP (s : List Int) (bad : Bool) : Nat × List Int × Bool := numL 3 0 0 s bad
def takeP (n : Nat) (s : List Int) (bad : Bool) : List Int × List Int × Bool := if bad = true ∨ s.length < n then ([], s, true) else (s.take n, s.drop n, false)
def clusG (n : Nat) (f : List Int × List Int × Bool) : List CellV × List Int × Bool :=
  if f.2.2 = true ∨ f.1.length = 0 ∨ (allF f.1).any Got.bad = true then ([], f.2.1, true)
  else (if n % 2 = 0 then [(1, (allF f.1).map Got.r)] else [(2, (allF f.1).map Got.r), (3, [])], f.2.1, false)
def clusP (s : List Int) (bad : Bool) : List CellV × List Int × Bool := clusG (numP s bad).1 (takeP ((numP s bad).1 / 2) (numP s bad).2.1 (numP s bad).2.2)
def fillP (even : Bool) (e : Nat) : Nat → List CellV → List Int → Bool → List CellV × List Int × Bool
  | 0, c, s, bad => (c, s, bad)
  | f + 1, c, s, bad => if c.length < e ∧ bad = false then (if even = true then fillP even e f (c ++ [(0, [])]) s bad else fillP even e f (c ++ (clusP s bad).1) (clusP s bad).2.1 (clusP s bad).2.2) else (c, s, bad)
def lineG (n : Nat) (w : Nat) (c : List CellV) (s : List Int) (bad : Bool) : List CellV × List Int × Bool := fillP (decide (n % 2 = 0)) (c.length + n / 2) (n / 2) c s bad
def lineL (w : Nat) : Nat → List CellV → List Int → Bool → List CellV × List Int × Bool
  | 0, c, s, bad => (c, s, bad)
  | f + 1, c, s, bad => if c.length < w ∧ bad = false then
      (if (numP s bad).1 < 2 ∨ w < c.length + (numP s bad).1 / 2 then (c, (numP s bad).2.1, true)
       else lineL w f (lineG (numP s bad).1 w c (numP s bad).2.1 (numP s bad).2.2).1 (lineG (numP s bad).1 w c (numP s bad).2.1 (numP s bad).2.2).2.1 (lineG (numP s bad).1 w c (numP s bad).2.1 (numP s bad).2.2).2.2)
    else (c, s, bad)
def lineP (w : Nat) (s : List Int) (bad : Bool) : LineV × List Int × Bool :=
  (((lineL w w [] (nextP s bad).2.1 (nextP s bad).2.2).1, decide ((nextP s bad).1 = 1)), (lineL w w [] (nextP s bad).2.1 (nextP s bad).2.2).2)
def linesL (w : Nat) : Nat → List LineV → List Int → Bool → List LineV × List Int × Bool
  | 0, l, s, bad => (l, s, bad)
  | f + 1, l, s, bad => if bad = true then (l, s, bad) else linesL w f (l ++ [(lineP w s bad).1]) (lineP w s bad).2.1 (lineP w s bad).2.2
structure HeadV where
  wd : Nat
  hi : Nat
  row : Nat
  col : Nat
  mr : Nat
  s : List Int
  bad : Bool
def headP (s : List Int) : HeadV :=
  let a := nextP s false
  let n1 := numP a.2.1 (a.2.2 || decide (a.1 ≠ 76))
  let n2 := numP n1.2.1 n1.2.2
  let n3 := numP n2.2.1 n2.2.2
  let n4 := numP n3.2.1 n3.2.2
  let m := nextP n4.2.1 n4.2.2
  ⟨n1.1, n2.1, n3.1, n4.1, m.1, m.2.1, m.2.2 || decide (1024 < n1.1 ∨ 1024 < n2.1)⟩
def viewP (s : List Int) : ViewV × List Int × Bool :=
  let h := headP s
  let l := linesL h.wd h.hi [] h.s h.bad
  (⟨h.wd, h.hi, l.1, h.row, h.col, decide (h.mr % 2 = 1), decide (h.mr / 2 % 2 = 1)⟩, l.2)

/-! ### There and back -/
theorem nextP_cons (x : Int) (t : List Int) : nextP (x :: t) false = (x.toNat, t, false) := rfl
theorem takeP_ok {n : Nat} {s : List Int} (h : n ≤ s.length) : takeP n s false = (s.take n, s.drop n, false) := by unfold takeP; rw [if_neg (by rintro (h1 | h1); cases h1; omega)]
theorem num_back : ∀ (f : Nat) (m sh n : Nat) (s : List Int), m < 128 ^ (f + 1) → numL (f + 1) sh n (numF m ++ s) false = (n + m * 2 ^ sh, s, false)
  | 0, m, sh, n, s, h => by
    have h1 : m < 128 := by simpa using h
    rw [numF_one h1, List.singleton_append, numL, if_neg (by decide), nextP_cons]
    simp only [Int.toNat_natCast]
    rw [if_pos h1, Nat.mod_eq_of_lt h1]
  | f + 1, m, sh, n, s, h => by
    by_cases h1 : m < 128
    · rw [numF_one h1, List.singleton_append, numL, if_neg (by decide), nextP_cons]
      simp only [Int.toNat_natCast]
      rw [if_pos h1, Nat.mod_eq_of_lt h1]
    · rw [numF_more h1]
      have ih := num_back f (m / 128) (sh + 7) (n + (128 + m % 128) % 128 * 2 ^ sh) s (by rw [Nat.pow_succ] at h; omega)
      rw [numL, if_neg (by decide)]
      have e : nextP (((128 + m % 128 : Nat) : Int) :: numF (m / 128) ++ s) false = (128 + m % 128, numF (m / 128) ++ s, false) := by
        unfold nextP
        rw [if_neg (by decide)]
        simp only [List.cons_append, Int.toNat_natCast]
      rw [e]
      simp only
      rw [if_neg (by omega), ih]
      have e2 : (128 + m % 128) % 128 = m % 128 := by omega
      have e3 : m % 128 * 2 ^ sh + m / 128 * 2 ^ (sh + 7) = m * 2 ^ sh := by
        rw [Nat.pow_add, show (2 : Nat) ^ 7 = 128 from rfl, ← Nat.mul_assoc, Nat.mul_right_comm, ← Nat.add_mul]
        congr 1
        omega
      rw [e2, Nat.add_assoc, e3]
theorem numP_back (m : Nat) (s : List Int) (h : m < 2097152) : numP (numF m ++ s) false = (m, s, false) := by
  have := num_back 2 m 0 0 s (by simpa using h)
  unfold numP
  rw [this]
  simp
theorem form_pos (r : Int) (h : validB r = true) : 0 < (formF r).length ∧ (formF r).length ≤ 4 := by
  unfold formF
  rw [if_pos h]
  split
  · simp
  · split
    · simp
    · split <;> simp
theorem putv_len : ∀ (t : List Int), t.all validB = true → t.length ≤ (putF t).length ∧ (putF t).length ≤ 4 * t.length
  | [], _ => by simp [putF]
  | r :: t, h => by
    rw [List.all_cons, Bool.and_eq_true] at h
    have h1 := form_pos r h.1
    have h2 := putv_len t h.2
    rw [put_cons, List.length_append, List.length_cons]
    omega
theorem right_pos {c : CellV} (h : rightB c = true) (h0 : c.1 ≠ 0) (h3 : c.1 ≠ 3) : (c.1 = 1 ∨ c.1 = 2) ∧ 0 < c.2.length ∧ c.2.length ≤ 16 ∧ c.2.all validB = true := by
  unfold rightB at h
  rw [if_neg (by omega)] at h
  split at h
  · rename_i h1
    rw [Bool.and_eq_true] at h
    have := of_decide_eq_true h.1
    exact ⟨h1, this.1, this.2, h.2⟩
  · cases h
theorem right_nil {c : CellV} (h : rightB c = true) (h0 : c.1 = 0 ∨ c.1 = 3) : c.2 = [] := by
  unfold rightB at h
  rw [if_pos h0] at h
  exact List.eq_nil_of_length_eq_zero (of_decide_eq_true h)
theorem clus_one {c : CellV} (h : rightB c = true) (h0 : c.1 ≠ 0) (h3 : c.1 ≠ 3) : clusF c = numF (2 * (putF c.2).length + (if c.1 = 2 then 1 else 0)) ++ putF c.2 ∧ 0 < (putF c.2).length ∧ (putF c.2).length ≤ 64 := by
  obtain ⟨_, h1, h2, h4⟩ := right_pos h h0 h3
  have h5 := putv_len c.2 h4
  unfold clusF
  rw [if_neg (by omega)]
  exact ⟨rfl, by omega, by omega⟩
theorem clus_nil {c : CellV} (h : rightB c = true) (h0 : c.1 = 0 ∨ c.1 = 3) : clusF c = [] := by
  unfold clusF
  rw [right_nil h h0]
  rfl
theorem clus_back {c : CellV} (h : rightB c = true) (h0 : c.1 ≠ 0) (h3 : c.1 ≠ 3) (s : List Int) : clusP (clusF c ++ s) false = (if c.1 = 2 then [c, (3, [])] else [c], s, false) := by
  obtain ⟨e, hp, hl⟩ := clus_one h h0 h3
  obtain ⟨hk, h1, h2, h4⟩ := right_pos h h0 h3
  have hv : ∀ r ∈ c.2, validB r = true := fun r hr => List.all_eq_true.1 h4 r hr
  have e1 : numP (clusF c ++ s) false = (2 * (putF c.2).length + (if c.1 = 2 then 1 else 0), putF c.2 ++ s, false) := by
    rw [e, List.append_assoc]
    exact numP_back _ _ (by split <;> omega)
  unfold clusP
  rw [e1]
  simp only
  have e2 : (2 * (putF c.2).length + (if c.1 = 2 then 1 else 0)) / 2 = (putF c.2).length := by split <;> omega
  rw [e2, takeP_ok (by rw [List.length_append]; omega), List.take_left, List.drop_left]
  unfold clusG
  simp only
  rw [valid_forms c.2 hv, runes_forms c.2 hv, if_neg (by simp; intro hh; rw [hh] at hp; simp at hp)]
  obtain ⟨k, t⟩ := c
  simp only at hk ⊢
  rcases hk with rfl | rfl
  · have e3 : (2 * (putF t).length + 0) % 2 = 0 := by omega
    simp [e3]
  · have e3 : (2 * (putF t).length + 1) % 2 = 1 := by omega
    simp [e3]
theorem fill_done (ev : Bool) (e : Nat) : ∀ (f : Nat) (c : List CellV) (s : List Int) (bad : Bool), e ≤ c.length ∨ bad = true → fillP ev e f c s bad = (c, s, bad)
  | 0, _, _, _, _ => rfl
  | f + 1, c, s, bad, h => by
    rw [fillP, if_neg (by rintro ⟨h1, h2⟩; rcases h with h | h; omega; rw [h] at h2; cases h2)]
theorem fill_blank (e : Nat) : ∀ (n f : Nat) (c : List CellV) (s : List Int), c.length + n = e → n ≤ f → fillP true e f c s false = (c ++ List.replicate n (0, []), s, false)
  | 0, f, c, s, h, _ => by rw [fill_done true e f c s false (.inl (by omega))]; simp
  | n + 1, 0, c, s, h, hf => by omega
  | n + 1, f + 1, c, s, h, hf => by
    rw [fillP, if_pos ⟨by omega, rfl⟩, if_pos rfl, fill_blank e n f (c ++ [(0, [])]) s (by rw [List.length_append, List.length_singleton]; omega) (by omega)]
    rw [List.append_assoc, List.singleton_append, ← List.replicate_succ]
theorem fill_clus (e : Nat) : ∀ (m : Nat) (seg : List CellV) (f : Nat) (c : List CellV) (s : List Int), seg.length ≤ m → soundG false seg = true → (∀ x ∈ seg, x.1 ≠ 0) → c.length + seg.length = e → seg.length ≤ f → fillP false e f c (seg.flatMap clusF ++ s) false = (c ++ seg, s, false)
  | _, [], f, c, s, _, _, _, h, _ => by rw [fill_done false e f c _ false (.inl (by simp at h; omega))]; simp
  | 0, x :: t, _, _, _, hm, _, _, _, _ => by simp at hm
  | m + 1, x :: t, 0, _, _, _, _, _, _, hf => by simp at hf
  | m + 1, x :: t, f + 1, c, s, hm, hs, hk, h, hf => by
    rw [List.length_cons] at hm h hf
    have h0 := hk x (List.mem_cons.2 (.inl rfl))
    rw [soundG, Bool.and_eq_true, Bool.and_eq_true] at hs
    obtain ⟨⟨hr, h3⟩, hs⟩ := hs
    have h3 : x.1 ≠ 3 := by
      intro e
      rw [e] at h3
      simp at h3
    rw [List.flatMap_cons, List.append_assoc, fillP, if_pos ⟨by omega, rfl⟩, if_neg (by decide), clus_back hr h0 h3]
    simp only
    by_cases h2 : x.1 = 2
    · rw [if_pos h2]
      rw [decide_eq_true h2] at hs
      cases t with
      | nil => simp [soundG] at hs
      | cons y t =>
        rw [soundG, Bool.and_eq_true, Bool.and_eq_true] at hs
        obtain ⟨⟨hr2, h32⟩, hs⟩ := hs
        have hy3 : y.1 = 3 := by simpa using h32
        have hy : y = (3, []) := by
          obtain ⟨k, u⟩ := y
          have := right_nil hr2 (.inr hy3)
          simp only at hy3 this
          rw [hy3, this]
        subst hy
        rw [List.flatMap_cons, clus_nil hr2 (.inr rfl), List.nil_append]
        rw [List.length_cons] at hm h hf
        rw [fill_clus e m t f (c ++ [x, (3, [])]) s (by omega) hs (fun z hz => hk z (List.mem_cons.2 (.inr (List.mem_cons.2 (.inr hz))))) (by rw [List.length_append]; simp only [List.length_cons, List.length_nil]; omega) (by omega)]
        simp
    · rw [if_neg h2]
      rw [decide_eq_false h2] at hs
      rw [fill_clus e m t f (c ++ [x]) s (by omega) hs (fun z hz => hk z (List.mem_cons.2 (.inr hz))) (by rw [List.length_append, List.length_singleton]; omega) (by omega)]
      simp
theorem alike_sound (k : Bool) : ∀ (l : List CellV) (p : Bool), soundG p l = true → (p = true → k = false) → soundG p (l.take (alikeN k l)) = true ∧ soundG false (l.drop (alikeN k l)) = true ∧ ∀ c ∈ l.take (alikeN k l), decide (c.1 = 0) = k
  | [], p, h, _ => by
    cases p with
    | false => exact ⟨rfl, rfl, fun c hc => by simp [alikeN] at hc⟩
    | true => simp [soundG] at h
  | c :: l, p, h, hp => by
    have h' := h
    rw [soundG, Bool.and_eq_true, Bool.and_eq_true] at h
    obtain ⟨⟨hr, h3⟩, hs⟩ := h
    by_cases hc : decide (c.1 = 0) = k
    · rw [alikeN, if_pos hc, List.take_succ_cons, List.drop_succ_cons]
      have ih := alike_sound k l (decide (c.1 = 2)) hs (fun h2 => by
        have h2 := of_decide_eq_true h2
        rw [← hc, h2]; decide)
      refine ⟨?_, ih.2.1, fun x hx => ?_⟩
      · rw [soundG, hr, h3, ih.1]; rfl
      · rcases List.mem_cons.1 hx with rfl | hx
        · exact hc
        · exact ih.2.2 x hx
    · rw [alikeN, if_neg hc, List.take_zero, List.drop_zero]
      cases p with
      | false => exact ⟨rfl, h', fun x hx => by cases hx⟩
      | true =>
        have hc3 : c.1 = 3 := by simpa using h3
        exact absurd (by rw [hp rfl, hc3]; decide) hc
theorem run_sound {l : List CellV} (h : soundB l = true) : soundB (l.take (runN l)) = true ∧ soundB (l.drop (runN l)) = true ∧ ∀ c ∈ l.take (runN l), decide (c.1 = 0) = headK l :=
  alike_sound (headK l) l false h (fun h => by cases h)
theorem sound_mem : ∀ (l : List CellV) (p : Bool), soundG p l = true → ∀ c ∈ l, rightB c = true
  | c :: l, p, h, x, hx => by
    rw [soundG, Bool.and_eq_true, Bool.and_eq_true] at h
    rcases List.mem_cons.1 hx with rfl | hx
    · exact h.1.1
    · exact sound_mem l _ h.2 x hx
theorem blanks_are : ∀ (l : List CellV), (∀ c ∈ l, rightB c = true ∧ c.1 = 0) → l = List.replicate l.length (0, []) ∧ l.flatMap clusF = []
  | [], _ => ⟨rfl, rfl⟩
  | c :: l, h => by
    obtain ⟨h1, h2⟩ := h c (List.mem_cons.2 (.inl rfl))
    obtain ⟨e1, e2⟩ := blanks_are l (fun x hx => h x (List.mem_cons.2 (.inr hx)))
    have hc : c = (0, []) := by
      obtain ⟨k, t⟩ := c
      have := right_nil h1 (.inl h2)
      simp only at h2 this
      rw [h2, this]
    refine ⟨?_, ?_⟩
    · rw [List.length_cons, List.replicate_succ, ← e1, ← hc]
    · rw [List.flatMap_cons, e2, clus_nil h1 (.inl h2)]; rfl
/-- A run is read. -/
theorem run_back {l : List CellV} (h : soundB l = true) (c : List CellV) (w : Nat) (s : List Int) : lineG (2 * runN l + kindN l) w c ((l.take (runN l)).flatMap clusF ++ s) false = (c ++ l.take (runN l), s, false) := by
  obtain ⟨h1, _, h2⟩ := run_sound h
  have hle := run_le l
  have hln : (l.take (runN l)).length = runN l := by rw [List.length_take]; omega
  unfold lineG kindN
  cases hk : headK l with
  | true =>
    rw [hk] at h2
    obtain ⟨e1, e2⟩ := blanks_are (l.take (runN l)) (fun x hx => ⟨sound_mem _ _ h1 x hx, of_decide_eq_true (h2 x hx)⟩)
    rw [if_pos rfl, e2, List.nil_append, show decide ((2 * runN l + 0) % 2 = 0) = true from decide_eq_true (by omega), show (2 * runN l + 0) / 2 = runN l by omega]
    rw [fill_blank _ (runN l) (runN l) c s rfl (Nat.le_refl _)]
    rw [hln] at e1
    rw [← e1]
  | false =>
    rw [hk] at h2
    rw [if_neg (by decide), show decide ((2 * runN l + 1) % 2 = 0) = false from decide_eq_false (by omega), show (2 * runN l + 1) / 2 = runN l by omega]
    exact fill_clus _ (runN l) (l.take (runN l)) (runN l) c s (by omega) h1 (fun x hx => of_decide_eq_false (h2 x hx)) (by rw [hln]) (by omega)
theorem line_done (w : Nat) : ∀ (f : Nat) (c : List CellV) (s : List Int) (bad : Bool), w ≤ c.length ∨ bad = true → lineL w f c s bad = (c, s, bad)
  | 0, _, _, _, _ => rfl
  | f + 1, c, s, bad, h => by
    rw [lineL, if_neg (by rintro ⟨h1, h2⟩; rcases h with h | h; omega; rw [h] at h2; cases h2)]
theorem runs_back (w : Nat) (hw : w ≤ 1024) : ∀ (m : Nat) (l : List CellV) (f : Nat) (c : List CellV) (s : List Int), l.length ≤ m → soundB l = true → c.length + l.length = w → l.length ≤ f → lineL w f c (runsF l ++ s) false = (c ++ l, s, false)
  | m, l, f, c, s, hm, hs, h, hf => by
    by_cases hl : l = []
    · subst hl
      rw [line_done w f c _ false (.inl (by simp at h; omega)), runs_nil]
      simp
    · have h1 := run_pos hl
      have h2 := run_le l
      cases f with
      | zero => omega
      | succ f =>
        cases m with
        | zero => omega
        | succ m =>
          obtain ⟨_, h3, _⟩ := run_sound hs
          have hk : kindN l ≤ 1 := by unfold kindN; split <;> omega
          have e1 : numP (runsF l ++ s) false = (2 * runN l + kindN l, (l.take (runN l)).flatMap clusF ++ (runsF (l.drop (runN l)) ++ s), false) := by
            rw [runs_cons hl, List.append_assoc, List.append_assoc]
            exact numP_back _ _ (by omega)
          rw [lineL, if_pos ⟨by omega, rfl⟩, e1]
          simp only
          rw [if_neg (by omega), run_back hs]
          simp only
          rw [runs_back w hw m (l.drop (runN l)) f (c ++ l.take (runN l)) s (by rw [List.length_drop]; omega) h3 (by rw [List.length_append, List.length_take, List.length_drop]; omega) (by rw [List.length_drop]; omega), List.append_assoc, List.take_append_drop]
theorem lineP_back (w : Nat) (hw : w ≤ 1024) (p : LineV) (hl : p.1.length = w) (hs : soundB p.1 = true) (s : List Int) : lineP w (lineE p ++ s) false = (p, s, false) := by
  obtain ⟨c, fl⟩ := p
  simp only at hl hs
  have e : nextP (lineE (c, fl) ++ s) false = ((if fl = true then 1 else 0), runsF c ++ s, false) := by
    unfold lineE nextP
    rw [if_neg (by decide)]
    cases fl <;> rfl
  unfold lineP
  rw [e]
  simp only
  rw [runs_back w hw w c w [] s (by omega) hs (by simpa using hl) (by omega), List.nil_append]
  cases fl <;> rfl
theorem lines_back (w : Nat) (hw : w ≤ 1024) : ∀ (ls : List LineV) (l : List LineV) (s : List Int), (∀ p ∈ ls, p.1.length = w ∧ soundB p.1 = true) → linesL w ls.length l (ls.flatMap lineE ++ s) false = (l ++ ls, s, false)
  | [], l, s, _ => by simp [linesL]
  | p :: ls, l, s, h => by
    obtain ⟨h1, h2⟩ := h p (List.mem_cons.2 (.inl rfl))
    rw [List.length_cons, linesL, if_neg (by decide), List.flatMap_cons, List.append_assoc, lineP_back w hw p h1 h2]
    simp only
    rw [lines_back w hw ls (l ++ [p]) s (fun q hq => h q (List.mem_cons.2 (.inr hq)))]
    simp
theorem rightV_parts {v : ViewV} (h : rightV v = true) : (v.high = v.lines.length ∧ 1 ≤ v.high ∧ v.high ≤ 1024 ∧ 1 ≤ v.wide ∧ v.wide ≤ 1024) ∧ (0 ≤ v.row ∧ v.row < 1024 ∧ 0 ≤ v.col ∧ v.col < 1024) ∧ ∀ p ∈ v.lines, (p.1.length : Int) = v.wide ∧ soundB p.1 = true := by
  unfold rightV at h
  rw [Bool.and_eq_true, Bool.and_eq_true] at h
  obtain ⟨⟨h1, h2⟩, h3⟩ := h
  have h1 := of_decide_eq_true h1
  have h2 := of_decide_eq_true h2
  refine ⟨h1, ?_, fun p hp => ?_⟩
  · have e1 : sideF v.high ≤ 1024 := by unfold sideF; omega
    have e2 : sideF v.wide ≤ 1024 := by unfold sideF; omega
    exact ⟨h2.1, by omega, h2.2.2.1, by omega⟩
  · have := List.all_eq_true.1 h3 p hp
    unfold lineR at this
    rw [Bool.and_eq_true] at this
    exact ⟨of_decide_eq_true this.1, this.2⟩
/-- What is read from a right view's bytes. -/
theorem view_back (v : ViewV) (h : rightV v = true) (s : List Int) : viewP (encF v ++ s) = (v, s, false) := by
  obtain ⟨⟨h1, h2, h3, h4, h5⟩, ⟨h6, h7, h8, h9⟩, h10⟩ := rightV_parts h
  obtain ⟨wd, hi, ls, r, c, p, a⟩ := v
  simp only at *
  obtain ⟨wd, rfl⟩ := Int.eq_ofNat_of_zero_le (by omega : 0 ≤ wd)
  obtain ⟨r, rfl⟩ := Int.eq_ofNat_of_zero_le (by omega : 0 ≤ r)
  obtain ⟨c, rfl⟩ := Int.eq_ofNat_of_zero_le (by omega : 0 ≤ c)
  subst h1
  have e : encF ⟨wd, ls.length, ls, r, c, p, a⟩ ++ s = 76 :: (numF wd ++ (numF ls.length ++ (numF r ++ (numF c ++ ((markN p a : Int) :: (ls.flatMap lineE ++ s)))))) := by
    unfold encF
    simp only [Int.toNat_natCast, List.cons_append, List.append_assoc, List.singleton_append, List.nil_append]
  have hh : headP (encF ⟨wd, ls.length, ls, r, c, p, a⟩ ++ s) = ⟨wd, ls.length, r, c, markN p a, ls.flatMap lineE ++ s, false⟩ := by
    rw [e]
    unfold headP
    have e1 : ∀ t, nextP (76 :: t) false = (76, t, false) := fun t => rfl
    have e2 : ∀ t, nextP ((markN p a : Int) :: t) false = (markN p a, t, false) := fun t => by unfold nextP; rw [if_neg (by decide)]; simp
    simp only [e1, show (false || decide ((76 : Nat) ≠ 76)) = false from rfl]
    rw [numP_back wd _ (by omega)]
    simp only
    rw [numP_back ls.length _ (by omega)]
    simp only
    rw [numP_back r _ (by omega)]
    simp only
    rw [numP_back c _ (by omega)]
    simp only [e2]
    rw [show (false || decide (1024 < wd ∨ 1024 < ls.length)) = false by rw [decide_eq_false (by omega)]; rfl]
  unfold viewP
  rw [hh]
  simp only
  rw [lines_back wd (by omega) ls [] s (fun p hp => ⟨by have := (h10 p hp).1; omega, (h10 p hp).2⟩), List.nil_append]
  cases p <;> cases a <;> simp [markN]
end Go.Proofs.YtphdagmaamcapaaDoor

namespace Go.Proofs.YtphdagmaamcapaaDoor
open Go.RowKit
set_option linter.unusedVariables false
set_option linter.unusedSimpArgs false

/-- A row of bytes grew: nothing else turned. -/
structure GrowU (v v' : Value) (w w' : World) : Prop where
  by_ : w.grownBy w' v.ownBlock
  own : v'.ownBlock = v.ownBlock ∨ ∃ g, v'.ownBlock = some g ∧ w.heap.size ≤ g
theorem GrowU.refl (v : Value) (w : World) : GrowU v v w w := ⟨World.grownBy.refl w _, .inl rfl⟩
theorem GrowU.trans {v v1 v2 : Value} {w w1 w2 : World} (h : GrowU v v1 w w1) (k : GrowU v1 v2 w1 w2) : GrowU v v2 w w2 := by
  refine ⟨⟨k.by_.os.trans h.by_.os, k.by_.tape.trans h.by_.tape, k.by_.output.trans h.by_.output, Nat.le_trans h.by_.size k.by_.size, fun b hb hne => ?_⟩, ?_⟩
  · refine (k.by_.block b (Nat.lt_of_lt_of_le hb h.by_.size) (fun e => ?_)).trans (h.by_.block b hb hne)
    rcases h.own with ho | ⟨g, ho, hg⟩
    · exact hne (e.trans ho)
    · rw [ho] at e
      injection e with e
      omega
  · rcases k.own with ho | ⟨g, ho, hg⟩
    · rcases h.own with ho2 | ⟨g, ho2, hg⟩
      · exact .inl (ho.trans ho2)
      · exact .inr ⟨g, ho.trans ho2, hg⟩
    · exact .inr ⟨g, ho, Nat.le_trans h.by_.size hg⟩
theorem GrowU.below (v : Value) {w w' : World} (h : Below w.heap.size w w') : GrowU v v w w' := ⟨⟨h.os, h.tape, h.output, h.size, fun k hk _ => h.block k hk⟩, .inl rfl⟩
theorem GrowU.alloc {v v' : Value} {w w' : World} (h : GrowU v v' w w') (o : Obj) : GrowU v v' w (w'.alloc o) := h.trans (GrowU.below v' ((Below.refl _ _).alloc (Nat.le_refl _) o))
theorem GrowU.drewN {v v' : Value} {w w' : World} (h : GrowU v v' w w') (n : Nat) : GrowU v v' w (w'.drewN n) := h.trans (GrowU.below v' (below_drewN (Below.refl _ _) n))
theorem GrowU.step {base : Nat} {v v' : Value} {l : List Int} {w w' : World} (h : GrowU v v' w w') (hv : Own (Rep.int .u8) 5 [] base w v l) : Step base [5] w w' := by
  obtain ⟨_, xs, hown, _⟩ := hv
  exact Step.of_grown h.by_ (own_bears hown)
theorem own_lt {base : Nat} {w : World} {v : Value} {l : List Int} (h : Own (Rep.int .u8) 5 [] base w v l) : ∀ g, v.ownBlock = some g → base ≤ g ∧ g < w.heap.size := h.lt_
/-- Another row of bytes stays. -/
theorem own_stayU {base : Nat} {s x : Value} {l : List Int} {w w' : World} (h : Own (Rep.int .u8) 5 [] base w x l) (hg : w.grownBy w' s.ownBlock) (ha : ∀ g, s.ownBlock = some g → x.ownBlock ≠ some g) : Own (Rep.int .u8) 5 [] base w' x l := by
  obtain ⟨hT, xs, hown, hels⟩ := h
  obtain ⟨hwf, rfl⟩ := els_ints_wf hels
  refine ⟨hT, _, ⟨hown.1, ?_⟩, els_ints _ _ _ _ hwf⟩
  rcases hown.2 with hn | ⟨g', cap, cur, hpe, h1, h2, rest⟩
  · exact .inl hn
  · refine .inr ⟨g', cap, cur, hpe, h1, ?_, rest⟩
    rw [hg.block g' (Array.getElem?_eq_some_iff.1 h2).1 (fun e => ha g' e.symm (by rw [hpe]; rfl))]
    exact h2
theorem wpList_appu {P : Program} {ops : Array Oper} {rest : List Oper} {o : Oper} {a : Act} {w : World} {Q : Exit → Act → World → Prop} (hgd : o.guard = none) (s x : Operand) (t : TypeId)
    (ho : o.op = .call { callee := .builtin .append, args := #[s, x], argTypes := #[t, t] })
    (base : Nat) (ht : P.underlying t = some (.slice 5)) (hi : (P.info? 5).map (fun i => (i.zero, i.size, i.bytes)) = some (some (.int .u8 0), 1, 1))
    (v : Value) (l : List Int) (hs : a.eval s = v) (hown : Own (Rep.int .u8) 5 [] base w v l) (So Si : Nat → Prop) (vx : Value) (l2 : List Int) (hxe : a.eval x = vx) (hx : Slc (Rep.int .u8) So Si w vx l2)
    (hb : l.length + l2.length ≤ 140737488355328) (hbase : base ≤ w.heap.size)
    (h : ∀ v' w', Own (Rep.int .u8) 5 [] base w' v' (l ++ l2) → GrowU v v' w w' → wpList P ops Q rest (a.put o.dst v') w') : wpList P ops Q (o :: rest) a w :=
  wpList_appg hgd s x t ho (Rep.int .u8) 5 [] base 1 (.int .u8 0) ht hi rfl (by simp [Rep.int]) (by decide) v l hs hown So (fun _ => False) vx l2 hxe (hx.ints_any _) (fun _ h => h.elim) (by omega) hbase fun v' w' h1 _ h3 h4 => h v' w' h1 ⟨h3, h4.imp id (fun e => ⟨_, e, Nat.le_refl _⟩)⟩
theorem i64_mask7 (n : Nat) (h : n < 9223372036854775808) : bits .and .i64 (n : Int) 127 = (n : Int) % 128 := by
  have := i64_and_nat n 127 h (by decide)
  rw [show (127 : Nat) = 2 ^ 7 - 1 from rfl, Nat.and_two_pow_sub_one_eq_mod] at this
  exact this
theorem i64_or128 (n : Nat) (h : n < 128) : bits .or .i64 (n : Int) 128 = ((128 + n : Nat) : Int) := by
  have h : ∀ n : Fin 128, bits .or .i64 ((n.val : Nat) : Int) 128 = ((128 + n.val : Nat) : Int) := by decide
  exact h ⟨n, by omega⟩
theorem u8_wrap_nat (n : Nat) (h : n < 256) : IntKind.u8.wrap (n : Int) = (n : Int) := by rw [IntKind.wrap_u8]; omega
theorem numF_len (n : Nat) (h : n < 2097152) : 1 ≤ (numF n).length ∧ (numF n).length ≤ 3 := by
  by_cases h1 : n < 128
  · rw [numF_one h1]; simp
  · rw [numF_more h1]
    by_cases h2 : n / 128 < 128
    · rw [numF_one h2]; simp
    · rw [numF_more h2, numF_one (by omega)]; simp
theorem wf_nat8 (n : Nat) (h : n < 256) : (Lit.int .u8 (n : Int)).wf = true := wf_u8 (by omega) (by omega)

set_option maxHeartbeats 1000000 in
theorem number_ok (base : Nat) (v : Value) (l : List Int) (n : Nat) (w : World) (hb : base ≤ w.heap.size) (hv : Own (Rep.int .u8) 5 [] base w v l) (hl : l.length ≤ 1000000000000) (hn : n < 2097152) :
    Calls Tryd.prog 16 #[v, .int .i64 n] w fun e w' => ∃ v', e = .returned v' ∧ Own (Rep.int .u8) 5 [] base w' v' (l ++ numF n) ∧ GrowU v v' w w' := by
  have hlen := numF_len n hn
  go_enter Tryd.func16, Tryd.ntmps16
  go_wp2_with fail
  go_loopw [0, 1] (fun bv nv wr => ∃ (pre : List Int) (m : Nat), nv = .int .i64 m ∧ m < 2097152 ∧ pre ++ numF m = numF n ∧ Own (Rep.int .u8) 5 [] base wr bv (l ++ pre) ∧ GrowU v bv w wr ∧ base ≤ wr.heap.size) (fun _ nv _ => (intOf nv).toNat)
  case atStart => exact ⟨[], n, rfl, hn, rfl, by rw [List.append_nil]; exact hv, GrowU.refl _ _, hb⟩
  case round =>
    obtain ⟨pre, m, rfl, hm, hpre, hown, hst, hbz⟩ := hrel
    have hpl : pre.length ≤ 3 := by
      have := congrArg List.length hpre
      rw [List.length_append] at this
      omega
    have hll : (l ++ pre).length ≤ 1000000000003 := by rw [List.length_append]; omega
    by_cases hlt : m < 128
    · have hm1 : ¬ (127 : Int) < m := by omega
      have hw8 := u8_wrap_nat m (by omega)
      have hone := (own_u8 wr [(m : Int)] (fun x hx => by rw [List.mem_singleton] at hx; subst hx; exact wf_nat8 m (by omega)) base wr.heap.size 1 hbz rfl rfl (by simp [maxLen])).islc
      have hown2 := hown.alloc (.cells #[.int .u8 (m : Int)] 5)
      have hst2 := hst.alloc (.cells #[.int .u8 (m : Int)] 5)
      have HP := hide hpre
      have HST := hide hst2
      clear hpre hst hst2
      go_wp2_with (at_builtin; refine wpList_appu rfl (.tmp 16) (.tmp 19) 29 rfl base Tryd.underlying29 u8_info _ _ rfl hown2 _ _ _ _ rfl hone (by simp only [List.length_singleton]; omega) (by simp; omega) ?_; intro v3 w3 hv3 hst3)
      go_ret
      refine ⟨_, rfl, ?_, HST.out.trans hst3⟩
      rw [← HP.out, numF_one hlt, ← List.append_assoc]
      exact hv3
    · have hm1 : (127 : Int) < m := by omega
      have e1 := i64_mask7 m (by omega)
      have e2 : bits .or .i64 ((m : Int) % 128) 128 = ((128 + m % 128 : Nat) : Int) := i64_or128 (m % 128) (by omega)
      have hw8 := u8_wrap_nat (128 + m % 128) (by omega)
      obtain ⟨q, hq⟩ : ∃ q, 128 + m % 128 = q := ⟨_, rfl⟩
      have hq8 : q < 256 := by omega
      have hone := (own_u8 wr [(q : Int)] (fun x hx => by rw [List.mem_singleton] at hx; subst hx; exact wf_nat8 q hq8) base wr.heap.size 1 hbz rfl rfl (by simp [maxLen])).islc
      have hown2 := hown.alloc (.cells #[.int .u8 (q : Int)] 5)
      have hst2 := hst.alloc (.cells #[.int .u8 (q : Int)] 5)
      have HP : Hid (pre ++ [(q : Int)] ++ numF (m / 128) = numF n) := hide (by rw [← hpre, numF_more hlt, hq]; simp)
      have HST := hide hst2
      rw [hq] at e2 hw8
      clear hpre hst hst2 hq
      go_wp2_with (at_builtin; refine wpList_appu rfl (.tmp 7) (.tmp 12) 29 rfl base Tryd.underlying29 u8_info _ _ rfl hown2 _ _ _ _ rfl hone (by simp only [List.length_singleton]; omega) (by simp; omega) ?_; intro v3 w3 hv3 hst3)
      go_roundw
      case rel => exact ⟨pre ++ [(q : Int)], m / 128, by go_num, by omega, HP.out, by rw [← List.append_assoc]; exact hv3, HST.out.trans hst3, Nat.le_trans (by simp; omega) hst3.by_.size⟩
      case measure => simp [intOf]; omega

theorem flag_ok (on : Bool) (b : Int) (w : World) :
    Calls Tryd.prog 17 #[.bool on, .int .u8 b] w fun e w' => e = .returned (.int .u8 (if on = true then b else 0)) ∧ w = w' := by
  go_enter Tryd.func17, Tryd.ntmps17
  cases on with
  | true =>
    go_wp2
    go_ret
    exact ⟨rfl, rfl⟩
  | false =>
    go_wp2
    go_ret
    exact ⟨rfl, rfl⟩

theorem alike_step {l : List CellV} {k : Nat} (h : k < l.length) (K : Bool) : alikeN K (l.drop k) = if decide (l[k].1 = 0) = K then alikeN K (l.drop (k + 1)) + 1 else 0 := by
  rw [List.drop_eq_getElem_cons h]; rfl
theorem headK_at {l : List CellV} (h : 0 < l.length) : headK l = decide (l[0].1 = 0) := by
  cases l with
  | nil => simp at h
  | cons c t => rfl
set_option maxHeartbeats 1000000 in
theorem run_ok (So Si : Nat → Prop) (x : Value) (l : List CellV) (w : World) (hx : Slc RCell So Si w x l) :
    Calls Tryd.prog 27 #[x] w fun e w' => e = .returned (.int .i64 (runN l)) ∧ ∃ n, w' = w.drewN n := by
  obtain ⟨A, c, rfl, hl1, hl2, hA⟩ := hx.open_
  go_enter Tryd.func27, Tryd.ntmps27
  go_wp2_with fail
  go_loopw [3] (fun i wr => ∃ k : Nat, k ≤ l.length ∧ i = .int .i64 k ∧ k + alikeN (headK l) (l.drop k) = runN l ∧ ∃ n, wr = w.drewN n) (fun i _ => l.length - (intOf i).toNat)
  case atStart => exact ⟨0, Nat.zero_le _, rfl, by rw [List.drop_zero, Nat.zero_add]; rfl, 0, rfl⟩
  case round =>
    obtain ⟨k, hk, rfl, hal, n, rfl⟩ := hrel
    by_cases hlt : k < l.length
    · obtain ⟨ab, off, v, rfl, _, q0, _, _, _⟩ := cell_at hA hlt
      obtain ⟨ab2, off2, v2, e2, _, p0, _, _, _⟩ := cell_at hA (k := 0) (by omega)
      injection e2 with e2
      injection e2 with e2 e3
      subst e2; subst e3
      rw [Nat.zero_mul, Nat.add_zero] at p0
      have hki : (k : Int) < l.length := by omega
      have h0i : 0 < l.length := by omega
      rw [alike_step hlt, headK_at h0i] at hal
      have HK0 := hide (headK_at h0i)
      obtain ⟨a, ha⟩ : ∃ a, l[k].1 = a := ⟨_, rfl⟩
      obtain ⟨b, hb⟩ : ∃ b, l[0].1 = b := ⟨_, rfl⟩
      rw [ha, hb] at hal
      rw [hb] at HK0 p0
      rw [ha] at q0
      have HAL := hide hal
      clear hal ha hb
      by_cases h1 : a = 0 <;> by_cases h2 : b = 0
      · subst h1; subst h2
        have HE : Hid (k + 1 + alikeN true (l.drop (k + 1)) = runN l) := hide (by have := HAL.out; rw [decide_eq_true rfl, if_pos rfl] at this; omega)
        rw [decide_eq_true rfl] at HK0
        go_wp2
        go_quiet (fail)
        go_wp2
        go_roundw
        case rel => exact ⟨k + 1, by omega, by go_num, by rw [HK0.out]; exact HE.out, _, by first | rfl | rw [World.drewN_drewN]⟩
        case measure => simp [intOf]; omega
      · have hb' : (b == 0) = false := by simpa using h2
        subst h1
        have HE : Hid ((k : Int) = runN l) := hide (by have := HAL.out; rw [decide_eq_true rfl, decide_eq_false h2, if_neg (by decide)] at this; omega)
        go_wp2
        go_quiet (fail)
        go_wp2
        go_ret
        exact ⟨by rw [HE.out]; rfl, _, by first | rfl | rw [World.drewN_drewN]⟩
      · have ha' : (a == 0) = false := by simpa using h1
        subst h2
        have HE : Hid ((k : Int) = runN l) := hide (by have := HAL.out; rw [decide_eq_true rfl, decide_eq_false h1, if_neg (by decide)] at this; omega)
        go_wp2
        go_quiet (fail)
        go_wp2
        go_ret
        exact ⟨by rw [HE.out]; rfl, _, by first | rfl | rw [World.drewN_drewN]⟩
      · have ha' : (a == 0) = false := by simpa using h1
        have hb' : (b == 0) = false := by simpa using h2
        have HE : Hid (k + 1 + alikeN false (l.drop (k + 1)) = runN l) := hide (by have := HAL.out; rw [decide_eq_false h1, decide_eq_false h2, if_pos rfl] at this; omega)
        rw [decide_eq_false h2] at HK0
        go_wp2
        go_quiet (fail)
        go_wp2
        go_roundw
        case rel => exact ⟨k + 1, by omega, by go_num, by rw [HK0.out]; exact HE.out, _, by first | rfl | rw [World.drewN_drewN]⟩
        case measure => simp [intOf]; omega
    · obtain rfl : k = l.length := by omega
      rw [List.drop_length] at hal
      have HE : Hid ((l.length : Int) = runN l) := hide (by simp only [alikeN] at hal; omega)
      clear hal
      go_wp2
      go_quiet (fail)
      go_wp2
      go_ret
      exact ⟨by rw [HE.out]; rfl, _, by first | rfl | rw [World.drewN_drewN]⟩

theorem num_small (n : Nat) (hlt : n < 128) (w : World) :
    Calls Tryd.prog 23 #[.int .i64 n] w fun e w' => ∃ v, e = .returned v ∧ Own (Rep.int .u8) 5 [] w.heap.size w' v (numF n) ∧ Below w.heap.size w w' := by
  have hw8 := u8_wrap_nat n (by omega)
  have hone := own_u8 w [(n : Int)] (fun x hx => by rw [List.mem_singleton] at hx; subst hx; exact wf_nat8 n (by omega)) w.heap.size w.heap.size 1 (Nat.le_refl _) rfl rfl (by simp [maxLen])
  have hm1 : (n : Int) < 128 := by omega
  rw [numF_one hlt]
  have HO := hide hone
  clear hone
  go_enter Tryd.func23, Tryd.ntmps23
  go_wp2
  go_ret
  exact ⟨_, rfl, HO.out, (Below.refl _ w).alloc (Nat.le_refl _) _⟩
set_option maxHeartbeats 1000000 in
theorem num_big (n : Nat) (hn : n < 2097152) (hlt : ¬ n < 128) (IH : ∀ w, Calls Tryd.prog 23 #[.int .i64 ((n : Int) / 128)] w fun e w' => ∃ v, e = .returned v ∧ Own (Rep.int .u8) 5 [] w.heap.size w' v (numF (n / 128)) ∧ Below w.heap.size w w') (w : World) :
    Calls Tryd.prog 23 #[.int .i64 n] w fun e w' => ∃ v, e = .returned v ∧ Own (Rep.int .u8) 5 [] w.heap.size w' v (numF n) ∧ Below w.heap.size w w' := by
  have hm1 : ¬ (n : Int) < 128 := by omega
  have hlen := numF_len (n / 128) (by omega)
  obtain ⟨q, hq⟩ : ∃ q, 128 + n % 128 = q := ⟨_, rfl⟩
  have hq8 : q < 256 := by omega
  have hw8 := u8_wrap_nat q hq8
  have hqi : (128 : Int) + (n : Int) % 128 = (q : Int) := by omega
  have hone := own_u8 w [(q : Int)] (fun x hx => by rw [List.mem_singleton] at hx; subst hx; exact wf_nat8 q hq8) w.heap.size w.heap.size 1 (Nat.le_refl _) rfl rfl (by simp [maxLen])
  have hb1 := (Below.refl w.heap.size w).alloc (Nat.le_refl _) (.cells #[.int .u8 (q : Int)] 5)
  have IH := IH (w.alloc (.cells #[.int .u8 (q : Int)] 5))
  have IH := hide IH
  rw [numF_more hlt, hq]
  go_enter Tryd.func23, Tryd.ntmps23
  go_wp2_with fail
  refine IH.out.mono ?_
  rintro e w1 ⟨v1, rfl, hv1, hc1⟩
  have hone1 := hone.below hc1
  have hb2 := hb1.trans (hc1.mono (by simp))
  have hz2 := hb2.size
  clear hone hc1 IH
  go_wp2_with (at_builtin; refine wpList_appi rfl (.tmp 12) (.tmp 15) 29 rfl .u8 5 w.heap.size 1 Tryd.underlying29 u8_info (by decide) _ _ rfl hone1 _ _ _ _ rfl hv1.islc (by simp only [List.length_singleton]; omega) hz2 ?_; intro v3 w3 hv3 hst3)
  go_ret
  exact ⟨_, rfl, hv3, hb2.trans (hst3.below hz2)⟩
/-- The document's number. -/
theorem num_ok (n : Nat) (hn : n < 2097152) (w : World) :
    Calls Tryd.prog 23 #[.int .i64 n] w fun e w' => ∃ v, e = .returned v ∧ Own (Rep.int .u8) 5 [] w.heap.size w' v (numF n) ∧ Below w.heap.size w w' := by
  by_cases h1 : n < 128
  · exact num_small n h1 w
  · refine num_big n hn h1 (fun w => ?_) w
    rw [← show ((n / 128 : Nat) : Int) = (n : Int) / 128 by omega]
    by_cases h2 : n / 128 < 128
    · exact num_small _ h2 w
    · refine num_big _ (by omega) h2 (fun w => ?_) w
      rw [← show ((n / 128 / 128 : Nat) : Int) = ((n / 128 : Nat) : Int) / 128 by omega]
      exact num_small _ (by omega) w
end Go.Proofs.YtphdagmaamcapaaDoor

namespace Go.Proofs.YtphdagmaamcapaaDoor
open Go.RowKit
set_option linter.unusedVariables false
set_option linter.unusedSimpArgs false

def lnV : Value → Nat
  | .slice _ n _ => n
  | _ => 0
theorem clus_len {c : CellV} (h : rightB c = true) : (clusF c).length ≤ 67 := by
  by_cases h0 : c.1 = 0 ∨ c.1 = 3
  · rw [clus_nil h h0]; simp
  · obtain ⟨e, hp, hl⟩ := clus_one h (fun e => h0 (.inl e)) (fun e => h0 (.inr e))
    have := (numF_len (2 * (putF c.2).length + (if c.1 = 2 then 1 else 0)) (by split <;> omega)).2
    rw [e, List.length_append]
    omega
theorem clusters_len : ∀ (l : List CellV), (∀ c ∈ l, rightB c = true) → (l.flatMap clusF).length ≤ 67 * l.length
  | [], _ => by simp
  | c :: l, h => by
    have h1 := clus_len (h c (List.mem_cons.2 (.inl rfl)))
    have h2 := clusters_len l (fun x hx => h x (List.mem_cons.2 (.inr hx)))
    rw [List.flatMap_cons, List.length_append, List.length_cons]
    omega
theorem runs_len : ∀ (m : Nat) (l : List CellV), l.length ≤ m → l.length ≤ 2000 → soundB l = true → (runsF l).length ≤ 70 * l.length
  | m, l, hm, hl, hs => by
    by_cases h0 : l = []
    · subst h0; rw [runs_nil]; simp
    · have h1 := run_pos h0
      have h2 := run_le l
      cases m with
      | zero => omega
      | succ m =>
        obtain ⟨h3, h4, _⟩ := run_sound hs
        have h5 := runs_len m (l.drop (runN l)) (by rw [List.length_drop]; omega) (by rw [List.length_drop]; omega) h4
        have h6 := clusters_len (l.take (runN l)) (sound_mem _ _ h3)
        have hk : kindN l ≤ 1 := by unfold kindN; split <;> omega
        have h7 := (numF_len (2 * runN l + kindN l) (by omega)).2
        rw [runs_cons h0, List.length_append, List.length_append]
        rw [List.length_drop] at h5
        rw [List.length_take] at h6
        omega
theorem line_len {p : LineV} (h : p.1.length ≤ 2000) (hs : soundB p.1 = true) : (lineE p).length ≤ 70 * p.1.length + 1 := by
  have := runs_len p.1.length p.1 (Nat.le_refl _) h hs
  unfold lineE
  rw [List.length_cons]
  omega
theorem slc_none (So Si : Nat → Prop) (w : World) (A : Option Addr) (c : Nat) (hc : c ≤ maxLen) : Slc RCell So Si w (.slice A 0 c) [] :=
  ⟨A, c, rfl, Nat.zero_le _, hc, [], rfl, fun h => absurd h (by simp)⟩
/-- What is left behind a run. -/
theorem slc_rest {So Si : Nat → Prop} {w : World} {ab off c n : Nat} {l : List CellV} (h : Slc RCell So Si w (.slice (some ⟨ab, off, none⟩) l.length c) l) (hn : n ≤ l.length) :
    Slc RCell So Si w (.slice (if c = n then some ⟨ab, off, none⟩ else some ⟨ab, off + n * 2, none⟩) (l.length - n) (c - n)) (l.drop n) := by
  obtain ⟨A', c', e, h1, h2, h3⟩ := h.open_
  injection e with e1 e2 e3
  subst e1; subst e3
  by_cases hlt : n < l.length
  · rw [if_neg (by omega)]
    have hm := slc_mid h rfl hlt (Nat.le_refl _) h1 (off + n * 2) rfl (c - n) (l.length - n) rfl rfl
    rw [List.take_of_length_le (Nat.le_refl _)] at hm
    exact hm
  · obtain rfl : n = l.length := by omega
    rw [List.drop_length, Nat.sub_self]
    exact slc_none _ _ _ _ _ (by simp only [maxLen]; omega)
theorem kind_val {l : List CellV} (h : 0 < l.length) : (if (l[0].1 != 0) = true then (1 : Int) else 0) = (kindN l : Int) := by
  unfold kindN
  rw [headK_at h]
  by_cases h0 : l[0].1 = 0
  · rw [decide_eq_true h0]; simp [h0]
  · rw [decide_eq_false h0]; simp [h0]
theorem lead_val (k : Int) : (if (k == 2) = true then (1 : Int) else 0) = ((if k = 2 then 1 else 0 : Nat) : Int) := by
  by_cases h : k = 2
  · simp [h]
  · simp [h]

set_option maxRecDepth 8000 in
set_option maxHeartbeats 4000000 in
theorem line_ok (base : Nat) (v : Value) (done : List Int) (x : Value) (cl : List CellV) (fl : Bool) (w : World) (hb : base ≤ w.heap.size) (hv : Own (Rep.int .u8) 5 [] base w v done) (hx : Slc RCell (fun b => b < base) (fun b => b < base) w x cl) (hs : soundB cl = true) (hcl : cl.length ≤ 1024) (hd : done.length ≤ 100000000000) :
    Calls Tryd.prog 18 #[v, .agg #[x, .bool fl]] w fun e w' => ∃ v', e = .returned v' ∧ Own (Rep.int .u8) 5 [] base w' v' (done ++ lineE (cl, fl)) ∧ GrowU v v' w w' := by
  obtain ⟨A, c, rfl, _, _, _⟩ := hx.open_
  have hll := line_len (p := (cl, fl)) (by simp only; omega) hs
  simp only at hll
  have bx := Blk.new w 45 #[.slice A cl.length c, .bool fl]
  have hown1 := hv.alloc (.cells #[.slice A cl.length c, .bool fl] 45)
  have hg1 := (GrowU.refl v w).alloc (.cells #[.slice A cl.length c, .bool fl] 45)
  have hb1 : base ≤ (w.alloc (.cells #[.slice A cl.length c, .bool fl] 45)).heap.size := by simp; omega
  go_enter Tryd.func18, Tryd.ntmps18
  go_upto_region 1 with fail
  obtain ⟨gx, hgx⟩ : ∃ gx, w.heap.size = gx := ⟨_, rfl⟩
  rw [hgx] at bx ⊢
  generalize w.alloc (.cells #[.slice A cl.length c, .bool fl] 45) = w1 at *
  have q1 := bx.cell 1
  simp only [List.getElem?_toArray, List.getElem?_cons_succ, List.getElem?_cons_zero] at q1
  obtain ⟨F, hF⟩ : ∃ F : Int, (if fl = true then 1 else 0) = F := ⟨_, rfl⟩
  have hwF : (Lit.int .u8 F).wf = true := by rw [← hF]; cases fl <;> decide
  have HFL := hide (flag_ok fl 1 w1)
  rw [hF] at HFL
  have hone := (own_u8 w1 [F] (fun x hx => by rw [List.mem_singleton] at hx; subst hx; exact hwF) base w1.heap.size 1 hb1 rfl rfl (by simp [maxLen])).islc
  have hown2 := hown1.alloc (.cells #[.int .u8 F] 5)
  have hg2 := hg1.alloc (.cells #[.int .u8 F] 5)
  have bx2 := bx.alloc (.cells #[.int .u8 F] 5)
  have HG2 := hide hg2
  have HF := hide hF
  clear hown1 hg1 hg2 bx hF
  go_wp2_with fail
  refine HFL.out.mono ?_
  rintro e w1' ⟨rfl, rfl⟩
  go_wp2_with (at_builtin; refine wpList_appu rfl (.tmp 12) (.tmp 16) 29 rfl base Tryd.underlying29 u8_info _ _ rfl hown2 _ _ _ _ rfl hone (by simp only [List.length_singleton]; omega) (by simp; omega) ?_; intro v3 w3 hv3 hg3; have q0 := (bx2.step (hg3.step hown2) (by decide)).cell 0; have hb3 := Nat.le_trans (show base ≤ (w1.alloc (.cells #[.int .u8 F] 5)).heap.size by simp; omega) hg3.by_.size; have HG3 := hide (HG2.out.trans hg3); clear hg3 hown2; simp only [List.getElem?_toArray, List.getElem?_cons_succ, List.getElem?_cons_zero] at q0)
  clear q0 q1 bx2 hone HFL HG2
  have HL := hide (show done ++ [F] ++ runsF cl = done ++ lineE (cl, fl) by rw [← HF.out, List.append_assoc]; rfl)
  have HX := hide hx
  have HV := hide hv
  have HS := hide hs
  clear hx hv hs HF
  go_loopw [0, 5] (fun bv rv wr => ∃ (bs : List Int) (rs : List CellV), Own (Rep.int .u8) 5 [] base wr bv bs ∧ GrowU v bv w wr ∧ Slc RCell (fun b => b < base) (fun b => b < base) w rv rs ∧ soundB rs = true ∧ rs.length ≤ 1024 ∧ bs ++ runsF rs = done ++ lineE (cl, fl) ∧ base ≤ wr.heap.size) (fun _ rv _ => lnV rv)
  case atStart => exact ⟨_, cl, hv3, HG3.out, HX.out, HS.out, hcl, HL.out, hb3⟩
  case round =>
    clear hv3 hb3 HG3 HL
    obtain ⟨bs, rs, hown, hgr, hrs, hsr, hrl, htot, hbz⟩ := hrel
    obtain ⟨A', c', rfl, hrc1, hrc2, hRB⟩ := hrs.open_
    have hbl : bs.length ≤ 100000071681 := by
      have := congrArg List.length htot
      rw [List.length_append, List.length_append] at this
      omega
    have hst := hgr.step HV.out
    by_cases h0 : rs.length = 0
    · obtain rfl := List.eq_nil_of_length_eq_zero h0
      rw [runs_nil, List.append_nil] at htot
      have HT := hide htot
      have HGR := hide hgr
      simp only [List.length_nil]
      clear htot hgr hst hRB hrs hsr h0
      go_wp2
      go_ret
      exact ⟨_, rfl, by rw [← HT.out]; exact hown, HGR.out⟩
    · have hp : 0 < rs.length := by omega
      have hpi : (0 : Int) < rs.length := by omega
      have hne : rs ≠ [] := by intro e; rw [e] at hp; simp at hp
      have hrp := run_pos hne
      have hrn := run_le rs
      obtain ⟨hs1, hs2, _⟩ := run_sound hsr
      have hkn : kindN rs ≤ 1 := by unfold kindN; split <;> omega
      have hkv := kind_val hp
      have hrc := runs_cons hne
      have HRUN := hide (run_ok _ _ _ rs wr (hrs.mono (Keep.old hst (fun b hb => hb)) (Keep.old hst (fun b hb => hb))))
      obtain ⟨ab, off, vv, rfl, hab, p0, _, _, _⟩ := cell_at hRB hp
      rw [Nat.zero_mul, Nat.add_zero] at p0
      have hft := hrs.front hrn
      have hrr := slc_rest hrs hrn
      have hmr := sound_mem _ _ hs1
      obtain ⟨K, hK⟩ : ∃ K, rs[0].1 = K := ⟨_, rfl⟩
      rw [hK] at hkv p0
      obtain ⟨n, hn⟩ : ∃ n, runN rs = n := ⟨_, rfl⟩
      obtain ⟨q, hq⟩ : ∃ q, kindN rs = q := ⟨_, rfl⟩
      rw [hn] at hrp hrn hs1 hs2 hrc HRUN hft hrr hmr
      rw [hq] at hrc hkn hkv
      obtain ⟨sg, hsg⟩ : ∃ sg, rs.take n = sg := ⟨_, rfl⟩
      have hsl : sg.length = n := by rw [← hsg, List.length_take]; omega
      rw [hsg] at hrc hft hmr hs1
      rw [hrc] at htot
      have HT := hide htot
      have HRR := hide hrr
      have HFT := hide hft
      have HMR := hide hmr
      have HS2 := hide hs2
      have HFL := hide (fun W => flag_ok (K != 0) 1 W)
      rw [hkv] at HFL
      have hbel := hst.below hb
      have hnc : n ≤ c' := by omega
      have hlt2 : n ≤ rs.length := hrn
      have hdl : (rs.drop n).length = rs.length - n := List.length_drop
      have HDL := hide hdl
      clear htot hrr hft hmr hs2 hkv hrc hsr hK hn hq hsg hRB hne hs1 hdl
      go_wp2_with fail
      refine HRUN.out.mono ?_
      rintro e w4 ⟨rfl, nd, rfl⟩
      have p0w : (wr.drewN nd).cell? ⟨ab, off, none⟩ = some (.int .i64 K) := (hbel.cell (p := ⟨ab, off, none⟩) hab).trans p0
      have hown4 := hown.drewN nd
      have hg4 := hgr.drewN nd
      have hb4 : base ≤ (wr.drewN nd).heap.size := hbz
      generalize wr.drewN nd = w4 at *
      have HNUM := hide (number_ok base u0 bs (2 * n + q) w4 hb4 hown4 (by omega) (by omega))
      rw [show ((2 * n + q : Nat) : Int) = 2 * (n : Int) + (q : Int) by omega] at HNUM
      have HG4 := hide hg4
      have hq8 : q < 256 := by omega
      clear hown hgr HRUN hg4 hst hbel
      go_wp2_with fail
      refine (HFL.out _).mono ?_
      rintro e w4' ⟨rfl, rfl⟩
      go_wp2_with fail
      refine HNUM.out.mono ?_
      rintro e w5 ⟨v5, rfl, hv5, hg5⟩
      have hb5 := Nat.le_trans hb4 hg5.by_.size
      have HG5 := hide (HG4.out.trans hg5)
      have hnl := (numF_len (2 * n + q) (by omega)).2
      clear hown4 HNUM HG4 hg5 p0w
      go_wp2_with fail
      go_loopw [0, 42] (fun bw iv wq => ∃ j : Nat, j ≤ n ∧ iv = .int .i64 j ∧ Own (Rep.int .u8) 5 [] base wq bw (bs ++ numF (2 * n + q) ++ (sg.take j).flatMap clusF) ∧ GrowU v bw w wq ∧ base ≤ wq.heap.size) (fun _ iv _ => n - (intOf iv).toNat)
      case atStart => exact ⟨0, Nat.zero_le _, rfl, by simpa using hv5, HG5.out, hb5⟩
      case round =>
        clear hv5 hb5 HG5 hb4
        obtain ⟨j, hj, rfl, hown, hgq, hbq⟩ := hrel
        have hsq := hgq.step HV.out
        have hbel := hsq.below hb
        by_cases hlt : j < n
        · have hjs : j < sg.length := by omega
          obtain ⟨Af, cf, ef, _, _, hFB⟩ := HFT.out.open_
          injection ef with ef1 ef2 ef3
          subst ef1
          clear ef2 ef3
          obtain ⟨ab2, off2, vt, e2, hab2, p0, p1, hwk, ht⟩ := cell_at hFB hjs
          injection e2 with e2
          injection e2 with e2 e3
          subst e2; subst e3
          have q0 := (hbel.cell (p := ⟨ab, off + j * 2, none⟩) hab2).trans p0
          have q1 := (hbel.cell (p := ⟨ab, off + j * 2 + 1, none⟩) hab2).trans p1
          obtain ⟨At, ct, rfl, _, _, _⟩ := ht.open_
          have hsn : (sg.take (j + 1)).flatMap clusF = (sg.take j).flatMap clusF ++ clusF sg[j] := by
            rw [take_snoc' sg j hjs, List.flatMap_append]; simp
          have hrc := HMR.out sg[j] (List.getElem_mem _)
          have hcl2 := clusters_len (sg.take j) (fun x hx => HMR.out x (List.mem_of_mem_take hx))
          have htl : (sg.take j).length ≤ j := List.length_take_le _ _
          have hbs2 : (bs ++ numF (2 * n + q) ++ (sg.take j).flatMap clusF).length ≤ 100000171681 := by
            rw [List.length_append, List.length_append]; omega
          have htv := ht.mono (Keep.old hsq (fun b hb => hb)) (Keep.old hsq (fun b hb => hb))
          obtain ⟨bs2, hbs2e⟩ : ∃ bs2, bs ++ numF (2 * n + q) ++ (sg.take j).flatMap clusF = bs2 := ⟨_, rfl⟩
          have HSN := hide (show bs2 ++ clusF sg[j] = bs ++ numF (2 * n + q) ++ (sg.take (j + 1)).flatMap clusF by rw [hsn, ← hbs2e, List.append_assoc])
          rw [hbs2e] at hown hbs2
          obtain ⟨cc, hcc⟩ : ∃ cc, sg[j] = cc := ⟨_, rfl⟩
          rw [hcc] at q0 q1 HSN hrc htv
          obtain ⟨k0, tx⟩ := cc
          simp only at q0 q1 htv
          have bi := Blk.new wr 62 #[.int .i64 k0, .slice At tx.length ct]
          have hown2 := hown.alloc (.cells #[.int .i64 k0, .slice At tx.length ct] 62)
          have hg2 := hgq.alloc (.cells #[.int .i64 k0, .slice At tx.length ct] 62)
          have htv2 := htv.mono (Keep.alloc _ wr (.cells #[.int .i64 k0, .slice At tx.length ct] 62)) (Keep.alloc _ wr (.cells #[.int .i64 k0, .slice At tx.length ct] 62))
          have hb6 : base ≤ (wr.alloc (.cells #[.int .i64 k0, .slice At tx.length ct] 62)).heap.size := by simp; omega
          have hji : (j : Int) < n := by omega
          have HRC := hide hrc
          rw [hcc] at p1
          rw [hcc] at p0
          simp only at p0 p1
          clear hsn hcl2 htl htv hgq hown hbs2e hcc hrc hsq hbel p0 p1
          go_upto_region 10 with fail
          obtain ⟨gi, hgi⟩ : ∃ gi, wr.heap.size = gi := ⟨_, rfl⟩
          rw [hgi] at bi ⊢
          generalize wr.alloc (.cells #[.int .i64 k0, .slice At tx.length ct] 62) = w6 at *
          have r0 := bi.cell 0
          have r1 := bi.cell 1
          simp only [List.getElem?_toArray, List.getElem?_cons_succ, List.getElem?_cons_zero] at r0 r1
          clear q0 q1
          by_cases hz : tx.length = 0
          · have HE : Hid (clusF (k0, tx) = []) := hide (by unfold clusF; rw [if_pos hz])
            have hzi : ((tx.length : Nat) : Int) = 0 := by omega
            go_wp2
            go_roundw
            case rel => exact ⟨j + 1, by omega, by go_num, by rw [← HSN.out, HE.out, List.append_nil]; exact hown2, hg2, hb6⟩
            case measure => simp [intOf]; omega
          · have hzi : ¬ ((tx.length : Nat) : Int) = 0 := by omega
            have h03 : k0 ≠ 0 ∧ k0 ≠ 3 := ⟨fun e => hz (by have := right_nil HRC.out (.inl e); simp only at this; rw [this]; rfl), fun e => hz (by have := right_nil HRC.out (.inr e); simp only at this; rw [this]; rfl)⟩
            obtain ⟨hcf, hcp, hc64⟩ := clus_one HRC.out h03.1 h03.2
            obtain ⟨hk12, _, ht16, hval⟩ := right_pos HRC.out h03.1 h03.2
            simp only at hcf hcp hc64 ht16 hval hk12
            have HPUT := hide (sPut_ok _ _ (.slice At tx.length ct) tx w6 htv2 (by omega) (fun r hr => List.all_eq_true.1 hval r hr))
            obtain ⟨fb, hfb⟩ : ∃ fb, putF tx = fb := ⟨_, rfl⟩
            rw [hfb] at HPUT hcf hcp hc64
            obtain ⟨Q, hQ⟩ : ∃ Q : Nat, (if k0 = 2 then 1 else 0) = Q := ⟨_, rfl⟩
            have hQ1 : Q ≤ 1 := by rw [← hQ]; split <;> omega
            have HFL2 := hide (fun W => flag_ok (k0 == 2) 1 W)
            rw [lead_val, hQ] at HFL2
            rw [hQ] at hcf
            have HCF := hide hcf
            clear hval hcf hQ hfb hk12 h03
            go_wp2_with fail
            refine HPUT.out.mono ?_
            rintro e w7 ⟨v7, rfl, hv7, hc7⟩
            obtain ⟨A7, c7, rfl, _, _, _⟩ := hv7.islc.open_
            have hown7 := hown2.below hc7
            have hg7 := hg2.trans (GrowU.below u0 hc7)
            have hb7 := Nat.le_trans hb6 hc7.size
            have r0 := (bi.same hc7).cell 0
            have HOF : Hid (∀ g, u0.ownBlock = some g → (Value.slice A7 fb.length c7).ownBlock ≠ some g) := hide (fun g hg e => by
              have h1 := (own_lt hown2 g hg).2
              have h2 := (own_lt hv7 g e).1
              omega)
            have HNUM := hide (number_ok base u0 bs2 (2 * fb.length + Q) w7 hb7 hown7 (by omega) (by omega))
            rw [show ((2 * fb.length + Q : Nat) : Int) = 2 * (fb.length : Int) + (Q : Int) by omega] at HNUM
            have hnl2 := (numF_len (2 * fb.length + Q) (by omega)).2
            have HG7 := hide hg7
            have HV7 := hide hv7
            have hQ8 : Q < 256 := by omega
            simp only [List.getElem?_toArray, List.getElem?_cons_succ, List.getElem?_cons_zero] at r0
            clear hown2 hg2 hc7 hg7 hb6 r1 HPUT bi hv7 hown7
            go_wp2_with fail
            refine (HFL2.out _).mono ?_
            rintro e w7' ⟨rfl, rfl⟩
            go_wp2_with fail
            refine HNUM.out.mono ?_
            rintro e w8 ⟨v8, rfl, hv8, hg8⟩
            have hb8 := Nat.le_trans hb7 hg8.by_.size
            have hf8 := own_stayU HV7.out hg8.by_ HOF.out
            have HG8 := hide (HG7.out.trans hg8)
            clear hg8 r0
            go_wp2_with (at_builtin; refine wpList_appu rfl (.tmp 66) (.tmp 67) 29 rfl base Tryd.underlying29 u8_info _ _ rfl hv8 _ _ _ _ rfl hf8.islc (by rw [List.length_append]; omega) hb8 ?_; intro v9 w9 hv9 hg9; have hb9 := Nat.le_trans hb8 hg9.by_.size; have HG9 := hide (HG8.out.trans hg9); clear hg9)
            go_roundw
            case rel => exact ⟨j + 1, by omega, by go_num, by rw [← HSN.out, HCF.out, ← List.append_assoc]; exact hv9, HG9.out, hb9⟩
            case measure => simp [intOf]; omega
        · obtain rfl : j = n := by omega
          rw [List.take_of_length_le (by omega)] at hown
          go_wp2
          go_roundw
          case rel => exact ⟨_, _, hown, hgq, HRR.out, HS2.out, by rw [HDL.out]; omega, by rw [List.append_assoc, List.append_assoc]; rw [← HT.out]; simp [List.append_assoc], hbq⟩
          case measure => simp only [lnV]; omega
end Go.Proofs.YtphdagmaamcapaaDoor

namespace Go.Proofs.YtphdagmaamcapaaDoor
open Go.RowKit
set_option linter.unusedVariables false
set_option linter.unusedSimpArgs false

theorem step_appu {P : Program} {ops : Array Oper} {o : Oper} {a : Act} {w : World} {K : Act → World → Prop} {Q : Exit → Act → World → Prop} {E : Prop} (hgd : o.guard = none) (s x : Operand) (t : TypeId)
    (ho : o.op = .call { callee := .builtin .append, args := #[s, x], argTypes := #[t, t] })
    (base : Nat) (ht : P.underlying t = some (.slice 5)) (hi : (P.info? 5).map (fun i => (i.zero, i.size, i.bytes)) = some (some (.int .u8 0), 1, 1))
    (v : Value) (l : List Int) (hs : a.eval s = v) (hown : Own (Rep.int .u8) 5 [] base w v l) (So Si : Nat → Prop) (vx : Value) (l2 : List Int) (hxe : a.eval x = vx) (hx : Slc (Rep.int .u8) So Si w vx l2)
    (hb : l.length + l2.length ≤ 140737488355328) (hbase : base ≤ w.heap.size)
    (h : ∀ v' w', Own (Rep.int .u8) 5 [] base w' v' (l ++ l2) → GrowU v v' w w' → K (a.put o.dst v') w') :
    if Region.wanted o (yielded ops a.tmps) = true then Oper.wp P o a w K Q else E :=
  step_appg hgd s x t ho (Rep.int .u8) 5 [] base 1 (.int .u8 0) ht hi rfl (by simp [Rep.int]) (by decide) v l hs hown So (fun _ => False) vx l2 hxe (hx.ints_any _) (fun _ h => h.elim) (by omega) hbase fun v' w' h1 _ h3 h4 => h v' w' h1 ⟨h3, h4.imp id (fun e => ⟨_, e, Nat.le_refl _⟩)⟩
theorem own_drU {base : Nat} {w : World} {v : Value} {l : List Int} (h : Own (Rep.int .u8) 5 [] base w v l) : Own (Rep.int .u8) 5 [] base w.drew v l := h.drewN 1
theorem below_drw {B : Nat} {a w : World} (h : Below B a w) : Below B a w.drew := below_drewN h 1
theorem marks_or (p a : Bool) : bits .or .u8 (if p = true then 1 else 0) (if a = true then 2 else 0) = (markN p a : Int) := by
  cases p <;> cases a <;> decide
theorem mark_lt (p a : Bool) : markN p a < 4 := by
  unfold markN
  split <;> split <;> omega
theorem lines_len : ∀ (ls : List LineV), (∀ l ∈ ls, l.1.length ≤ 1024 ∧ soundB l.1 = true) → (ls.flatMap lineE).length ≤ 71681 * ls.length
  | [], _ => by simp
  | l :: ls, h => by
    obtain ⟨h1, h2⟩ := h l (List.mem_cons.2 (.inl rfl))
    have h3 := line_len (p := l) (by omega) h2
    have h4 := lines_len ls (fun x hx => h x (List.mem_cons.2 (.inr hx)))
    rw [List.flatMap_cons, List.length_append, List.length_cons]
    omega
def PutR (b : Nat → Addr) (V : ViewV) (w : World) (e : Ending) (w' : World) : Prop :=
  (rightV V = true → ∃ s, e = .returned (.tuple #[s, .nilIface]) ∧ Own (Rep.int .u8) 5 [] w.heap.size w' s (encF V)) ∧
  (rightV V = false → e = .returned (.tuple #[.slice none 0 0, .iface 123 (.pointer (some (b 4)))])) ∧ Below w.heap.size w w'
theorem numbs_len (l : List Nat) (h : ∀ n ∈ l, n < 2097152) : (l.flatMap numF).length ≤ 3 * l.length := by
  induction l with
  | nil => simp
  | cons n l ih =>
    have h1 := (numF_len n (h n (List.mem_cons.2 (.inl rfl)))).2
    have h2 := ih (fun x hx => h x (List.mem_cons.2 (.inr hx)))
    rw [List.flatMap_cons, List.length_append, List.length_cons]
    omega
theorem four_at (a b c d : Nat) (w : World) (g : Nat) (h : Blk w g 3 #[.int .i64 a, .int .i64 b, .int .i64 c, .int .i64 d]) : ∀ (k : Nat) (hk : k < [a, b, c, d].length), w.cell? ⟨g, k, none⟩ = some (.int .i64 ([a, b, c, d][k] : Nat))
  | 0, _ => h.cell 0
  | 1, _ => h.cell 1
  | 2, _ => h.cell 2
  | 3, _ => h.cell 3
  | k + 4, hk => absurd hk (by simp)

set_option maxRecDepth 8000 in
set_option maxHeartbeats 4000000 in
theorem Put_ok (b : Nat → Addr) (x : Value) (wd hi r c : Int) (p au : Bool) (ls : List LineV) (w : World) (hS : Sents b w) (hx : Slc RLine (fun b => b < w.heap.size) (fun b => b < w.heap.size) w x ls) (hlen : ∀ l ∈ ls, l.1.length ≤ 1000000) (hll : ls.length ≤ 1000000) :
    Calls Tryd.prog 8 #[.agg #[.int .i64 wd, .int .i64 hi, x, .int .i64 r, .int .i64 c, .bool p, .bool au]] w (PutR b ⟨wd, hi, ls, r, c, p, au⟩ w) := by
  obtain ⟨A, c0, rfl, _, _, _⟩ := hx.open_
  have HSE := hide hS
  have HX := hide hx
  have bv := Blk.new w 26 #[.int .i64 wd, .int .i64 hi, .slice A ls.length c0, .int .i64 r, .int .i64 c, .bool p, .bool au]
  have hb1 := (Below.refl w.heap.size w).alloc (Nat.le_refl _) (.cells #[.int .i64 wd, .int .i64 hi, .slice A ls.length c0, .int .i64 r, .int .i64 c, .bool p, .bool au] 26)
  have hx1 : Slc RLine (fun b => b < w.heap.size) (fun b => b < (w.alloc (.cells #[.int .i64 wd, .int .i64 hi, .slice A ls.length c0, .int .i64 r, .int .i64 c, .bool p, .bool au] 26)).heap.size) (w.alloc (.cells #[.int .i64 wd, .int .i64 hi, .slice A ls.length c0, .int .i64 r, .int .i64 c, .bool p, .bool au] 26)) (.slice A ls.length c0) ls := (hx.mono (Keep.alloc _ w _) (Keep.alloc _ w _)).mono (Keep.refl _ _) (Keep.weaken fun b hb => by simp; omega)
  have HAS := hide (ASound_ok b _ (.slice A ls.length c0) wd hi r c p au ls (w.alloc (.cells #[.int .i64 wd, .int .i64 hi, .slice A ls.length c0, .int .i64 r, .int .i64 c, .bool p, .bool au] 26)) (VarsA.of (hS.below hb1)) hx1 hlen hll)
  clear hS hx hx1
  go_enter Tryd.func8, Tryd.ntmps8
  go_upto_region 1 with fail
  obtain ⟨gv, hgv⟩ : ∃ gv, w.heap.size = gv := ⟨_, rfl⟩
  have hgle : w.heap.size ≤ gv := Nat.le_of_eq hgv
  rw [hgv] at bv
  have hz1 := hb1.size
  try rw [hgv]
  generalize w.alloc (.cells #[.int .i64 wd, .int .i64 hi, .slice A ls.length c0, .int .i64 r, .int .i64 c, .bool p, .bool au] 26) = w1 at *
  have v0 := bv.cell 0
  have v1 := bv.cell 1
  have v2 := bv.cell 2
  have v3 := bv.cell 3
  have v4 := bv.cell 4
  have v5 := bv.cell 5
  have v6 := bv.cell 6
  simp only [List.getElem?_toArray, List.getElem?_cons_succ, List.getElem?_cons_zero] at v0 v1 v2 v3 v4 v5 v6
  go_wp2_with fail
  refine HAS.out.mono ?_
  rintro e w2 ⟨rfl, hc2⟩
  have hb2 := hb1.trans (hc2.mono hz1)
  have hz2 := hb2.size
  have bv2 := bv.same hc2
  clear v0 v1 v2 v3 v4 v5 v6 HAS bv hb1 hz1 hc2
  cases hR : rightV ⟨wd, hi, ls, r, c, p, au⟩ with
  | false =>
    have hEK := (HSE.out.below hb2).var 4 (by decide)
    simp only [gOf] at hEK
    have HR := hide hR
    clear hR bv2
    go_wp2
    go_quiet (fail)
    go_wp2
    go_ret2
    exact ⟨fun h => by (rw [HR.out] at h; cases h), fun _ => rfl, below_drewN hb2 _⟩
  | true =>
    obtain ⟨⟨h1, h2, h3, h4, h5⟩, ⟨h6, h7, h8, h9⟩, h10⟩ := rightV_parts hR
    simp only at h1 h2 h3 h4 h5 h6 h7 h8 h9 h10
    have hall : ∀ l ∈ ls, l.1.length ≤ 1024 ∧ soundB l.1 = true := fun l hl => ⟨by have := (h10 l hl).1; omega, (h10 l hl).2⟩
    have HALL := hide hall
    have HR := hide hR
    obtain ⟨wn, rfl⟩ := Int.eq_ofNat_of_zero_le (by omega : 0 ≤ wd)
    obtain ⟨hn, rfl⟩ := Int.eq_ofNat_of_zero_le (by omega : 0 ≤ hi)
    obtain ⟨rn, rfl⟩ := Int.eq_ofNat_of_zero_le (by omega : 0 ≤ r)
    obtain ⟨cn, rfl⟩ := Int.eq_ofNat_of_zero_le (by omega : 0 ≤ c)
    have hls : ls.length ≤ 1024 := by omega
    have HENC : Hid (encF ⟨wn, hn, ls, rn, cn, p, au⟩ = [76] ++ [wn, hn, rn, cn].flatMap numF ++ [(markN p au : Int)] ++ ls.flatMap lineE) := hide (by unfold encF; simp [List.append_assoc])
    have hnum : ∀ n ∈ [wn, hn, rn, cn], n < 2097152 := by
      intro n hn
      simp only [List.mem_cons, List.not_mem_nil, or_false] at hn
      omega
    have HNM := hide hnum
    have HNL := hide (fun k => numbs_len ([wn, hn, rn, cn].take k) (fun n hn => hnum n (List.mem_of_mem_take hn)))
    clear h10 hall h1 h2 h3 h4 h5 h6 h7 h8 h9 hR hnum
    have hone := own_u8 w2 [76] (fun x hx => by rw [List.mem_singleton] at hx; subst hx; decide) w.heap.size w2.heap.size 1 hz2 rfl rfl (by simp [maxLen])
    have hb3 := hb2.alloc hz2 (.cells #[.int .u8 76] 5)
    have bv3 := bv2.alloc (.cells #[.int .u8 76] 5)
    have v0 := bv2.cell 0
    simp only [List.getElem?_toArray, List.getElem?_cons_succ, List.getElem?_cons_zero] at v0
    go_upto_region 4 with fail
    have hz3 := hb3.size
    simp only [List.map_cons, List.map_nil] at hone
    clear v0 bv2 hb2
    obtain ⟨g2, hg2⟩ : ∃ g2, w2.heap.size = g2 := ⟨_, rfl⟩
    rw [hg2] at hone
    try rw [hg2]
    generalize w2.alloc (.cells #[.int .u8 76] 5) = w3 at *
    have v0 := bv3.cell 0
    have v1 := bv3.cell 1
    have v3 := bv3.cell 3
    have v4 := bv3.cell 4
    simp only [List.getElem?_toArray, List.getElem?_cons_succ, List.getElem?_cons_zero] at v0 v1 v3 v4
    have hown4 := hone.alloc (.cells #[.int .i64 wn, .int .i64 hn, .int .i64 rn, .int .i64 cn] 3)
    have hb4 := hb3.alloc hz3 (.cells #[.int .i64 wn, .int .i64 hn, .int .i64 rn, .int .i64 cn] 3)
    have bv4 := bv3.alloc (.cells #[.int .i64 wn, .int .i64 hn, .int .i64 rn, .int .i64 cn] 3)
    have bn4 := Blk.new w3 3 #[.int .i64 wn, .int .i64 hn, .int .i64 rn, .int .i64 cn]
    have HF := hide (fun W g h => four_at wn hn rn cn W g h)
    obtain ⟨NS, hNS⟩ : ∃ NS, [wn, hn, rn, cn] = NS := ⟨_, rfl⟩
    have hNSl : NS.length = 4 := by rw [← hNS]; rfl
    rw [hNS] at HENC HNM HNL HF
    clear hone hb3 bv3 hNS
    go_wp2_with fail
    have hz4 := hb4.size
    obtain ⟨g3, hg3⟩ : ∃ g3, w3.heap.size = g3 := ⟨_, rfl⟩
    rw [hg3] at bn4
    try rw [hg3]
    clear v0 v1 v3 v4
    generalize w3.alloc (.cells #[.int .i64 wn, .int .i64 hn, .int .i64 rn, .int .i64 cn] 3) = w4 at *
    go_loopw [4, 26] (fun bv iv wr => ∃ k : Nat, k ≤ 4 ∧ iv = .int .i64 k ∧ Own (Rep.int .u8) 5 [] w.heap.size wr bv ([76] ++ (NS.take k).flatMap numF) ∧ Step w.heap.size [5] w4 wr) (fun _ iv _ => 4 - (intOf iv).toNat)
    case atStart => exact ⟨0, Nat.zero_le _, rfl, by simpa using hown4, Step.refl _ _ _⟩
    case round =>
      clear hown4
      obtain ⟨k, hk, rfl, hown, hst⟩ := hrel
      have hbr := hb4.trans (hst.below hz4)
      have hzr := hbr.size
      by_cases hlt : k < 4
      · have hkn : k < NS.length := by omega
        have q0 := HF.out wr g3 (bn4.step hst (by decide)) k hkn
        have hki : (k : Int) < 4 := by omega
        have hnl := HNL.out k
        have htl : (NS.take k).length ≤ k := List.length_take_le _ _
        have HSN : Hid ([76] ++ (NS.take k).flatMap numF ++ numF NS[k] = [76] ++ (NS.take (k + 1)).flatMap numF) := hide (by rw [take_snoc' NS k hkn, List.flatMap_append]; simp [List.append_assoc])
        have hnk := HNM.out NS[k] (List.getElem_mem _)
        have hbl : ([76] ++ (NS.take k).flatMap numF : List Int).length ≤ 100 := by rw [List.length_append, List.length_singleton]; omega
        obtain ⟨nk, hnke⟩ : ∃ nk, NS[k] = nk := ⟨_, rfl⟩
        rw [hnke] at q0 HSN hnk
        have HNB := hide (number_ok w.heap.size u4 _ nk wr hzr hown (by omega) hnk)
        have HOW := hide hown
        clear hown hnke hnl htl
        go_wp2_with fail
        refine HNB.out.mono ?_
        rintro e w5 ⟨v5, rfl, hv5, hg5⟩
        have hst5 := hst.trans (hg5.step HOW.out)
        clear HNB HOW q0
        go_wp2
        go_roundw
        case rel => exact ⟨k + 1, by omega, by go_num, by rw [← HSN.out]; exact hv5, hst5⟩
        case measure => simp [intOf]; omega
      · obtain rfl : k = 4 := by omega
        rw [List.take_of_length_le (by omega)] at hown
        have hnl := HNL.out 4
        rw [List.take_of_length_le (by omega)] at hnl
        have bvr := bv4.step hst (by decide)
        have hml := mark_lt p au
        have hmo := marks_or p au
        obtain ⟨F1, hF1⟩ : ∃ F1 : Int, (if p = true then 1 else 0) = F1 := ⟨_, rfl⟩
        obtain ⟨F2, hF2⟩ : ∃ F2 : Int, (if au = true then 2 else 0) = F2 := ⟨_, rfl⟩
        rw [hF1, hF2] at hmo
        have HFA := hide (fun W => flag_ok p 1 W)
        have HFB := hide (fun W => flag_ok au 2 W)
        rw [hF1] at HFA
        rw [hF2] at HFB
        obtain ⟨M, hM⟩ : ∃ M, markN p au = M := ⟨_, rfl⟩
        rw [hM] at HENC hml hmo
        have v5 := bvr.cell 5
        have v6 := bvr.cell 6
        simp only [List.getElem?_toArray, List.getElem?_cons_succ, List.getElem?_cons_zero] at v5 v6
        clear bv4 bn4 HF hst hM hF1 hF2
        obtain ⟨NB, hNB⟩ : ∃ NB, [76] ++ NS.flatMap numF = NB := ⟨_, rfl⟩
        have hNBl : NB.length ≤ 20 := by rw [← hNB, List.length_append, List.length_singleton]; omega
        rw [hNB] at hown HENC
        obtain ⟨A4, n4, c4, h4e⟩ : ∃ A4 n4 c4, u4 = .slice A4 n4 c4 := (by obtain ⟨A, c, e, _⟩ := hown.islc.open_; exact ⟨A, _, c, e⟩)
        subst h4e
        clear hNB hnl
        go_upto_region 9 with fail
        refine wp_region_held_drew (S := fun w' => w'.cell? ⟨gv, 5, none⟩ = some (.bool p) ∧ w'.cell? ⟨gv, 6, none⟩ = some (.bool au)) (by kernel_rfl) (by exact ⟨v5, v6⟩) (fun hHeld => ?_)
        refine wpAnyH_take (i := 0) (oi := ?_) (v := ?_) ?_ (by kernel_rfl) (by kernel_rfl) (by kernel_rfl) ?_ (Or.inl ⟨?_, ?_⟩) (by assumption) ?_
        rotate_left 2
        · (simp only [List.getElem?_toArray, List.getElem?_cons_succ, List.getElem?_cons_zero]; rfl)
        rotate_left 1
        · rfl
        · (intro w hSw; obtain ⟨v5, v6⟩ := hSw; go_simp; try with_reducible rfl)
        rotate_left 1
        · exact fun _ _ _ h => h
        try simp only [Act.put, List.setIfInBounds_toArray, List.set_cons_zero, List.set_cons_succ]
        refine wpAnyH_take (i := 1) (oi := ?_) (v := ?_) ?_ (by kernel_rfl) (by kernel_rfl) (by kernel_rfl) ?_ (Or.inl ⟨?_, ?_⟩) (by assumption) ?_
        rotate_left 2
        · (simp only [List.getElem?_toArray, List.getElem?_cons_succ, List.getElem?_cons_zero]; rfl)
        rotate_left 1
        · rfl
        · (intro w hSw; obtain ⟨v5, v6⟩ := hSw; go_simp; try with_reducible rfl)
        rotate_left 1
        · exact fun _ _ _ h => h
        try simp only [Act.put, List.setIfInBounds_toArray, List.set_cons_zero, List.set_cons_succ]
        refine wpAnyH_take (i := 2) (oi := ?_) (v := ?_) ?_ (by kernel_rfl) (by kernel_rfl) (by kernel_rfl) ?_ (Or.inl ⟨?_, ?_⟩) (by assumption) ?_
        rotate_left 2
        · (simp only [List.getElem?_toArray, List.getElem?_cons_succ, List.getElem?_cons_zero]; rfl)
        rotate_left 1
        · rfl
        · (intro w hSw; obtain ⟨v5, v6⟩ := hSw; go_simp; try with_reducible rfl)
        rotate_left 1
        · exact fun _ _ _ h => h
        try simp only [Act.put, List.setIfInBounds_toArray, List.set_cons_zero, List.set_cons_succ]
        refine wpAnyH_take (i := 3) (oi := ?_) (v := ?_) ?_ (by kernel_rfl) (by kernel_rfl) (by kernel_rfl) ?_ (Or.inl ⟨?_, ?_⟩) (by assumption) ?_
        rotate_left 2
        · (simp only [List.getElem?_toArray, List.getElem?_cons_succ, List.getElem?_cons_zero]; rfl)
        rotate_left 1
        · rfl
        · (intro w hSw; obtain ⟨v5, v6⟩ := hSw; go_simp; try with_reducible rfl)
        rotate_left 1
        · exact fun _ _ _ h => h
        try simp only [Act.put, List.setIfInBounds_toArray, List.set_cons_zero, List.set_cons_succ]
        refine wpAnyH_take (i := 5) (oi := ?_) (v := ?_) ?_ (by kernel_rfl) (by kernel_rfl) (by kernel_rfl) ?_ (Or.inl ⟨?_, ?_⟩) (by assumption) ?_
        rotate_left 2
        · (simp only [List.getElem?_toArray, List.getElem?_cons_succ, List.getElem?_cons_zero]; rfl)
        rotate_left 1
        · rfl
        · (intro w hSw; obtain ⟨v5, v6⟩ := hSw; go_simp; try with_reducible rfl)
        rotate_left 1
        · exact fun _ _ _ h => h
        try simp only [Act.put, List.setIfInBounds_toArray, List.set_cons_zero, List.set_cons_succ]
        refine wpAnyH_take (i := 6) (oi := ?_) (v := ?_) ?_ (by kernel_rfl) (by kernel_rfl) (by kernel_rfl) ?_ (Or.inl ⟨?_, ?_⟩) (by assumption) ?_
        rotate_left 2
        · (simp only [List.getElem?_toArray, List.getElem?_cons_succ, List.getElem?_cons_zero]; rfl)
        rotate_left 1
        · rfl
        · (intro w hSw; obtain ⟨v5, v6⟩ := hSw; go_simp; try with_reducible rfl)
        rotate_left 1
        · exact fun _ _ _ h => h
        try simp only [Act.put, List.setIfInBounds_toArray, List.set_cons_zero, List.set_cons_succ]
        refine wpAnyH_ready (rs := [4]) (by kernel_rfl) (by simp) ?_
        refine AllReadyH.cons (o := ?_) ?_ (fun K hK => ?_) AllReadyH.nil
        rotate_left 1
        · (simp only [List.getElem?_toArray, List.getElem?_cons_succ, List.getElem?_cons_zero]; rfl)
        go_simp
        go_at_call 17; refine (HFA.out _).mono ?_; rintro e wq ⟨rfl, rfl⟩
        refine hK.out _ _ ?_ (fun hHeld => ?_)
        · exact ⟨v5, v6⟩
        clear hK K
        try simp only [Act.put, List.setIfInBounds_toArray, List.set_cons_zero, List.set_cons_succ]
        refine wpAnyH_ready (rs := [7]) (by kernel_rfl) (by simp) ?_
        refine AllReadyH.cons (o := ?_) ?_ (fun K hK => ?_) AllReadyH.nil
        rotate_left 1
        · (simp only [List.getElem?_toArray, List.getElem?_cons_succ, List.getElem?_cons_zero]; rfl)
        go_simp
        go_at_call 17; refine (HFB.out _).mono ?_; rintro e wq ⟨rfl, rfl⟩
        refine hK.out _ _ ?_ (fun hHeld => ?_)
        · exact ⟨v5, v6⟩
        clear hK K
        try simp only [Act.put, List.setIfInBounds_toArray, List.set_cons_zero, List.set_cons_succ]
        refine wpAnyH_take (i := 8) (oi := ?_) (v := ?_) ?_ (by kernel_rfl) (by kernel_rfl) (by kernel_rfl) ?_ (Or.inl ⟨?_, ?_⟩) (by assumption) ?_
        rotate_left 2
        · (simp only [List.getElem?_toArray, List.getElem?_cons_succ, List.getElem?_cons_zero]; rfl)
        rotate_left 1
        · rfl
        · (intro w hSw; obtain ⟨v5, v6⟩ := hSw; go_simp; try with_reducible rfl)
        rotate_left 1
        · exact fun _ _ _ h => h
        try simp only [Act.put, List.setIfInBounds_toArray, List.set_cons_zero, List.set_cons_succ]
        refine wpAnyH_ready (rs := [9]) (by kernel_rfl) (by simp) ?_
        refine AllReadyH.cons (o := ?_) ?_ (fun K hK => ?_) AllReadyH.nil
        rotate_left 1
        · (simp only [List.getElem?_toArray, List.getElem?_cons_succ, List.getElem?_cons_zero]; rfl)
        go_simp
        have bv5 : Blk (wr.drew.alloc (.cells #[.int .u8 (M : Int)] 5)) gv 26 _ := (show Blk wr.drew gv 26 _ from bvr).alloc _; have hown5 := (own_drU hown).alloc (.cells #[.int .u8 (M : Int)] 5); have hb5 := (below_drw hbr).alloc hzr (.cells #[.int .u8 (M : Int)] 5); have hone := (own_u8 wr.drew [(M : Int)] (fun x hx => (by rw [List.mem_singleton] at hx; subst hx; exact wf_nat8 M (by omega))) w.heap.size wr.heap.size 1 hzr rfl rfl (by simp [maxLen])).islc; have v5 := bv5.cell 5; have v6 := bv5.cell 6; simp only [List.getElem?_toArray, List.getElem?_cons_succ, List.getElem?_cons_zero] at v5 v6
        refine hK.out _ _ ?_ (fun hHeld => ?_)
        · exact ⟨v5, v6⟩
        clear hK K
        try simp only [Act.put, List.setIfInBounds_toArray, List.set_cons_zero, List.set_cons_succ]
        refine wpAnyH_ready (rs := [10]) (by kernel_rfl) (by simp) ?_
        refine AllReadyH.cons (o := ?_) ?_ (fun K hK => ?_) AllReadyH.nil
        rotate_left 1
        · (simp only [List.getElem?_toArray, List.getElem?_cons_succ, List.getElem?_cons_zero]; rfl)
        refine step_appu rfl (.tmp 34) (.tmp 43) 29 rfl w.heap.size Tryd.underlying29 u8_info _ _ rfl hown5 _ _ _ _ rfl hone (by simp only [List.length_singleton]; omega) hb5.size ?_; intro v8 w8 hv8 hg8; have hst8 := hg8.step hown5; have hb8 := hb5.trans (hst8.below hb5.size); have bv8 := bv5.step hst8 (by decide); have v5 := bv8.cell 5; have v6 := bv8.cell 6; simp only [List.getElem?_toArray, List.getElem?_cons_succ, List.getElem?_cons_zero] at v5 v6
        refine hK.out _ _ ?_ (fun hHeld => ?_)
        · exact ⟨v5, v6⟩
        clear hK K
        try simp only [Act.put, List.setIfInBounds_toArray, List.set_cons_zero, List.set_cons_succ]
        refine wpAnyH_take (i := 11) (oi := ?_) (v := ?_) ?_ (by kernel_rfl) (by kernel_rfl) (by kernel_rfl) ?_ (Or.inl ⟨?_, ?_⟩) (by assumption) ?_
        rotate_left 2
        · (simp only [List.getElem?_toArray, List.getElem?_cons_succ, List.getElem?_cons_zero]; rfl)
        rotate_left 1
        · rfl
        · (intro w hSw; obtain ⟨v5, v6⟩ := hSw; go_simp; try with_reducible rfl)
        rotate_left 1
        · exact fun _ _ _ h => h
        try simp only [Act.put, List.setIfInBounds_toArray, List.set_cons_zero, List.set_cons_succ]
        refine wpAnyH_done (by kernel_rfl) ?_ _
        have hb9 := hb8
        clear hHeld v5 v6
        go_upto_region 10 with fail
        have v2 := bv8.cell 2
        simp only [List.getElem?_toArray, List.getElem?_cons_succ, List.getElem?_cons_zero] at v2
        have HLL := hide (fun k => lines_len (ls.take k) (fun n hn => HALL.out n (List.mem_of_mem_take hn)))
        obtain ⟨P, hP⟩ : ∃ P, NB ++ [(M : Int)] = P := ⟨_, rfl⟩
        have hPl : P.length ≤ 21 := by rw [← hP, List.length_append, List.length_singleton]; omega
        rw [hP] at hv8 HENC
        go_wp2_with fail
        go_loopw [4, 48] (fun bv iv wr => ∃ k : Nat, k ≤ ls.length ∧ iv = .int .i64 k ∧ Own (Rep.int .u8) 5 [] w.heap.size wr bv (P ++ (ls.take k).flatMap lineE) ∧ Below w.heap.size w wr) (fun _ iv _ => ls.length - (intOf iv).toNat)
        case atStart => exact ⟨0, Nat.zero_le _, rfl, by simpa using hv8, hb8⟩
        case round =>
          clear hv8 hb8 hb9 bv8 v2 hbr hzr hP
          obtain ⟨k, hk, rfl, hown, hbr⟩ := hrel
          have hzr := hbr.size
          by_cases hlt : k < ls.length
          · obtain ⟨ab, off, vl, rfl, hab, p0, p1, hvl⟩ := line_at HX.out.slb hlt
            have q0 := (hbr.cell (p := ⟨ab, off + k * 2, none⟩) hab).trans p0
            have q1 := (hbr.cell (p := ⟨ab, off + k * 2 + 1, none⟩) hab).trans p1
            obtain ⟨h1, h2⟩ := HALL.out ls[k] (List.getElem_mem _)
            have hlk := HLL.out k
            have htl : (ls.take k).length ≤ k := List.length_take_le _ _
            have hbl : (P ++ (ls.take k).flatMap lineE).length ≤ 100000000 := by rw [List.length_append]; omega
            have HSN : Hid (P ++ (ls.take k).flatMap lineE ++ lineE ls[k] = P ++ (ls.take (k + 1)).flatMap lineE) := hide (by rw [take_snoc' ls k hlt, List.flatMap_append]; simp [List.append_assoc])
            obtain ⟨lk, hlke⟩ : ∃ lk, ls[k] = lk := ⟨_, rfl⟩
            rw [hlke] at h1 h2 HSN
            rw [hlke] at hvl
            rw [hlke] at q1
            obtain ⟨cl, fl⟩ := lk
            simp only at h1 h2 hvl q1
            obtain ⟨Al, cpl, rfl, _, _, _⟩ := hvl.open_
            have hki : (k : Int) < ls.length := by omega
            have bi := Blk.new wr 45 #[.slice Al cl.length cpl, .bool fl]
            have hown2 := hown.alloc (.cells #[.slice Al cl.length cpl, .bool fl] 45)
            have hbr2 := hbr.alloc hzr (.cells #[.slice Al cl.length cpl, .bool fl] 45)
            have hvl2 := (hvl.mono (Keep.below (S := fun b => b < w.heap.size) (hbr2.mono (Nat.le_refl _))) (Keep.below (S := fun b => b < w.heap.size) (hbr2.mono (Nat.le_refl _))))
            have HLN := hide (line_ok w.heap.size u4 _ _ cl fl _ hbr2.size hown2 hvl2 h2 h1 (by omega))
            clear hown p0 p1 hvl hlk htl
            go_upto_region 13 with fail
            obtain ⟨gi, hgi⟩ : ∃ gi, wr.heap.size = gi := ⟨_, rfl⟩
            rw [hgi] at bi ⊢
            generalize wr.alloc (.cells #[.slice Al cl.length cpl, .bool fl] 45) = w6 at *
            have r0 := bi.cell 0
            have r1 := bi.cell 1
            simp only [List.getElem?_toArray, List.getElem?_cons_succ, List.getElem?_cons_zero] at r0 r1
            have HOW := hide hown2
            clear hown2 hlke
            go_wp2_with fail
            refine HLN.out.mono ?_
            rintro e w7 ⟨v7, rfl, hv7, hg7⟩
            have hb7 := hbr2.trans ((hg7.step HOW.out).below hbr2.size)
            clear r0 r1 HOW HLN q0 q1
            go_wp2
            go_roundw
            case rel => exact ⟨k + 1, by omega, by go_num, by rw [← HSN.out]; exact hv7, hb7⟩
            case measure => simp [intOf]; omega
          · obtain rfl : k = ls.length := by omega
            rw [List.take_of_length_le (Nat.le_refl _)] at hown
            go_wp2
            go_ret2
            exact ⟨fun _ => ⟨_, rfl, by rw [HENC.out]; exact hown⟩, fun h => by (rw [HR.out] at h; cases h), hbr⟩
end Go.Proofs.YtphdagmaamcapaaDoor

namespace Go.Proofs.YtphdagmaamcapaaDoor
open Go.RowKit
set_option linter.unusedVariables false
set_option linter.unusedSimpArgs false

theorem alike_in (K : Bool) : ∀ (l : List CellV) (j : Nat) (hj : j < l.length), j < alikeN K l → decide (l[j].1 = 0) = K
  | c :: l, j, hj, h => by
    unfold alikeN at h
    split at h
    · rename_i hc
      cases j with
      | zero => exact hc
      | succ j =>
        have := alike_in K l j (by simpa using hj) (by omega)
        simpa using this
    · omega
theorem alike_out (K : Bool) : ∀ (l : List CellV) (h : alikeN K l < l.length), decide ((l[alikeN K l]'h).1 = 0) ≠ K
  | [], h => by simp at h
  | c :: l, h => by
    by_cases hc : decide (c.1 = 0) = K
    · have e : alikeN K (c :: l) = alikeN K l + 1 := by rw [alikeN, if_pos hc]
      have h' : alikeN K l < l.length := by rw [e, List.length_cons] at h; omega
      have := alike_out K l h'
      simp only [e, List.getElem_cons_succ]
      exact this
    · have e : alikeN K (c :: l) = 0 := by rw [alikeN, if_neg hc]
      simp only [e, List.getElem_cons_zero]
      exact hc
theorem kind_head {rs : List CellV} (h : 0 < rs.length) : (kindN rs = 0 ∧ headK rs = true ∧ rs[0].1 = 0) ∨ (kindN rs = 1 ∧ headK rs = false ∧ rs[0].1 ≠ 0) := by
  have hh := headK_at h
  unfold kindN
  by_cases h0 : rs[0].1 = 0
  · rw [hh, decide_eq_true h0]; exact .inl ⟨rfl, rfl, h0⟩
  · rw [hh, decide_eq_false h0]; exact .inr ⟨rfl, rfl, h0⟩

theorem run_facts (cl : List CellV) (k : Nat) (hlt : k < cl.length) (hs : soundB (cl.drop k) = true) : ∃ (n q : Nat) (sg : List CellV),
    runsF (cl.drop k) = numF (2 * n + q) ++ sg.flatMap clusF ++ runsF (cl.drop (k + n)) ∧ 0 < n ∧ k + n ≤ cl.length ∧ q ≤ 1 ∧ sg.length = n ∧ (∀ c ∈ sg, rightB c = true) ∧ soundB (cl.drop (k + n)) = true ∧
    (∀ j (h : j < sg.length) (h2 : k + j < cl.length), sg[j] = cl[k + j]) ∧
    (∀ j, j < n → ((q = 0 ∧ (cl.getD (k + j) (0, [])).1 = 0) ∨ (q = 1 ∧ (cl.getD (k + j) (0, [])).1 ≠ 0))) ∧
    (k + n < cl.length → ((q = 0 ∧ (cl.getD (k + n) (0, [])).1 ≠ 0) ∨ (q = 1 ∧ (cl.getD (k + n) (0, [])).1 = 0))) := by
  have hrsl : (cl.drop k).length = cl.length - k := List.length_drop
  have hgt : ∀ j (hj : j < (cl.drop k).length) (h2 : k + j < cl.length), (cl.drop k)[j] = cl[k + j] := fun j hj h2 => List.getElem_drop
  have hdj : ∀ j (hj : k + j < cl.length), cl.getD (k + j) (0, []) = cl[k + j] := fun j hj => by rw [List.getD_eq_getElem?_getD, List.getElem?_eq_getElem hj]; rfl
  have hdd : ∀ n, (cl.drop k).drop n = cl.drop (k + n) := fun n => List.drop_drop
  generalize cl.drop k = rs at *
  have hp : 0 < rs.length := by omega
  have hne : rs ≠ [] := by intro e; rw [e] at hp; simp at hp
  obtain ⟨hs1, hs2, _⟩ := run_sound hs
  have hrn := run_le rs
  have hkh := kind_head hp
  rw [hdd] at hs2
  refine ⟨runN rs, kindN rs, rs.take (runN rs), by rw [runs_cons hne, hdd], run_pos hne, by omega, by rcases hkh with ⟨e, _⟩ | ⟨e, _⟩ <;> omega, by rw [List.length_take]; omega, sound_mem _ _ hs1, hs2, fun j h h2 => ?_, fun j hj => ?_, fun hj => ?_⟩
  · rw [List.getElem_take]
    exact hgt j (by rw [List.length_take] at h; omega) h2
  · have h1 := alike_in (headK rs) rs j (by omega) hj
    rw [hgt j (by omega) (by omega)] at h1
    rw [hdj j (by omega)]
    rcases hkh with ⟨e1, e2, _⟩ | ⟨e1, e2, _⟩
    · exact .inl ⟨e1, of_decide_eq_true (h1.trans e2)⟩
    · exact .inr ⟨e1, of_decide_eq_false (h1.trans e2)⟩
  · have h1 := alike_out (headK rs) rs (show runN rs < rs.length by omega)
    have h2 : rs[alikeN (headK rs) rs]'(show runN rs < rs.length by omega) = cl[k + runN rs] := hgt (runN rs) (by omega) hj
    rw [h2] at h1
    rw [hdj _ hj]
    rcases hkh with ⟨e1, e2, _⟩ | ⟨e1, e2, _⟩
    · exact .inl ⟨e1, fun e => h1 ((decide_eq_true e).trans e2.symm)⟩
    · exact .inr ⟨e1, Decidable.byContradiction fun e => h1 ((decide_eq_false e).trans e2.symm)⟩
set_option maxRecDepth 8000 in
set_option maxHeartbeats 4000000 in
theorem rRuns_ok (x : Value) (cl : List CellV) (w : World) (hx : Slc RCell (fun b => b < w.heap.size) (fun b => b < w.heap.size) w x cl) (hs : soundB cl = true) (hcl : cl.length ≤ 1024) :
    Calls Tryd.prog 24 #[x] w fun e w' => ∃ s, e = .returned s ∧ Own (Rep.int .u8) 5 [] w.heap.size w' s (runsF cl) ∧ Below w.heap.size w w' := by
  obtain ⟨A, c, rfl, _, _, hA⟩ := hx.open_
  have hrl := runs_len cl.length cl (Nat.le_refl _) (by omega) hs
  have HS := hide hs
  have HRT := hide (sound_mem cl false hs)
  clear hs
  go_enter Tryd.func24, Tryd.ntmps24
  go_wp2_with fail
  go_loopw [3, 4] (fun ov iv wr => ∃ (k : Nat) (bs : List Int), k ≤ cl.length ∧ iv = .int .i64 k ∧ soundB (cl.drop k) = true ∧ bs ++ runsF (cl.drop k) = runsF cl ∧ Own (Rep.int .u8) 5 [] w.heap.size wr ov bs ∧ Below w.heap.size w wr) (fun _ iv _ => cl.length - (intOf iv).toNat)
  case atStart => exact ⟨0, [], Nat.zero_le _, rfl, HS.out, rfl, Own.nil_ _ _ _ _ _ (by simp), Below.refl _ _⟩
  case round =>
    clear HS
    obtain ⟨k, bs, hk, rfl, hsr, htot, hown, hbr⟩ := hrel
    have hzr := hbr.size
    have hbl : bs.length ≤ 71680 := by
      have := congrArg List.length htot
      rw [List.length_append] at this
      omega
    by_cases hlt : k < cl.length
    · obtain ⟨n, q, sg, hrf, hrp, hkn, hq1, hsl, hmr, hs2, hsga, hkin, hkout⟩ := run_facts cl k hlt hsr
      rw [hrf] at htot
      have hcell : ∀ j, k + j < cl.length → ∃ ab off, A = some ⟨ab, off, none⟩ ∧ ab < w.heap.size ∧ w.cell? ⟨ab, off + (k + j) * 2, none⟩ = some (.int .i64 (cl.getD (k + j) (0, [])).1) := fun j hj => by
        obtain ⟨ab, off, v, e, hab, p0, _, _, _⟩ := cell_at hA hj
        exact ⟨ab, off, e, hab, by rw [p0, List.getD_eq_getElem?_getD, List.getElem?_eq_getElem hj]; rfl⟩
      have HKIN := hide hkin
      have HKOUT := hide hkout
      have HCELL := hide hcell
      have HMR := hide hmr
      have HT := hide htot
      have HS2 := hide hs2
      have HSGA := hide hsga
      have hki : (k : Int) < cl.length := by omega
      obtain ⟨ab, off, hAe, hab, p0⟩ := hcell 0 (by omega)
      subst hAe
      rw [Nat.add_zero] at p0
      have hk0 : (q = 0 ∧ (cl.getD k (0, [])).1 = 0) ∨ (q = 1 ∧ (cl.getD k (0, [])).1 ≠ 0) := hkin 0 hrp
      have q0 := (hbr.cell (p := ⟨ab, off + k * 2, none⟩) hab).trans p0
      obtain ⟨K, hK⟩ : ∃ K, (cl.getD k (0, [])).1 = K := ⟨_, rfl⟩
      rw [hK] at q0 hk0
      have HK0 := hide hk0
      clear hkin hkout hcell hmr htot hs2 hsga p0 hK hk0 hsr hrf
      go_upto_region 5 with fail
      go_upto_region 6 with fail
      go_cut [20] from 10 to 89 (fun s wx => s = .bool (decide (q = 1)) ∧ wr = wx)
      case first =>
        rcases HK0.out with ⟨e1, e2⟩ | ⟨e1, e2⟩
        · subst e1; subst e2
          clear HK0
          go_wp2
          go_meet
          exact ⟨by first | rfl | simp, rfl⟩
        · have hKb : (K != 0) = true := by simpa using e2
          subst e1
          clear HK0
          go_wp2
          go_meet
          exact ⟨by first | rfl | simp [hKb], rfl⟩
      case rest =>
      obtain ⟨rfl, rfl⟩ := hcut
      clear HK0
      go_upto_if 20 with fail
      go_cut [6] from 10 to 89 (fun s wx => s = .int .i64 (q : Int) ∧ wr = wx)
      case first =>
        have hq01 : q = 0 ∨ q = 1 := by omega
        rcases hq01 with rfl | rfl
        · go_wp2
          go_meet
          exact ⟨rfl, rfl⟩
        · go_wp2
          go_meet
          exact ⟨rfl, rfl⟩
      case rest =>
      obtain ⟨rfl, rfl⟩ := hcut
      clear q0
      generalize wr = w0 at *
      go_wp2_with fail
      go_loopw [5, 7] (fun ev iv wq => ∃ j : Nat, j ≤ n ∧ ev = .int .i64 ((k + j : Nat) : Int) ∧ Own (Rep.int .u8) 5 [] w0.heap.size wq iv ((sg.take j).flatMap clusF) ∧ Below w0.heap.size w0 wq) (fun ev _ _ => cl.length - (intOf ev).toNat)
      case atStart => exact ⟨0, Nat.zero_le _, by simp, by simpa using Own.nil_ _ _ _ _ _ (by simp), Below.refl _ _⟩
      case round =>
        obtain ⟨j, hj, rfl, hin, hbq⟩ := hrel
        have hbw := hbr.trans (hbq.mono hzr)
        have hzq := hbq.size
        by_cases hjn : j < n
        · have hkj : k + j < cl.length := by omega
          obtain ⟨ab2, off2, e2, _, p0⟩ := HCELL.out j hkj
          injection e2 with e2
          injection e2 with e2 e3
          subst e2; subst e3
          have hjs : j < sg.length := by omega
          have hsgj := HSGA.out j hjs hkj
          obtain ⟨ab2, off2, vt, e2, hab2, p0, p1, hwk, ht⟩ := cell_at hA hkj
          injection e2 with e2
          injection e2 with e2 e3
          subst e2; subst e3
          have q0 := (hbw.cell (p := ⟨ab, off + (k + j) * 2, none⟩) hab2).trans p0
          have q1 := (hbw.cell (p := ⟨ab, off + (k + j) * 2 + 1, none⟩) hab2).trans p1
          obtain ⟨At, ct, rfl, _, _, _⟩ := ht.open_
          have hkin := HKIN.out j hjn
          rw [List.getD_eq_getElem?_getD, List.getElem?_eq_getElem hkj, Option.getD_some] at hkin
          have hsn : (sg.take (j + 1)).flatMap clusF = (sg.take j).flatMap clusF ++ clusF sg[j] := by
            rw [take_snoc' sg j hjs, List.flatMap_append]; simp
          have hrc := HMR.out sg[j] (List.getElem_mem _)
          have hcl2 := clusters_len (sg.take j) (fun x hx => HMR.out x (List.mem_of_mem_take hx))
          have htl : (sg.take j).length ≤ j := List.length_take_le _ _
          rw [hsgj] at hsn hrc
          obtain ⟨is, his⟩ : ∃ is, (sg.take j).flatMap clusF = is := ⟨_, rfl⟩
          rw [his] at hin hsn hcl2
          have htv := ht.mono (Keep.below (S := fun b => b < w.heap.size) (hbw.mono (Nat.le_refl _))) (Keep.below (S := fun b => b < w.heap.size) (hbw.mono (Nat.le_refl _)))
          obtain ⟨cc, hcc⟩ : ∃ cc, cl[k + j] = cc := ⟨_, rfl⟩
          rw [hcc] at q0 q1 hsn hrc htv hkin
          obtain ⟨k0, tx⟩ := cc
          simp only at q0 q1 htv hkin
          have HSN := hide hsn
          have HRC := hide hrc
          have hkji : (k : Int) + (j : Int) < cl.length := by omega
          have hkjc : ((k + j : Nat) : Int) = (k : Int) + (j : Int) := by omega
          rw [hkjc]
          rw [hcc] at p0
          rw [hcc] at p1
          simp only at p0 p1
          have hid : off + (k + j) * 2 = off + (k + j) * 2 := rfl
          have hisl : is.length ≤ 68608 := by omega
          clear hsn hrc hsgj his hcc p1 hkjc hid ht htl
          go_upto_region 9 with fail
          go_cut [35] from 21 to 76 (fun s wx => s = .bool true ∧ wr = wx)
          case first =>
            rcases hkin with ⟨e1, e2⟩ | ⟨e1, e2⟩
            · subst e1; subst e2
              go_wp2
              go_meet
              exact ⟨by first | rfl | simp, rfl⟩
            · have hKb : (k0 != 0) = true := by simpa using e2
              have hKc : (k0 == 0) = false := by simpa using e2
              subst e1
              go_wp2
              go_meet
              exact ⟨by first | rfl | simp [hKb], rfl⟩
          case rest =>
          obtain ⟨rfl, rfl⟩ := hcut
          by_cases h03 : k0 = 0 ∨ k0 = 3
          · have HE : Hid (clusF (k0, tx) = []) := hide (clus_nil HRC.out h03)
            have hk1 : (k0 == 1) = false := by rcases h03 with e | e <;> rw [e] <;> decide
            have hk2 : (k0 == 2) = false := by rcases h03 with e | e <;> rw [e] <;> decide
            clear hkin h03
            go_wp2
            go_roundw
            case rel => exact ⟨j + 1, by omega, by go_num, by rw [HSN.out, HE.out, List.append_nil]; exact hin, hbq⟩
            case measure => simp [intOf]; omega
          · obtain ⟨hcf, hcp, hc64⟩ := clus_one HRC.out (fun e => h03 (.inl e)) (fun e => h03 (.inr e))
            obtain ⟨hk12, _, ht16, hval⟩ := right_pos HRC.out (fun e => h03 (.inl e)) (fun e => h03 (.inr e))
            simp only at hcf hcp hc64 ht16 hval hk12
            have HPUT := hide (rPut_ok _ _ (.slice At tx.length ct) tx wr htv (by omega))
            have HVAL := hide hval
            have HCF := hide hcf
            have HP0 := hide p0
            obtain ⟨fb, hfb⟩ : ∃ fb, putF tx = fb := ⟨_, rfl⟩
            rw [hfb] at HCF hcp hc64
            have HFBE := hide hfb
            have hwk0 : k0 = 1 ∨ k0 = 2 := hk12
            obtain ⟨Q, hQ⟩ : ∃ Q : Nat, (if k0 = 2 then 1 else 0) = Q := ⟨_, rfl⟩
            rw [hQ] at HCF
            have hQ1 : Q ≤ 1 := by rw [← hQ]; split <;> omega
            have hQk : 2 * (fb.length : Int) + k0 - 1 = ((2 * fb.length + Q : Nat) : Int) := by rw [← hQ]; rcases hk12 with e | e <;> subst e <;> simp <;> omega
            have HNUM := hide (fun W => num_ok (2 * fb.length + Q) (by omega) W)
            rw [← hQk] at HNUM
            have hnl2 := (numF_len (2 * fb.length + Q) (by omega)).2
            clear hval hcf hfb hkin h03 p0 hQ hQk
            go_upto_region 10 with fail
            go_cut [49] from 21 to 76 (fun s wx => s = .bool true ∧ wr = wx)
            case first =>
              rcases hk12 with e | e
              · subst e
                go_wp2
                go_meet
                exact ⟨by first | rfl | simp, rfl⟩
              · subst e
                go_wp2
                go_meet
                exact ⟨by first | rfl | simp, rfl⟩
            case rest =>
            obtain ⟨rfl, rfl⟩ := hcut
            go_wp2_with fail
            refine HPUT.out.mono ?_
            rintro e w7 ⟨v7, a7, rfl, hsay, hc7⟩
            have hv7 : Own (Rep.int .u8) 5 [] wr.heap.size w7 v7 fb := by
              rcases hsay with ⟨_, _, h⟩ | ⟨i, hi, _, hbad, _, _⟩
              · rw [← HFBE.out]; exact h
              · have := List.all_eq_true.1 HVAL.out tx[i] (List.getElem_mem _)
                rw [this] at hbad
                cases hbad
            have HVL : Hid (∀ g, u7.ownBlock = some g → v7.ownBlock ≠ some g) := hide (fun g hg e => by
              have h1 := (own_lt hin g hg).2
              have h2 := (own_lt hv7 g e).1
              omega)
            obtain ⟨A7, c7, rfl, _, _, _⟩ := hv7.islc.open_
            have hb7 := hbw.trans (hc7.mono hbw.size)
            have hq7 := hbq.trans (hc7.mono hzq)
            have hin7 := hin.below hc7
            have r0 := (hb7.cell (p := ⟨ab, off + (k + j) * 2, none⟩) hab2).trans HP0.out
            clear hsay HPUT hin hc7 q0 q1 htv
            go_wp2_with fail
            refine (HNUM.out _).mono ?_
            rintro e w8 ⟨v8, rfl, hv8, hc8⟩
            have hb8 := hb7.trans (hc8.mono hb7.size)
            have hq8 := hq7.trans (hc8.mono hq7.size)
            have hin8 := hin7.below hc8
            have hf8 := hv7.below hc8
            have hz8 := hq8.size
            clear hin7 hc8 r0 hv7
            go_upto_region 13 with (at_builtin; refine wpList_appu rfl (.tmp 59) (.tmp 70) 29 rfl w0.heap.size Tryd.underlying29 u8_info _ _ rfl hin8 _ _ _ _ rfl hv8.islc (by omega) hz8 ?_; intro v9 w9 hv9 hg9; have hf9 := own_stayU hf8 hg9.by_ HVL.out; have hq9 := hide (hq8.trans ((hg9.step hin8).below hz8)); have hz9 := hq9.out.size; clear hin8 hf8 hg9 hv8)
            go_wp2_with (at_builtin; (refine wpList_appu rfl (.tmp 72) (.tmp 73) 29 rfl w0.heap.size Tryd.underlying29 u8_info _ _ rfl hv9 _ _ _ _ rfl hf9.islc (by rw [List.length_append]; omega) hz9 ?_); intro v10 w10 hv10 hg10; have hq10 := hide (hq9.out.trans ((hg10.step hv9).below hz9)); clear hf9 hg10)
            go_roundw
            case rel => exact ⟨j + 1, by omega, by go_num, by rw [HSN.out, HCF.out, ← List.append_assoc]; exact hv10, hq10.out⟩
            case measure => simp [intOf]; omega
        · obtain rfl : j = n := by omega
          have hko := HKOUT.out
          have hkjc : ((k + j : Nat) : Int) = (k : Int) + (j : Int) := by omega
          rw [hkjc]
          clear hkjc
          go_upto_region 9 with fail
          go_cut [35] from 21 to 76 (fun s wx => s = .bool false ∧ wr = wx)
          case first =>
            by_cases hke : k + j < cl.length
            · have hkji : (k : Int) + (j : Int) < cl.length := by omega
              obtain ⟨ab2, off2, e2, hab2, p0⟩ := HCELL.out j hke
              injection e2 with e2
              injection e2 with e2 e3
              subst e2; subst e3
              have q0 := (hbw.cell (p := ⟨ab, off + (k + j) * 2, none⟩) hab2).trans p0
              have hkk := hko hke
              obtain ⟨K2, hK2⟩ : ∃ K2, (cl.getD (k + j) (0, [])).1 = K2 := ⟨_, rfl⟩
              rw [hK2] at q0 hkk
              clear p0 hK2 hko
              rcases hkk with ⟨e1, e2⟩ | ⟨e1, e2⟩
              · have hKb : (K2 != 0) = true := by simpa using e2
                have hKc : (K2 == 0) = false := by simpa using e2
                subst e1
                go_wp2
                go_meet
                exact ⟨by first | rfl | simp [hKb], rfl⟩
              · subst e1; subst e2
                go_wp2
                go_meet
                exact ⟨by first | rfl | simp, rfl⟩
            · have hkji : ¬ (k : Int) + (j : Int) < cl.length := by omega
              go_wp2
              go_meet
              exact ⟨by first | rfl | simp, rfl⟩
          case rest =>
          obtain ⟨rfl, rfl⟩ := hcut
          rw [List.take_of_length_le (by omega)] at hin
          have hsl2 := clusters_len sg HMR.out
          have hown5 := hown.below hbq
          have HAP : Hid (∀ g, u3.ownBlock = some g → u7.ownBlock ≠ some g) := hide (fun g hg e => by
            have h1 := (own_lt hown g hg).2
            have h2 := (own_lt hin g e).1
            omega)
          have HNUM := hide (num_ok (2 * j + q) (by omega) wr)
          rw [show ((2 * j + q : Nat) : Int) = 2 * ((k : Int) + (j : Int) - (k : Int)) + (q : Int) by omega] at HNUM
          have hnl2 := (numF_len (2 * j + q) (by omega)).2
          clear hko hown
          go_wp2_with fail
          refine HNUM.out.mono ?_
          rintro e w8 ⟨v8, rfl, hv8, hc8⟩
          have hb8 := hbw.trans (hc8.mono hbw.size)
          have hown8 := hown5.below hc8
          have hin8 := hin.below hc8
          have hz8 := hb8.size
          clear hown5 hc8 HNUM hin
          go_upto_region 16 with (at_builtin; refine wpList_appu rfl (.tmp 77) (.tmp 84) 29 rfl w.heap.size Tryd.underlying29 u8_info _ _ rfl hown8 _ _ _ _ rfl hv8.islc (by omega) hz8 ?_; intro v9 w9 hv9 hg9; have hin9 := own_stayU hin8 hg9.by_ HAP.out; have hb9 := hide (hb8.trans ((hg9.step hown8).below hz8)); have hz9 := hb9.out.size; clear hown8 hg9 hv8 hin8)
          go_wp2_with (at_builtin; (refine wpList_appu rfl (.tmp 86) (.tmp 87) 29 rfl w.heap.size Tryd.underlying29 u8_info _ _ rfl hv9 _ _ _ _ rfl hin9.islc (by rw [List.length_append]; omega) hz9 ?_); intro v10 w10 hv10 hg10; have hb10 := hide (hb9.out.trans ((hg10.step hv9).below hz9)); clear hin9 hg10)
          go_roundw
          case rel => exact ⟨k + j, bs ++ numF (2 * j + q) ++ sg.flatMap clusF, hkn, by go_num, HS2.out, by rw [← HT.out]; simp [List.append_assoc], hv10, hb10.out⟩
          case measure => simp [intOf]; omega
    · obtain rfl : k = cl.length := by omega
      rw [List.drop_length, runs_nil, List.append_nil] at htot
      have HT := hide htot
      clear htot hsr
      go_wp2
      go_ret
      exact ⟨_, rfl, by rw [← HT.out]; exact hown, hbr⟩
end Go.Proofs.YtphdagmaamcapaaDoor

namespace Go.Proofs.YtphdagmaamcapaaDoor
open Go.RowKit
set_option linter.unusedVariables false
set_option linter.unusedSimpArgs false

theorem marks_add (p a : Bool) : IntKind.u8.wrap ((if p = true then 1 else 0) + (if a = true then 2 else 0)) = (markN p a : Int) := by
  cases p <;> cases a <;> decide
set_option maxRecDepth 8000 in
set_option maxHeartbeats 4000000 in
theorem rPut55_ok (x : Value) (wd hi r c : Int) (p au : Bool) (ls : List LineV) (w : World) (hR : rightV ⟨wd, hi, ls, r, c, p, au⟩ = true) (hx : Slc RLine (fun b => b < w.heap.size) (fun b => b < w.heap.size) w x ls) :
    Calls Tryd.prog 13 #[.agg #[.int .i64 wd, .int .i64 hi, x, .int .i64 r, .int .i64 c, .bool p, .bool au]] w fun e w' => ∃ s, e = .returned s ∧ Own (Rep.int .u8) 5 [] w.heap.size w' s (encF ⟨wd, hi, ls, r, c, p, au⟩) ∧ Below w.heap.size w w' := by
  obtain ⟨⟨h1, h2, h3, h4, h5⟩, ⟨h6, h7, h8, h9⟩, h10⟩ := rightV_parts hR
  simp only at h1 h2 h3 h4 h5 h6 h7 h8 h9 h10
  have hall : ∀ l ∈ ls, l.1.length ≤ 1024 ∧ soundB l.1 = true := fun l hl => ⟨by have := (h10 l hl).1; omega, (h10 l hl).2⟩
  have HALL := hide hall
  obtain ⟨wn, rfl⟩ := Int.eq_ofNat_of_zero_le (by omega : 0 ≤ wd)
  obtain ⟨hn, rfl⟩ := Int.eq_ofNat_of_zero_le (by omega : 0 ≤ hi)
  obtain ⟨rn, rfl⟩ := Int.eq_ofNat_of_zero_le (by omega : 0 ≤ r)
  obtain ⟨cn, rfl⟩ := Int.eq_ofNat_of_zero_le (by omega : 0 ≤ c)
  have hls : ls.length ≤ 1024 := by omega
  have HENC : Hid ([76] ++ numF wn ++ numF hn ++ numF rn ++ numF cn ++ [(markN p au : Int)] ++ ls.flatMap lineE = encF ⟨wn, hn, ls, rn, cn, p, au⟩) := hide (by unfold encF; simp [List.append_assoc])
  have hw : wn < 2097152 ∧ hn < 2097152 ∧ rn < 2097152 ∧ cn < 2097152 := by omega
  obtain ⟨hw1, hw2, hw3, hw4⟩ := hw
  have hl1 := (numF_len wn hw1).2
  have hl2 := (numF_len hn hw2).2
  have hl3 := (numF_len rn hw3).2
  have hl4 := (numF_len cn hw4).2
  clear h10 hall h1 h2 h3 h4 h5 h6 h7 h8 h9 hR
  obtain ⟨A, c0, rfl, _, _, _⟩ := hx.open_
  have HX := hide hx
  have bv0 := Blk.new w 26 #[.int .i64 wn, .int .i64 hn, .slice A ls.length c0, .int .i64 rn, .int .i64 cn, .bool p, .bool au]
  have hb0 := (Below.refl w.heap.size w).alloc (Nat.le_refl _) (.cells #[.int .i64 wn, .int .i64 hn, .slice A ls.length c0, .int .i64 rn, .int .i64 cn, .bool p, .bool au] 26)
  clear hx
  go_enter Tryd.func13, Tryd.ntmps13
  go_upto_region 1 with fail
  obtain ⟨gv, hgv⟩ : ∃ gv, w.heap.size = gv := ⟨_, rfl⟩
  rw [hgv] at bv0
  try rw [hgv]
  have hz0 := hb0.size
  generalize w.alloc (.cells #[.int .i64 wn, .int .i64 hn, .slice A ls.length c0, .int .i64 rn, .int .i64 cn, .bool p, .bool au] 26) = w0 at *
  clear hgv
  have hown0 := own_u8 w0 [76] (fun x hx => by rw [List.mem_singleton] at hx; subst hx; decide) w.heap.size w0.heap.size 1 hz0 rfl rfl (by simp [maxLen])
  have hb1 := hb0.alloc hz0 (.cells #[.int .u8 76] 5)
  have bv1 := bv0.alloc (.cells #[.int .u8 76] 5)
  simp only [List.map_cons, List.map_nil] at hown0
  go_upto_region 2 with fail
  have hown1 : Own (Rep.int .u8) 5 [] w.heap.size (w0.alloc (.cells #[.int .u8 76] 5)) (.slice (some ⟨w0.heap.size, 0, none⟩) 1 1) [76] := hown0
  generalize w0.alloc (.cells #[.int .u8 76] 5) = w1 at *
  clear hown0 hb0 bv0 hz0
  have u0 := bv1.cell 0
  simp only [List.getElem?_toArray, List.getElem?_cons_succ, List.getElem?_cons_zero] at u0
  have hz1 := hb1.size
  go_wp2_with fail
  refine (num_ok wn hw1 _).mono ?_
  rintro e wA1 ⟨vA1, rfl, hvA1, hcA1⟩
  have hbA1 := hb1.trans (hcA1.mono hz1)
  have hzA1 := hbA1.size
  have bvA1 := bv1.same hcA1
  have hoA1 := hown1.below hcA1
  clear u0 hown1 hb1 bv1 hz1 hcA1
  go_upto_region 3 with (at_builtin; refine wpList_appu rfl (.tmp 8) (.tmp 11) 29 rfl w.heap.size Tryd.underlying29 u8_info _ _ rfl hoA1 _ _ _ _ rfl hvA1.islc (by simp only [List.length_append, List.length_singleton]; omega) hzA1 ?_; intro v2 w2 hown2 hg2; have hst2 := hg2.step hoA1; have hb2 := hide (hbA1.trans (hst2.below hzA1)); have bv2 := hide (bvA1.step hst2 (by decide)); clear hst2 hg2 hoA1)
  have hb2 := hb2.out
  have bv2 := bv2.out
  clear hvA1 bvA1 hbA1 hzA1
  have u1 := bv2.cell 1
  simp only [List.getElem?_toArray, List.getElem?_cons_succ, List.getElem?_cons_zero] at u1
  have hz2 := hb2.size
  go_wp2_with fail
  refine (num_ok hn hw2 _).mono ?_
  rintro e wA2 ⟨vA2, rfl, hvA2, hcA2⟩
  have hbA2 := hb2.trans (hcA2.mono hz2)
  have hzA2 := hbA2.size
  have bvA2 := bv2.same hcA2
  have hoA2 := hown2.below hcA2
  clear u1 hown2 hb2 bv2 hz2 hcA2
  go_upto_region 4 with (at_builtin; refine wpList_appu rfl (.tmp 13) (.tmp 16) 29 rfl w.heap.size Tryd.underlying29 u8_info _ _ rfl hoA2 _ _ _ _ rfl hvA2.islc (by simp only [List.length_append, List.length_singleton]; omega) hzA2 ?_; intro v3 w3 hown3 hg3; have hst3 := hg3.step hoA2; have hb3 := hide (hbA2.trans (hst3.below hzA2)); have bv3 := hide (bvA2.step hst3 (by decide)); clear hst3 hg3 hoA2)
  have hb3 := hb3.out
  have bv3 := bv3.out
  clear hvA2 bvA2 hbA2 hzA2
  have u3 := bv3.cell 3
  simp only [List.getElem?_toArray, List.getElem?_cons_succ, List.getElem?_cons_zero] at u3
  have hz3 := hb3.size
  go_wp2_with fail
  refine (num_ok rn hw3 _).mono ?_
  rintro e wA3 ⟨vA3, rfl, hvA3, hcA3⟩
  have hbA3 := hb3.trans (hcA3.mono hz3)
  have hzA3 := hbA3.size
  have bvA3 := bv3.same hcA3
  have hoA3 := hown3.below hcA3
  clear u3 hown3 hb3 bv3 hz3 hcA3
  go_upto_region 5 with (at_builtin; refine wpList_appu rfl (.tmp 18) (.tmp 22) 29 rfl w.heap.size Tryd.underlying29 u8_info _ _ rfl hoA3 _ _ _ _ rfl hvA3.islc (by simp only [List.length_append, List.length_singleton]; omega) hzA3 ?_; intro v4 w4 hown4 hg4; have hst4 := hg4.step hoA3; have hb4 := hide (hbA3.trans (hst4.below hzA3)); have bv4 := hide (bvA3.step hst4 (by decide)); clear hst4 hg4 hoA3)
  have hb4 := hb4.out
  have bv4 := bv4.out
  clear hvA3 bvA3 hbA3 hzA3
  have u4 := bv4.cell 4
  simp only [List.getElem?_toArray, List.getElem?_cons_succ, List.getElem?_cons_zero] at u4
  have hz4 := hb4.size
  go_wp2_with fail
  refine (num_ok cn hw4 _).mono ?_
  rintro e wA4 ⟨vA4, rfl, hvA4, hcA4⟩
  have hbA4 := hb4.trans (hcA4.mono hz4)
  have hzA4 := hbA4.size
  have bvA4 := bv4.same hcA4
  have hoA4 := hown4.below hcA4
  clear u4 hown4 hb4 bv4 hz4 hcA4
  go_upto_region 7 with (at_builtin; refine wpList_appu rfl (.tmp 24) (.tmp 28) 29 rfl w.heap.size Tryd.underlying29 u8_info _ _ rfl hoA4 _ _ _ _ rfl hvA4.islc (by simp only [List.length_append, List.length_singleton]; omega) hzA4 ?_; intro v5 w5 hown5 hg5; have hst5 := hg5.step hoA4; have hb5 := hide (hbA4.trans (hst5.below hzA4)); have bv5 := hide (bvA4.step hst5 (by decide)); clear hst5 hg5 hoA4)
  have hb5 := hb5.out
  have bv5 := bv5.out
  clear hvA4 bvA4 hbA4 hzA4
  have v5 := bv5.cell 5
  have v6 := bv5.cell 6
  simp only [List.getElem?_toArray, List.getElem?_cons_succ, List.getElem?_cons_zero] at v5 v6
  have hmo := marks_add p au
  obtain ⟨F1, hF1⟩ : ∃ F1 : Int, (if p = true then 1 else 0) = F1 := ⟨_, rfl⟩
  obtain ⟨F2, hF2⟩ : ∃ F2 : Int, (if au = true then 2 else 0) = F2 := ⟨_, rfl⟩
  rw [hF1, hF2] at hmo
  have hml := mark_lt p au
  obtain ⟨M, hM⟩ : ∃ M, markN p au = M := ⟨_, rfl⟩
  rw [hM] at HENC hml hmo
  clear hM
  go_upto_if 32 with fail
  go_cut [4] from 30 to 38 (fun s wx => s = .int .u8 F1 ∧ w5 = wx)
  case first =>
    cases p with
    | true =>
      have HF := hide hF1
      clear hF1
      go_wp2
      go_meet
      exact ⟨by rw [← HF.out]; rfl, rfl⟩
    | false =>
      have HF := hide hF1
      clear hF1
      go_wp2
      go_meet
      exact ⟨by rw [← HF.out]; rfl, rfl⟩
  case rest =>
  obtain ⟨rfl, rfl⟩ := hcut
  go_upto_if 36 with fail
  go_cut [4] from 30 to 38 (fun s wx => s = .int .u8 (M : Int) ∧ w5 = wx)
  case first =>
    cases au with
    | true =>
      have HF : Hid ((F1 + 2) % 256 = (M : Int)) := hide (by rw [← IntKind.wrap_u8, ← hmo, ← hF2]; rfl)
      clear hF2 hmo hF1
      go_wp2
      go_meet
      exact ⟨by first | rfl | rw [HF.out] | exact int_eq HF.out, rfl⟩
    | false =>
      have HF : Hid (F1 = M) := hide (by rw [← hmo, ← hF2, ← hF1]; cases p <;> rfl)
      clear hF2 hmo hF1
      go_wp2
      go_meet
      exact ⟨by first | rfl | rw [HF.out] | exact int_eq HF.out, rfl⟩
  case rest =>
  obtain ⟨rfl, rfl⟩ := hcut
  clear hF1 hF2 hmo v5 v6
  obtain ⟨NB, hNB⟩ : ∃ NB, [76] ++ numF wn ++ numF hn ++ numF rn ++ numF cn = NB := ⟨_, rfl⟩
  have hNBl : NB.length ≤ 20 := by rw [← hNB]; simp only [List.length_append, List.length_singleton]; omega
  rw [hNB] at hown5 HENC
  have hz5 := hb5.size
  have hone := (own_u8 w5 [(M : Int)] (fun x hx => by rw [List.mem_singleton] at hx; subst hx; exact wf_nat8 M (by omega)) w.heap.size w5.heap.size 1 hz5 rfl rfl (by simp [maxLen])).islc
  have hown6 := hown5.alloc (.cells #[.int .u8 (M : Int)] 5)
  have hb6 := hb5.alloc hz5 (.cells #[.int .u8 (M : Int)] 5)
  have bv6 := bv5.alloc (.cells #[.int .u8 (M : Int)] 5)
  clear hown5 hNB hl1 hl2 hl3 hl4 hw1 hw2 hw3 hw4 hz5
  go_upto_region 12 with (at_builtin; refine wpList_appu rfl (.tmp 39) (.tmp 41) 29 rfl w.heap.size Tryd.underlying29 u8_info _ _ rfl hown6 _ _ _ _ rfl hone (by simp only [List.length_singleton]; omega) hb6.size ?_; intro v7 w7 hv7 hg7; have hst7 := hg7.step hown6; have hb7 := hide (hb6.trans (hst7.below hb6.size)); have bv7 := hide (bv6.step hst7 (by decide)); clear hst7 hg7 hown6 hone)
  have hb7 := hb7.out
  have BV7 := hide bv7.out
  clear hb6 bv6 hb5 bv5 bv7
  have HLL := hide (fun k => lines_len (ls.take k) (fun n hn => HALL.out n (List.mem_of_mem_take hn)))
  obtain ⟨P, hP⟩ : ∃ P, NB ++ [(M : Int)] = P := ⟨_, rfl⟩
  have hPl : P.length ≤ 21 := by rw [← hP, List.length_append, List.length_singleton]; omega
  rw [hP] at hv7 HENC
  go_wp2_with fail
  go_loopw [3, 5] (fun ov iv wr => ∃ k : Nat, k ≤ ls.length ∧ iv = .int .i64 k ∧ Own (Rep.int .u8) 5 [] w.heap.size wr ov (P ++ (ls.take k).flatMap lineE) ∧ Blk wr gv 26 #[.int .i64 wn, .int .i64 hn, .slice A ls.length c0, .int .i64 rn, .int .i64 cn, .bool p, .bool au] ∧ Below w.heap.size w wr) (fun _ iv _ => ls.length - (intOf iv).toNat)
  case atStart => exact ⟨0, Nat.zero_le _, rfl, by simpa using hv7, BV7.out, hb7⟩
  case round =>
    clear hv7 hb7 BV7 hP
    obtain ⟨k, hk, rfl, hown, bvr, hbr⟩ := hrel
    have hzr := hbr.size
    have v2 := bvr.cell 2
    simp only [List.getElem?_toArray, List.getElem?_cons_succ, List.getElem?_cons_zero] at v2
    by_cases hlt : k < ls.length
    · obtain ⟨ab, off, vl, rfl, hab, p0, p1, hvl⟩ := line_at HX.out.slb hlt
      have q1 := (hbr.cell (p := ⟨ab, off + k * 2 + 1, none⟩) hab).trans p1
      obtain ⟨h1, h2⟩ := HALL.out ls[k] (List.getElem_mem _)
      have hlk := HLL.out k
      have htl : (ls.take k).length ≤ k := List.length_take_le _ _
      have hbl : (P ++ (ls.take k).flatMap lineE).length ≤ 100000000 := by rw [List.length_append]; omega
      have HSN : Hid (P ++ (ls.take k).flatMap lineE ++ lineE ls[k] = P ++ (ls.take (k + 1)).flatMap lineE) := hide (by rw [take_snoc' ls k hlt, List.flatMap_append]; simp [List.append_assoc])
      obtain ⟨lk, hlke⟩ : ∃ lk, ls[k] = lk := ⟨_, rfl⟩
      rw [hlke] at h1 h2 HSN
      rw [hlke] at hvl
      rw [hlke] at q1
      rw [hlke] at p1
      try rw [hlke] at p0
      obtain ⟨cl, fl⟩ := lk
      simp only at h1 h2 hvl q1 p1 p0
      obtain ⟨Al, cpl, rfl, _, _, _⟩ := hvl.open_
      have hki : (k : Int) < ls.length := by omega
      have HP0 := hide p0
      obtain ⟨F, hF⟩ : ∃ F : Int, (if fl = true then 1 else 0) = F := ⟨_, rfl⟩
      have hwF : (Lit.int .u8 F).wf = true := by rw [← hF]; cases fl <;> decide
      have HLE : Hid (lineE (cl, fl) = [F] ++ runsF cl) := hide (by rw [← hF]; rfl)
      clear p0 p1 hlk htl hlke
      go_upto_if 55 with fail
      go_cut [6] from 43 to 68 (fun s wx => s = .int .u8 F ∧ wr = wx)
      case first =>
        cases fl with
        | true =>
          have HF := hide hF
          clear hF
          go_wp2
          go_meet
          exact ⟨by rw [← HF.out]; rfl, rfl⟩
        | false =>
          have HF := hide hF
          clear hF
          go_wp2
          go_meet
          exact ⟨by rw [← HF.out]; rfl, rfl⟩
      case rest =>
      obtain ⟨rfl, rfl⟩ := hcut
      obtain ⟨bs, hbs⟩ : ∃ bs, P ++ (ls.take k).flatMap lineE = bs := ⟨_, rfl⟩
      rw [hbs] at hown hbl HSN
      have hone := (own_u8 wr [F] (fun x hx => by rw [List.mem_singleton] at hx; subst hx; exact hwF) w.heap.size wr.heap.size 1 hzr rfl rfl (by simp [maxLen])).islc
      have hown2 := hown.alloc (.cells #[.int .u8 F] 5)
      have hb2 := hbr.alloc hzr (.cells #[.int .u8 F] 5)
      have bv2 := bvr.alloc (.cells #[.int .u8 F] 5)
      clear hown hF q1 hbs v2
      go_upto_region 19 with (at_builtin; refine wpList_appu rfl (.tmp 56) (.tmp 58) 29 rfl w.heap.size Tryd.underlying29 u8_info _ _ rfl hown2 _ _ _ _ rfl hone (by simp only [List.length_singleton]; omega) hb2.size ?_; intro v8 w8 hv8 hg8; have hst8 := hg8.step hown2; have hb8 := hide (hb2.trans (hst8.below hb2.size)); have bv8 := hide (bv2.step hst8 (by decide)); clear hst8 hg8 hown2 hone)
      have hb8 := hb8.out
      have bv8 := bv8.out
      have hz8 := hb8.size
      have v2 := bv8.cell 2
      simp only [List.getElem?_toArray, List.getElem?_cons_succ, List.getElem?_cons_zero] at v2
      have q0 := (hb8.cell (p := ⟨ab, off + k * 2, none⟩) hab).trans HP0.out
      have hvl8 := (hvl.mono (Keep.below (S := fun b => b < w.heap.size) (hb8.mono (Nat.le_refl _))) (Keep.below (S := fun b => b < w.heap.size) (hb8.mono (Nat.le_refl _)))).mono (Keep.weaken fun b hb => Nat.lt_of_lt_of_le hb hz8) (Keep.weaken fun b hb => Nat.lt_of_lt_of_le hb hz8)
      have HRU := hide (rRuns_ok (.slice Al cl.length cpl) cl w8 hvl8 h2 h1)
      have hrl := runs_len cl.length cl (Nat.le_refl _) (by omega) h2
      clear hvl hvl8 hb2 bv2
      go_wp2_with fail
      refine HRU.out.mono ?_
      rintro e w9 ⟨v9, rfl, hv9, hc9⟩
      have hown9 := hv8.below hc9
      have hb9 := hb8.trans (hc9.mono hz8)
      have hz9 := hb9.size
      have bv9 := bv8.same hc9
      clear hv8 hc9 HRU v2 q0 hb8 bv8 hz8
      go_wp2_with (at_builtin; refine wpList_appu rfl (.tmp 60) (.tmp 67) 29 rfl w.heap.size Tryd.underlying29 u8_info _ _ rfl hown9 _ _ _ _ rfl hv9.islc (by rw [List.length_append, List.length_singleton]; omega) hz9 ?_; intro v10 w10 hv10 hg10; have hst10 := hg10.step hown9; have hb10 := hide (hb9.trans (hst10.below hz9)); have bv10 := hide (bv9.step hst10 (by decide)); clear hst10 hg10)
      go_roundw
      case rel => exact ⟨k + 1, by omega, by go_num, by rw [← HSN.out, HLE.out, ← List.append_assoc]; exact hv10, bv10.out, hb10.out⟩
      case measure => simp [intOf]; omega
    · obtain rfl : k = ls.length := by omega
      rw [List.take_of_length_le (Nat.le_refl _)] at hown
      go_wp2
      go_ret
      exact ⟨_, rfl, by rw [← HENC.out]; exact hown, hbr⟩
end Go.Proofs.YtphdagmaamcapaaDoor
