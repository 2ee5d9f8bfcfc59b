/-
  Plain functions on rows of bytes: their parts. No program in sight.
-/
import Derived.Test.YtphdagmaamcapaaDoorUtf2
namespace Go.Proofs.YtphdagmaamcapaaDoor
set_option linter.unusedVariables false

structure Got where
  r : Int
  at_ : Int
  len : Int
  known : Int
  bad : Bool

/-- How many bytes of a form stand in front. -/
def reachK : List Int → Nat
  | [] => 0
  | b0 :: r => if leadF b0 < 2 then (leadF b0).toNat else 1 + cntT (leadF b0 - 1).toNat (loF b0) (hiF b0) r

def partF (b : List Int) (pos : Int) : Got :=
  if reachK b = 0 then ⟨65533, pos, 1, pos + 1, true⟩
  else if (reachK b : Int) < leadF (b.getD 0 0) then ⟨65533, pos, reachK b, pos + min ((reachK b : Int) + 1) b.length, true⟩
  else ⟨wholeF (b.take (reachK b)), pos, reachK b, pos + reachK b, false⟩

/-- How long the part in front is. -/
def partLen (b : List Int) : Nat := max (reachK b) 1

def allN : Nat → List Int → Int → List Got
  | 0, _, _ => []
  | n + 1, b, pos => if b = [] then [] else partF b pos :: allN n (b.drop (partLen b)) (pos + partLen b)
def allF (b : List Int) : List Got := allN b.length b 0

theorem cntT_le : ∀ (m : Nat) (lo hi : Int) (r : List Int), cntT m lo hi r ≤ m ∧ cntT m lo hi r ≤ r.length
  | _, _, _, [] => by simp [cntT]
  | 0, _, _, _ :: _ => by simp [cntT]
  | m + 1, lo, hi, b :: r => by
    have := cntT_le m 128 191 r
    simp only [cntT, List.length_cons]
    split <;> omega
theorem okT_take : ∀ (m : Nat) (lo hi : Int) (r : List Int), okT m lo hi (r.take (cntT m lo hi r)) = true
  | _, _, _, [] => by simp [cntT, okT]
  | 0, _, _, _ :: _ => by simp [cntT, okT]
  | m + 1, lo, hi, b :: r => by
    simp only [cntT]
    by_cases h : lo ≤ b ∧ b ≤ hi
    · rw [if_pos h]
      simp only [List.take_succ_cons, okT, okT_take m 128 191 r, h, and_self, decide_true, Bool.and_self]
    · rw [if_neg h]; simp [okT]
theorem reach_le (b0 : Int) (r : List Int) : reachK (b0 :: r) ≤ r.length + 1 ∧ (reachK (b0 :: r) : Int) ≤ leadF b0 ∧ reachK (b0 :: r) ≤ 4 ∧ (reachK (b0 :: r) = 0 ↔ leadF b0 = 0) := by
  have hl := leadF_range b0
  have := cntT_le (leadF b0 - 1).toNat (loF b0) (hiF b0) r
  simp only [reachK]
  split <;> omega
theorem partLen_pos (b : List Int) : 1 ≤ partLen b := by unfold partLen; omega
theorem partLen_le (b0 : Int) (r : List Int) : partLen (b0 :: r) ≤ r.length + 1 ∧ partLen (b0 :: r) ≤ 4 := by have := reach_le b0 r; unfold partLen; omega
theorem part_len (b : List Int) (pos : Int) : (partF b pos).len = partLen b ∧ (partF b pos).at_ = pos := by
  unfold partF partLen
  by_cases h : reachK b = 0
  · rw [if_pos h]; simp [h]
  · rw [if_neg h]; split <;> simp <;> omega
/-- Where a form stands whole in front: its bytes. -/
theorem reach_whole (b0 : Int) (r : List Int) (h : reachK (b0 :: r) ≠ 0) (h2 : ¬ (reachK (b0 :: r) : Int) < leadF b0) :
    ∃ t, (b0 :: r).take (reachK (b0 :: r)) = b0 :: t ∧ (t.length : Int) + 1 = leadF b0 ∧ t.length ≤ 3 ∧ (∀ b ∈ t, 128 ≤ b ∧ b ≤ 191) ∧ okT (leadF b0 - 1).toNat (loF b0) (hiF b0) t = true ∧ reachK (b0 :: r) = t.length + 1 := by
  have hl := leadF_range b0
  have hr := reach_le b0 r
  simp only [reachK] at *
  by_cases h1 : leadF b0 < 2
  · rw [if_pos h1] at *
    have e : leadF b0 = 1 := by omega
    rw [e]
    exact ⟨[], by simp, by simp, by simp, by simp, by simp [okT], by simp⟩
  · rw [if_neg h1] at *
    have hc := cntT_le (leadF b0 - 1).toNat (loF b0) (hiF b0) r
    have ho := okT_take (leadF b0 - 1).toNat (loF b0) (hiF b0) r
    have hlo := lo_hi_tail b0 (by omega)
    have hlen : (r.take (cntT (leadF b0 - 1).toNat (loF b0) (hiF b0) r)).length = cntT (leadF b0 - 1).toNat (loF b0) (hiF b0) r := by rw [List.length_take, Nat.min_eq_left hc.2]
    refine ⟨r.take (cntT (leadF b0 - 1).toNat (loF b0) (hiF b0) r), by rw [Nat.add_comm, List.take_succ_cons], ?_, ?_, okT_tail _ _ _ _ hlo.1 hlo.2 ho, ho, ?_⟩
    · rw [hlen]; omega
    · rw [hlen]; omega
    · rw [hlen]; omega

/-- One byte more stands, or none. -/
theorem cntT_step (m : Nat) (lo hi : Int) (r : List Int) (j : Nat) (hj : j < r.length) (hm : j < m) (lo' hi' : Int) (h0 : lo' = if j = 0 then lo else 128) (h1 : hi' = if j = 0 then hi else 191) (hall : cntT m lo hi r = j + cntT (m - j) lo' hi' (r.drop j)) :
    (lo' ≤ r[j] ∧ r[j] ≤ hi' → cntT m lo hi r = (j + 1) + cntT (m - (j + 1)) 128 191 (r.drop (j + 1))) ∧ (¬ (lo' ≤ r[j] ∧ r[j] ≤ hi') → cntT m lo hi r = j) := by
  have e : r.drop j = r[j] :: r.drop (j + 1) := List.drop_eq_getElem_cons hj
  obtain ⟨q, hq⟩ : ∃ q, m - j = q + 1 := ⟨m - j - 1, by omega⟩
  rw [e, hq, cntT] at hall
  have e2 : m - (j + 1) = q := by omega
  rw [e2]
  constructor
  · intro h; rw [if_pos h] at hall; omega
  · intro h; rw [if_neg h] at hall; omega
end Go.Proofs.YtphdagmaamcapaaDoor
