import Derived.WalkKit
open List renaming getElem?_toArray → zA, getElem?_cons_succ → zB, getElem?_cons_zero → zC, setIfInBounds_toArray → zD, set_cons_zero → zE, set_cons_succ → zF
namespace Go.Proofs.YtdjpdllehhecpaaGreatDoor
def validB (r : Int) : Bool := decide ((0 ≤ r ∧ r < 55296) ∨ (57343 < r ∧ r ≤ 1114111))
def sizeF (r : Int) : Int := if validB r = true then (if r ≤ 127 then 1 else if r ≤ 2047 then 2 else if r ≤ 65535 then 3 else 4) else 0
def formF (r : Int) : List Int :=
  if validB r = true then
    (if r ≤ 127 then [r] else if r ≤ 2047 then [192 + r / 64, 128 + r % 64]
     else if r ≤ 65535 then [224 + r / 4096, 128 + r / 64 % 64, 128 + r % 64]
     else [240 + r / 262144, 128 + r / 4096 % 64, 128 + r / 64 % 64, 128 + r % 64])
  else []
def leadF (b : Int) : Int := if 240 ≤ b ∧ b ≤ 244 then 4 else if 224 ≤ b ∧ b < 240 then 3 else if 194 ≤ b ∧ b < 224 then 2 else if b < 128 then 1 else 0
def loF (b : Int) : Int := if leadF b < 2 then 0 else if b = 224 then 160 else if b = 240 then 144 else 128
def hiF (b : Int) : Int := if leadF b < 2 then 0 else if b = 244 then 143 else if b = 237 then 159 else 191
def tailB (b : Int) : Bool := decide (128 ≤ b ∧ b ≤ 191)
def bitsF (b : Int) : Int := if leadF b = 0 then 0 else if leadF b = 1 then b else if leadF b = 2 then b % 32 else if leadF b = 3 then b % 16 else b % 8
theorem leadF_range (b : Int) : 0 ≤ leadF b ∧ leadF b ≤ 4 := by unfold leadF; omega
theorem sizeF_range (r : Int) : 0 ≤ sizeF r ∧ sizeF r ≤ 4 := by unfold sizeF; (repeat' split) <;> omega
theorem lo_range (b : Int) : 0 ≤ loF b ∧ loF b ≤ 160 := by unfold loF; omega
theorem hi_range (b : Int) : 0 ≤ hiF b ∧ hiF b ≤ 191 := by unfold hiF; omega
theorem validB_iff (r : Int) : validB r = true ↔ ((0 ≤ r ∧ r < 55296) ∨ (57343 < r ∧ r ≤ 1114111)) := by unfold validB; simp
theorem formF_bytes (r : Int) : ∀ n ∈ formF r, 0 ≤ n ∧ n ≤ 255 := by
  unfold formF
  intro n hn
  by_cases hv : validB r = true
  · have h := (validB_iff r).1 hv
    rw [if_pos hv] at hn
    (repeat' split at hn) <;> simp at hn <;> omega
  · rw [if_neg hv] at hn; simp at hn
theorem formF_length (r : Int) : ((formF r).length : Int) = sizeF r := by
  unfold formF sizeF
  (repeat' split) <;> simp
theorem form_cases (r : Int) (hv : validB r = true) :
    (formF r = [r] ∧ 0 ≤ r ∧ r ≤ 127) ∨
    (∃ b0 b1, formF r = [b0, b1] ∧ 194 ≤ b0 ∧ b0 ≤ 223 ∧ 128 ≤ b1 ∧ b1 ≤ 191 ∧ r = (b0 - 192) * 64 + b1 - 128) ∨
    (∃ b0 b1 b2, formF r = [b0, b1, b2] ∧ 224 ≤ b0 ∧ b0 ≤ 239 ∧ 128 ≤ b1 ∧ b1 ≤ 191 ∧ 128 ≤ b2 ∧ b2 ≤ 191 ∧ (b0 = 224 → 160 ≤ b1) ∧ (b0 = 237 → b1 ≤ 159) ∧ r = ((b0 - 224) * 64 + b1 - 128) * 64 + b2 - 128) ∨
    (∃ b0 b1 b2 b3, formF r = [b0, b1, b2, b3] ∧ 240 ≤ b0 ∧ b0 ≤ 244 ∧ 128 ≤ b1 ∧ b1 ≤ 191 ∧ 128 ≤ b2 ∧ b2 ≤ 191 ∧ 128 ≤ b3 ∧ b3 ≤ 191 ∧ (b0 = 240 → 144 ≤ b1) ∧ (b0 = 244 → b1 ≤ 143) ∧
      r = (((b0 - 240) * 64 + b1 - 128) * 64 + b2 - 128) * 64 + b3 - 128) := by
  have h := (validB_iff r).1 hv
  unfold formF
  rw [if_pos hv]
  by_cases h1 : r ≤ 127
  · rw [if_pos h1]; exact .inl ⟨rfl, by omega, h1⟩
  · rw [if_neg h1]
    by_cases h2 : r ≤ 2047
    · rw [if_pos h2]; exact .inr (.inl ⟨_, _, rfl, by omega, by omega, by omega, by omega, by omega⟩)
    · rw [if_neg h2]
      by_cases h3 : r ≤ 65535
      · rw [if_pos h3]; exact .inr (.inr (.inl ⟨_, _, _, rfl, by omega, by omega, by omega, by omega, by omega, by omega, by omega, by omega, by omega⟩))
      · rw [if_neg h3]; exact .inr (.inr (.inr ⟨_, _, _, _, rfl, by omega, by omega, by omega, by omega, by omega, by omega, by omega, by omega, by omega, by omega, by omega⟩))
def accF (f : List Int) : Nat → Int
  | 0 => bitsF (f.getD 0 0)
  | k + 1 => accF f k * 64 + f.getD (k + 1) 0 - 128
theorem lead2 {b : Int} (h : 194 ≤ b ∧ b ≤ 223) : leadF b = 2 := by unfold leadF; omega
theorem lead3 {b : Int} (h : 224 ≤ b ∧ b ≤ 239) : leadF b = 3 := by unfold leadF; omega
theorem lead4 {b : Int} (h : 240 ≤ b ∧ b ≤ 244) : leadF b = 4 := by unfold leadF; omega
theorem lead1 {b : Int} (h : b ≤ 127) : leadF b = 1 := by unfold leadF; omega
theorem lead_inv (b : Int) : (leadF b = 1 → b ≤ 127) ∧ (leadF b = 2 → 194 ≤ b ∧ b ≤ 223) ∧ (leadF b = 3 → 224 ≤ b ∧ b ≤ 239) ∧ (leadF b = 4 → 240 ≤ b ∧ b ≤ 244) := by unfold leadF; omega
theorem form_facts (r : Int) (hv : validB r = true) :
    ∃ b0 rest, formF r = b0 :: rest ∧ 0 ≤ b0 ∧ b0 ≤ 255 ∧ leadF b0 = (formF r).length ∧ (formF r).length ≤ 4 ∧
      (∀ k, 1 ≤ k → k < (formF r).length → tailB ((formF r).getD k 0) = true) ∧
      (1 < (formF r).length → loF b0 ≤ (formF r).getD 1 0 ∧ (formF r).getD 1 0 ≤ hiF b0) ∧
      accF (formF r) ((formF r).length - 1) = r ∧ (∀ k, k < (formF r).length → 0 ≤ accF (formF r) k ∧ accF (formF r) k ≤ 2097151) := by
  have ht : ∀ b, tailB b = true ↔ (128 ≤ b ∧ b ≤ 191) := by intro b; unfold tailB; simp
  rcases form_cases r hv with ⟨hf, h⟩ | ⟨b0, b1, hf, h⟩ | ⟨b0, b1, b2, hf, h⟩ | ⟨b0, b1, b2, b3, hf, h⟩ <;> rw [hf]
  · have hl := lead1 (b := r) (by omega)
    refine ⟨r, [], rfl, by omega, by omega, by simp [hl], by simp, ?_, by simp, by simp [accF, bitsF, hl], ?_⟩
    · intro k h1 h2; simp at h2; omega
    · intro k hk; simp at hk; subst hk; simp [accF, bitsF, hl]; omega
  · have hl := lead2 (b := b0) (by omega)
    refine ⟨b0, [b1], rfl, by omega, by omega, by simp [hl], by simp, ?_, ?_, ?_, ?_⟩
    · intro k h1 h2; simp at h2
      obtain rfl : k = 1 := by omega
      simp [ht]; omega
    · intro _; simp [loF, hiF, hl]; omega
    · simp [accF, bitsF, hl]; omega
    · intro k hk; simp at hk
      have hk : k = 0 ∨ k = 1 := by omega
      rcases hk with rfl | rfl <;> simp [accF, bitsF, hl] <;> omega
  · have hl := lead3 (b := b0) (by omega)
    refine ⟨b0, [b1, b2], rfl, by omega, by omega, by simp [hl], by simp, ?_, ?_, ?_, ?_⟩
    · intro k h1 h2; simp at h2
      have hk : k = 1 ∨ k = 2 := by omega
      rcases hk with rfl | rfl <;> simp [ht] <;> omega
    · intro _; simp [loF, hiF, hl]; omega
    · simp [accF, bitsF, hl]; omega
    · intro k hk; simp at hk
      have hk : k = 0 ∨ k = 1 ∨ k = 2 := by omega
      rcases hk with rfl | rfl | rfl <;> simp [accF, bitsF, hl] <;> omega
  · have hl := lead4 (b := b0) (by omega)
    refine ⟨b0, [b1, b2, b3], rfl, by omega, by omega, by simp [hl], by simp, ?_, ?_, ?_, ?_⟩
    · intro k h1 h2; simp at h2
      have hk : k = 1 ∨ k = 2 ∨ k = 3 := by omega
      rcases hk with rfl | rfl | rfl <;> simp [ht] <;> omega
    · intro _; simp [loF, hiF, hl]; omega
    · simp [accF, bitsF, hl]; omega
    · intro k hk; simp at hk
      have hk : k = 0 ∨ k = 1 ∨ k = 2 ∨ k = 3 := by omega
      rcases hk with rfl | rfl | rfl | rfl <;> simp [accF, bitsF, hl] <;> omega
theorem form_of_three (a b c : Int) (h : leadF a = 3) (hb : loF a ≤ b ∧ b ≤ hiF a) (hc : 128 ≤ c ∧ c ≤ 191) : formF ((bitsF a * 64 + b - 128) * 64 + c - 128) = [a, b, c] := by
  have ha := (lead_inv a).2.2.1 h
  have hbits : bitsF a = a - 224 := by simp [bitsF, h]; omega
  have hlo : loF a = if a = 224 then 160 else 128 := by simp [loF, h]; omega
  have hhi : hiF a = if a = 237 then 159 else 191 := by simp [hiF, h]; omega
  rw [hlo, hhi] at hb
  rw [hbits]
  have hr : ((a - 224) * 64 + b - 128) * 64 + c - 128 = (a - 224) * 4096 + (b - 128) * 64 + (c - 128) := by omega
  rw [hr]
  have hv : validB ((a - 224) * 4096 + (b - 128) * 64 + (c - 128)) = true := by rw [validB_iff]; omega
  unfold formF
  rw [if_pos hv, if_neg (by omega), if_neg (by omega), if_pos (by omega)]
  simp only [List.cons.injEq, and_true]
  refine ⟨?_, ?_, ?_⟩ <;> omega
end Go.Proofs.YtdjpdllehhecpaaGreatDoor
namespace Go.Proofs.YtdjpdllehhecpaaGreatDoor
set_option linter.unusedVariables false
def Bytes (l : List Int) : Prop := ∀ n ∈ l, 0 ≤ n ∧ n ≤ 255
def okT : Nat → Int → Int → List Int → Bool
  | _, _, _, [] => true
  | 0, _, _, _ :: _ => false
  | m + 1, lo, hi, b :: r => decide (lo ≤ b ∧ b ≤ hi) && okT m 128 191 r
def cntT : Nat → Int → Int → List Int → Nat
  | _, _, _, [] => 0
  | 0, _, _, _ :: _ => 0
  | m + 1, lo, hi, b :: r => if lo ≤ b ∧ b ≤ hi then cntT m 128 191 r + 1 else 0
def beginsF : List Int → Int
  | [] => 0
  | b0 :: r => if leadF b0 = 0 then 0 else if okT (leadF b0 - 1).toNat (loF b0) (hiF b0) r = true then leadF b0 else 0
def wholeF (f : List Int) : Int := accF f (f.length - 1)
def step0F (b : Int) : List Int × List Int := if leadF b = 0 then ([65533], []) else if leadF b = 1 then ([b], []) else ([], [b])
def refStepF (h : List Int) (b : Int) : List Int × List Int :=
  if 0 < beginsF (h ++ [b]) ∧ (h.length : Int) + 1 < beginsF (h ++ [b]) then ([], h ++ [b])
  else if 0 < beginsF (h ++ [b]) then ([wholeF (h ++ [b])], [])
  else if h = [] then ([65533], [])
  else (65533 :: (step0F b).1, (step0F b).2)
def feedF : List Int → List Int → List Int × List Int
  | h, [] => ([], h)
  | h, b :: p => ((refStepF h b).1 ++ (feedF (refStepF h b).2 p).1, (feedF (refStepF h b).2 p).2)
def Pre (h : List Int) : Prop := h = [] ∨ (h.length : Int) < beginsF h
theorem okT_snoc : ∀ (m : Nat) (lo hi : Int) (r : List Int) (b : Int),
    okT m lo hi (r ++ [b]) = (okT m lo hi r && (decide (r.length < m) && (if r = [] then decide (lo ≤ b ∧ b ≤ hi) else decide (128 ≤ b ∧ b ≤ 191))))
  | 0, lo, hi, [], b => by simp [okT]
  | 0, lo, hi, x :: r, b => by simp [okT]
  | m + 1, lo, hi, [], b => by simp [okT]
  | m + 1, lo, hi, x :: r, b => by
    have ih := okT_snoc m 128 191 r b
    simp only [List.cons_append, okT, ih]
    cases r <;> simp [Bool.and_assoc]
theorem begins_pos (h : List Int) : 0 ≤ beginsF h ∧ beginsF h ≤ 4 := by
  cases h with
  | nil => simp [beginsF]
  | cons b r => have := leadF_range b; simp only [beginsF]; (repeat' split) <;> omega
theorem begins_single (b : Int) : beginsF [b] = leadF b := by
  simp only [beginsF, okT]
  by_cases h : leadF b = 0 <;> simp [h]
theorem begins_snoc (b0 : Int) (r : List Int) (b : Int) (h : ((b0 :: r).length : Int) < beginsF (b0 :: r)) :
    beginsF (b0 :: r) = leadF b0 ∧ beginsF (b0 :: r ++ [b]) = if (if r = [] then (loF b0 ≤ b ∧ b ≤ hiF b0) else (128 ≤ b ∧ b ≤ 191)) then leadF b0 else 0 := by
  have hr := leadF_range b0
  have h2 := h
  simp only [beginsF] at h2
  by_cases h0 : leadF b0 = 0
  · rw [if_pos h0] at h2; simp at h2; omega
  · rw [if_neg h0] at h2
    by_cases hk : okT (leadF b0 - 1).toNat (loF b0) (hiF b0) r = true
    · rw [if_pos hk] at h2
      refine ⟨by simp only [beginsF, if_neg h0, if_pos hk], ?_⟩
      simp only [List.cons_append, beginsF, if_neg h0]
      rw [okT_snoc, hk]
      have hl : r.length < (leadF b0 - 1).toNat := by simp at h2; omega
      simp only [hl, decide_true, Bool.true_and]
      by_cases hn : r = [] <;> simp [hn]
    · rw [if_neg hk] at h2; simp at h2; omega
theorem step_nil (b : Int) (hb : 0 ≤ b) : refStepF [] b = step0F b := by
  unfold refStepF step0F
  have hr := leadF_range b
  simp only [List.nil_append, begins_single, List.length_nil]
  by_cases h0 : leadF b = 0
  · simp [h0]
  · by_cases h1 : leadF b = 1
    · simp [h1, wholeF, accF, bitsF]
    · rw [if_pos (by simp; omega), if_neg h0, if_neg h1]
structure Dec where
  held : Int
  needs : Int
  lo : Int
  hi : Int
  bits : Int
def decOf : List Int → Dec
  | [] => ⟨0, 0, 0, 0, 0⟩
  | b0 :: r => ⟨(r.length : Int) + 1, leadF b0 - ((r.length : Int) + 1), if r = [] then loF b0 else 128, if r = [] then hiF b0 else 191, wholeF (b0 :: r)⟩
def beginF (d : Dec) (b : Int) : List Int × Dec :=
  if leadF b = 0 then ([65533], d) else if leadF b = 1 then ([b], d) else ([], ⟨1, leadF b - 1, loF b, hiF b, bitsF b⟩)
def decStepF (d : Dec) (b : Int) : List Int × Dec :=
  if d.held = 0 then beginF d b
  else if b < d.lo ∨ d.hi < b then (65533 :: (beginF ⟨0, 0, 0, 0, 0⟩ b).1, (beginF ⟨0, 0, 0, 0, 0⟩ b).2)
  else if 0 < d.needs - 1 then ([], ⟨d.held + 1, d.needs - 1, 128, 191, d.bits * 64 + b % 64⟩)
  else ([d.bits * 64 + b % 64], ⟨0, 0, 0, 0, 0⟩)
theorem accF_snoc (f : List Int) (b : Int) : ∀ k, k < f.length → accF (f ++ [b]) k = accF f k
  | 0, h => by
    have : (f ++ [b]).getD 0 0 = f.getD 0 0 := by rw [List.getD, List.getD, List.getElem?_append_left h]
    simp only [accF, this]
  | k + 1, h => by
    have : (f ++ [b]).getD (k + 1) 0 = f.getD (k + 1) 0 := by rw [List.getD, List.getD, List.getElem?_append_left h]
    simp only [accF, this, accF_snoc f b k (by omega)]
theorem whole_snoc (f : List Int) (b : Int) (hf : f ≠ []) : wholeF (f ++ [b]) = wholeF f * 64 + b - 128 := by
  unfold wholeF
  have hl : 0 < f.length := List.length_pos_iff.2 hf
  have e : (f ++ [b]).length - 1 = (f.length - 1) + 1 := by simp; omega
  rw [e]
  have h2 : f.length - 1 + 1 = f.length := by omega
  have : (f ++ [b]).getD (f.length - 1 + 1) 0 = b := by rw [h2]; simp [List.getD]
  simp only [accF, this]
  rw [accF_snoc f b (f.length - 1) (by omega)]
theorem okT_bounds : ∀ (m : Nat) (lo hi : Int) (r : List Int), okT m lo hi r = true → r.length ≤ m
  | _, _, _, [], _ => by simp
  | 0, _, _, _ :: _, h => by simp [okT] at h
  | m + 1, lo, hi, b :: r, h => by
    simp only [okT, Bool.and_eq_true] at h
    have := okT_bounds m 128 191 r h.2
    simp; omega
theorem bitsF_range (b : Int) (hb : 0 ≤ b ∧ b ≤ 255) : 0 ≤ bitsF b ∧ bitsF b ≤ 127 := by
  have h := leadF_range b
  have hi := lead_inv b
  unfold bitsF
  (repeat' split) <;> omega
theorem okT_tail : ∀ (m : Nat) (lo hi : Int) (r : List Int), 128 ≤ lo → hi ≤ 191 → okT m lo hi r = true → ∀ b ∈ r, 128 ≤ b ∧ b ≤ 191
  | _, _, _, [], _, _, _, b, hb => by cases hb
  | 0, _, _, _ :: _, _, _, h, _, _ => by simp [okT] at h
  | m + 1, lo, hi, x :: r, h0, h1, h, b, hb => by
    simp only [okT, Bool.and_eq_true, decide_eq_true_eq] at h
    rcases List.mem_cons.1 hb with rfl | hb
    · omega
    · exact okT_tail m 128 191 r (by omega) (by omega) h.2 b hb
theorem lo_hi_tail (b : Int) (h : 2 ≤ leadF b) : 128 ≤ loF b ∧ hiF b ≤ 191 := by unfold loF hiF; omega
theorem acc_bound : ∀ (r : List Int) (v : Int) (M : Nat), 0 ≤ v → v ≤ M → (∀ b ∈ r, 128 ≤ b ∧ b ≤ 191) → 0 ≤ r.foldl (fun n b => n * 64 + b - 128) v ∧ r.foldl (fun n b => n * 64 + b - 128) v ≤ ((M + 1) * 64 ^ r.length : Nat)
  | [], v, M, h0, h1, _ => by simp; omega
  | b :: r, v, M, h0, h1, h => by
    have hb := h b (by simp)
    have ih := acc_bound r (v * 64 + b - 128) (M * 64 + 63) (by omega) (by omega) (fun x hx => h x (by simp [hx]))
    refine ⟨ih.1, ?_⟩
    have e : (M * 64 + 63 + 1) * 64 ^ r.length = (M + 1) * 64 ^ (r.length + 1) := by
      have : M * 64 + 63 + 1 = (M + 1) * 64 := by omega
      rw [this, Nat.pow_succ, Nat.mul_assoc, Nat.mul_comm 64]
    simp only [List.foldl_cons, List.length_cons]
    rw [e] at ih
    exact ih.2
theorem whole_fold : ∀ (r : List Int) (b0 : Int), wholeF (b0 :: r) = r.foldl (fun n b => n * 64 + b - 128) (bitsF b0) := by
  intro r b0
  have key : ∀ (r : List Int) (f : List Int), f ≠ [] → wholeF (f ++ r) = r.foldl (fun n b => n * 64 + b - 128) (wholeF f) := by
    intro r
    induction r with
    | nil => intro f _; simp
    | cons b r ih =>
      intro f hf
      have : f ++ b :: r = (f ++ [b]) ++ r := by simp
      rw [this, ih (f ++ [b]) (by simp), whole_snoc f b hf]
      rfl
  have := key r [b0] (by simp)
  simpa [wholeF, accF] using this
theorem pre_facts (b0 : Int) (r : List Int) (h : Pre (b0 :: r)) (hb : 0 ≤ b0 ∧ b0 ≤ 255) :
    beginsF (b0 :: r) = leadF b0 ∧ 2 ≤ leadF b0 ∧ (r.length : Int) + 1 < leadF b0 ∧ (∀ b ∈ r, 128 ≤ b ∧ b ≤ 191) ∧ 0 ≤ wholeF (b0 :: r) ∧ wholeF (b0 :: r) ≤ 524288 := by
  rcases h with h | h
  · cases h
  · have h1 := (begins_snoc b0 r 0 h).1
    have hlr := leadF_range b0
    rw [h1] at h
    simp only [List.length_cons] at h
    have hl : (r.length : Int) + 1 < leadF b0 := by omega
    have hk : okT (leadF b0 - 1).toNat (loF b0) (hiF b0) r = true := by
      simp only [beginsF] at h1
      rw [if_neg (by omega)] at h1
      by_cases hk : okT (leadF b0 - 1).toNat (loF b0) (hiF b0) r = true
      · exact hk
      · rw [if_neg hk] at h1; omega
    have hlo := lo_hi_tail b0 (by omega)
    have ht := okT_tail _ _ _ r hlo.1 hlo.2 hk
    refine ⟨h1, by omega, hl, ht, ?_⟩
    have hbits := bitsF_range b0 hb
    have := acc_bound r (bitsF b0) 127 (by omega) (by omega) ht
    rw [whole_fold]
    have hr2 : r.length = 0 ∨ r.length = 1 ∨ r.length = 2 := by omega
    rcases hr2 with e | e | e <;> rw [e] at this <;> simp at this <;> omega
theorem dec_step (h : List Int) (b : Int) (hp : Pre h) (hh : Bytes h) (hb : 0 ≤ b ∧ b ≤ 255) :
    decStepF (decOf h) b = ((refStepF h b).1, decOf (refStepF h b).2) ∧ Pre (refStepF h b).2 ∧ Bytes (refStepF h b).2 := by
  have h0 : beginF ⟨0, 0, 0, 0, 0⟩ b = ((step0F b).1, decOf (step0F b).2) ∧ Pre (step0F b).2 ∧ Bytes (step0F b).2 := by
    unfold beginF step0F
    have hr := leadF_range b
    by_cases e0 : leadF b = 0
    · simp [e0, decOf, Pre, Bytes]
    · by_cases e1 : leadF b = 1
      · simp [e1, decOf, Pre, Bytes]
      · simp only [if_neg e0, if_neg e1]
        refine ⟨by simp [decOf, wholeF, accF], .inr ?_, ?_⟩
        · rw [begins_single]; simp; omega
        · intro n hn; simp at hn; subst hn; exact hb
  cases h with
  | nil =>
    rw [step_nil b hb.1]
    refine ⟨?_, h0.2⟩
    show decStepF (decOf []) b = _
    unfold decStepF
    rw [if_pos (by rfl)]
    exact h0.1
  | cons b0 r =>
    have hb0 := hh b0 (by simp)
    obtain ⟨p1, p2, p3, p4, p5, p6⟩ := pre_facts b0 r hp hb0
    have hlt : ((b0 :: r).length : Int) < beginsF (b0 :: r) := by rw [p1]; simp; omega
    obtain ⟨_, hs⟩ := begins_snoc b0 r b hlt
    have hlo := lo_hi_tail b0 p2
    unfold decStepF
    have hd : (decOf (b0 :: r)).held ≠ 0 := by simp [decOf]; omega
    rw [if_neg hd]
    by_cases hin : (if r = [] then (loF b0 ≤ b ∧ b ≤ hiF b0) else (128 ≤ b ∧ b ≤ 191))
    · rw [if_pos hin] at hs
      have hout : ¬ (b < (decOf (b0 :: r)).lo ∨ (decOf (b0 :: r)).hi < b) := by
        simp only [decOf]
        by_cases hn : r = []
        · simp only [if_pos hn] at hin ⊢; omega
        · simp only [if_neg hn] at hin ⊢; omega
      have ht : 128 ≤ b ∧ b ≤ 191 := by
        by_cases hn : r = []
        · simp only [if_pos hn] at hin; omega
        · simpa [if_neg hn] using hin
      rw [if_neg hout]
      have hw : wholeF (b0 :: r ++ [b]) = wholeF (b0 :: r) * 64 + b - 128 := whole_snoc _ _ (by simp)
      have hmod : wholeF (b0 :: r) * 64 + b % 64 = wholeF (b0 :: r) * 64 + b - 128 := by omega
      unfold refStepF
      rw [hs]
      have hds : (decOf (b0 :: r)).needs = leadF b0 - ((r.length : Int) + 1) := rfl
      have hdb : (decOf (b0 :: r)).bits = wholeF (b0 :: r) := rfl
      have hdh : (decOf (b0 :: r)).held = (r.length : Int) + 1 := rfl
      rw [hds, hdb, hdh, hmod, ← hw]
      by_cases hmore : 0 < leadF b0 - ((r.length : Int) + 1) - 1
      · rw [if_pos hmore, if_pos ⟨by omega, by simp; omega⟩]
        refine ⟨?_, .inr ?_, ?_⟩
        · simp only [List.cons_append, decOf, List.length_append, List.length_cons, List.length_nil]
          rw [if_neg (by simp), if_neg (by simp)]
          simp only [Prod.mk.injEq, true_and, Dec.mk.injEq]
          refine ⟨?_, ?_, trivial⟩
          · omega
          · omega
        · rw [hs]; simp; omega
        · intro n hn
          rcases List.mem_append.1 hn with hn | hn
          · exact hh n hn
          · simp at hn; subst hn; exact hb
      · rw [if_neg hmore, if_neg (by simp; omega), if_pos (by omega)]
        exact ⟨rfl, .inl rfl, by simp [Bytes]⟩
    · rw [if_neg hin] at hs
      have hout : b < (decOf (b0 :: r)).lo ∨ (decOf (b0 :: r)).hi < b := by
        simp only [decOf]
        by_cases hn : r = []
        · simp only [if_pos hn] at hin ⊢; omega
        · simp only [if_neg hn] at hin ⊢; omega
      rw [if_pos hout]
      unfold refStepF
      rw [hs]
      simp only [Int.lt_irrefl, false_and, if_false]
      rw [if_neg (by simp)]
      exact ⟨by rw [h0.1], h0.2⟩
theorem feedF_snoc : ∀ (p h : List Int) (b : Int), feedF h (p ++ [b]) = ((feedF h p).1 ++ (refStepF (feedF h p).2 b).1, (refStepF (feedF h p).2 b).2)
  | [], h, b => by simp [feedF]
  | x :: p, h, b => by simp [feedF, feedF_snoc p]
theorem feedF_append : ∀ (p q h : List Int), feedF h (p ++ q) = ((feedF h p).1 ++ (feedF (feedF h p).2 q).1, (feedF (feedF h p).2 q).2)
  | [], q, h => by simp [feedF]
  | x :: p, q, h => by simp [feedF, feedF_append p]
theorem step0_len (b : Int) : (step0F b).1.length ≤ 1 := by unfold step0F; (repeat' split) <;> simp
theorem refStep_len (h : List Int) (b : Int) : (refStepF h b).1.length ≤ 2 := by
  have := step0_len b
  unfold refStepF
  (repeat' split) <;> simp <;> omega
theorem feed_len : ∀ (p h : List Int), (feedF h p).1.length ≤ 2 * p.length
  | [], h => by simp [feedF]
  | b :: p, h => by
    have h1 := refStep_len h b
    have h2 := feed_len p (refStepF h b).2
    simp only [feedF, List.length_append, List.length_cons]
    omega
theorem feed_pre : ∀ (p h : List Int), Pre h → Bytes h → Bytes p → Pre (feedF h p).2 ∧ Bytes (feedF h p).2
  | [], h, hp, hb, _ => ⟨hp, hb⟩
  | b :: p, h, hp, hb, hbp => by
    have := dec_step h b hp hb (hbp b (by simp))
    exact feed_pre p _ this.2.1 this.2.2 (fun n hn => hbp n (by simp [hn]))
theorem pre_nil : Pre [] := .inl rfl
theorem bytes_nil : Bytes [] := by simp [Bytes]
theorem take_snoc' {α : Type} (l : List α) (k : Nat) (h : k < l.length) : l.take (k + 1) = l.take k ++ [l[k]] := by
  rw [List.take_succ_eq_append_getElem h]
def ivF (v : Int) (r : List Int) : Nat → Int × Int
  | 0 => (v, v)
  | k + 1 => if k < r.length then ((ivF v r k).1 * 64 + (r.getD k 0 - 128), (ivF v r k).2 * 64 + 63 - 63 + (r.getD k 0 - 128)) else ((ivF v r k).1 * 64, (ivF v r k).2 * 64 + 63)
theorem ivF_bound (v : Int) (r : List Int) (h0 : 0 ≤ v) (h1 : v ≤ 127) : ∀ k, (∀ j, j < k → j < r.length → 128 ≤ r.getD j 0 ∧ r.getD j 0 ≤ 191) →
    0 ≤ (ivF v r k).1 ∧ (ivF v r k).1 ≤ 127 * 64 ^ k + (64 ^ k - 1) ∧ 0 ≤ (ivF v r k).2 ∧ (ivF v r k).2 ≤ 127 * 64 ^ k + (64 ^ k - 1)
  | 0, _ => by simp [ivF]; omega
  | k + 1, ht => by
    have ih := ivF_bound v r h0 h1 k (fun j hj => ht j (by omega))
    have e : (64 : Int) ^ (k + 1) = 64 ^ k * 64 := Int.pow_succ 64 k
    rw [e]
    generalize (64 : Int) ^ k = q at *
    simp only [ivF]
    by_cases hk : k < r.length
    · have := ht k (by omega) hk
      simp only [if_pos hk]; omega
    · simp only [if_neg hk]; omega
theorem ivF_small (v : Int) (r : List Int) (h0 : 0 ≤ v) (h1 : v ≤ 127) (k : Nat) (hk : k ≤ 3) (ht : ∀ j, j < k → j < r.length → 128 ≤ r.getD j 0 ∧ r.getD j 0 ≤ 191) :
    0 ≤ (ivF v r k).1 ∧ (ivF v r k).1 ≤ 33554431 ∧ 0 ≤ (ivF v r k).2 ∧ (ivF v r k).2 ≤ 33554431 := by
  have := ivF_bound v r h0 h1 k ht
  have hc : k = 0 ∨ k = 1 ∨ k = 2 ∨ k = 3 := by omega
  rcases hc with rfl | rfl | rfl | rfl <;> simp at this <;> omega
theorem ivF_in (v : Int) (r : List Int) (k : Nat) (hk : k < r.length) : (ivF v r (k + 1)).1 = (ivF v r k).1 * 64 + (r.getD k 0 - 128) ∧ (ivF v r (k + 1)).2 = (ivF v r k).2 * 64 + (r.getD k 0 - 128) := by
  refine ⟨?_, ?_⟩
  · rw [ivF, if_pos hk]
  · rw [ivF, if_pos hk]; show _ * 64 + 63 - 63 + _ = _; omega
theorem ivF_past (v : Int) (r : List Int) (k : Nat) (hk : ¬ k < r.length) : (ivF v r (k + 1)).1 = (ivF v r k).1 * 64 ∧ (ivF v r (k + 1)).2 = (ivF v r k).2 * 64 + 63 := by
  refine ⟨?_, ?_⟩ <;> rw [ivF, if_neg hk]
def markF (n : Nat) : Int := if n = 2 then 192 else if n = 3 then 224 else if n = 4 then 240 else 0
def sizesF (n : Nat) : Int := if n = 1 then 128 else if n = 2 then 32 else if n = 3 then 16 else 8
def fromF (n : Nat) : Int := if n = 2 then 128 else if n = 3 then 2048 else if n = 4 then 65536 else 0
def toF (n : Nat) : Int := if n = 1 then 127 else if n = 2 then 2047 else if n = 3 then 65535 else 1114111
def someB (b0 : Int) (r : List Int) (n : Nat) : Bool := decide (leadF b0 = n) && okT (n - 1) (loF b0) (hiF b0) r
theorem okT_all {m : Nat} {lo hi : Int} {r : List Int} (h0 : 128 ≤ lo) (h1 : hi ≤ 191) (h : okT m lo hi r = true) : ∀ j, j < r.length → 128 ≤ r.getD j 0 ∧ r.getD j 0 ≤ 191 := by
  intro j hj
  have : r.getD j 0 ∈ r := by simp [List.getD, List.getElem?_eq_getElem hj]
  exact okT_tail m lo hi r h0 h1 h _ this
theorem lead_of_mark (b0 : Int) (n : Nat) (h1 : 1 ≤ n) (h4 : n ≤ 4) (hl : leadF b0 = n) (h0 : 0 ≤ b0) : 0 ≤ b0 - markF n ∧ b0 - markF n < sizesF n := by
  have := lead_inv b0
  have hn : n = 1 ∨ n = 2 ∨ n = 3 ∨ n = 4 := by omega
  rcases hn with rfl | rfl | rfl | rfl <;> simp [markF, sizesF] at * <;> omega
theorem some_out (b0 : Int) (r : List Int) (n : Nat) (h1 : 1 ≤ n) (h4 : n ≤ 4) (h0 : 0 ≤ b0) (h : b0 - markF n < 0 ∨ sizesF n ≤ b0 - markF n) : someB b0 r n = false := by
  unfold someB
  by_cases hl : leadF b0 = n
  · have := lead_of_mark b0 n h1 h4 hl h0; omega
  · simp [hl]
theorem some_tail (b0 : Int) (r : List Int) (n k : Nat) (h2 : 2 ≤ n) (hk : k < r.length) (h : r.getD k 0 < 128 ∨ 191 < r.getD k 0) : someB b0 r n = false := by
  unfold someB
  by_cases hl : leadF b0 = n
  · have hlo := lo_hi_tail b0 (by omega)
    cases ho : okT (n - 1) (loF b0) (hiF b0) r with
    | false => simp
    | true => have := okT_all hlo.1 hlo.2 ho k hk; omega
  · simp [hl]
theorem some_in (b0 : Int) (r : List Int) (n : Nat) (h1 : 1 ≤ n) (h4 : n ≤ 4) (hr : r.length ≤ n - 1) (hv0 : 0 ≤ b0 - markF n) (hv1 : b0 - markF n < sizesF n) (ht : ∀ j, j < r.length → 128 ≤ r.getD j 0 ∧ r.getD j 0 ≤ 191) :
    decide (max (ivF (b0 - markF n) r (n - 1)).1 (fromF n) ≤ min (ivF (b0 - markF n) r (n - 1)).2 (toF n) ∧ (max (ivF (b0 - markF n) r (n - 1)).1 (fromF n) < 55296 ∨ 57343 < min (ivF (b0 - markF n) r (n - 1)).2 (toF n))) = someB b0 r n := by
  unfold someB
  rw [Bool.eq_iff_iff]
  simp only [decide_eq_true_eq, Bool.and_eq_true]
  have hn : n = 1 ∨ n = 2 ∨ n = 3 ∨ n = 4 := by omega
  have hlf := lead_inv b0
  have h2 : leadF b0 = 2 ↔ (194 ≤ b0 ∧ b0 ≤ 223) := by unfold leadF; omega
  have h3 : leadF b0 = 3 ↔ (224 ≤ b0 ∧ b0 ≤ 239) := by unfold leadF; omega
  have h4' : leadF b0 = 4 ↔ (240 ≤ b0 ∧ b0 ≤ 244) := by unfold leadF; omega
  have h1' : leadF b0 = 1 ↔ (b0 ≤ 127) := by unfold leadF; omega
  have hlo2 : 194 ≤ b0 → b0 ≤ 223 → loF b0 = 128 ∧ hiF b0 = 191 := by intro a b; have := h2.2 ⟨a, b⟩; unfold loF hiF; omega
  have hlo3 : 224 ≤ b0 → b0 ≤ 239 → (loF b0 = if b0 = 224 then 160 else 128) ∧ (hiF b0 = if b0 = 237 then 159 else 191) := by intro a b; have := h3.2 ⟨a, b⟩; unfold loF hiF; omega
  have hlo4 : 240 ≤ b0 → b0 ≤ 244 → (loF b0 = if b0 = 240 then 144 else 128) ∧ (hiF b0 = if b0 = 244 then 143 else 191) := by intro a b; have := h4'.2 ⟨a, b⟩; unfold loF hiF; omega
  rcases hn with rfl | rfl | rfl | rfl
  · obtain rfl : r = [] := List.eq_nil_of_length_eq_zero (by omega)
    simp [markF, sizesF, fromF, toF, ivF, okT] at *
    omega
  · match r, hr, ht with
    | [], _, _ =>
      simp [markF, sizesF, fromF, toF, ivF, okT] at *
      omega
    | [x], _, ht =>
      have hx := ht 0 (by simp)
      simp [markF, sizesF, fromF, toF, ivF, okT] at *
      omega
    | x :: y :: t, hr, _ => simp at hr
  · match r, hr, ht with
    | [], _, _ =>
      simp [markF, sizesF, fromF, toF, ivF, okT] at *
      omega
    | [x], _, ht =>
      have hx := ht 0 (by simp)
      simp [markF, sizesF, fromF, toF, ivF, okT] at *
      omega
    | [x, y], _, ht =>
      have hx := ht 0 (by simp)
      have hy := ht 1 (by simp)
      simp [markF, sizesF, fromF, toF, ivF, okT] at *
      omega
    | x :: y :: z :: t, hr, _ => simp at hr
  · match r, hr, ht with
    | [], _, _ =>
      simp [markF, sizesF, fromF, toF, ivF, okT] at *
      omega
    | [x], _, ht =>
      have hx := ht 0 (by simp)
      simp [markF, sizesF, fromF, toF, ivF, okT] at *
      omega
    | [x, y], _, ht =>
      have hx := ht 0 (by simp)
      have hy := ht 1 (by simp)
      simp [markF, sizesF, fromF, toF, ivF, okT] at *
      omega
    | [x, y, z], _, ht =>
      have hx := ht 0 (by simp)
      have hy := ht 1 (by simp)
      have hz := ht 2 (by simp)
      simp [markF, sizesF, fromF, toF, ivF, okT] at *
      omega
    | x :: y :: z :: u :: t, hr, _ => simp at hr
theorem begins_some (b0 : Int) (r : List Int) (h0 : 0 ≤ b0) :
    beginsF (b0 :: r) = if r.length + 1 ≤ 1 ∧ someB b0 r 1 = true then 1 else if r.length + 1 ≤ 2 ∧ someB b0 r 2 = true then 2 else if r.length + 1 ≤ 3 ∧ someB b0 r 3 = true then 3 else if r.length + 1 ≤ 4 ∧ someB b0 r 4 = true then 4 else 0 := by
  have hl := leadF_range b0
  have hc : leadF b0 = 0 ∨ leadF b0 = 1 ∨ leadF b0 = 2 ∨ leadF b0 = 3 ∨ leadF b0 = 4 := by omega
  have hlen : ∀ n, okT n (loF b0) (hiF b0) r = true → r.length ≤ n := fun n h => okT_bounds n _ _ r h
  have l0 := hlen 0
  have l1 := hlen 1
  have l2 := hlen 2
  have l3 := hlen 3
  simp only [beginsF, someB]
  rcases hc with h | h | h | h | h <;> simp [h]
  · by_cases ho : okT 0 (loF b0) (hiF b0) r = true
    · have h' : r = [] := List.eq_nil_of_length_eq_zero (by have := l0 ho; omega)
      simp [h', okT]
    · simp [ho]
  · by_cases ho : okT 1 (loF b0) (hiF b0) r = true
    · have := l1 ho; simp [ho]; omega
    · simp [ho]
  · by_cases ho : okT 2 (loF b0) (hiF b0) r = true
    · have := l2 ho; simp [ho]; omega
    · simp [ho]
  · by_cases ho : okT 3 (loF b0) (hiF b0) r = true
    · have := l3 ho; simp [ho]; omega
    · simp [ho]
theorem accF_bound (b0 : Int) (r : List Int) (hb : 0 ≤ b0 ∧ b0 ≤ 255) (hr : r.length ≤ 3) (hl : leadF b0 = (r.length : Int) + 1) (ht : ∀ b ∈ r, 128 ≤ b ∧ b ≤ 191) : ∀ k, k ≤ r.length → 0 ≤ accF (b0 :: r) k ∧ accF (b0 :: r) k ≤ 2097151 := by
  have hbits : 0 ≤ bitsF b0 ∧ (bitsF b0 + 1) * 64 ^ r.length ≤ 2097152 := by
    have hi := lead_inv b0
    have hc : r.length = 0 ∨ r.length = 1 ∨ r.length = 2 ∨ r.length = 3 := by omega
    unfold bitsF
    rcases hc with e | e | e | e <;> rw [e] at hl <;> simp [hl, e] <;> omega
  have key : ∀ k, k ≤ r.length → 0 ≤ accF (b0 :: r) k ∧ (accF (b0 :: r) k + 1) * 64 ^ (r.length - k) ≤ 2097152 := by
    intro k
    induction k with
    | zero => intro _; simp only [accF, List.getD_cons_zero, Nat.sub_zero]; exact hbits
    | succ k ih =>
      intro hk
      have ih := ih (by omega)
      have hk' : k < r.length := hk
      have hx : (b0 :: r).getD (k + 1) 0 = r[k] := by simp [List.getD, hk']
      have hm := ht r[k] (List.getElem_mem _)
      have e : r.length - k = (r.length - (k + 1)) + 1 := by omega
      rw [e, Int.pow_succ] at ih
      simp only [accF, hx]
      have h64 : (0 : Int) < 64 ^ (r.length - (k + 1)) := Int.pow_pos (by omega)
      generalize (64 : Int) ^ (r.length - (k + 1)) = q at *
      refine ⟨by omega, Int.le_trans ?_ ih.2⟩
      have e2 : (accF (b0 :: r) k + 1) * (q * 64) = ((accF (b0 :: r) k + 1) * 64) * q := by rw [Int.mul_comm q 64, Int.mul_assoc]
      rw [e2]
      exact Int.mul_le_mul_of_nonneg_right (by omega) (by omega)
  intro k hk
  have h1 := key k hk
  have hc : r.length - k = 0 ∨ r.length - k = 1 ∨ r.length - k = 2 ∨ r.length - k = 3 := by omega
  rcases hc with e | e | e | e <;> rw [e] at h1 <;> simp at h1 <;> omega
theorem bitsF_mark (b0 : Int) (n : Nat) (hb : 0 ≤ b0) (h1 : 1 ≤ n) (h4 : n ≤ 4) (hl : leadF b0 = n) : bitsF b0 = b0 - markF n := by
  have hi := lead_inv b0
  have hn : n = 1 ∨ n = 2 ∨ n = 3 ∨ n = 4 := by omega
  unfold bitsF markF
  rcases hn with rfl | rfl | rfl | rfl <;> simp [hl] <;> simp [hl] at hi <;> omega
theorem begins_whole (b0 : Int) (r : List Int) (h0 : 0 < beginsF (b0 :: r)) (h1 : beginsF (b0 :: r) ≤ (r.length : Int) + 1) :
    leadF b0 = (r.length : Int) + 1 ∧ r.length ≤ 3 ∧ (∀ b ∈ r, 128 ≤ b ∧ b ≤ 191) ∧ okT (leadF b0 - 1).toNat (loF b0) (hiF b0) r = true := by
  have hl := leadF_range b0
  simp only [beginsF] at h0 h1
  by_cases e : leadF b0 = 0
  · rw [if_pos e] at h0; omega
  · rw [if_neg e] at h0 h1
    by_cases hk : okT (leadF b0 - 1).toNat (loF b0) (hiF b0) r = true
    · rw [if_pos hk] at h0 h1
      have hb := okT_bounds _ _ _ r hk
      refine ⟨by omega, by omega, ?_, hk⟩
      cases r with
      | nil => intro b hb; cases hb
      | cons x r' =>
        have hlo := lo_hi_tail b0 (by simp at hb; omega)
        exact okT_tail _ _ _ _ hlo.1 hlo.2 hk
    · rw [if_neg hk] at h0; omega
theorem pre_length {h : List Int} (hp : Pre h) (hb : Bytes h) : h.length ≤ 3 := by
  cases h with
  | nil => simp
  | cons b r =>
    obtain ⟨_, _, h3, _⟩ := pre_facts b r hp (hb b (by simp))
    have := leadF_range b
    simp; omega
end Go.Proofs.YtdjpdllehhecpaaGreatDoor
namespace Go.Proofs.YtdjpdllehhecpaaGreatDoor
set_option linter.unusedVariables false
theorem form_begins (r : Int) (hv : validB r = true) : wholeF (formF r) = r ∧ ∀ k, k < (formF r).length → beginsF ((formF r).take (k + 1)) = ((formF r).length : Int) := by
  rcases form_cases r hv with ⟨hf, h⟩ | ⟨b0, b1, hf, h⟩ | ⟨b0, b1, b2, hf, h⟩ | ⟨b0, b1, b2, b3, hf, h⟩ <;> rw [hf]
  · have hl := lead1 (b := r) (by omega)
    refine ⟨by simp [wholeF, accF, bitsF, hl], fun k hk => ?_⟩
    simp at hk; subst hk
    simp [beginsF, hl, okT]
  · have hl := lead2 (b := b0) (by omega)
    refine ⟨by simp [wholeF, accF, bitsF, hl]; omega, fun k hk => ?_⟩
    simp at hk
    have hk : k = 0 ∨ k = 1 := by omega
    rcases hk with rfl | rfl <;> simp [beginsF, hl, okT, loF, hiF] <;> omega
  · have hl := lead3 (b := b0) (by omega)
    refine ⟨by simp [wholeF, accF, bitsF, hl]; omega, fun k hk => ?_⟩
    simp at hk
    have hk : k = 0 ∨ k = 1 ∨ k = 2 := by omega
    rcases hk with rfl | rfl | rfl <;> simp [beginsF, hl, okT, loF, hiF] <;> omega
  · have hl := lead4 (b := b0) (by omega)
    refine ⟨by simp [wholeF, accF, bitsF, hl]; omega, fun k hk => ?_⟩
    simp at hk
    have hk : k = 0 ∨ k = 1 ∨ k = 2 ∨ k = 3 := by omega
    rcases hk with rfl | rfl | rfl | rfl <;> simp [beginsF, hl, okT, loF, hiF] <;> omega
theorem form_step (r : Int) (hv : validB r = true) (k : Nat) (hk : k < (formF r).length) :
    refStepF ((formF r).take k) (formF r)[k] = if k + 1 < (formF r).length then ([], (formF r).take (k + 1)) else ([r], []) := by
  obtain ⟨hw, hb⟩ := form_begins r hv
  have hbk := hb k hk
  unfold refStepF
  rw [← take_snoc' _ k hk, hbk]
  have hlt : ((formF r).take k).length = k := by simp; omega
  rw [hlt]
  by_cases h : k + 1 < (formF r).length
  · rw [if_pos h, if_pos ⟨by omega, by omega⟩]
  · rw [if_neg h, if_neg (by omega), if_pos (by omega)]
    have e : (formF r).take (k + 1) = formF r := List.take_of_length_le (by omega)
    rw [e, hw]
theorem form_feed_pre (r : Int) (hv : validB r = true) : ∀ k, k ≤ (formF r).length → feedF [] ((formF r).take k) = if k < (formF r).length then ([], (formF r).take k) else (([r] : List Int), [])
  | 0, h => by
    have : 0 < (formF r).length := by obtain ⟨b0, rest, hf, _⟩ := form_facts r hv; rw [hf]; simp
    rw [if_pos this]; simp [feedF]
  | k + 1, h => by
    have ih := form_feed_pre r hv k (by omega)
    rw [if_pos (by omega)] at ih
    rw [take_snoc' _ k (by omega), feedF_snoc, ih]
    simp only [List.nil_append]
    rw [form_step r hv k (by omega), ← take_snoc' _ k (by omega)]
theorem form_feed (r : Int) (hv : validB r = true) : feedF [] (formF r) = ([r], []) := by
  have := form_feed_pre r hv (formF r).length (Nat.le_refl _)
  rwa [List.take_length, if_neg (by omega)] at this
theorem form_len4 (r : Int) : (formF r).length ≤ 4 := by
  have h := formF_length r
  have := sizeF_range r
  omega
end Go.Proofs.YtdjpdllehhecpaaGreatDoor
namespace Go.Proofs.YtdjpdllehhecpaaGreatDoor
set_option linter.unusedVariables false
structure Got where
  r : Int
  at_ : Int
  len : Int
  known : Int
  bad : Bool
def reachK : List Int → Nat
  | [] => 0
  | b0 :: r => if leadF b0 < 2 then (leadF b0).toNat else 1 + cntT (leadF b0 - 1).toNat (loF b0) (hiF b0) r
def partF (b : List Int) (pos : Int) : Got :=
  if reachK b = 0 then ⟨65533, pos, 1, pos + 1, true⟩
  else if (reachK b : Int) < leadF (b.getD 0 0) then ⟨65533, pos, reachK b, pos + min ((reachK b : Int) + 1) b.length, true⟩
  else ⟨wholeF (b.take (reachK b)), pos, reachK b, pos + reachK b, false⟩
def partLen (b : List Int) : Nat := max (reachK b) 1
def allN : Nat → List Int → Int → List Got
  | 0, _, _ => []
  | n + 1, b, pos => if b = [] then [] else partF b pos :: allN n (b.drop (partLen b)) (pos + partLen b)
def allF (b : List Int) : List Got := allN b.length b 0
theorem cntT_le : ∀ (m : Nat) (lo hi : Int) (r : List Int), cntT m lo hi r ≤ m ∧ cntT m lo hi r ≤ r.length
  | _, _, _, [] => by simp [cntT]
  | 0, _, _, _ :: _ => by simp [cntT]
  | m + 1, lo, hi, b :: r => by
    have := cntT_le m 128 191 r
    simp only [cntT, List.length_cons]
    split <;> omega
theorem okT_take : ∀ (m : Nat) (lo hi : Int) (r : List Int), okT m lo hi (r.take (cntT m lo hi r)) = true
  | _, _, _, [] => by simp [cntT, okT]
  | 0, _, _, _ :: _ => by simp [cntT, okT]
  | m + 1, lo, hi, b :: r => by
    simp only [cntT]
    by_cases h : lo ≤ b ∧ b ≤ hi
    · rw [if_pos h]
      simp only [List.take_succ_cons, okT, okT_take m 128 191 r, h, and_self, decide_true, Bool.and_self]
    · rw [if_neg h]; simp [okT]
theorem reach_le (b0 : Int) (r : List Int) : reachK (b0 :: r) ≤ r.length + 1 ∧ (reachK (b0 :: r) : Int) ≤ leadF b0 ∧ reachK (b0 :: r) ≤ 4 ∧ (reachK (b0 :: r) = 0 ↔ leadF b0 = 0) := by
  have hl := leadF_range b0
  have := cntT_le (leadF b0 - 1).toNat (loF b0) (hiF b0) r
  simp only [reachK]
  split <;> omega
theorem partLen_pos (b : List Int) : 1 ≤ partLen b := by unfold partLen; omega
theorem partLen_le (b0 : Int) (r : List Int) : partLen (b0 :: r) ≤ r.length + 1 ∧ partLen (b0 :: r) ≤ 4 := by have := reach_le b0 r; unfold partLen; omega
theorem part_len (b : List Int) (pos : Int) : (partF b pos).len = partLen b ∧ (partF b pos).at_ = pos := by
  unfold partF partLen
  by_cases h : reachK b = 0
  · rw [if_pos h]; simp [h]
  · rw [if_neg h]; split <;> simp <;> omega
theorem reach_whole (b0 : Int) (r : List Int) (h : reachK (b0 :: r) ≠ 0) (h2 : ¬ (reachK (b0 :: r) : Int) < leadF b0) :
    ∃ t, (b0 :: r).take (reachK (b0 :: r)) = b0 :: t ∧ (t.length : Int) + 1 = leadF b0 ∧ t.length ≤ 3 ∧ (∀ b ∈ t, 128 ≤ b ∧ b ≤ 191) ∧ okT (leadF b0 - 1).toNat (loF b0) (hiF b0) t = true ∧ reachK (b0 :: r) = t.length + 1 := by
  have hl := leadF_range b0
  have hr := reach_le b0 r
  simp only [reachK] at *
  by_cases h1 : leadF b0 < 2
  · rw [if_pos h1] at *
    have e : leadF b0 = 1 := by omega
    rw [e]
    exact ⟨[], by simp, by simp, by simp, by simp, by simp [okT], by simp⟩
  · rw [if_neg h1] at *
    have hc := cntT_le (leadF b0 - 1).toNat (loF b0) (hiF b0) r
    have ho := okT_take (leadF b0 - 1).toNat (loF b0) (hiF b0) r
    have hlo := lo_hi_tail b0 (by omega)
    have hlen : (r.take (cntT (leadF b0 - 1).toNat (loF b0) (hiF b0) r)).length = cntT (leadF b0 - 1).toNat (loF b0) (hiF b0) r := by rw [List.length_take, Nat.min_eq_left hc.2]
    refine ⟨r.take (cntT (leadF b0 - 1).toNat (loF b0) (hiF b0) r), by rw [Nat.add_comm, List.take_succ_cons], ?_, ?_, okT_tail _ _ _ _ hlo.1 hlo.2 ho, ho, ?_⟩
    · rw [hlen]; omega
    · rw [hlen]; omega
    · rw [hlen]; omega
theorem cntT_step (m : Nat) (lo hi : Int) (r : List Int) (j : Nat) (hj : j < r.length) (hm : j < m) (lo' hi' : Int) (h0 : lo' = if j = 0 then lo else 128) (h1 : hi' = if j = 0 then hi else 191) (hall : cntT m lo hi r = j + cntT (m - j) lo' hi' (r.drop j)) :
    (lo' ≤ r[j] ∧ r[j] ≤ hi' → cntT m lo hi r = (j + 1) + cntT (m - (j + 1)) 128 191 (r.drop (j + 1))) ∧ (¬ (lo' ≤ r[j] ∧ r[j] ≤ hi') → cntT m lo hi r = j) := by
  have e : r.drop j = r[j] :: r.drop (j + 1) := List.drop_eq_getElem_cons hj
  obtain ⟨q, hq⟩ : ∃ q, m - j = q + 1 := ⟨m - j - 1, by omega⟩
  rw [e, hq, cntT] at hall
  have e2 : m - (j + 1) = q := by omega
  rw [e2]
  constructor
  · intro h; rw [if_pos h] at hall; omega
  · intro h; rw [if_neg h] at hall; omega
end Go.Proofs.YtdjpdllehhecpaaGreatDoor
namespace Go.Proofs.YtdjpdllehhecpaaGreatDoor
set_option linter.unusedVariables false
theorem okT_take_iff : ∀ (m : Nat) (lo hi : Int) (r : List Int) (k : Nat), k ≤ r.length → okT m lo hi (r.take k) = decide (k ≤ cntT m lo hi r)
  | m, lo, hi, r, 0, _ => by simp [okT]
  | m, lo, hi, [], k + 1, h => by simp at h
  | 0, lo, hi, b :: r, k + 1, h => by simp [okT, cntT]
  | m + 1, lo, hi, b :: r, k + 1, h => by
    have ih := okT_take_iff m 128 191 r k (by simpa using h)
    simp only [List.take_succ_cons, okT, cntT, ih]
    by_cases hb : lo ≤ b ∧ b ≤ hi <;> simp [hb]
theorem begins_take (b0 : Int) (r : List Int) (k : Nat) (hk : k ≤ r.length) : beginsF (b0 :: r.take k) = if k < reachK (b0 :: r) then leadF b0 else 0 := by
  have hl := leadF_range b0
  have hc := cntT_le (leadF b0 - 1).toNat (loF b0) (hiF b0) r
  have hrk : reachK (b0 :: r) = if leadF b0 < 2 then (leadF b0).toNat else 1 + cntT (leadF b0 - 1).toNat (loF b0) (hiF b0) r := rfl
  simp only [beginsF, okT_take_iff _ _ _ _ _ hk]
  by_cases h0 : leadF b0 = 0
  · simp [h0]
  · rw [if_neg h0]
    by_cases h1 : leadF b0 < 2
    · rw [if_pos h1] at hrk
      by_cases hk0 : k ≤ cntT (leadF b0 - 1).toNat (loF b0) (hiF b0) r
      · rw [if_pos (by simpa using hk0), if_pos (by omega)]
      · rw [if_neg (by simpa using hk0), if_neg (by omega)]
    · rw [if_neg h1] at hrk
      by_cases hk0 : k ≤ cntT (leadF b0 - 1).toNat (loF b0) (hiF b0) r
      · rw [if_pos (by simpa using hk0), if_pos (by omega)]
      · rw [if_neg (by simpa using hk0), if_neg (by omega)]
theorem take_at (b0 : Int) (r : List Int) (k : Nat) (hk : k < (b0 :: r).length) : (b0 :: r).take k ++ [(b0 :: r)[k]] = b0 :: r.take k := by
  rw [← take_snoc' _ _ hk, List.take_succ_cons]
theorem step_take (b0 : Int) (r : List Int) (k : Nat) (hk : k < reachK (b0 :: r)) (hl : k < (b0 :: r).length) :
    refStepF ((b0 :: r).take k) (b0 :: r)[k] = if (k : Int) + 1 < leadF b0 then ([], (b0 :: r).take (k + 1)) else ([wholeF ((b0 :: r).take (k + 1))], []) := by
  have hr := reach_le b0 r
  have hl2 : k ≤ r.length := by simpa [Nat.lt_succ_iff] using hl
  have h0 := leadF_range b0
  have hlen : ((b0 :: r).take k).length = k := by rw [List.length_take, Nat.min_eq_left (by omega)]
  unfold refStepF
  rw [take_at b0 r k hl, begins_take b0 r k hl2, if_pos hk, hlen, List.take_succ_cons]
  by_cases h : (k : Int) + 1 < leadF b0
  · rw [if_pos ⟨by omega, h⟩, if_pos h]
  · rw [if_neg (fun e => h e.2), if_pos (by omega), if_neg h]
def evF : List Int → List Int → Int → List (Int × Int)
  | _, [], _ => []
  | h, b :: p, pos => (refStepF h b).1.map (fun r => (r, pos + 1)) ++ evF (refStepF h b).2 p (pos + 1)
theorem evF_append : ∀ (p q h : List Int) (pos : Int), evF h (p ++ q) pos = evF h p pos ++ evF (feedF h p).2 q (pos + p.length)
  | [], q, h, pos => by simp [evF, feedF]
  | x :: p, q, h, pos => by
    have e : pos + ((x :: p).length : Int) = pos + 1 + p.length := by simp; omega
    simp only [List.cons_append, evF, feedF, evF_append p, List.append_assoc, e]
theorem take_ev (b0 : Int) (r : List Int) (h0 : leadF b0 ≠ 0) (pos : Int) : ∀ k, k ≤ reachK (b0 :: r) →
    feedF [] ((b0 :: r).take k) = (if (k : Int) < leadF b0 then ([], (b0 :: r).take k) else ([wholeF ((b0 :: r).take k)], [])) ∧
    evF [] ((b0 :: r).take k) pos = (if (k : Int) < leadF b0 then [] else [(wholeF ((b0 :: r).take k), pos + k)])
  | 0, _ => by
    have hl := leadF_range b0
    rw [if_pos (by simp; omega), if_pos (by simp; omega)]
    simp [feedF, evF]
  | k + 1, hk => by
    have hr := reach_le b0 r
    obtain ⟨i1, i2⟩ := take_ev b0 r h0 pos k (by omega)
    have hlen : k < (b0 :: r).length := by rw [List.length_cons]; omega
    have hs := step_take b0 r k (by omega) hlen
    have hkl : (k : Int) < leadF b0 := by omega
    have htl : ((b0 :: r).take k).length = k := by rw [List.length_take, Nat.min_eq_left (by omega)]
    rw [if_pos hkl] at i1 i2
    have e : (b0 :: r).take (k + 1) = (b0 :: r).take k ++ [(b0 :: r)[k]] := take_snoc' _ _ hlen
    rw [show (((k + 1 : Nat) : Int)) = (k : Int) + 1 by simp]
    constructor
    · rw [e, feedF_snoc, i1, hs, ← e]
      split <;> simp
    · rw [e, evF_append, i2, i1, htl, ← e]
      simp only [evF, hs, List.nil_append, List.append_nil]
      split <;> simp <;> omega
theorem allN_more : ∀ (n m : Nat) (b : List Int) (pos : Int), b.length ≤ n → n ≤ m → allN m b pos = allN n b pos
  | 0, m, b, pos, h, _ => by
    obtain rfl : b = [] := List.eq_nil_of_length_eq_zero (by omega)
    cases m <;> simp [allN]
  | n + 1, 0, b, pos, h, hm => by omega
  | n + 1, m + 1, b, pos, h, hm => by
    simp only [allN]
    by_cases e : b = []
    · rw [if_pos e, if_pos e]
    · rw [if_neg e, if_neg e]
      have := partLen_pos b
      rw [allN_more n m _ _ (by rw [List.length_drop]; omega) (by omega)]
theorem all_cons (b0 : Int) (r : List Int) (pos : Int) : allN (b0 :: r).length (b0 :: r) pos = partF (b0 :: r) pos :: allN ((b0 :: r).drop (partLen (b0 :: r))).length ((b0 :: r).drop (partLen (b0 :: r))) (pos + partLen (b0 :: r)) := by
  have := partLen_pos (b0 :: r)
  rw [List.length_cons, allN, if_neg (by simp)]
  rw [allN_more _ r.length _ _ (Nat.le_refl _) (by rw [List.length_drop, List.length_cons]; omega)]
end Go.Proofs.YtdjpdllehhecpaaGreatDoor
namespace Go.Proofs.YtdjpdllehhecpaaGreatDoor
set_option linter.unusedVariables false
theorem form_whole (b0 : Int) (t : List Int) (hb : 0 ≤ b0) (hl : (t.length : Int) + 1 = leadF b0) (ht : ∀ b ∈ t, 128 ≤ b ∧ b ≤ 191) (hok : okT (leadF b0 - 1).toNat (loF b0) (hiF b0) t = true) : formF (wholeF (b0 :: t)) = b0 :: t := by
  have hi := lead_inv b0
  have hr := leadF_range b0
  match t, hl, ht, hok with
  | [], hl, _, _ =>
    have e : leadF b0 = 1 := by simpa using hl.symm
    have e2 : wholeF [b0] = b0 := by simp [wholeF, accF, bitsF, e]
    rw [e2]
    have hv : validB b0 = true := by rw [validB_iff]; omega
    unfold formF
    rw [if_pos hv, if_pos (by omega)]
  | [b1], hl, ht, _ =>
    have e : leadF b0 = 2 := by simpa using hl.symm
    have h1 := ht b1 (by simp)
    have h2 := hi.2.1 e
    have e2 : wholeF [b0, b1] = (b0 - 192) * 64 + b1 - 128 := by simp [wholeF, accF, bitsF, e]; omega
    rw [e2]
    have hv : validB ((b0 - 192) * 64 + b1 - 128) = true := by rw [validB_iff]; omega
    unfold formF
    rw [if_pos hv, if_neg (by omega), if_pos (by omega)]
    simp only [List.cons.injEq, and_true]
    refine ⟨?_, ?_⟩ <;> omega
  | [b1, b2], hl, ht, hok =>
    have e : leadF b0 = 3 := by simpa using hl.symm
    have h2 := ht b2 (by simp)
    rw [e] at hok
    have hk : loF b0 ≤ b1 ∧ b1 ≤ hiF b0 := by simp [okT] at hok; exact hok.1
    have e2 : wholeF [b0, b1, b2] = (bitsF b0 * 64 + b1 - 128) * 64 + b2 - 128 := by simp [wholeF, accF]
    rw [e2]
    exact form_of_three b0 b1 b2 e hk h2
  | [b1, b2, b3], hl, ht, hok =>
    have e : leadF b0 = 4 := by simpa using hl.symm
    have h2 := ht b2 (by simp)
    have h3 := ht b3 (by simp)
    rw [e] at hok
    have hk : loF b0 ≤ b1 ∧ b1 ≤ hiF b0 := by simp [okT] at hok; exact hok.1
    have h0 := hi.2.2.2 e
    have hlo : loF b0 = if b0 = 240 then 144 else 128 := by simp [loF, e]; omega
    have hhi : hiF b0 = if b0 = 244 then 143 else 191 := by simp [hiF, e]; omega
    rw [hlo, hhi] at hk
    have e2 : wholeF [b0, b1, b2, b3] = (((b0 - 240) * 64 + b1 - 128) * 64 + b2 - 128) * 64 + b3 - 128 := by simp [wholeF, accF, bitsF, e]; omega
    rw [e2]
    have hv : validB ((((b0 - 240) * 64 + b1 - 128) * 64 + b2 - 128) * 64 + b3 - 128) = true := by rw [validB_iff]; omega
    unfold formF
    rw [if_pos hv, if_neg (by omega), if_neg (by omega), if_neg (by omega)]
    simp only [List.cons.injEq, and_true]
    refine ⟨?_, ?_, ?_, ?_⟩ <;> omega
  | _ :: _ :: _ :: _ :: _, hl, _, _ => simp at hl; omega
theorem part_facts (b0 : Int) (r : List Int) (pos : Int) (hb : 0 ≤ b0) :
    (partF (b0 :: r) pos).at_ = pos ∧ (partF (b0 :: r) pos).len = partLen (b0 :: r) ∧ pos + (partF (b0 :: r) pos).len ≤ (partF (b0 :: r) pos).known ∧ (partF (b0 :: r) pos).known ≤ pos + r.length + 1 ∧
    ((partF (b0 :: r) pos).bad = true → (partF (b0 :: r) pos).r = 65533) ∧ ((partF (b0 :: r) pos).bad = false → formF (partF (b0 :: r) pos).r = (b0 :: r).take (partLen (b0 :: r))) := by
  have hpq := part_len (b0 :: r) pos
  have hr := reach_le b0 r
  have hpd : partLen (b0 :: r) = max (reachK (b0 :: r)) 1 := rfl
  refine ⟨hpq.2, hpq.1, ?_, ?_, ?_, ?_⟩
  · rw [hpq.1]
    unfold partF
    by_cases h0 : reachK (b0 :: r) = 0
    · rw [if_pos h0]; simp; omega
    · rw [if_neg h0]; split <;> simp <;> omega
  · unfold partF
    by_cases h0 : reachK (b0 :: r) = 0
    · rw [if_pos h0]; simp; omega
    · rw [if_neg h0]; split <;> simp <;> omega
  · unfold partF
    by_cases h0 : reachK (b0 :: r) = 0
    · rw [if_pos h0]; simp
    · rw [if_neg h0]; split <;> simp
  · by_cases h0 : reachK (b0 :: r) = 0
    · unfold partF; rw [if_pos h0]; simp
    · by_cases h1 : (reachK (b0 :: r) : Int) < leadF b0
      · unfold partF; rw [if_neg h0, if_pos (by simpa using h1)]; simp
      · have e : partLen (b0 :: r) = reachK (b0 :: r) := by omega
        have hp : (partF (b0 :: r) pos).r = wholeF ((b0 :: r).take (reachK (b0 :: r))) := by unfold partF; rw [if_neg h0, if_neg (by simpa using h1)]
        obtain ⟨t, h2, h3, h4, h5, h6, _⟩ := reach_whole b0 r h0 h1
        intro _
        rw [hp, e, h2]
        exact form_whole b0 t hb h3 h5 h6
def putF : List Int → List Int
  | [] => []
  | r :: a => formF r ++ putF a
theorem put_cons (r : Int) (a : List Int) : putF (r :: a) = formF r ++ putF a := rfl
theorem feed_forms : ∀ (a : List Int), (∀ r ∈ a, validB r = true) → feedF [] (putF a) = (a, [])
  | [], _ => by simp [putF, feedF]
  | r :: a, hv => by
    rw [putF, feedF_append, form_feed r (hv r (by simp)), feed_forms a (fun q hq => hv q (by simp [hq]))]
    rfl
theorem put_len : ∀ (a : List Int), (putF a).length ≤ 4 * a.length
  | [] => by simp [putF]
  | r :: a => by
    have := put_len a
    have := form_len4 r
    rw [putF]; simp; omega
theorem put_snoc : ∀ (a : List Int) (r : Int), putF (a ++ [r]) = putF a ++ formF r
  | [], r => by simp [putF]
  | x :: a, r => by simp [putF, put_snoc a r]
end Go.Proofs.YtdjpdllehhecpaaGreatDoor
