/-
  Plain functions on rows of bytes: a part that is not bad is a form, and forms put together are parted so. No program in sight.
-/
import Derived.Test.YtphdagmaamcapaaDoorUtf4
namespace Go.Proofs.YtphdagmaamcapaaDoor
set_option linter.unusedVariables false

theorem form_whole (b0 : Int) (t : List Int) (hb : 0 ≤ b0) (hl : (t.length : Int) + 1 = leadF b0) (ht : ∀ b ∈ t, 128 ≤ b ∧ b ≤ 191) (hok : okT (leadF b0 - 1).toNat (loF b0) (hiF b0) t = true) : formF (wholeF (b0 :: t)) = b0 :: t := by
  have hi := lead_inv b0
  have hr := leadF_range b0
  match t, hl, ht, hok with
  | [], hl, _, _ =>
    have e : leadF b0 = 1 := by simpa using hl.symm
    have e2 : wholeF [b0] = b0 := by simp [wholeF, accF, bitsF, e]
    rw [e2]
    have hv : validB b0 = true := by rw [validB_iff]; omega
    unfold formF
    rw [if_pos hv, if_pos (by omega)]
  | [b1], hl, ht, _ =>
    have e : leadF b0 = 2 := by simpa using hl.symm
    have h1 := ht b1 (by simp)
    have h2 := hi.2.1 e
    have e2 : wholeF [b0, b1] = (b0 - 192) * 64 + b1 - 128 := by simp [wholeF, accF, bitsF, e]; omega
    rw [e2]
    have hv : validB ((b0 - 192) * 64 + b1 - 128) = true := by rw [validB_iff]; omega
    unfold formF
    rw [if_pos hv, if_neg (by omega), if_pos (by omega)]
    simp only [List.cons.injEq, and_true]
    refine ⟨?_, ?_⟩ <;> omega
  | [b1, b2], hl, ht, hok =>
    have e : leadF b0 = 3 := by simpa using hl.symm
    have h2 := ht b2 (by simp)
    rw [e] at hok
    have hk : loF b0 ≤ b1 ∧ b1 ≤ hiF b0 := by simp [okT] at hok; exact hok.1
    have e2 : wholeF [b0, b1, b2] = (bitsF b0 * 64 + b1 - 128) * 64 + b2 - 128 := by simp [wholeF, accF]
    rw [e2]
    exact form_of_three b0 b1 b2 e hk h2
  | [b1, b2, b3], hl, ht, hok =>
    have e : leadF b0 = 4 := by simpa using hl.symm
    have h2 := ht b2 (by simp)
    have h3 := ht b3 (by simp)
    rw [e] at hok
    have hk : loF b0 ≤ b1 ∧ b1 ≤ hiF b0 := by simp [okT] at hok; exact hok.1
    have h0 := hi.2.2.2 e
    have hlo : loF b0 = if b0 = 240 then 144 else 128 := by simp [loF, e]; omega
    have hhi : hiF b0 = if b0 = 244 then 143 else 191 := by simp [hiF, e]; omega
    rw [hlo, hhi] at hk
    have e2 : wholeF [b0, b1, b2, b3] = (((b0 - 240) * 64 + b1 - 128) * 64 + b2 - 128) * 64 + b3 - 128 := by simp [wholeF, accF, bitsF, e]; omega
    rw [e2]
    have hv : validB ((((b0 - 240) * 64 + b1 - 128) * 64 + b2 - 128) * 64 + b3 - 128) = true := by rw [validB_iff]; omega
    unfold formF
    rw [if_pos hv, if_neg (by omega), if_neg (by omega), if_neg (by omega)]
    simp only [List.cons.injEq, and_true]
    refine ⟨?_, ?_, ?_, ?_⟩ <;> omega
  | _ :: _ :: _ :: _ :: _, hl, _, _ => simp at hl; omega

theorem part_facts (b0 : Int) (r : List Int) (pos : Int) (hb : 0 ≤ b0) :
    (partF (b0 :: r) pos).at_ = pos ∧ (partF (b0 :: r) pos).len = partLen (b0 :: r) ∧ pos + (partF (b0 :: r) pos).len ≤ (partF (b0 :: r) pos).known ∧ (partF (b0 :: r) pos).known ≤ pos + r.length + 1 ∧
    ((partF (b0 :: r) pos).bad = true → (partF (b0 :: r) pos).r = 65533) ∧ ((partF (b0 :: r) pos).bad = false → formF (partF (b0 :: r) pos).r = (b0 :: r).take (partLen (b0 :: r))) := by
  have hpq := part_len (b0 :: r) pos
  have hr := reach_le b0 r
  have hpd : partLen (b0 :: r) = max (reachK (b0 :: r)) 1 := rfl
  refine ⟨hpq.2, hpq.1, ?_, ?_, ?_, ?_⟩
  · rw [hpq.1]
    unfold partF
    by_cases h0 : reachK (b0 :: r) = 0
    · rw [if_pos h0]; simp; omega
    · rw [if_neg h0]; split <;> simp <;> omega
  · unfold partF
    by_cases h0 : reachK (b0 :: r) = 0
    · rw [if_pos h0]; simp; omega
    · rw [if_neg h0]; split <;> simp <;> omega
  · unfold partF
    by_cases h0 : reachK (b0 :: r) = 0
    · rw [if_pos h0]; simp
    · rw [if_neg h0]; split <;> simp
  · by_cases h0 : reachK (b0 :: r) = 0
    · unfold partF; rw [if_pos h0]; simp
    · by_cases h1 : (reachK (b0 :: r) : Int) < leadF b0
      · unfold partF; rw [if_neg h0, if_pos (by simpa using h1)]; simp
      · have e : partLen (b0 :: r) = reachK (b0 :: r) := by omega
        have hp : (partF (b0 :: r) pos).r = wholeF ((b0 :: r).take (reachK (b0 :: r))) := by unfold partF; rw [if_neg h0, if_neg (by simpa using h1)]
        obtain ⟨t, h2, h3, h4, h5, h6, _⟩ := reach_whole b0 r h0 h1
        intro _
        rw [hp, e, h2]
        exact form_whole b0 t hb h3 h5 h6

/-- Forms put together. -/
def putF : List Int → List Int
  | [] => []
  | r :: a => formF r ++ putF a

theorem put_cons (r : Int) (a : List Int) : putF (r :: a) = formF r ++ putF a := rfl
theorem reach_form (r : Int) (hv : validB r = true) (x : List Int) : ∃ b0 t, formF r = b0 :: t ∧ reachK (formF r ++ x) = (formF r).length ∧ leadF b0 = (formF r).length ∧ 0 ≤ b0 := by
  obtain ⟨b0, t, hf, h0, h1, h2, h3, _⟩ := form_facts r hv
  refine ⟨b0, t, hf, ?_, h2, h0⟩
  have hb := (form_begins r hv).2 t.length (by rw [hf]; simp)
  rw [hf] at hb h2 ⊢
  have hk := begins_take b0 (t ++ x) t.length (by simp)
  have e : (t ++ x).take t.length = t := by simp
  rw [e] at hk
  rw [List.take_of_length_le (by simp), hk] at hb
  have hr := reach_le b0 (t ++ x)
  rw [List.cons_append]
  rw [h2] at hr
  simp only [List.length_cons] at *
  split at hb <;> omega
theorem all_forms : ∀ (a : List Int) (pos : Int), (∀ r ∈ a, validB r = true) → ∀ g ∈ allN (putF a).length (putF a) pos, g.bad = false
  | [], _, _, g, hg => by simp [putF, allN] at hg
  | r :: a, pos, hv, g, hg => by
    obtain ⟨b0, t, hf, hr, hl, h0⟩ := reach_form r (hv r (by simp)) (putF a)
    have hpd : partLen (putF (r :: a)) = (formF r).length := by rw [put_cons]; unfold partLen; rw [hr, hf]; simp
    have e : putF (r :: a) = b0 :: (t ++ putF a) := by rw [put_cons, hf]; rfl
    have hrk : reachK (b0 :: (t ++ putF a)) = (formF r).length := by rw [← e]; exact hr
    have hd : (putF (r :: a)).drop (formF r).length = putF a := by rw [put_cons]; simp
    rw [e] at hg hpd hd
    rw [all_cons, hpd, hd] at hg
    rcases List.mem_cons.1 hg with rfl | hg
    · unfold partF
      rw [hrk, if_neg (by rw [hf]; simp), if_neg (by simp [hl])]
    · exact all_forms a _ (fun q hq => hv q (by simp [hq])) g hg
theorem feed_forms : ∀ (a : List Int), (∀ r ∈ a, validB r = true) → feedF [] (putF a) = (a, [])
  | [], _ => by simp [putF, feedF]
  | r :: a, hv => by
    rw [putF, feedF_append, form_feed r (hv r (by simp)), feed_forms a (fun q hq => hv q (by simp [hq]))]
    rfl
theorem put_bytes : ∀ (a : List Int), Bytes (putF a)
  | [] => by simp [putF, Bytes]
  | r :: a => by
    intro n hn
    rw [putF] at hn
    rcases List.mem_append.1 hn with hn | hn
    · exact formF_bytes r n hn
    · exact put_bytes a n hn
theorem put_len : ∀ (a : List Int), (putF a).length ≤ 4 * a.length
  | [] => by simp [putF]
  | r :: a => by
    have := put_len a
    have := form_len4 r
    rw [putF]; simp; omega
theorem put_snoc : ∀ (a : List Int) (r : Int), putF (a ++ [r]) = putF a ++ formF r
  | [], r => by simp [putF]
  | x :: a, r => by simp [putF, put_snoc a r]
theorem valid_forms (a : List Int) (hv : ∀ r ∈ a, validB r = true) : (allF (putF a)).any Got.bad = false := by
  rw [List.any_eq_false]
  intro g hg
  rw [all_forms a 0 hv g hg]
  simp
theorem runes_forms (a : List Int) (hv : ∀ r ∈ a, validB r = true) : (allF (putF a)).map Got.r = a := by
  rw [runes_feed _ (put_bytes a), feed_forms a hv]
  simp [flushF]
theorem runes_join (a b : List Int) (hv : ∀ r ∈ a, validB r = true) (hb : Bytes b) (ht : tailF b = 0) : (allF (b ++ putF a)).map Got.r = (allF b).map Got.r ++ a := by
  have h0 : (feedF [] b).2 = [] := List.eq_nil_of_length_eq_zero (by have := tail_feed b hb; omega)
  have hbb : Bytes (b ++ putF a) := by
    intro n hn
    rcases List.mem_append.1 hn with hn | hn
    · exact hb n hn
    · exact put_bytes a n hn
  rw [runes_feed _ hbb, runes_feed b hb, feedF_append, h0, feed_forms a hv]
  simp [flushF]
end Go.Proofs.YtphdagmaamcapaaDoor
