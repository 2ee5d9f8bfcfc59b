/-
  Plain functions on rows of bytes: what a decoder tells of a row are its parts; where it holds something, the last part is the beginning of a form. No program in sight.
-/
import Derived.Test.YtphdagmaamcapaaDoorUtf3
namespace Go.Proofs.YtphdagmaamcapaaDoor
set_option linter.unusedVariables false

theorem okT_take_iff : ∀ (m : Nat) (lo hi : Int) (r : List Int) (k : Nat), k ≤ r.length → okT m lo hi (r.take k) = decide (k ≤ cntT m lo hi r)
  | m, lo, hi, r, 0, _ => by simp [okT]
  | m, lo, hi, [], k + 1, h => by simp at h
  | 0, lo, hi, b :: r, k + 1, h => by simp [okT, cntT]
  | m + 1, lo, hi, b :: r, k + 1, h => by
    have ih := okT_take_iff m 128 191 r k (by simpa using h)
    simp only [List.take_succ_cons, okT, cntT, ih]
    by_cases hb : lo ≤ b ∧ b ≤ hi <;> simp [hb]

theorem begins_take (b0 : Int) (r : List Int) (k : Nat) (hk : k ≤ r.length) : beginsF (b0 :: r.take k) = if k < reachK (b0 :: r) then leadF b0 else 0 := by
  have hl := leadF_range b0
  have hc := cntT_le (leadF b0 - 1).toNat (loF b0) (hiF b0) r
  have hrk : reachK (b0 :: r) = if leadF b0 < 2 then (leadF b0).toNat else 1 + cntT (leadF b0 - 1).toNat (loF b0) (hiF b0) r := rfl
  simp only [beginsF, okT_take_iff _ _ _ _ _ hk]
  by_cases h0 : leadF b0 = 0
  · simp [h0]
  · rw [if_neg h0]
    by_cases h1 : leadF b0 < 2
    · rw [if_pos h1] at hrk
      by_cases hk0 : k ≤ cntT (leadF b0 - 1).toNat (loF b0) (hiF b0) r
      · rw [if_pos (by simpa using hk0), if_pos (by omega)]
      · rw [if_neg (by simpa using hk0), if_neg (by omega)]
    · rw [if_neg h1] at hrk
      by_cases hk0 : k ≤ cntT (leadF b0 - 1).toNat (loF b0) (hiF b0) r
      · rw [if_pos (by simpa using hk0), if_pos (by omega)]
      · rw [if_neg (by simpa using hk0), if_neg (by omega)]

theorem take_at (b0 : Int) (r : List Int) (k : Nat) (hk : k < (b0 :: r).length) : (b0 :: r).take k ++ [(b0 :: r)[k]] = b0 :: r.take k := by
  rw [← take_snoc' _ _ hk, List.take_succ_cons]
theorem step_take (b0 : Int) (r : List Int) (k : Nat) (hk : k < reachK (b0 :: r)) (hl : k < (b0 :: r).length) :
    refStepF ((b0 :: r).take k) (b0 :: r)[k] = if (k : Int) + 1 < leadF b0 then ([], (b0 :: r).take (k + 1)) else ([wholeF ((b0 :: r).take (k + 1))], []) := by
  have hr := reach_le b0 r
  have hl2 : k ≤ r.length := by simpa [Nat.lt_succ_iff] using hl
  have h0 := leadF_range b0
  have hlen : ((b0 :: r).take k).length = k := by rw [List.length_take, Nat.min_eq_left (by omega)]
  unfold refStepF
  rw [take_at b0 r k hl, begins_take b0 r k hl2, if_pos hk, hlen, List.take_succ_cons]
  by_cases h : (k : Int) + 1 < leadF b0
  · rw [if_pos ⟨by omega, h⟩, if_pos h]
  · rw [if_neg (fun e => h e.2), if_pos (by omega), if_neg h]
theorem step_stop (b0 : Int) (r : List Int) (k : Nat) (hk : k = reachK (b0 :: r)) (h0 : k ≠ 0) (hl : k < (b0 :: r).length) (hb : 0 ≤ (b0 :: r)[k]) :
    refStepF ((b0 :: r).take k) (b0 :: r)[k] = (65533 :: (refStepF [] (b0 :: r)[k]).1, (refStepF [] (b0 :: r)[k]).2) := by
  have hl2 : k ≤ r.length := by simpa [Nat.lt_succ_iff] using hl
  rw [step_nil _ hb]
  unfold refStepF
  have hne : (b0 :: r).take k ≠ [] := by
    obtain ⟨j, rfl⟩ : ∃ j, k = j + 1 := ⟨k - 1, by omega⟩
    simp
  rw [take_at b0 r k hl, begins_take b0 r k hl2, if_neg (by omega), if_neg (by omega), if_neg (by omega)]

/-- What a decoder tells, and after how many bytes. -/
def evF : List Int → List Int → Int → List (Int × Int)
  | _, [], _ => []
  | h, b :: p, pos => (refStepF h b).1.map (fun r => (r, pos + 1)) ++ evF (refStepF h b).2 p (pos + 1)
theorem evF_append : ∀ (p q h : List Int) (pos : Int), evF h (p ++ q) pos = evF h p pos ++ evF (feedF h p).2 q (pos + p.length)
  | [], q, h, pos => by simp [evF, feedF]
  | x :: p, q, h, pos => by
    have e : pos + ((x :: p).length : Int) = pos + 1 + p.length := by simp; omega
    simp only [List.cons_append, evF, feedF, evF_append p, List.append_assoc, e]
theorem evF_feed : ∀ (p h : List Int) (pos : Int), (evF h p pos).map Prod.fst = (feedF h p).1
  | [], h, pos => by simp [evF, feedF]
  | x :: p, h, pos => by simp [evF, feedF, evF_feed p, List.map_map, Function.comp_def]

theorem take_ev (b0 : Int) (r : List Int) (h0 : leadF b0 ≠ 0) (pos : Int) : ∀ k, k ≤ reachK (b0 :: r) →
    feedF [] ((b0 :: r).take k) = (if (k : Int) < leadF b0 then ([], (b0 :: r).take k) else ([wholeF ((b0 :: r).take k)], [])) ∧
    evF [] ((b0 :: r).take k) pos = (if (k : Int) < leadF b0 then [] else [(wholeF ((b0 :: r).take k), pos + k)])
  | 0, _ => by
    have hl := leadF_range b0
    rw [if_pos (by simp; omega), if_pos (by simp; omega)]
    simp [feedF, evF]
  | k + 1, hk => by
    have hr := reach_le b0 r
    obtain ⟨i1, i2⟩ := take_ev b0 r h0 pos k (by omega)
    have hlen : k < (b0 :: r).length := by rw [List.length_cons]; omega
    have hs := step_take b0 r k (by omega) hlen
    have hkl : (k : Int) < leadF b0 := by omega
    have htl : ((b0 :: r).take k).length = k := by rw [List.length_take, Nat.min_eq_left (by omega)]
    rw [if_pos hkl] at i1 i2
    have e : (b0 :: r).take (k + 1) = (b0 :: r).take k ++ [(b0 :: r)[k]] := take_snoc' _ _ hlen
    rw [show (((k + 1 : Nat) : Int)) = (k : Int) + 1 by simp]
    constructor
    · rw [e, feedF_snoc, i1, hs, ← e]
      split <;> simp
    · rw [e, evF_append, i2, i1, htl, ← e]
      simp only [evF, hs, List.nil_append, List.append_nil]
      split <;> simp <;> omega

/-- The part in front: what a decoder tells of it; or it is the beginning of a form. -/
theorem ev_cons (b0 : Int) (r : List Int) (pos : Int) (hb : Bytes (b0 :: r)) :
    (¬ (reachK (b0 :: r) ≠ 0 ∧ (reachK (b0 :: r) : Int) < leadF b0 ∧ reachK (b0 :: r) = r.length + 1) →
      evF [] (b0 :: r) pos = ((partF (b0 :: r) pos).r, (partF (b0 :: r) pos).known) :: evF [] ((b0 :: r).drop (partLen (b0 :: r))) (pos + partLen (b0 :: r)) ∧
      feedF [] (b0 :: r) = ((partF (b0 :: r) pos).r :: (feedF [] ((b0 :: r).drop (partLen (b0 :: r)))).1, (feedF [] ((b0 :: r).drop (partLen (b0 :: r)))).2)) ∧
    (reachK (b0 :: r) ≠ 0 ∧ (reachK (b0 :: r) : Int) < leadF b0 ∧ reachK (b0 :: r) = r.length + 1 → evF [] (b0 :: r) pos = [] ∧ feedF [] (b0 :: r) = ([], b0 :: r)) := by
  have hr := reach_le b0 r
  have hb0 := hb b0 (by simp)
  have hlr := leadF_range b0
  have hpl : partLen (b0 :: r) = max (reachK (b0 :: r)) 1 := rfl
  by_cases h0 : reachK (b0 :: r) = 0
  · have hp : partF (b0 :: r) pos = ⟨65533, pos, 1, pos + 1, true⟩ := by unfold partF; rw [if_pos h0]
    have hl : leadF b0 = 0 := hr.2.2.2.1 h0
    have hs : refStepF [] b0 = ([65533], []) := by rw [step_nil _ hb0.1]; unfold step0F; rw [if_pos hl]
    have hp1 : partLen (b0 :: r) = 1 := by omega
    refine ⟨fun _ => ?_, fun h => absurd h0 h.1⟩
    rw [hp, hp1]
    simp only [evF, feedF, hs, List.map_cons, List.map_nil, List.singleton_append, List.drop_succ_cons, List.drop_zero]
    simp
  · have hln : leadF b0 ≠ 0 := fun e => h0 (hr.2.2.2.2 e)
    obtain ⟨i1, i2⟩ := take_ev b0 r hln pos (reachK (b0 :: r)) (Nat.le_refl _)
    have hp1 : partLen (b0 :: r) = reachK (b0 :: r) := by omega
    have hsp : b0 :: r = (b0 :: r).take (reachK (b0 :: r)) ++ (b0 :: r).drop (reachK (b0 :: r)) := (List.take_append_drop _ _).symm
    have htl : ((b0 :: r).take (reachK (b0 :: r))).length = reachK (b0 :: r) := by rw [List.length_take, Nat.min_eq_left (by simp; omega)]
    have hev : evF [] (b0 :: r) pos = evF [] ((b0 :: r).take (reachK (b0 :: r))) pos ++ evF (feedF [] ((b0 :: r).take (reachK (b0 :: r)))).2 ((b0 :: r).drop (reachK (b0 :: r))) (pos + reachK (b0 :: r)) := by
      conv => lhs; rw [hsp]
      rw [evF_append, htl]
    have hfe : feedF [] (b0 :: r) = ((feedF [] ((b0 :: r).take (reachK (b0 :: r)))).1 ++ (feedF (feedF [] ((b0 :: r).take (reachK (b0 :: r)))).2 ((b0 :: r).drop (reachK (b0 :: r)))).1, (feedF (feedF [] ((b0 :: r).take (reachK (b0 :: r)))).2 ((b0 :: r).drop (reachK (b0 :: r)))).2) := by
      conv => lhs; rw [hsp]
      rw [feedF_append]
    by_cases h1 : (reachK (b0 :: r) : Int) < leadF b0
    · have hp : partF (b0 :: r) pos = ⟨65533, pos, reachK (b0 :: r), pos + min ((reachK (b0 :: r) : Int) + 1) ((r.length : Int) + 1), true⟩ := by
        unfold partF; rw [if_neg h0, if_pos (by simpa using h1)]; simp
      rw [if_pos h1] at i1 i2
      by_cases h2 : reachK (b0 :: r) = r.length + 1
      · refine ⟨fun h => absurd ⟨h0, h1, h2⟩ h, fun _ => ?_⟩
        have hd : (b0 :: r).drop (reachK (b0 :: r)) = [] := List.drop_eq_nil_of_le (by simp; omega)
        have ht : (b0 :: r).take (reachK (b0 :: r)) = b0 :: r := List.take_of_length_le (by simp; omega)
        rw [ht] at i1 i2
        exact ⟨i2, i1⟩
      · refine ⟨fun _ => ?_, fun h => absurd h.2.2 h2⟩
        have hlt : reachK (b0 :: r) < (b0 :: r).length := by simp; omega
        have hst := step_stop b0 r _ rfl h0 hlt (hb _ (List.getElem_mem _)).1
        have hd : (b0 :: r).drop (reachK (b0 :: r)) = (b0 :: r)[reachK (b0 :: r)] :: (b0 :: r).drop (reachK (b0 :: r) + 1) := List.drop_eq_getElem_cons hlt
        have hk : pos + min ((reachK (b0 :: r) : Int) + 1) ((r.length : Int) + 1) = pos + reachK (b0 :: r) + 1 := by omega
        rw [hev, hfe, i1, i2, hp, hp1, hd]
        simp only [evF, feedF, hst, List.map_cons, List.nil_append, List.cons_append, hk]
        simp
    · have hp : partF (b0 :: r) pos = ⟨wholeF ((b0 :: r).take (reachK (b0 :: r))), pos, reachK (b0 :: r), pos + reachK (b0 :: r), false⟩ := by
        unfold partF; rw [if_neg h0, if_neg (by simpa using h1)]
      rw [if_neg h1] at i1 i2
      refine ⟨fun _ => ?_, fun h => absurd h.2.1 h1⟩
      rw [hev, hfe, i1, i2, hp, hp1]
      simp

/-- The last part is the beginning of a form. -/
def tcond (b : List Int) (pos : Int) (g : Got) : Prop :=
  g.bad = true ∧ reachK (b.drop (g.at_ - pos).toNat) ≠ 0 ∧ (reachK (b.drop (g.at_ - pos).toNat) : Int) < leadF ((b.drop (g.at_ - pos).toNat).getD 0 0)
theorem tcond_shift (b : List Int) (pos : Int) (p : Nat) (g : Got) (h : pos + p ≤ g.at_) : tcond b pos g ↔ tcond (b.drop p) (pos + p) g := by
  unfold tcond
  have e : p + (g.at_ - (pos + p)).toNat = (g.at_ - pos).toNat := by omega
  rw [List.drop_drop, e]

theorem allN_more : ∀ (n m : Nat) (b : List Int) (pos : Int), b.length ≤ n → n ≤ m → allN m b pos = allN n b pos
  | 0, m, b, pos, h, _ => by
    obtain rfl : b = [] := List.eq_nil_of_length_eq_zero (by omega)
    cases m <;> simp [allN]
  | n + 1, 0, b, pos, h, hm => by omega
  | n + 1, m + 1, b, pos, h, hm => by
    simp only [allN]
    by_cases e : b = []
    · rw [if_pos e, if_pos e]
    · rw [if_neg e, if_neg e]
      have := partLen_pos b
      rw [allN_more n m _ _ (by rw [List.length_drop]; omega) (by omega)]
/-- All parts, one unfolded. -/
theorem all_cons (b0 : Int) (r : List Int) (pos : Int) : allN (b0 :: r).length (b0 :: r) pos = partF (b0 :: r) pos :: allN ((b0 :: r).drop (partLen (b0 :: r))).length ((b0 :: r).drop (partLen (b0 :: r))) (pos + partLen (b0 :: r)) := by
  have := partLen_pos (b0 :: r)
  rw [List.length_cons, allN, if_neg (by simp)]
  rw [allN_more _ r.length _ _ (Nat.le_refl _) (by rw [List.length_drop, List.length_cons]; omega)]
theorem all_at : ∀ (n : Nat) (b : List Int) (pos : Int), b.length ≤ n → ∀ g ∈ allN b.length b pos, pos ≤ g.at_ ∧ g.at_ < pos + b.length
  | _, [], pos, _, g, hg => by simp [allN] at hg
  | 0, b0 :: r, pos, h, g, hg => by simp at h
  | n + 1, b0 :: r, pos, h, g, hg => by
    rw [all_cons] at hg
    have hp := partLen_pos (b0 :: r)
    have hq := partLen_le b0 r
    rcases List.mem_cons.1 hg with rfl | hg
    · have := (part_len (b0 :: r) pos).2
      simp; omega
    · have hl : ((b0 :: r).drop (partLen (b0 :: r))).length = r.length + 1 - partLen (b0 :: r) := by simp
      have := all_at n _ _ (by rw [hl]; simp at h; omega) g hg
      rw [hl] at this
      simp
      omega

theorem ev_parts : ∀ (n : Nat) (b : List Int) (pos : Int), b.length ≤ n → Bytes b →
    ((feedF [] b).2 = [] → evF [] b pos = (allN b.length b pos).map (fun g => (g.r, g.known)) ∧ ∀ g, (allN b.length b pos).getLast? = some g → ¬ tcond b pos g) ∧
    ((feedF [] b).2 ≠ [] → ∃ l g, allN b.length b pos = l ++ [g] ∧ evF [] b pos = l.map (fun g => (g.r, g.known)) ∧ g.r = 65533 ∧ g.bad = true ∧ g.len = ((feedF [] b).2.length : Int) ∧ tcond b pos g)
  | _, [], pos, _, _ => by simp [feedF, evF, allN]
  | 0, b0 :: r, pos, h, _ => by simp at h
  | n + 1, b0 :: r, pos, h, hb => by
    obtain ⟨c1, c2⟩ := ev_cons b0 r pos hb
    have hr := reach_le b0 r
    have hp := partLen_pos (b0 :: r)
    have hq := partLen_le b0 r
    have hpd : partLen (b0 :: r) = max (reachK (b0 :: r)) 1 := rfl
    have hl : ((b0 :: r).drop (partLen (b0 :: r))).length = r.length + 1 - partLen (b0 :: r) := by simp
    have hpq := part_len (b0 :: r) pos
    have hself : ∀ g : Got, g.at_ = pos → (tcond (b0 :: r) pos g ↔ (g.bad = true ∧ reachK (b0 :: r) ≠ 0 ∧ (reachK (b0 :: r) : Int) < leadF b0)) := by
      intro g e
      unfold tcond
      rw [e, Int.sub_self]
      simp
    rw [all_cons]
    by_cases hD : reachK (b0 :: r) ≠ 0 ∧ (reachK (b0 :: r) : Int) < leadF b0 ∧ reachK (b0 :: r) = r.length + 1
    · obtain ⟨c3, c4⟩ := c2 hD
      have hd : (b0 :: r).drop (partLen (b0 :: r)) = [] := List.drop_eq_nil_of_le (by simp; omega)
      have hpf : (partF (b0 :: r) pos).r = 65533 ∧ (partF (b0 :: r) pos).bad = true := by
        unfold partF; rw [if_neg hD.1, if_pos (by simpa using hD.2.1)]; simp
      rw [c4, c3, hd]
      refine ⟨fun h => by simp at h, fun _ => ⟨[], partF (b0 :: r) pos, by simp [allN], by simp, hpf.1, hpf.2, ?_, ?_⟩⟩
      · rw [hpq.1]; simp; omega
      · exact (hself _ hpq.2).2 ⟨hpf.2, hD.1, hD.2.1⟩
    · obtain ⟨c3, c4⟩ := c1 hD
      obtain ⟨i1, i2⟩ := ev_parts n ((b0 :: r).drop (partLen (b0 :: r))) (pos + partLen (b0 :: r)) (by rw [hl]; simp at h; omega) (fun m hm => hb m (List.mem_of_mem_drop hm))
      have hat := all_at _ ((b0 :: r).drop (partLen (b0 :: r))) (pos + partLen (b0 :: r)) (Nat.le_refl _)
      rw [c4, c3]
      refine ⟨fun hz => ?_, fun hz => ?_⟩
      · obtain ⟨j1, j2⟩ := i1 hz
        refine ⟨by rw [j1]; simp, fun g hg => ?_⟩
        generalize hll : allN ((b0 :: r).drop (partLen (b0 :: r))).length ((b0 :: r).drop (partLen (b0 :: r))) (pos + partLen (b0 :: r)) = l' at *
        cases l' with
        | nil =>
          simp at hg
          subst hg
          rw [hself _ hpq.2]
          rintro ⟨_, h1, h2⟩
          apply hD
          refine ⟨h1, h2, ?_⟩
          apply Classical.byContradiction
          intro h3
          have hne : (b0 :: r).drop (partLen (b0 :: r)) ≠ [] := by
            intro e; have := congrArg List.length e; rw [hl] at this; simp at this; omega
          obtain ⟨y, q, hyq⟩ := List.exists_cons_of_ne_nil hne
          rw [hyq, all_cons] at hll
          simp at hll
        | cons a l' =>
          rw [List.getLast?_cons_cons] at hg
          rw [tcond_shift _ _ _ _ (hat g (List.mem_of_getLast? hg)).1]
          exact j2 g hg
      · obtain ⟨l, g, j1, j2, j3, j4, j5, j6⟩ := i2 hz
        refine ⟨partF (b0 :: r) pos :: l, g, by rw [j1]; simp, by rw [j2]; simp, j3, j4, j5, ?_⟩
        rw [tcond_shift _ _ _ _ (hat g (by rw [j1]; simp)).1]
        exact j6

def tailF (b : List Int) : Int :=
  match (allF b).getLast? with
  | none => 0
  | some g => if g.bad = true ∧ reachK (b.drop g.at_.toNat) ≠ 0 ∧ (reachK (b.drop g.at_.toNat) : Int) < leadF ((b.drop g.at_.toNat).getD 0 0) then g.len else 0

theorem tail_feed (b : List Int) (hb : Bytes b) : tailF b = ((feedF [] b).2.length : Int) := by
  obtain ⟨h1, h2⟩ := ev_parts b.length b 0 (Nat.le_refl _) hb
  unfold tailF allF
  by_cases h : (feedF [] b).2 = []
  · obtain ⟨_, h4⟩ := h1 h
    rw [h]
    cases hl : (allN b.length b 0).getLast? with
    | none => simp
    | some g =>
      have := h4 g hl
      unfold tcond at this
      rw [Int.sub_zero] at this
      simp only [if_neg this]
      simp
  · obtain ⟨l, g, e, _, _, _, h3, h4⟩ := h2 h
    rw [e, List.getLast?_concat]
    unfold tcond at h4
    rw [Int.sub_zero] at h4
    simp only [if_pos h4, h3]
/-- The scalar values of all parts are what a decoder tells, and at the end. -/
theorem runes_feed (b : List Int) (hb : Bytes b) : (allF b).map Got.r = (feedF [] b).1 ++ flushF (feedF [] b).2 := by
  obtain ⟨h1, h2⟩ := ev_parts b.length b 0 (Nat.le_refl _) hb
  rw [← evF_feed b [] 0]
  unfold allF
  by_cases h : (feedF [] b).2 = []
  · obtain ⟨h3, _⟩ := h1 h
    rw [h, h3]
    simp [flushF, Function.comp_def]
  · obtain ⟨l, g, e, h3, h5, _, _, h4⟩ := h2 h
    rw [e, h3, flushF, if_neg h]
    simp [h5, Function.comp_def]
end Go.Proofs.YtphdagmaamcapaaDoor
