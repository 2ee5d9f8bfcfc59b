/-
  What the document's functions on a strip return, and the program's: whether the strip is sound, two strips are the same. Each function once.
-/
import Derived.Test.YtphdagmaamcapaaDoorCell1
namespace Go.Proofs.YtphdagmaamcapaaDoor
open Go.RowKit
set_option linter.unusedVariables false
set_option linter.unusedSimpArgs false

theorem kindI_at (l : List CellV) (k : Nat) (hk : k < l.length) : kindI l k = l[k].1 := by unfold kindI; rw [if_pos (by omega)]; simp [hk]
theorem kindI_out (l : List CellV) (k : Nat) (hk : l.length ≤ k) : kindI l k = 0 := by unfold kindI; rw [if_pos (by omega)]; simp [hk]
theorem kindI_neg (l : List CellV) (i : Int) (hi : i < 0) : kindI l i = 0 := by unfold kindI; rw [if_neg (by omega)]
theorem sound_drop (l : List CellV) (k : Nat) (hk : k < l.length) (lead : Bool) : soundG lead (l.drop k) = (rightB l[k] && (lead == decide (l[k].1 = 3)) && soundG (decide (l[k].1 = 2)) (l.drop (k + 1))) := by
  rw [List.drop_eq_getElem_cons hk]; rfl
/-- Up to place k nothing is wrong. -/
def SoundTo (l : List CellV) (k : Nat) : Prop := soundB l = soundG (decide (kindI l ((k : Int) - 1) = 2)) (l.drop k) ∧ (kindI l ((k : Int) - 1) = 2 → kindI l k = 3)
theorem SoundTo.zero (l : List CellV) : SoundTo l 0 := by
  have h : kindI l (((0 : Nat) : Int) - 1) = 0 := kindI_neg l _ (by simp)
  refine ⟨?_, by rw [h]; simp⟩
  rw [h]; rfl
theorem SoundTo.step {l : List CellV} {k : Nat} (h : SoundTo l k) (hk : k < l.length) (h1 : rightB l[k] = true) (h2 : l[k].1 = 2 → kindI l ((k : Int) + 1) = 3) (h3 : l[k].1 = 3 → kindI l ((k : Int) - 1) = 2) : SoundTo l (k + 1) := by
  have e := kindI_at l k hk
  have e1 : (((k + 1 : Nat) : Int)) - 1 = (k : Int) := by omega
  have e2 : (((k + 1 : Nat) : Int)) = (k : Int) + 1 := by omega
  obtain ⟨ha, hb⟩ := h
  rw [e] at hb
  unfold SoundTo
  rw [e1, e2, e]
  refine ⟨?_, h2⟩
  rw [ha, sound_drop l k hk, h1]
  have : (decide (kindI l ((k : Int) - 1) = 2) == decide (l[k].1 = 3)) = true := by
    rw [beq_iff_eq, Bool.eq_iff_iff]; simp only [decide_eq_true_eq]; exact ⟨hb, h3⟩
  rw [this]; rfl
theorem SoundTo.bad {l : List CellV} {k : Nat} (h : SoundTo l k) (hk : k < l.length) (hbad : rightB l[k] = false ∨ (l[k].1 = 2 ∧ kindI l ((k : Int) + 1) ≠ 3) ∨ (l[k].1 = 3 ∧ kindI l ((k : Int) - 1) ≠ 2)) : soundB l = false := by
  obtain ⟨ha, hb⟩ := h
  rw [ha, sound_drop l k hk]
  rcases hbad with h1 | ⟨h1, h2⟩ | ⟨h1, h2⟩
  · rw [h1]; rfl
  · rw [h1]
    have : soundG true (l.drop (k + 1)) = false := by
      by_cases hk1 : k + 1 < l.length
      · have e := kindI_at l (k + 1) hk1
        rw [show (((k + 1 : Nat) : Int)) = (k : Int) + 1 by omega] at e
        rw [sound_drop l (k + 1) hk1, decide_eq_false (by rw [← e]; exact h2)]
        simp
      · rw [List.drop_eq_nil_of_le (by omega)]; rfl
    simp [this]
  · rw [h1]; simp [h2]
theorem SoundTo.all {l : List CellV} (h : SoundTo l l.length) : soundB l = true := by
  obtain ⟨ha, hb⟩ := h
  rw [kindI_out l _ (Nat.le_refl _)] at hb
  have : kindI l ((l.length : Int) - 1) ≠ 2 := fun e => by have := hb e; omega
  rw [ha, decide_eq_false this, List.drop_length]; rfl

set_option maxHeartbeats 2000000 in
theorem rSound_ok (So Si : Nat → Prop) (x : Value) (l : List CellV) (w : World) (hx : Slc RCell So Si w x l) (hlen : l.length ≤ 1000000) :
    Calls Tryd.prog 20 #[x] w fun e w' => e = .returned (.bool (soundB l)) ∧ Below w.heap.size w w' := by
  obtain ⟨A, c, rfl, hc1, hc2, hB⟩ := hx.open_
  go_enter Tryd.func20, Tryd.ntmps20
  go_wp2
  go_loopw [3] (fun i wr => ∃ k : Nat, k ≤ l.length ∧ i = .int .i64 k ∧ SoundTo l k ∧ Below w.heap.size w wr) (fun i _ => l.length - (intOf i).toNat)
  case atStart => exact ⟨0, Nat.zero_le _, rfl, SoundTo.zero l, Below.refl _ _⟩
  case round =>
    obtain ⟨k, hk, rfl, hto, hbel⟩ := hrel
    have hsz := hbel.size
    have HTO := hide hto
    clear hto
    have hxk := hx.mono (Keep.below (S := So) hbel) (Keep.below (S := Si) hbel)
    by_cases hlt : k < l.length
    · obtain ⟨ab, off, v, rfl, _, q0, q1, hw, hv⟩ := cell_at hxk.slb hlt
      obtain ⟨A', c', rfl, hd1, hd2, _⟩ := hv.open_
      go_wp2_with fail
      refine (rRight_ok _ _ _ _ l[k].2 _ hw hv).mono ?_
      rintro e w1 ⟨rfl, hb1⟩
      have hsz1 := hb1.size
      have hbel1 := hbel.trans (hb1.mono hsz)
      have hx1 := hx.mono (Keep.below (S := So) hbel1) (Keep.below (S := Si) hbel1)
      obtain ⟨ab', off', v', he, _, p0, p1, _, _⟩ := cell_at hx1.slb hlt
      obtain ⟨rfl, rfl⟩ : ab = ab' ∧ off = off' := by simpa using he
      have hK1 := Kind_ok _ _ _ l ((k : Int) + 1) w1 hx1 (by omega) (by omega)
      have hK0 := Kind_ok _ _ _ l ((k : Int) - 1) w1 hx1 (by omega) (by omega)
      have hstep := fun h1 h2 h3 => HTO.out.step hlt h1 h2 h3
      have hbad := fun h => HTO.out.bad hlt h
      generalize hrb : rightB (l[k].1, l[k].2) = rb at *
      generalize hkd : l[k].1 = kd at *
      generalize kindI l ((k : Int) + 1) = K1 at *
      generalize kindI l ((k : Int) - 1) = K0 at *
      have HST := hide hstep
      have HBAD := hide hbad
      have HK1 := hide hK1
      have HK0 := hide hK0
      clear hstep hbad hK1 hK0 hrb
      cases rb with
      | false =>
        have hfin := HBAD.out (.inl rfl)
        have HF := hide hfin
        clear hfin
        go_wp2
        go_ret
        exact ⟨ret_1 (bool_eq HF.out.symm), hbel1⟩
      | true =>
        by_cases h2 : kd = 2
        · subst h2
          by_cases h3 : K1 = 3
          · subst h3
            have hfin := HST.out rfl (fun _ => rfl) (fun h => by omega)
            have HF := hide hfin
            clear hfin
            go_wp2_with (go_at_call 31; refine HK1.out.mono ?_; rintro e w2 ⟨rfl, rfl⟩)
            go_roundw
            case rel => exact ⟨k + 1, by omega, by go_num, HF.out, hbel1⟩
            case measure => simp [intOf]; omega
          · have hfin := HBAD.out (.inr (.inl ⟨rfl, h3⟩))
            have HF := hide hfin
            have hb : (K1 != 3) = true := by simpa using h3
            clear hfin
            go_wp2_with (go_at_call 31; refine HK1.out.mono ?_; rintro e w2 ⟨rfl, rfl⟩)
            go_ret
            exact ⟨ret_1 (bool_eq HF.out.symm), hbel1⟩
        · have hb2 : (kd == 2) = false := by simpa using h2
          by_cases h4 : kd = 3
          · subst h4
            by_cases h5 : K0 = 2
            · subst h5
              have hfin := HST.out rfl (fun h => absurd h h2) (fun _ => rfl)
              have HF := hide hfin
              clear hfin h2 hb2
              go_wp2_with (go_at_call 31; refine HK0.out.mono ?_; rintro e w2 ⟨rfl, rfl⟩)
              go_roundw
              case rel => exact ⟨k + 1, by omega, by go_num, HF.out, hbel1⟩
              case measure => simp [intOf]; omega
            · have hfin := HBAD.out (.inr (.inr ⟨rfl, h5⟩))
              have HF := hide hfin
              have hb : (K0 != 2) = true := by simpa using h5
              clear hfin h2 hb2
              go_wp2_with (go_at_call 31; refine HK0.out.mono ?_; rintro e w2 ⟨rfl, rfl⟩)
              go_ret
              exact ⟨ret_1 (bool_eq HF.out.symm), hbel1⟩
          · have hb4 : (kd == 3) = false := by simpa using h4
            have hfin := HST.out rfl (fun h => absurd h h2) (fun h => absurd h h4)
            have HF := hide hfin
            clear hfin h2 h4
            go_wp2
            go_roundw
            case rel => exact ⟨k + 1, by omega, by go_num, HF.out, hbel1⟩
            case measure => simp [intOf]; omega
    · obtain rfl : k = l.length := by omega
      have hfin := HTO.out.all
      have HF := hide hfin
      clear hfin
      go_wp2
      go_ret
      exact ⟨ret_1 (bool_eq HF.out.symm), hbel⟩
end Go.Proofs.YtphdagmaamcapaaDoor
