/-
  What fit's function that makes a row of another width returns.
-/
import Derived.Test.YthjddpflcgcpiaaDoorFit1
import Derived.Deep.CutBlock
import Derived.Deep.DeepCutAuto
namespace Go.Proofs.YthjddpflcgcpiaaDoor
open Go.RowKit
set_option linter.unusedVariables false
set_option linter.unusedSimpArgs false

/-- A row of memory from some place on. -/
def RowOf (b0 : Nat) (w : World) (v : Value) (l : List CellV) (wrap : Bool) : Prop := ∃ base, b0 ≤ base ∧ RowIs base w v l wrap

def wideN (wd : Int) : Nat := (max 1 (min wd 1024)).toNat
def resizeF (l : List CellV) (wd : Int) : List CellV := cutF l (min (wideN wd) l.length) ++ List.replicate (wideN wd - min (wideN wd) l.length) (0, [])

set_option maxHeartbeats 2000000 in
theorem Resize_ok (base : Nat) (v : Value) (l : List CellV) (wrap : Bool) (wd : Int) (w : World) (h : RowIs base w v l wrap) (hwd : (Lit.int .i64 wd).wf = true) (h0 : 0 < l.length) (h1 : l.length ≤ 1024) (hs : soundB l = true) :
    Calls Tryd.prog 24 #[v, .int .i64 wd] w fun e w' => ∃ v', e = .returned v' ∧ RowOf w.heap.size w' v' (resizeF l wd) false ∧ Below w.heap.size w w' := by
  have hrf : resizeF l wd = cutF l (min (wideN wd) l.length) ++ List.replicate (wideN wd - min (wideN wd) l.length) (0, []) := rfl
  have hW : wd ≤ 1 ∧ wideN wd = 1 ∨ (1 < wd ∧ wd ≤ 1024) ∧ wd = (wideN wd : Int) ∨ 1024 < wd ∧ wideN wd = 1024 := by unfold wideN; omega
  have hW1 : 1 ≤ wideN wd ∧ wideN wd ≤ 1024 := by unfold wideN; omega
  generalize hWW : wideN wd = W at *
  have HRF := hide hrf
  clear hrf hWW
  have HH := hide h
  have hsl := sound_len hs
  obtain ⟨g0, s0, rfl, _, _, _⟩ := h
  go_enter Tryd.func24, Tryd.ntmps24
  go_upto_region 3 with fail
  go_cut [1] from 8 to 10 (fun s wx => s = .int .i64 (W : Int) ∧ w = wx)
  case first =>
    rcases hW with ⟨q1, q2⟩ | ⟨⟨q1, q2⟩, q3⟩ | ⟨q1, q2⟩
    · by_cases q3 : wd = 1
      · subst q3
        go_wp2
        go_meet
        exact ⟨int_eq (by omega), rfl⟩
      · have q4 : wd < 1 := by omega
        clear q3
        go_wp2
        go_meet
        exact ⟨int_eq (by omega), rfl⟩
    · have Q3 := hide q3
      clear q3
      go_wp2
      go_meet
      exact ⟨int_eq Q3.out, rfl⟩
    · go_wp2
      go_meet
      exact ⟨int_eq (by omega), rfl⟩
  case rest =>
    obtain ⟨rfl, rfl⟩ := hcut
    clear hW
    go_wp2_with fail
    refine (Cells_ok base _ l wrap _ HH.out (by omega) hsl).mono ?_
    rintro e w1 ⟨s1, rfl, hown, hb1⟩
    have hown := hown.own w.heap.size (Nat.zero_le _) (Nat.le_refl _)
    have hz1 := hb1.size
    obtain ⟨g, cap, xs, rest, rfl, hgb, hblk, hxl, hels, hsz, hcap, hcm⟩ := own_open hown (by omega)
    clear hblk hels hxl hsz
    have hrow1 := HH.out.below hb1
    go_wp2_with fail
    refine (Wide_ok base _ l wrap _ hrow1).mono ?_
    rintro e w2 ⟨rfl, rfl⟩
    by_cases hWl : W ≤ l.length
    · rw [Nat.min_eq_left hWl, Nat.sub_self] at HRF
      have hWl2 : (W : Int) ≤ l.length := by omega
      go_wp2_with fail
      refine (cut_ok w.heap.size g cap l W _ hown (by omega) (by omega) (by omega)).mono ?_
      rintro e w3 ⟨rfl, hst3, l', hown3, hl3, ht3, hd3⟩
      have hb3 := hb1.trans (hst3.below hz1)
      have hz3 := hb3.size
      go_wp2_with fail
      refine (Blanks_ok 0 (wf_i64 (by omega) (by omega)) _).mono ?_
      rintro e w4 ⟨v4, rfl, hv4, hb4⟩
      have hb4' := hb3.trans (hb4.mono hz3)
      have hbn : blanksN 0 = 0 := by unfold blanksN; omega
      rw [hbn] at hv4
      have hcl := cut_len l W (by omega)
      have hfr := (hown3.below hb4).slc
      rw [← hl3] at hfr
      have hfr := hfr.front (k := W) (by omega)
      rw [ht3] at hfr
      have hfr := hfr.recap (c' := W) (Nat.le_refl _) (by simp only [maxLen]; omega)
      obtain ⟨A4, c4, rfl, _, _, _⟩ := hv4.slc.open_
      have hv4s := hv4.slc
      have hrl : (List.replicate (0) ((0, []) : CellV)).length = 0 := List.length_replicate
      rw [hrl] at hv4s ⊢
      go_wp2_with (at_builtin; refine wpList_appfull rfl (.tmp 18) (.tmp 23) 22 rfl RCell 46 32 _ Tryd.underlying22 cell_info rfl (by decide) (by decide) g 0 W (cutF l W) (by omega) rfl _ _ _ _ hfr _ _ rfl hv4s (by rw [hrl]; omega) ?_; intro v6 w6 hv6 hb6)
      have hb6' := hb4'.trans (hb6.mono hb4'.size)
      have hz6 := hb6'.size
      refine (of_ok _ _ _ _ _ hv6 (by rw [List.length_append, hcl, hrl]; omega) (by rw [List.length_append, hcl, hrl]; omega) (cut_sound l W false _ (by omega) (by omega) hs)).mono ?_
      rintro e w7 ⟨v7, rfl, hv7, hb7⟩
      go_wp2
      go_ret
      rw [HRF.out]
      exact ⟨_, rfl, ⟨_, hz6, hv7⟩, hb6'.trans (hb7.mono hz6)⟩
    · rw [Nat.min_eq_right (by omega)] at HRF
      have hWl2 : (l.length : Int) < W := by omega
      go_wp2_with fail
      refine (cut_ok w.heap.size g cap l l.length _ hown (by omega) (by omega) (by omega)).mono ?_
      rintro e w3 ⟨rfl, hst3, l', hown3, hl3, ht3, hd3⟩
      have hb3 := hb1.trans (hst3.below hz1)
      have hz3 := hb3.size
      go_wp2_with fail
      refine (Blanks_ok ((W : Int) - l.length) (wf_i64 (by omega) (by omega)) _).mono ?_
      rintro e w4 ⟨v4, rfl, hv4, hb4⟩
      have hb4' := hb3.trans (hb4.mono hz3)
      have hbn : blanksN ((W : Int) - l.length) = W - l.length := by unfold blanksN; omega
      rw [hbn] at hv4
      have hcl := cut_len l l.length (by omega)
      have hfr := (hown3.below hb4).slc
      rw [← hl3] at hfr
      have hfr := hfr.front (k := l.length) (by omega)
      rw [ht3] at hfr
      have hfr := hfr.recap (c' := l.length) (Nat.le_refl _) (by simp only [maxLen]; omega)
      obtain ⟨A4, c4, rfl, _, _, _⟩ := hv4.slc.open_
      have hv4s := hv4.slc
      have hrl : (List.replicate (W - l.length) ((0, []) : CellV)).length = W - l.length := List.length_replicate
      rw [hrl] at hv4s ⊢
      go_wp2_with (at_builtin; refine wpList_appfull rfl (.tmp 18) (.tmp 23) 22 rfl RCell 46 32 _ Tryd.underlying22 cell_info rfl (by decide) (by decide) g 0 l.length (cutF l l.length) (by omega) rfl _ _ _ _ hfr _ _ rfl hv4s (by rw [hrl]; omega) ?_; intro v6 w6 hv6 hb6)
      have hb6' := hb4'.trans (hb6.mono hb4'.size)
      have hz6 := hb6'.size
      refine (of_ok _ _ _ _ _ hv6 (by rw [List.length_append, hcl, hrl]; omega) (by rw [List.length_append, hcl, hrl]; omega) (cut_sound l l.length false _ (by omega) (by omega) hs)).mono ?_
      rintro e w7 ⟨v7, rfl, hv7, hb7⟩
      go_wp2
      go_ret
      rw [HRF.out]
      exact ⟨_, rfl, ⟨_, hz6, hv7⟩, hb6'.trans (hb7.mono hz6)⟩
theorem Resize_nil (wd : Int) (w : World) :
    Calls Tryd.prog 24 #[.pointer none, .int .i64 wd] w fun e w' => e = .returned (.pointer none) ∧ w = w' := by
  go_enter Tryd.func24, Tryd.ntmps24
  go_wp2
  go_ret
  exact ⟨rfl, rfl⟩
end Go.Proofs.YthjddpflcgcpiaaDoor
