/-
  What the functions that make strips return: scalar values with others replaced, a cluster's strip, blanks, the numbers of all cells. Each function once.
-/
import Derived.Test.YtbkenfljknpjgaaDoorCell0
namespace Go.Proofs.YtbkenfljknpjgaaDoor
open Go.RowKit
set_option linter.unusedVariables false
set_option linter.unusedSimpArgs false

def replF (r : Int) : Int := if validB r = true then r else 65533
theorem replF_range (r : Int) (h0 : -2147483648 ≤ r) (h1 : r ≤ 2147483647) : -2147483648 ≤ replF r ∧ replF r ≤ 2147483647 := by
  unfold replF; split <;> omega
theorem replF_valid (r : Int) : validB (replF r) = true := by
  unfold replF; split
  · assumption
  · decide

set_option maxHeartbeats 1000000 in
theorem Replace_ok (So Si : Nat → Prop) (x : Value) (l : List Int) (w : World) (hx : Slc (Rep.int .i32) So Si w x l) (hlen : l.length ≤ 100000) :
    Calls Tryd.prog 74 #[x] w fun e w' => ∃ v, e = .returned v ∧ Own (Rep.int .i32) 21 [] w.heap.size w' v (l.map replF) ∧ Below w.heap.size w w' := by
  obtain ⟨A1, c1, rfl, hd1, hd2, hB1⟩ := hx.open_
  obtain ⟨ti, hi1, hi2, hi3, hi4⟩ := info_parts i32_info
  go_enter Tryd.func74, Tryd.ntmps74
  go_wp2_with (refine wpList_make_own _ rfl (.const (.int .i64 0)) (.tmp 7) 48 rfl w.heap.size 21 ti _ 1 Tryd.underlying48 hi1 hi2 hi3 .i64 .i64 _ l.length rfl rfl rfl (by rw [hi4]; omega) (by simp [maxLen]; omega) (Nat.le_refl _) ?_; intro w1 hown1 hg1)
  have hb1 : Below w.heap.size w w1 := ⟨hg1.os, hg1.tape, hg1.output, hg1.size, fun k hk => hg1.block k hk (by simp)⟩
  have hO1 : Own (Rep.int .i32) 21 [] w.heap.size w1 (.slice (some ⟨w.heap.size, 0, none⟩) 0 l.length) [] := ⟨by simp, [], hown1, rfl⟩
  clear hi1 hi2 hi3 hi4
  go_loopw [3, 11] (fun out i wr => ∃ k : Nat, k ≤ l.length ∧ i = .int .i64 k ∧ Own (Rep.int .i32) 21 [] w.heap.size wr out ((l.take k).map replF) ∧ Below w.heap.size w wr) (fun _ i _ => l.length - (intOf i).toNat)
  case atStart => exact ⟨0, Nat.zero_le _, rfl, hO1, hb1⟩
  case round =>
    obtain ⟨k, hk, rfl, hown, hbel⟩ := hrel
    have hsz := hbel.size
    by_cases hlt : k < l.length
    · have hBk := hB1.ints_keep (Keep.below (S := So) hbel)
      obtain ⟨ab, off, rfl, _, hck, hwk⟩ := ints_at hBk hlt
      obtain ⟨hw0, hw1⟩ := i32_wf hwk
      have hsn : (l.take (k + 1)).map replF = (l.take k).map replF ++ [replF l[k]] := by rw [take_snoc' l k hlt, List.map_append]; rfl
      have hrg := replF_range l[k] hw0 hw1
      have hR := fun w => sValid_ok l[k] hw0 hw1 w
      have hlt2 : ((l.take k).map replF).length ≤ k := by simp; omega
      have hown2 := hown.alloc (.cells #[.int .i32 (replF l[k])] 21)
      have hone := own_i32 wr [replF l[k]] (by intro n hn; simp at hn; subst hn; exact wf_i32 hrg.1 hrg.2) wr.heap.size wr.heap.size 1 (Nat.le_refl _) rfl rfl (by simp [maxLen])
      have HSN := hide hsn
      have hrf : replF l[k] = if validB l[k] = true then l[k] else 65533 := rfl
      clear hsn hrg
      rcases Bool.eq_false_or_eq_true (validB l[k]) with hv | hv
      · rw [if_pos hv] at hrf
        rw [hv] at hR
        rw [hrf] at hown2 hone
        have HR := hide hR
        have HRF := hide hrf
        clear hR hv hrf
        go_wp2_with (first
          | (go_at_call 73; refine (HR.out _).mono ?_; rintro e w' ⟨rfl, rfl⟩)
          | (at_builtin; refine wpList_appi rfl (.tmp 18) (.tmp 20) 48 rfl .i32 21 w.heap.size 4 Tryd.underlying48 i32_info (by decide) _ _ rfl hown2 _ _ _ _ rfl hone.islc (by simp; omega) (by simp; omega) ?_; intro v3 w3 hv3 hst3))
        go_roundw
        case rel => exact ⟨k + 1, by omega, by go_num, by rw [HSN.out, HRF.out]; exact hv3, (hbel.alloc hsz _).trans (hst3.below (by simp; omega))⟩
        case measure => simp [intOf]; omega
      · rw [if_neg (by simp [hv])] at hrf
        rw [hv] at hR
        rw [hrf] at hown2 hone
        have HR := hide hR
        have HRF := hide hrf
        clear hR hv hrf
        go_wp2_with (first
          | (go_at_call 73; refine (HR.out _).mono ?_; rintro e w' ⟨rfl, rfl⟩)
          | (at_builtin; refine wpList_appi rfl (.tmp 18) (.tmp 20) 48 rfl .i32 21 w.heap.size 4 Tryd.underlying48 i32_info (by decide) _ _ rfl hown2 _ _ _ _ rfl hone.islc (by simp; omega) (by simp; omega) ?_; intro v3 w3 hv3 hst3))
        go_roundw
        case rel => exact ⟨k + 1, by omega, by go_num, by rw [HSN.out, HRF.out]; exact hv3, (hbel.alloc hsz _).trans (hst3.below (by simp; omega))⟩
        case measure => simp [intOf]; omega
    · have e : l.take k = l := List.take_of_length_le (by omega)
      rw [e] at hown
      go_wp2
      go_ret
      exact ⟨_, rfl, hown, hbel⟩

theorem range_two (f : Nat → Value) (a b : Value) (h : ∀ i, f (i * 2) = a ∧ f (i * 2 + 1) = b) : ∀ n, (List.range (n * 2)).map f = (List.replicate n [a, b]).flatten
  | 0 => rfl
  | n + 1 => by
    rw [show (n + 1) * 2 = n * 2 + 1 + 1 by omega, List.range_succ, List.range_succ, List.map_append, List.map_append, range_two f a b h n, List.replicate_succ', List.flatten_append]
    simp [(h n).1, (h n).2]
theorem made_two (a b : Value) (n : Nat) : (madeCells #[a, b] (n * 2)).toList = (List.replicate n [a, b]).flatten := by
  unfold madeCells
  rw [Array.toList_map, Array.toList_range]
  apply range_two
  intro i
  constructor
  · have : (i * 2) % (#[a, b] : Array Value).size = 0 := by simp
    rw [this]; rfl
  · have : (i * 2 + 1) % (#[a, b] : Array Value).size = 1 := by simp <;> omega
    rw [this]; rfl
theorem els_blanks (S : Nat → Prop) (w : World) : ∀ n, Els RCell S w (List.replicate n ((0, []) : CellV)) (List.replicate n [Value.int .i64 0, .slice none 0 0]).flatten
  | 0 => rfl
  | n + 1 => ⟨[Value.int .i64 0, .slice none 0 0], _, rfl, ⟨[.int .i64 0], [.slice none 0 0], rfl, ⟨rfl, by decide⟩, _, rfl, Slc.nil_⟩, els_blanks S w n⟩

def blanksN (n : Int) : Nat := (max 0 (min n 1024)).toNat
theorem Blanks_ok (n : Int) (hn : (Lit.int .i64 n).wf = true) (w : World) :
    Calls Tryd.prog 61 #[.int .i64 n] w fun e w' => ∃ v, e = .returned v ∧ Own RCell 74 [21] w.heap.size w' v (List.replicate (blanksN n) (0, [])) ∧ Below w.heap.size w w' := by
  obtain ⟨ti, hi1, hi2, hi3, hi4⟩ := info_parts cell_info
  have key : ∀ (m : Nat) (w1 : World), m ≤ 1024 → w1.ownsRow w.heap.size 74 RCell.sz (.slice (some ⟨w.heap.size, 0, none⟩) m m) m (madeCells (Value.agg #[.int .i64 0, .slice none 0 0]).cells (m * RCell.sz)).toList → w.grownBy w1 none →
      Own RCell 74 [21] w.heap.size w1 (.slice (some ⟨w.heap.size, 0, none⟩) m m) (List.replicate m (0, [])) ∧ Below w.heap.size w w1 := by
    intro m w1 hm hown hg
    refine ⟨⟨by decide, _, by rw [List.length_replicate]; exact hown, ?_⟩, hg.os, hg.tape, hg.output, hg.size, fun k hk => hg.block k hk (by simp)⟩
    have e : (madeCells (Value.agg #[.int .i64 0, .slice none 0 0]).cells (m * RCell.sz)).toList = (List.replicate m [Value.int .i64 0, .slice none 0 0]).flatten := made_two _ _ m
    rw [e]
    exact els_blanks _ _ _
  have KEY := hide key
  clear key
  have hc : n ≤ 0 ∨ (0 < n ∧ n ≤ 1024) ∨ 1024 < n := by omega
  rcases hc with h0 | ⟨h0, h1⟩ | h0
  · have hb : blanksN n = 0 := by unfold blanksN; omega
    have HB := hide hb
    have h1 : n ≤ 1024 := by omega
    clear hb
    go_enter Tryd.func61, Tryd.ntmps61
    go_wp2_with (refine wpList_make_full _ rfl (.tmp 5) (.tmp 5) 23 rfl w.heap.size 74 ti _ RCell.sz Tryd.underlying23 hi1 hi2 hi3 .i64 .i64 _ _ 0 rfl rfl rfl rfl (by rw [hi4]; omega) (by simp only [maxLen]; omega) (Nat.le_refl _) ?_; intro w1 hown1 hg1; obtain ⟨hO1, hB1⟩ := KEY.out 0 w1 (by omega) hown1 hg1)
    go_ret
    rw [HB.out]
    exact ⟨_, rfl, hO1, hB1⟩
  · obtain ⟨m, rfl⟩ := Int.eq_ofNat_of_zero_le (Int.le_of_lt h0)
    have hb : blanksN (m : Int) = m := by unfold blanksN; omega
    have HB := hide hb
    clear hb
    go_enter Tryd.func61, Tryd.ntmps61
    go_wp2_with (refine wpList_make_full _ rfl (.tmp 5) (.tmp 5) 23 rfl w.heap.size 74 ti _ RCell.sz Tryd.underlying23 hi1 hi2 hi3 .i64 .i64 _ _ m rfl rfl rfl rfl (by rw [hi4]; omega) (by simp only [maxLen]; omega) (Nat.le_refl _) ?_; intro w1 hown1 hg1; obtain ⟨hO1, hB1⟩ := KEY.out m w1 (by omega) hown1 hg1)
    go_ret
    rw [HB.out]
    exact ⟨_, rfl, hO1, hB1⟩
  · have hb : blanksN n = 1024 := by unfold blanksN; omega
    have HB := hide hb
    clear hb
    go_enter Tryd.func61, Tryd.ntmps61
    go_wp2_with (refine wpList_make_full _ rfl (.tmp 5) (.tmp 5) 23 rfl w.heap.size 74 ti _ RCell.sz Tryd.underlying23 hi1 hi2 hi3 .i64 .i64 _ _ 1024 rfl rfl rfl rfl (by rw [hi4]; omega) (by simp only [maxLen]; omega) (Nat.le_refl _) ?_; intro w1 hown1 hg1; obtain ⟨hO1, hB1⟩ := KEY.out 1024 w1 (by omega) hown1 hg1)
    go_ret
    rw [HB.out]
    exact ⟨_, rfl, hO1, hB1⟩
end Go.Proofs.YtbkenfljknpjgaaDoor
