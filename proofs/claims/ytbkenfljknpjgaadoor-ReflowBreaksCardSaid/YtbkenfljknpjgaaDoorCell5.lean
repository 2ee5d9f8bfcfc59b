/-
  What the document's function that makes a cluster's strip returns, and the program's. Each function once.
-/
import Derived.Test.YtbkenfljknpjgaaDoorCell4
namespace Go.Proofs.YtbkenfljknpjgaaDoor
open Go.RowKit
set_option linter.unusedVariables false
set_option linter.unusedSimpArgs false

/-- An own row of numbers, as what a cell leads to. -/
theorem own_typed {e : TypeId} {base base' : Nat} {w : World} {v : Value} {l : List Int} (h : Own (Rep.int .i32) e [] base w v l) (S : Nat → Prop) : Slc (Rep.int .i32) (Typed base' [e] w) S w v l :=
  (h.islc.ints_any S).ints_keep (Keep.weaken fun b hb => Fresh.typed (by simp) b hb.2)
theorem own_open {α : Type} {R : Rep α} {e : TypeId} {T : List TypeId} {base : Nat} {w : World} {v : Value} {l : List α} (h : Own R e T base w v l) (hl : 0 < l.length) :
    ∃ g cap xs rest, v = .slice (some ⟨g, 0, none⟩) l.length cap ∧ base ≤ g ∧ Blk w g e (xs ++ rest).toArray ∧ xs.length = l.length * R.sz ∧ Els R (Typed base T w) w l xs ∧ (xs ++ rest).length = cap * R.sz ∧ l.length ≤ cap ∧ cap ≤ maxLen := by
  obtain ⟨hT, xs, ⟨hx, hown⟩, hels⟩ := h
  rcases hown with ⟨_, h0⟩ | ⟨g, cap, cur, rfl, hb, hh, hc, hm, hs, ht⟩
  · omega
  · refine ⟨g, cap, xs, cur.toList.drop (l.length * R.sz), rfl, hb, ?_, hx, hels, ?_, hc, hm⟩
    · rw [← ht, List.take_append_drop]; exact hh
    · rw [← ht, List.take_append_drop]; simpa using hs
theorem own_shut {α : Type} {R : Rep α} {e : TypeId} {T : List TypeId} {base g cap n : Nat} {w : World} {l : List α} {xs rest : List Value} (hT : e ∉ T) (hb : base ≤ g) (hh : Blk w g e (xs ++ rest).toArray) (hels : Els R (Typed base T w) w l xs)
    (hn : l.length = n) (hs : (xs ++ rest).length = cap * R.sz) (hc : n ≤ cap) (hm : cap ≤ maxLen) : Own R e T base w (.slice (some ⟨g, 0, none⟩) n cap) l := by
  subst hn
  have hx := hels.length
  refine ⟨hT, xs, ⟨hx, .inr ⟨g, cap, _, rfl, hb, hh, hc, hm, by simpa using hs, ?_⟩⟩, hels⟩
  rw [← hx]; simp
theorem cell_E {S : Nat → Prop} {w : World} {k : Int} {v : Value} {t : List Int} (hk : (Lit.int .i64 k).wf = true) (hv : Slc (Rep.int .i32) S S w v t) : RCell.E S w [.int .i64 k, v] (k, t) :=
  ⟨[.int .i64 k], [v], rfl, ⟨rfl, hk⟩, v, rfl, hv⟩
theorem els_cell1 {S : Nat → Prop} {w : World} {k : Int} {v : Value} {t : List Int} (hk : (Lit.int .i64 k).wf = true) (hv : Slc (Rep.int .i32) S S w v t) : Els RCell S w [(k, t)] [.int .i64 k, v] := Els.single (cell_E hk hv)
theorem els_cell2 {S : Nat → Prop} {w : World} {k k' : Int} {v v' : Value} {t t' : List Int} (hk : (Lit.int .i64 k).wf = true) (hv : Slc (Rep.int .i32) S S w v t) (hk' : (Lit.int .i64 k').wf = true) (hv' : Slc (Rep.int .i32) S S w v' t') :
    Els RCell S w [(k, t), (k', t')] [.int .i64 k, v, .int .i64 k', v'] := (els_cell1 hk hv).append (els_cell1 hk' hv')

def ofF (wide : Int) (text : List Int) : List CellV :=
  if text.length = 0 then (if 1 < wide then [(0, []), (0, [])] else [(0, [])]) else (if 1 < wide then [(2, (text.take 16).map replF), (3, [])] else [(1, (text.take 16).map replF)])

set_option maxHeartbeats 2000000 in
theorem rOf_ok (So Si : Nat → Prop) (x : Value) (l : List Int) (wide : Int) (w : World) (hwd : (Lit.int .i64 wide).wf = true) (hx : Slc (Rep.int .i32) So Si w x l) (hlen : l.length ≤ 100000) :
    Calls Tryd.prog 58 #[.int .i64 wide, x] w fun e w' => ∃ v, e = .returned v ∧ Own RCell 74 [21] w.heap.size w' v (ofF wide l) ∧ Below w.heap.size w w' := by
  obtain ⟨A1, c1, rfl, hd1, hd2, hB1⟩ := hx.open_
  go_enter Tryd.func58, Tryd.ntmps58
  go_wp2
  go_loopw [5, 6] (fun out i wr => ∃ k : Nat, k ≤ l.length ∧ k ≤ 16 ∧ i = .int .i64 k ∧ Own (Rep.int .i32) 21 [] w.heap.size wr out ((l.take k).map replF) ∧ Below w.heap.size w wr) (fun _ i _ => l.length - (intOf i).toNat)
  case atStart => exact ⟨0, Nat.zero_le _, by omega, rfl, Own.nil_ _ _ _ _ _ (by simp), Below.refl _ _⟩
  case round =>
    obtain ⟨k, hk, hk16, rfl, hown, hbel⟩ := hrel
    have hsz := hbel.size
    by_cases hlt : k < l.length ∧ k < 16
    · obtain ⟨hlt, hlt16⟩ := hlt
      have hBk := hB1.ints_keep (Keep.below (S := So) hbel)
      obtain ⟨ab, off, rfl, _, hck, hwk⟩ := ints_at hBk hlt
      obtain ⟨hw0, hw1⟩ := i32_wf hwk
      have hsn : (l.take (k + 1)).map replF = (l.take k).map replF ++ [replF l[k]] := by rw [take_snoc' l k hlt, List.map_append]; rfl
      have hrg := replF_range l[k] hw0 hw1
      have hR := fun w => rValid_ok l[k] hw0 hw1 w
      have hlt2 : ((l.take k).map replF).length ≤ k := by simp; omega
      have hown2 := hown.alloc (.cells #[.int .i32 (replF l[k])] 21)
      have hone := own_i32 wr [replF l[k]] (by intro n hn; simp at hn; subst hn; exact wf_i32 hrg.1 hrg.2) wr.heap.size wr.heap.size 1 (Nat.le_refl _) rfl rfl (by simp [maxLen])
      have HSN := hide hsn
      have hrf : replF l[k] = if validB l[k] = true then l[k] else 65533 := rfl
      have e1 : (k : Int) < l.length := by omega
      have e2 : (k : Int) < 16 := by omega
      clear hsn hrg
      rcases Bool.eq_false_or_eq_true (validB l[k]) with hv | hv
      · rw [if_pos hv] at hrf
        rw [hv] at hR
        rw [hrf] at hown2 hone
        have HR := hide hR
        have HRF := hide hrf
        clear hR hv hrf
        go_wp2_with (first
          | (go_at_call 59; refine (HR.out _).mono ?_; rintro e w' ⟨rfl, rfl⟩)
          | (at_builtin; refine wpList_appi rfl (.tmp 23) (.tmp 28) 48 rfl .i32 21 w.heap.size 4 Tryd.underlying48 i32_info (by decide) _ _ rfl hown2 _ _ _ _ rfl hone.islc (by simp; omega) (by simp; omega) ?_; intro v3 w3 hv3 hst3))
        go_roundw
        case rel => exact ⟨k + 1, by omega, by omega, by go_num, by rw [HSN.out, HRF.out]; exact hv3, (hbel.alloc hsz _).trans (hst3.below (by simp; omega))⟩
        case measure => simp [intOf]; omega
      · rw [if_neg (by simp [hv])] at hrf
        rw [hv] at hR
        rw [hrf] at hown2 hone
        have HR := hide hR
        have HRF := hide hrf
        clear hR hv hrf
        go_wp2_with (first
          | (go_at_call 59; refine (HR.out _).mono ?_; rintro e w' ⟨rfl, rfl⟩)
          | (at_builtin; refine wpList_appi rfl (.tmp 30) (.tmp 31) 48 rfl .i32 21 w.heap.size 4 Tryd.underlying48 i32_info (by decide) _ _ rfl hown2 _ _ _ _ rfl hone.islc (by simp; omega) (by simp; omega) ?_; intro v3 w3 hv3 hst3))
        go_roundw
        case rel => exact ⟨k + 1, by omega, by omega, by go_num, by rw [HSN.out, HRF.out]; exact hv3, (hbel.alloc hsz _).trans (hst3.below (by simp; omega))⟩
        case measure => simp [intOf]; omega
    · have e16 : l.take k = l.take 16 := by
        by_cases hh : k = 16
        · rw [hh]
        · rw [List.take_of_length_le (by omega), List.take_of_length_le (by omega)]
      have hT0 : ((l.take 16).map replF).length = 0 ↔ l.length = 0 := by simp <;> omega
      rw [e16] at hown
      obtain ⟨A5, c5, rfl, he1, he2, _⟩ := hown.islc.open_
      have hty := own_typed (base' := w.heap.size) hown (Typed w.heap.size [21] wr)
      generalize hTT : (l.take 16).map replF = T at *
      have hof : ofF wide l = if T.length = 0 then (if 1 < wide then [(0, []), (0, [])] else [(0, [])]) else (if 1 < wide then [(2, T), (3, [])] else [(1, T)]) := by
        unfold ofF; rw [hTT]
        by_cases h : l.length = 0
        · rw [if_pos h, if_pos (hT0.2 h)]
        · rw [if_neg h, if_neg (fun q => h (hT0.1 q))]
      have HOF := hide hof
      have hexit : (¬ (k : Int) < l.length) ∨ ((k : Int) < l.length ∧ ¬ (k : Int) < 16) := by omega
      clear hof hTT e16 hT0 hlt
      by_cases hwide : 1 < wide
      · by_cases hT : T.length = 0
        · have h1 := HOF.out
          rw [if_pos hT, if_pos hwide] at h1
          have H1 := hide h1
          have hTi : ((T.length : Int) == 0) = true := by simp [hT]
          have hO : Own RCell 74 [21] w.heap.size (wr.alloc (.cells #[.int .i64 0, .slice none 0 0, .int .i64 0, .slice none 0 0] 74)) (.slice (some ⟨wr.heap.size, 0, none⟩) 2 2) [(0, []), (0, [])] :=
            Own.lit (by decide) (els_cell2 (by decide) Slc.nil_ (by decide) Slc.nil_) hsz rfl (by simp [maxLen])
          clear h1 hT
          rcases hexit with q | ⟨q1, q2⟩
          all_goals
            go_wp2
            go_ret
            rw [H1.out]
            exact ⟨_, rfl, hO, hbel.alloc hsz _⟩
        · have h1 := HOF.out
          rw [if_neg hT, if_pos hwide] at h1
          have H1 := hide h1
          have hTi : ((T.length : Int) == 0) = false := by simpa using hT
          have hO : Own RCell 74 [21] w.heap.size (wr.alloc (.cells #[.int .i64 2, .slice A5 T.length c5, .int .i64 3, .slice none 0 0] 74)) (.slice (some ⟨wr.heap.size, 0, none⟩) 2 2) [(2, T), (3, [])] :=
            Own.lit (by decide) (els_cell2 (by decide) hty (by decide) Slc.nil_) hsz rfl (by simp [maxLen])
          clear h1 hT
          rcases hexit with q | ⟨q1, q2⟩
          all_goals
            go_wp2
            go_ret
            rw [H1.out]
            exact ⟨_, rfl, hO, hbel.alloc hsz _⟩
      · by_cases hT : T.length = 0
        · have h1 := HOF.out
          rw [if_pos hT, if_neg hwide] at h1
          have H1 := hide h1
          have hTi : ((T.length : Int) == 0) = true := by simp [hT]
          have hO : Own RCell 74 [21] w.heap.size (wr.alloc (.cells #[.int .i64 0, .slice none 0 0] 74)) (.slice (some ⟨wr.heap.size, 0, none⟩) 1 1) [(0, [])] :=
            Own.lit (by decide) (els_cell1 (by decide) Slc.nil_) hsz rfl (by simp [maxLen])
          clear h1 hT
          rcases hexit with q | ⟨q1, q2⟩
          all_goals
            go_wp2
            go_ret
            rw [H1.out]
            exact ⟨_, rfl, hO, hbel.alloc hsz _⟩
        · have h1 := HOF.out
          rw [if_neg hT, if_neg hwide] at h1
          have H1 := hide h1
          have hTi : ((T.length : Int) == 0) = false := by simpa using hT
          have hO : Own RCell 74 [21] w.heap.size (wr.alloc (.cells #[.int .i64 1, .slice A5 T.length c5] 74)) (.slice (some ⟨wr.heap.size, 0, none⟩) 1 1) [(1, T)] :=
            Own.lit (by decide) (els_cell1 (by decide) hty) hsz rfl (by simp [maxLen])
          clear h1 hT
          rcases hexit with q | ⟨q1, q2⟩
          all_goals
            go_wp2
            go_ret
            rw [H1.out]
            exact ⟨_, rfl, hO, hbel.alloc hsz _⟩
end Go.Proofs.YtbkenfljknpjgaaDoor
