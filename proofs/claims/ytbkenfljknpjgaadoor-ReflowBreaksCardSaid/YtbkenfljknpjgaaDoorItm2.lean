/-
  What the document's function that compares items returns; what the functions that make items of cells, and cells of items, return. Each function once.
-/
import Derived.Test.YtbkenfljknpjgaaDoorItm1
import Derived.Test.YtbkenfljknpjgaaDoorCell3
import Derived.Test.YtbkenfljknpjgaaDoorCell6
import Derived.Test.YtbkenfljknpjgaaDoorFit5
import Derived.Test.YtbkenfljknpjgaaDoorErr2
import Derived.BigQuiet
namespace Go.Proofs.YtbkenfljknpjgaaDoor
open Go.RowKit
set_option linter.unusedVariables false
set_option linter.unusedSimpArgs false


set_option maxHeartbeats 1000000 in
theorem rSame29_ok (So Si To Ti : Nat → Prop) (x y : Value) (l m : List ItemV) (w : World) (hx : Slc RCell So Si w x l) (hy : Slc RCell To Ti w y m) :
    Calls Tryd.prog 26 #[x, y] w fun e w' => e = .returned (.bool (decide (l = m))) ∧ ∃ n, w' = w.drewN n := by
  obtain ⟨A, c, rfl, hl1, hl2, hA⟩ := hx.open_
  obtain ⟨B, d, rfl, hm1, hm2, hB⟩ := hy.open_
  by_cases hlen : l.length = m.length
  · have hd : ((l.length : Int) != m.length) = false := by simp [hlen]
    have Hlen := hide hlen
    clear hlen
    go_enter Tryd.func26, Tryd.ntmps26
    go_wp2
    go_loopw [5] (fun i wr => ∃ k : Nat, k ≤ l.length ∧ i = .int .i64 k ∧ (∀ j, j < k → l[j]? = m[j]?) ∧ ∃ n, wr = w.drewN n) (fun i _ => l.length - (intOf i).toNat)
    case atStart => exact ⟨0, Nat.zero_le _, rfl, by simp, 0, rfl⟩
    case round =>
      obtain ⟨k, hk, rfl, hpre, n, rfl⟩ := hrel
      have HP := hide hpre
      clear hpre
      by_cases hlt : k < l.length
      · have hltm : k < m.length := by have := Hlen.out; omega
        obtain ⟨ab, off, v, rfl, _, q0, q1, hw, hv⟩ := cell_at hA hlt
        obtain ⟨A', c', rfl, hd1, hd2, _⟩ := hv.open_
        obtain ⟨bb, off2, v2, rfl, _, p0, p1, hw2, hv2⟩ := cell_at hB hltm
        obtain ⟨B', d', rfl, he1, he2, _⟩ := hv2.open_
        by_cases hkd : l[k].1 = m[k].1
        · have hb : (l[k].1 != m[k].1) = false := by simp [hkd]
          by_cases htx : l[k].2 = m[k].2
          · have heq : l[k]? = m[k]? := by rw [List.getElem?_eq_getElem hlt, List.getElem?_eq_getElem hltm]; congr 1; exact Prod.ext hkd htx
            have hdec : decide (l[k].2 = m[k].2) = true := decide_eq_true htx
            have HEQ := hide heq
            clear heq hkd htx
            go_wp2
            go_quiet ((go_at_call 54; refine (Same_ok _ _ _ _ _ _ _ _ _ (hv.ints_keep (Keep.drewN _ _ _)) (hv2.ints_keep (Keep.drewN _ _ _))).mono ?_; rintro e w' ⟨rfl, m, rfl⟩; rw [hdec]; exact ⟨rfl, _, by rw [World.drewN_drewN, Nat.add_assoc]⟩))
            clear hb hdec
            go_wp2
            go_roundw
            case rel =>
              refine ⟨k + 1, by omega, by go_num, fun j hj => ?_, _, rfl⟩
              by_cases e : j = k
              · subst e; exact HEQ.out
              · exact HP.out j (by omega)
            case measure => simp [intOf]; omega
          · have hdec : decide (l[k].2 = m[k].2) = false := decide_eq_false htx
            have hne : l ≠ m := by rintro rfl; exact htx rfl
            have HNE := hide hne
            clear hkd htx hne
            go_wp2
            go_quiet ((go_at_call 54; refine (Same_ok _ _ _ _ _ _ _ _ _ (hv.ints_keep (Keep.drewN _ _ _)) (hv2.ints_keep (Keep.drewN _ _ _))).mono ?_; rintro e w' ⟨rfl, m, rfl⟩; rw [hdec]; exact ⟨rfl, _, by rw [World.drewN_drewN, Nat.add_assoc]⟩))
            clear hb hdec
            go_wp2
            go_ret
            exact ⟨ret_1 (bool_eq (by rw [decide_eq_false HNE.out])), drew2 _ _ _⟩
        · have hb : (l[k].1 != m[k].1) = true := by simp [hkd]
          have hne : l ≠ m := by rintro rfl; exact hkd rfl
          have HNE := hide hne
          clear hkd hne
          go_wp2
          go_quiet (fail)
          clear hb
          go_wp2
          go_ret
          exact ⟨ret_1 (bool_eq (by rw [decide_eq_false HNE.out])), drew2 _ _ _⟩
      · go_wp2
        go_ret
        refine ⟨ret_1 (bool_eq ?_), _, rfl⟩
        symm
        rw [decide_eq_true_eq]
        apply List.ext_getElem?
        intro j
        by_cases hj : j < l.length
        · exact HP.out j (by omega)
        · rw [List.getElem?_eq_none (by omega), List.getElem?_eq_none (by have := Hlen.out; omega)]
  · have hd : ((l.length : Int) != m.length) = true := by simp; omega
    have Hlen := hide hlen
    clear hlen
    go_enter Tryd.func26, Tryd.ntmps26
    go_wp2
    go_ret
    exact ⟨ret_1 (bool_eq (by rw [decide_eq_false]; intro e; exact Hlen.out (by rw [e]))), 0, rfl⟩

/-- An element's first number turned, in a row of the call's own. -/
theorem own_wide {base g cap k n : Nat} {w : World} {l : List ItemV} (h : Own RCell 50 [21] base w (.slice (some ⟨g, 0, none⟩) n cap) l) (hn : l.length = n) (hk : k < l.length) (m : Int) (hw : (Lit.int .i64 m).wf = true) :
    g < w.heap.size ∧ base ≤ g ∧ w.frozen? ⟨g, k * 2, none⟩ = false ∧ (∃ a, w.cell? ⟨g, k * 2, none⟩ = some a) ∧
      Own RCell 50 [21] base (w.setCell ⟨g, k * 2, none⟩ (.int .i64 m)) (.slice (some ⟨g, 0, none⟩) n cap) (l.set k (m, l[k].2)) ∧
      Step base [50] w (w.setCell ⟨g, k * 2, none⟩ (.int .i64 m)) := by
  subst hn
  obtain ⟨g', cap', xs, rest, hge', hgb, hblk, hxl, hels, hsz, hcap, hcm⟩ := own_open h (by omega)
  obtain ⟨rfl, rfl⟩ : g = g' ∧ cap = cap' := by simpa using hge'
  have esz : RCell.sz = 2 := rfl
  rw [esz] at hxl
  have hb := h.slc.slb
  obtain ⟨b', off', sv, hge, _, q0, q1, _, hv⟩ := cell_at hb (k := k) hk
  obtain ⟨rfl, rfl⟩ : g = b' ∧ 0 = off' := by simpa using hge
  simp only [Nat.zero_add] at q0 q1
  have hc1 := hblk.cell (k * 2 + 1)
  rw [q1] at hc1
  have s1 := hblk.set_ (k * 2) (.int .i64 m)
  have hst : Step base [50] w _ := (Step.refl base [50] w).setCell (p := ⟨g, k * 2, none⟩) hgb hblk.bears (.int .i64 m)
  have hkp := Keep.step (T := [21]) hst (by decide)
  have hel4 := (hels.mono hkp).set_ k (m, l[k].2) [.int .i64 m, sv] (by omega) (cell_E hw (hv.mono hkp hkp))
  rw [esz] at hel4
  simp only [List.setIfInBounds_toArray] at s1
  have hxs : xs[k * 2 + 1]? = some sv := by
    have : (xs ++ rest).toArray[k * 2 + 1]? = some sv := hc1.symm
    rw [List.getElem?_toArray, List.getElem?_append_left (by omega)] at this
    exact this
  have hset : (xs ++ rest).set (k * 2) (.int .i64 m) = (xs.take (k * 2) ++ [.int .i64 m, sv] ++ xs.drop (k * 2 + 2)) ++ rest := by
    rw [← list_set2 xs (k * 2) (by omega)]
    apply List.ext_getElem?
    intro i
    by_cases hi : i = k * 2 + 1
    · subst hi
      rw [List.getElem?_set_ne (by omega), List.getElem?_set_self (by simp; omega), List.getElem?_append_left (by omega), hxs]
    · exact (List.getElem?_set_ne (l := (xs ++ rest).set _ _) (Ne.symm hi)).symm
  rw [hset] at s1
  rw [show (k + 1) * 2 = k * 2 + 2 by omega] at hel4
  exact ⟨hblk.lt, hgb, hblk.frozen _, ⟨_, q0⟩, own_shut (by decide) hgb s1 hel4 (by simp) (by rw [← hsz]; simp; omega) hcap hcm, hst⟩
end Go.Proofs.YtbkenfljknpjgaaDoor
