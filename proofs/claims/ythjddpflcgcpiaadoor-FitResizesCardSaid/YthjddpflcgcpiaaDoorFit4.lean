/-
  What the document's function for a row of another width returns; to a wider row and back the cells stay. Each function once.
-/
import Derived.Test.YthjddpflcgcpiaaDoorFit2
namespace Go.Proofs.YthjddpflcgcpiaaDoor
open Go.RowKit
set_option linter.unusedVariables false
set_option linter.unusedSimpArgs false

/-! ### Plain -/
theorem cut_app : ∀ (l r : List CellV) (n : Nat), n ≤ l.length → cutF (l ++ r) n = cutF l n
  | _, _, 0, _ => by simp [cutF]
  | [], _, n + 1, h => by simp at h
  | c :: l, r, 1, _ => rfl
  | c :: l, r, n + 2, h => by
    have ih := cut_app l r (n + 1) (by simpa using h)
    simp only [List.cons_append, cutF]
    rw [ih]
theorem cut_all : ∀ (l : List CellV) (lead : Bool), soundG lead l = true → cutF l l.length = l
  | [], _, _ => rfl
  | [c], lead, h => by
    simp only [soundG, Bool.and_eq_true] at h
    have hc : ¬ c.1 = 2 := by
      intro e
      have h2 := h.2
      rw [e] at h2
      simp [soundG] at h2
    simp [cutF, hc]
  | c :: d :: l, lead, h => by
    simp only [soundG, Bool.and_eq_true] at h
    have ih := cut_all (d :: l) _ (by simp only [soundG, Bool.and_eq_true]; exact h.2)
    simp only [List.length_cons, cutF] at ih ⊢
    rw [ih]
/-- Cell j of the row of width W. -/
def rzAt (l : List CellV) (W j : Nat) : CellV := if h : j < l.length then (if j + 1 < W ∨ l[j].1 ≠ 2 then l[j] else (0, [])) else (0, [])
theorem resize_len (l : List CellV) (wd : Int) : (resizeF l wd).length = wideN wd := by
  unfold resizeF
  rw [List.length_append, cut_len l _ (by omega), List.length_replicate]
  omega
theorem resize_at (l : List CellV) (wd : Int) (h0 : 0 < l.length) (hs : soundB l = true) (j : Nat) (hj : j < wideN wd) : (resizeF l wd)[j]'(by rw [resize_len]; exact hj) = rzAt l (wideN wd) j := by
  have hW : 1 ≤ wideN wd := by unfold wideN; omega
  unfold rzAt
  by_cases hw : wideN wd ≤ l.length
  · have e : resizeF l wd = cutF l (wideN wd) := by unfold resizeF; rw [Nat.min_eq_left hw]; simp
    simp only [e]
    have hcs := cut_set l (wideN wd - 1) (by omega)
    rw [show wideN wd - 1 + 1 = wideN wd by omega] at hcs
    simp only [hcs]
    rw [dif_pos (by omega)]
    by_cases hk : l[wideN wd - 1].1 = 2
    · simp only [if_pos hk]
      by_cases hj2 : wideN wd - 1 = j
      · subst hj2
        exact (List.getElem_set_self _).trans (if_neg (fun h => h.elim (fun h => by omega) (fun h => h hk))).symm
      · exact (List.getElem_set_ne hj2 _).trans (List.getElem_take.trans (if_pos (.inl (by omega))).symm)
    · simp only [if_neg hk]
      by_cases hj2 : wideN wd - 1 = j
      · subst hj2
        exact List.getElem_take.trans (if_pos (.inr hk)).symm
      · exact List.getElem_take.trans (if_pos (.inl (by omega))).symm
  · have e : resizeF l wd = l ++ List.replicate (wideN wd - l.length) (0, []) := by unfold resizeF; rw [Nat.min_eq_right (by omega), cut_all l false hs]
    simp only [e]
    by_cases hj2 : j < l.length
    · rw [List.getElem_append_left hj2, dif_pos hj2, if_pos (.inl (by omega))]
    · rw [List.getElem_append_right (by omega), dif_neg hj2, List.getElem_replicate]
theorem resize_back (l : List CellV) (wd : Int) (h0 : 0 < l.length) (h1 : l.length ≤ 1024) (hs : soundB l = true) (hw : l.length ≤ wideN wd) : resizeF (resizeF l wd) l.length = l := by
  have e : resizeF l wd = l ++ List.replicate (wideN wd - l.length) (0, []) := by unfold resizeF; rw [Nat.min_eq_right hw, cut_all l false hs]
  rw [e]
  have e2 : wideN (l.length : Int) = l.length := by unfold wideN; omega
  unfold resizeF
  rw [e2, Nat.min_eq_left (by simp), cut_app l _ _ (Nat.le_refl _), cut_all l false hs]
  simp
theorem resize_sound (l : List CellV) (wd : Int) (h0 : 0 < l.length) (hs : soundB l = true) : soundB (resizeF l wd) = true := by
  unfold resizeF
  exact cut_sound l _ false _ (by unfold wideN; omega) (by omega) hs

/-- The row after k cells. -/
def RzTo (l : List CellV) (W k : Nat) (out : List CellV) : Prop := out.length = W ∧ ∀ j (h : j < out.length), out[j] = if j < k then rzAt l W j else (0, [])
theorem RzTo.zero (l : List CellV) (W : Nat) : RzTo l W 0 (List.replicate W (0, [])) := ⟨by simp, fun j h => by simp⟩
theorem RzTo.set_ {l : List CellV} {W k : Nat} {out : List CellV} (h : RzTo l W k out) (hk : k < W) (hl : k < l.length) (hc : k + 1 < W ∨ l[k].1 ≠ 2) : RzTo l W (k + 1) (out.set k l[k]) := by
  refine ⟨by simpa using h.1, fun j hj => ?_⟩
  rw [List.getElem_set]
  by_cases e : k = j
  · subst e
    rw [if_pos rfl, if_pos (by omega)]
    unfold rzAt
    rw [dif_pos hl, if_pos hc]
  · rw [if_neg e, h.2 j (by simpa using hj)]
    by_cases q : j < k
    · rw [if_pos q, if_pos (by omega)]
    · rw [if_neg q, if_neg (by omega)]
theorem RzTo.skip {l : List CellV} {W k : Nat} {out : List CellV} (h : RzTo l W k out) (hk : k < W) (hl : k < l.length) (hc : ¬ (k + 1 < W ∨ l[k].1 ≠ 2)) : RzTo l W (k + 1) out := by
  refine ⟨h.1, fun j hj => ?_⟩
  rw [h.2 j hj]
  by_cases e : k = j
  · subst e
    rw [if_neg (by omega), if_pos (by omega)]
    unfold rzAt
    rw [dif_pos hl, if_neg hc]
  · by_cases q : j < k
    · rw [if_pos q, if_pos (by omega)]
    · rw [if_neg q, if_neg (by omega)]
theorem RzTo.done {l : List CellV} {wd : Int} {k : Nat} {out : List CellV} (h : RzTo l (wideN wd) k out) (h0 : 0 < l.length) (hs : soundB l = true) (hk : wideN wd ≤ k ∨ l.length ≤ k) : out = resizeF l wd := by
  refine List.ext_getElem (by rw [resize_len, h.1]) fun j h1 h2 => ?_
  have hj : j < wideN wd := by have := h.1; omega
  rw [h.2 j h1, resize_at l wd h0 hs j hj]
  by_cases q : j < k
  · rw [if_pos q]
  · rw [if_neg q]
    unfold rzAt
    rw [dif_neg (by omega)]

/-! ### The walk -/
set_option maxHeartbeats 2000000 in
theorem rResize_ok (So : Nat → Prop) (x : Value) (l : List CellV) (wd : Int) (w : World) (hx : Slc RCell So (fun b => b < w.heap.size) w x l) (hwd : (Lit.int .i64 wd).wf = true) (h0 : 0 < l.length) (h1 : l.length ≤ 100000) (hs : soundB l = true) :
    Calls Tryd.prog 25 #[x, .int .i64 wd] w fun e w' => ∃ v, e = .returned v ∧ Own RCell 46 [21] w.heap.size w' v (resizeF l wd) ∧ Below w.heap.size w w' := by
  have hfin := fun k out (h : RzTo l (wideN wd) k out) => h.done h0 hs
  have hW : wd ≤ 1 ∧ wideN wd = 1 ∨ (1 < wd ∧ wd ≤ 1024) ∧ wd = (wideN wd : Int) ∨ 1024 < wd ∧ wideN wd = 1024 := by unfold wideN; omega
  have hW1 : 1 ≤ wideN wd ∧ wideN wd ≤ 1024 := by unfold wideN; omega
  have hrl := resize_len l wd
  generalize hRR : resizeF l wd = res at *
  generalize hWW : wideN wd = W at *
  have HFIN := hide hfin
  have HS := hide hs
  have HRL := hide hrl
  clear hfin hWW hRR hs hrl
  obtain ⟨A, c, rfl, hc1, hc2, hB⟩ := hx.open_
  obtain ⟨ti, hi1, hi2, hi3, hi4⟩ := info_parts cell_info
  have key : ∀ (m : Nat) (w1 : World), m ≤ 1024 → w1.ownsRow w.heap.size 46 RCell.sz (.slice (some ⟨w.heap.size, 0, none⟩) m m) m (madeCells (Value.agg #[.int .i64 0, .slice none 0 0]).cells (m * RCell.sz)).toList → w.grownBy w1 none →
      Own RCell 46 [21] w.heap.size w1 (.slice (some ⟨w.heap.size, 0, none⟩) m m) (List.replicate m (0, [])) ∧ Below w.heap.size w w1 := by
    intro m w1 hm hown hg
    refine ⟨⟨by decide, _, by rw [List.length_replicate]; exact hown, ?_⟩, hg.os, hg.tape, hg.output, hg.size, fun k hk => hg.block k hk (by simp)⟩
    have e : (madeCells (Value.agg #[.int .i64 0, .slice none 0 0]).cells (m * RCell.sz)).toList = (List.replicate m [Value.int .i64 0, .slice none 0 0]).flatten := made_two _ _ m
    rw [e]
    exact els_blanks _ _ _
  have KEY := hide key
  clear key
  go_enter Tryd.func25, Tryd.ntmps25
  go_upto_region 1 with fail
  go_cut [1] from 7 to 9 (fun s wx => s = .int .i64 (W : Int) ∧ w = wx)
  case first =>
    rcases hW with ⟨q1, q2⟩ | ⟨⟨q1, q2⟩, q3⟩ | ⟨q1, q2⟩
    · by_cases q3 : wd = 1
      · subst q3
        go_wp2
        go_meet
        exact ⟨int_eq (by omega), rfl⟩
      · have q4 : wd < 1 := by omega
        clear q3
        go_wp2
        go_meet
        exact ⟨int_eq (by omega), rfl⟩
    · have Q3 := hide q3
      clear q3
      go_wp2
      go_meet
      exact ⟨int_eq Q3.out, rfl⟩
    · go_wp2
      go_meet
      exact ⟨int_eq (by omega), rfl⟩
  case rest =>
    obtain ⟨rfl, rfl⟩ := hcut
    clear hW
    go_wp2_with (refine wpList_make_full _ rfl (.tmp 10) (.tmp 10) 22 rfl w.heap.size 46 ti _ RCell.sz Tryd.underlying22 hi1 hi2 hi3 .i64 .i64 _ _ W rfl rfl rfl rfl (by rw [hi4]; omega) (by simp only [maxLen]; omega) (Nat.le_refl _) ?_; intro w1 hown1 hg1; obtain ⟨hO1, hB1⟩ := KEY.out W w1 (by omega) hown1 hg1)
    obtain ⟨g, cap, xs, rest, hge, hgb, hblk, hxl, hels, hsz, hcap, hcm⟩ := own_open hO1 (by simp; omega)
    rw [List.length_replicate] at hge hxl
    obtain ⟨rfl, rfl⟩ : w.heap.size = g ∧ W = cap := by simpa using hge
    have hels := els_blanks_any (S' := fun b => b < w.heap.size) W xs hels
    clear hi1 hi2 hi3 hi4 hO1 hown1 hg1
    have esz : RCell.sz = 2 := rfl
    rw [esz] at hxl hsz
    have hrest : rest = [] := by
      apply List.eq_nil_of_length_eq_zero
      rw [List.length_append] at hsz
      omega
    subst hrest
    rw [List.append_nil] at hblk
    clear hsz hcap hcm hge
    go_loopw [6] (fun i wr => ∃ (k : Nat) (out : List CellV) (ys : List Value), k ≤ W ∧ k ≤ l.length ∧ i = .int .i64 k ∧ Below w.heap.size w wr ∧ Blk wr w.heap.size 46 ys.toArray ∧ ys.length = W * 2 ∧ Els RCell (fun b => b < w.heap.size) wr out ys ∧ RzTo l W k out) (fun i _ => l.length - (intOf i).toNat)
    case atStart => exact ⟨0, _, xs, Nat.zero_le _, Nat.zero_le _, rfl, hB1, hblk, hxl, hels, RzTo.zero l W⟩
    case round =>
      obtain ⟨k, out, ys, hk1, hk2, rfl, hbel, hbl, hyl, hes, hto⟩ := hrel
      have hsz := hbel.size
      have hol := hto.1
      have TO := hide hto
      clear hto
      by_cases hlt : k < W
      · by_cases hlt2 : k < l.length
        · have hxk := hx.mono (Keep.below (S := So) hbel) (Keep.below (S := fun b => b < w.heap.size) hbel)
          obtain ⟨ab, off, v, rfl, _, q0, q1, hw, hv⟩ := cell_at hxk.slb hlt2
          obtain ⟨A1, c1, rfl, hd1, hd2, _⟩ := hv.open_
          by_cases hc : k + 1 < W ∨ l[k].1 ≠ 2
          · have hnext := TO.out.set_ hlt hlt2 hc
            have NX := hide hnext
            clear hnext
            have hgl := hbl.lt
            have gf0 := hbl.frozen (k * 2)
            have gf1 := hbl.frozen (k * 2 + 1)
            have gc0 := hbl.cell (k * 2)
            have gc1 := hbl.cell (k * 2 + 1)
            rw [List.getElem?_toArray, List.getElem?_eq_getElem (by omega)] at gc0 gc1
            have s1 := hbl.set_ (k * 2) (.int .i64 l[k].1)
            have s2 := s1.set_ (k * 2 + 1) (.slice A1 l[k].2.length c1)
            have hgb2 := gb_set (gb_set (gb_refl wr w.heap.size) (k * 2) (.int .i64 l[k].1)) (k * 2 + 1) (.slice A1 l[k].2.length c1)
            have hkp := Keep.gb (S := fun b => b < w.heap.size) hgb2 (fun b h e => by omega)
            have hel4 := (hes.mono hkp).set_ k l[k] [.int .i64 l[k].1, .slice A1 l[k].2.length c1] (by omega) (cell_E hw (hv.ints_keep hkp |>.ints_any _))
            rw [esz] at hel4
            have hb4 : Below w.heap.size w _ := hbel.trans ((⟨hgb2.os, hgb2.tape, hgb2.output, hgb2.size, fun j hj => hgb2.block j (by omega) (by intro e; injection e with e; omega)⟩ : Below w.heap.size wr _))
            simp only [List.setIfInBounds_toArray] at s2
            have hl2 := list_set2 (a := .int .i64 l[k].1) (b := .slice A1 l[k].2.length c1) (rest := []) ys (k * 2) (by omega)
            rw [List.append_nil, List.append_nil] at hl2
            rw [hl2] at s2
            rw [show (k + 1) * 2 = k * 2 + 2 by omega] at hel4
            clear hl2
            have hS2 := hide s2
            have hE4 := hide hel4
            have hB4 := hide hb4
            clear s1 s2 hgb2 hkp hel4 hb4
            by_cases hc1 : k + 1 < W
            · have hc2 : (k : Int) + 1 < W := by omega
              clear hc
              go_wp2
              go_roundw
              case rel => exact ⟨k + 1, _, _, by omega, by omega, by go_num, hB4.out, hS2.out, by simp; omega, hE4.out, NX.out⟩
              case measure => simp [intOf]; omega
            · have hc2 : ¬ (k : Int) + 1 < W := by omega
              have hc3 : (l[k].1 == 2) = false := by simpa using hc.resolve_left hc1
              clear hc
              go_wp2
              go_roundw
              case rel => exact ⟨k + 1, _, _, by omega, by omega, by go_num, hB4.out, hS2.out, by simp; omega, hE4.out, NX.out⟩
              case measure => simp [intOf]; omega
          · have hnext := TO.out.skip hlt hlt2 hc
            have NX := hide hnext
            clear hnext
            have hc2 : ¬ (k : Int) + 1 < W := by omega
            have hc3 : (l[k].1 == 2) = true := by simpa using fun h => hc (.inr h)
            clear hc
            go_wp2
            go_roundw
            case rel => exact ⟨k + 1, _, _, by omega, by omega, by go_num, hbel, hbl, hyl, hes, NX.out⟩
            case measure => simp [intOf]; omega
        · have e := HFIN.out k out TO.out (.inr (by omega))
          subst e
          go_wp2
          go_ret
          exact ⟨_, rfl, own_shut (rest := []) (by decide) (Nat.le_refl _) (by rw [List.append_nil]; exact hbl) (hes.mono (Keep.weaken fun b h => .inl h)) hol (by rw [List.append_nil, hyl, esz]) (Nat.le_refl _) (by simp only [maxLen]; omega), hbel⟩
      · have e := HFIN.out k out TO.out (.inl (by omega))
        subst e
        go_wp2
        go_ret
        exact ⟨_, rfl, own_shut (rest := []) (by decide) (Nat.le_refl _) (by rw [List.append_nil]; exact hbl) (hes.mono (Keep.weaken fun b h => .inl h)) hol (by rw [List.append_nil, hyl, esz]) (Nat.le_refl _) (by simp only [maxLen]; omega), hbel⟩
end Go.Proofs.YthjddpflcgcpiaaDoor
