import Derived.Test.YtdjpdllehhecpaaGreatDoorQ16
import Derived.Deep.CutBlock
import Derived.Deep.DeepCutAuto
import Derived.Deep.RegionHeld3
import Derived.Test.YtdjpdllehhecpaaGreatDoorQ10
import Derived.Test.YtdjpdllehhecpaaGreatDoorQ11
import Derived.Test.YtdjpdllehhecpaaGreatDoorQ04
open List renaming getElem?_toArray → zA, getElem?_cons_succ → zB, getElem?_cons_zero → zC, setIfInBounds_toArray → zD, set_cons_zero → zE, set_cons_succ → zF
namespace Go.Proofs.YtdjpdllehhecpaaGreatDoor
open Go.RowKit
set_option linter.unusedVariables false
set_option linter.unusedSimpArgs false
end Go.Proofs.YtdjpdllehhecpaaGreatDoor
namespace Go.Proofs.YtdjpdllehhecpaaGreatDoor
open Go.RowKit
set_option linter.unusedVariables false
set_option linter.unusedSimpArgs false
def isSp (l : List CellV) (col : Nat) : Prop := (l.getD col (0, [])).1 = 3
instance (l : List CellV) (col : Nat) : Decidable (isSp l col) := inferInstanceAs (Decidable (_ = _))
theorem Own2.gb {α : Type} {R : Rep α} {e t : TypeId} {T : List TypeId} {base g : Nat} {cs : Array Value} {w w' : World} {v : Value} {l : List α} (h : Own2 R e T base 0 w v l) (hg : w.grownBy w' (some g)) (hb : Blk w g t cs) (ht : t ∉ T) (hne : ∀ k, v.ownBlock = some k → k ≠ g) : Own2 R e T base 0 w' v l := by
  obtain ⟨hbb, hT, xs, ⟨hx, hown⟩, hels⟩ := h
  refine ⟨hbb, hT, xs, ⟨hx, ?_⟩, hels.mono (Keep.step (es := [t]) (Step.of_gb hg (Nat.zero_le _) hb (by simp)) (fun t' h1 h2 => by simp at h2; subst h2; exact ht h1))⟩
  rcases hown with hn | ⟨k, cap, cur, rfl, hbk, hk, rest⟩
  · exact .inl hn
  · refine .inr ⟨k, cap, cur, rfl, hbk, ?_, rest⟩
    rw [hg.block k (Array.getElem?_eq_some_iff.1 hk).1 (by intro e; injection e with e; exact hne k rfl e)]
    exact hk
theorem RowIs.gb {base g : Nat} {t : TypeId} {cs : Array Value} {w w' : World} {v : Value} {l : List CellV} {wrap : Bool} (h : RowIs base w v l wrap) (hg : w.grownBy w' (some g)) (hb : Blk w g t cs) (ht : t ≠ 21) (hgb : g < base) : RowIs base w' v l wrap := by
  obtain ⟨g1, s, rfl, h1, h2, h3⟩ := h
  refine ⟨g1, s, rfl, h1, h2.grown hg (by intro e; injection e with e; omega), h3.gb hg hb (by simpa using ht) (fun k hk e => ?_)⟩
  obtain ⟨_, _, xs, hown, _⟩ := h3
  have := (own_bears hown k hk).1
  omega
end Go.Proofs.YtdjpdllehhecpaaGreatDoor
namespace Go.Proofs.YtdjpdllehhecpaaGreatDoor
open Go.RowKit
set_option linter.unusedVariables false
set_option linter.unusedSimpArgs false
abbrev ItemV : Type := Int × List Int
def textF (l : List CellV) : List Int := l.flatMap (·.2)
def usedF (l : List CellV) : Nat := (l.reverse.dropWhile (fun c => decide (c.1 = 0))).length
theorem used_snoc (l : List CellV) (c : CellV) : usedF (l ++ [c]) = if c.1 = 0 then usedF l else l.length + 1 := by
  unfold usedF
  rw [List.reverse_append, List.reverse_singleton, List.singleton_append, List.dropWhile_cons]
  by_cases h : c.1 = 0
  · simp [h]
  · simp [h]
theorem used_take (l : List CellV) (k : Nat) (h : k < l.length) : usedF (l.take (k + 1)) = if l[k].1 = 0 then usedF (l.take k) else k + 1 := by
  rw [take_snoc' l k h, used_snoc, List.length_take, Nat.min_eq_left (by omega)]
end Go.Proofs.YtdjpdllehhecpaaGreatDoor
namespace Go.Proofs.YtdjpdllehhecpaaGreatDoor
open Go.RowKit
set_option linter.unusedVariables false
set_option linter.unusedSimpArgs false
theorem textF_app (a b : List CellV) : textF (a ++ b) = textF a ++ textF b := by unfold textF; simp
theorem textF_strip {n : Nat} (hn : n = 1 ∨ n = 2) (t : List Int) : textF (stripF n t) = t := by rcases hn with rfl | rfl <;> simp [textF, stripF]
theorem textF_blank (n : Nat) : textF (blankL n) = [] := by
  unfold textF blankL
  induction n with
  | zero => rfl
  | succ n ih => rw [List.replicate_succ, List.flatMap_cons, ih]; rfl
theorem textF_pad (W : Nat) (l : List CellV) : textF (padL W l) = textF l := by unfold padL; rw [textF_app, textF_blank, List.append_nil]
structure FitV where
  out : List (List Int)
  line : List Int
  room : Nat
def fitN (W : Nat) (s : FitV) (n : Nat) (c : List Int) : FitV := if s.room < n then ⟨s.out ++ [s.line], c, W - n⟩ else ⟨s.out, s.line ++ c, s.room - n⟩
def fitF (W : Nat) (P : Int → PropV) (cs : List (List Int)) : FitV := cs.foldl (fun s c => fitN W s (widthF P c) c) ⟨[], [], W⟩
theorem fit_snoc (W : Nat) (P : Int → PropV) (cs : List (List Int)) (c : List Int) : fitF W P (cs ++ [c]) = fitN W (fitF W P cs) (widthF P c) c := by unfold fitF; rw [List.foldl_append]; rfl
def linesF (W : Nat) (P : Int → PropV) (cs : List (List Int)) : List (List Int) := (fitF W P cs).out ++ [(fitF W P cs).line]
theorem fit_lay (W : Nat) (P : Int → PropV) (cs : List (List Int)) : fitF W P cs = ⟨(layF W P cs).out.map textF, textF (layF W P cs).cur, W - (layF W P cs).cur.length⟩ := by
  refine snocInd (p := fun cs => fitF W P cs = ⟨(layF W P cs).out.map textF, textF (layF W P cs).cur, W - (layF W P cs).cur.length⟩) ?_ ?_ cs
  · rfl
  · intro cs c ih
    have hn := widthF_or P c
    rw [fit_snoc, lay_snoc, ih]
    unfold fitN putL
    simp only
    split
    · simp only [List.map_append, List.map_cons, List.map_nil, textF_pad, textF_strip hn, strip_len hn]
    · simp only [textF_app, textF_strip hn, List.length_append, strip_len hn, Nat.sub_add_eq]
theorem lines_len (W : Nat) (P : Int → PropV) (cs : List (List Int)) : (linesF W P cs).length = (layF W P cs).out.length + 1 := by
  unfold linesF; rw [fit_lay]; simp
theorem out_le (W : Nat) (P : Int → PropV) (cs : List (List Int)) : (layF W P cs).out.length ≤ cs.length := by
  refine snocInd (p := fun cs => (layF W P cs).out.length ≤ cs.length) ?_ ?_ cs
  · exact Nat.le_refl _
  · intro cs c ih
    rw [lay_snoc]
    have := (put_out_le W (layF W P cs) (widthF P c) c).2
    simp only [List.length_append, List.length_singleton]
    omega
theorem lay_text (W : Nat) (P : Int → PropV) (cs : List (List Int)) : ((layF W P cs).out.map textF).flatten ++ textF (layF W P cs).cur = cs.flatten := by
  refine snocInd (p := fun cs => ((layF W P cs).out.map textF).flatten ++ textF (layF W P cs).cur = cs.flatten) ?_ ?_ cs
  · rfl
  · intro cs c ih
    have hn := widthF_or P c
    rw [lay_snoc, List.flatten_append, ← ih]
    unfold putL
    split
    · simp [textF_pad, textF_strip hn]
    · simp [textF_app, textF_strip hn]
def rdC (c : CellV) : List Int := if c.1 = 0 then [32] else if c.1 = 1 ∨ c.1 = 2 then c.2 else []
def readC (l : List CellV) : List Int := l.flatMap rdC
def innerC (l : List CellV) : List CellV := if (l.getD (l.length - 1) (1, [])).1 = 0 then l.take (l.length - 1) else l
def outerC (l : List CellV) : List CellV := l.take (usedF l)
def longR : List LineV → List Int → List (List Int)
  | [], _ => []
  | l :: ls, text => if l.2 = true ∧ ls ≠ [] then longR ls (text ++ readC (innerC l.1)) else (text ++ readC (outerC l.1)) :: longR ls []
def joinR : List (List Int) → List Int
  | [] => []
  | [x] => x
  | x :: l => x ++ 10 :: joinR l
def someR (l : List (List Int)) : List (List Int) := (l.reverse.dropWhile (fun x => decide (x = []))).reverse
def textR (ls : List LineV) : List Int := joinR (someR (longR ls []))
theorem readC_app (a b : List CellV) : readC (a ++ b) = readC a ++ readC b := by unfold readC; simp
theorem read_strips {l : List CellV} (h : Strips l) : readC l = textF l := by
  obtain ⟨q, hq, rfl⟩ := h
  induction q with
  | nil => rfl
  | cons x q ih =>
    rw [List.flatMap_cons, readC_app, textF_app, ih (fun y hy => hq y (List.mem_cons.2 (.inr hy)))]
    congr 1
    rcases (hq x (List.mem_cons.2 (.inl rfl))).1 with e | e <;> rw [e] <;> simp [stripF, readC, textF, rdC]
theorem strips_last {l : List CellV} (h : Strips l) (h0 : l ≠ []) : ∃ m c, l = m ++ [c] ∧ c.1 ≠ 0 := by
  obtain ⟨q, hq, rfl⟩ := h
  rcases List.eq_nil_or_concat q with rfl | ⟨q', x, rfl⟩
  · exact (h0 rfl).elim
  · have hx := (hq x (by simp)).1
    have ex : List.flatMap (fun x => stripF x.1 x.2) (q'.concat x) = q'.flatMap (fun x => stripF x.1 x.2) ++ stripF x.1 x.2 := by
      rw [List.concat_eq_append, List.flatMap_append]; simp
    rw [ex]
    rcases hx with e | e
    · exact ⟨_, (1, x.2), by rw [e]; rfl, by simp⟩
    · exact ⟨(q'.flatMap fun x => stripF x.1 x.2) ++ [(2, x.2)], (3, []), by rw [e, List.append_assoc]; rfl, by simp⟩
theorem used_strips {l : List CellV} (h : Strips l) : usedF l = l.length := by
  by_cases h0 : l = []
  · subst h0; rfl
  · obtain ⟨m, c, rfl, hc⟩ := strips_last h h0
    rw [used_snoc, if_neg hc]; simp
theorem used_blanks {l : List CellV} (h : Strips l) (n : Nat) : usedF (l ++ blankL n) = l.length := by
  unfold blankL
  induction n with
  | zero => simpa using used_strips h
  | succ n ih => rw [List.replicate_succ', ← List.append_assoc, used_snoc, if_pos rfl, ih]
theorem outer_strips {l : List CellV} (h : Strips l) (n : Nat) : readC (outerC (l ++ blankL n)) = textF l := by
  unfold outerC
  rw [used_blanks h, List.take_left', read_strips h]
  rfl
theorem inner_full {W : Nat} (hW : 2 ≤ W) {l : List CellV} (h : FullR W l) : readC (innerC l) = textF l := by
  obtain ⟨hl, s, k, hs, hk, rfl⟩ := h
  rcases (by omega : k = 0 ∨ k = 1) with rfl | rfl
  · have e : s ++ blankL 0 = s := by simp [blankL]
    rw [e] at hl ⊢
    obtain ⟨m, c, e2, hc⟩ := strips_last hs (by intro e; rw [e] at hl; simp at hl; omega)
    have : innerC s = s := by
      unfold innerC
      rw [if_neg]
      rw [e2]
      simpa using hc
    rw [this, read_strips hs]
  · have : innerC (s ++ blankL 1) = s := by
      unfold innerC
      rw [if_pos (by simp [blankL])]
      simp [blankL]
    rw [this, read_strips hs, textF_app, textF_blank, List.append_nil]
theorem long_full {W : Nat} (hW : 2 ≤ W) : ∀ (out : List (List CellV)) (rest : List LineV) (text : List Int), rest ≠ [] → (∀ l ∈ out, FullR W l) → longR (out.map (fun l => (l, true)) ++ rest) text = longR rest (text ++ (out.map textF).flatten)
  | [], rest, text, _, _ => by simp
  | l :: out, rest, text, hr, h => by
    rw [List.map_cons, List.cons_append, longR, if_pos ⟨rfl, by simp [hr]⟩, inner_full hW (h l (List.mem_cons.2 (.inl rfl))), long_full hW out rest _ hr (fun x hx => h x (List.mem_cons.2 (.inr hx)))]
    simp
theorem long_blanks (W : Nat) : ∀ n : Nat, longR (List.replicate n ((blankL W, false) : LineV)) [] = List.replicate n []
  | 0 => rfl
  | n + 1 => by
    rw [List.replicate_succ, longR, if_neg (by simp), long_blanks W n, List.replicate_succ]
    have := outer_strips Strips.nil_ W
    rw [List.nil_append] at this
    rw [this]; rfl
theorem some_blanks (x : List Int) : ∀ n : Nat, someR (x :: List.replicate n []) = if x = [] then [] else [x] := by
  intro n
  unfold someR
  rw [List.reverse_cons, List.reverse_replicate]
  have : ∀ n : Nat, List.dropWhile (fun x : List Int => decide (x = [])) (List.replicate n [] ++ [x]) = if x = [] then [] else [x] := by
    intro n
    induction n with
    | zero => by_cases h : x = [] <;> simp [h]
    | succ n ih => rw [List.replicate_succ, List.cons_append, List.dropWhile_cons_of_pos (by simp), ih]
  rw [this]
  split <;> rfl
theorem text_rows {W h : Nat} (hW : 2 ≤ W) {s : LayV} (hs : LayOk W s) : textR (rowsL W h s) = (s.out.map textF).flatten ++ textF s.cur := by
  unfold textR rowsL
  rw [long_full hW _ _ _ (by simp) hs.out, longR, if_neg (by simp), long_blanks]
  unfold padL
  rw [outer_strips hs.cur, some_blanks, List.nil_append]
  split
  · rename_i h; rw [h]; rfl
  · rfl
theorem sound_strip {n : Nat} (hn : n = 1 ∨ n = 2) {t : List Int} (ht : TxOk t) (l : List CellV) : soundG false (stripF n t ++ l) = soundG false l := by
  have hv : t.all validB = true := List.all_eq_true.2 ht.2.2
  have h0 : 0 < t.length := List.length_pos_iff.2 ht.1
  have h2 := ht.2.1
  rcases hn with rfl | rfl
  · show soundG false ((1, t) :: l) = _
    rw [soundG]
    simp [rightB, hv, h0, h2]
  · show soundG false ((2, t) :: (3, []) :: l) = _
    rw [soundG, soundG]
    simp [rightB, hv, h0, h2]
theorem sound_blanks : ∀ n : Nat, soundG false (blankL n) = true
  | 0 => rfl
  | n + 1 => by
    have : blankL (n + 1) = (0, []) :: blankL n := List.replicate_succ
    rw [this, soundG]
    simpa [rightB] using sound_blanks n
theorem sound_strips {l : List CellV} (h : Strips l) (n : Nat) : soundB (l ++ blankL n) = true := by
  obtain ⟨q, hq, rfl⟩ := h
  unfold soundB
  induction q with
  | nil => exact sound_blanks n
  | cons x q ih =>
    obtain ⟨h1, h2⟩ := hq x (List.mem_cons.2 (.inl rfl))
    rw [List.flatMap_cons, List.append_assoc, sound_strip h1 h2]
    exact ih (fun y hy => hq y (List.mem_cons.2 (.inr hy)))
theorem rows_sound {W h : Nat} {s : LayV} (hs : LayOk W s) : ∀ l ∈ rowsL W h s, l.1.length = W ∧ soundB l.1 = true := by
  intro l hl
  unfold rowsL at hl
  rcases List.mem_append.1 hl with hl | hl
  · obtain ⟨x, hx, rfl⟩ := List.mem_map.1 hl
    obtain ⟨h1, s, k, h2, _, rfl⟩ := hs.out x hx
    exact ⟨h1, sound_strips h2 k⟩
  · rcases List.mem_cons.1 hl with rfl | hl
    · exact ⟨padL_len hs.len, sound_strips hs.cur _⟩
    · obtain ⟨_, rfl⟩ := List.mem_replicate.1 hl
      exact ⟨by simp [blankL], by have := sound_strips Strips.nil_ W; simpa using this⟩
theorem rows_line (W h : Nat) (P : Int → PropV) (cs : List (List Int)) {i : Nat} (hi : i < (linesF W P cs).length) :
    ∃ x, (rowsL W h (layF W P cs))[i]? = some x ∧ (linesF W P cs)[i]? = some (textF x.1) ∧ x.2 = decide (i + 1 < (linesF W P cs).length) := by
  have e := lines_len W P cs
  rw [e] at hi
  have ef : linesF W P cs = (layF W P cs).out.map textF ++ [textF (layF W P cs).cur] := by unfold linesF; rw [fit_lay]
  rw [e, ef]
  unfold rowsL
  by_cases h : i < (layF W P cs).out.length
  · refine ⟨((layF W P cs).out[i], true), ?_, ?_, by simp; omega⟩
    · rw [List.getElem?_append_left (by simpa using h), List.getElem?_map, List.getElem?_eq_getElem h]; rfl
    · rw [List.getElem?_append_left (by simpa using h), List.getElem?_map, List.getElem?_eq_getElem h]; rfl
  · obtain rfl : i = (layF W P cs).out.length := by omega
    refine ⟨(padL W (layF W P cs).cur, false), ?_, ?_, by simp⟩
    · rw [List.getElem?_append_right (by simp)]; simp
    · rw [List.getElem?_append_right (by simp)]; simp [textF_pad]
end Go.Proofs.YtdjpdllehhecpaaGreatDoor
namespace Go.Proofs.YtdjpdllehhecpaaGreatDoor
open Go.RowKit
set_option linter.unusedVariables false
set_option linter.unusedSimpArgs false
structure ClusV where
  done : List (List Int)
  cur : List Int
  seg : SegV
def cl0 : ClusV := ⟨[], [], seg0⟩
def clN (P : Int → PropV) (s : ClusV) (r : Int) : ClusV :=
  if joinsF s.seg (P r) = true ∨ s.cur = [] then ⟨s.done, s.cur ++ [r], segN s.seg (P r)⟩ else ⟨s.done ++ [s.cur], [r], segN s.seg (P r)⟩
def clL (P : Int → PropV) (s : ClusV) (l : List Int) : ClusV := l.foldl (clN P) s
def clusOf (s : ClusV) : List (List Int) := if s.cur = [] then s.done else s.done ++ [s.cur]
theorem clL_app (P : Int → PropV) (s : ClusV) (a b : List Int) : clL P s (a ++ b) = clL P (clL P s a) b := by unfold clL; rw [List.foldl_append]
theorem clL_snoc (P : Int → PropV) (s : ClusV) (a : List Int) (r : Int) : clL P s (a ++ [r]) = clN P (clL P s a) r := by rw [clL_app]; rfl
theorem cl_cut (P : Int → PropV) : ∀ (l : List Int) (s : ClusV), clusOf (clL P s l) = s.done ++ cutS P s.seg s.cur l
  | [], s => by
    show clusOf s = _
    unfold clusOf
    rw [cutS]
    split <;> simp
  | r :: l, s => by
    show clusOf (clL P (clN P s r) l) = _
    rw [cl_cut P l, cutS]
    unfold clN
    split <;> simp
theorem cl_clus (P : Int → PropV) (l : List Int) : clusOf (clL P cl0 l) = clusF' P l := by rw [cl_cut]; rfl
theorem clN_cur (P : Int → PropV) (s : ClusV) (r : Int) : (clN P s r).cur ≠ [] := by unfold clN; split <;> simp
theorem clN_seg (P : Int → PropV) (s : ClusV) (r : Int) : (clN P s r).seg = segN s.seg (P r) := by unfold clN; split <;> rfl
def Short (s : ClusV) : Prop := ∀ c ∈ clusOf s, c.length ≤ 16
theorem short_step {P : Int → PropV} {s : ClusV} {r : Int} (h : Short (clN P s r)) : Short s := by
  intro c hc
  unfold clusOf at hc
  unfold Short clusOf clN at h
  split at hc
  · split at h
    · simp only at h
      rw [if_neg (by simp)] at h
      exact h c (List.mem_append.2 (.inl hc))
    · rename_i h1 h2
      exact (h2 (.inr h1)).elim
  · split at h
    · simp only at h
      rw [if_neg (by simp)] at h
      rcases List.mem_append.1 hc with hc | hc
      · exact h c (List.mem_append.2 (.inl hc))
      · rw [List.mem_singleton] at hc
        subst hc
        have := h (s.cur ++ [r]) (by simp)
        simp at this
        omega
    · simp only at h
      rw [if_neg (by simp)] at h
      exact h c (List.mem_append.2 (.inl hc))
theorem short_back {P : Int → PropV} : ∀ (l : List Int) {s : ClusV}, Short (clL P s l) → Short s
  | [], s, h => h
  | r :: l, s, h => short_step (short_back l (s := clN P s r) h)
def outN (W : Nat) (P : Int → PropV) (s : ClusV) : Nat := (layF W P (clusOf s)).out.length
theorem out_step (W : Nat) (P : Int → PropV) (s : ClusV) (r : Int) : outN W P s ≤ outN W P (clN P s r) := by
  unfold outN clusOf clN
  by_cases h : joinsF s.seg (P r) = true ∨ s.cur = []
  · rw [if_pos h]
    simp only
    rw [if_neg (c := s.cur ++ [r] = []) (by simp)]
    split
    · exact lay_mono W P _ _
    · rw [lay_snoc, lay_snoc]
      exact put_mono W _ (width_mono P _ _) _ _
  · rw [if_neg h]
    simp only
    rw [if_neg (c := [r] = []) (by simp), if_neg (fun e => h (.inr e))]
    exact lay_mono W P _ _
theorem out_back (W : Nat) (P : Int → PropV) : ∀ (l : List Int) (s : ClusV), outN W P s ≤ outN W P (clL P s l)
  | [], s => Nat.le_refl _
  | r :: l, s => Nat.le_trans (out_step W P s r) (out_back W P l (clN P s r))
theorem cl_flat (P : Int → PropV) (l : List Int) : (clusOf (clL P cl0 l)).flatten = l := by
  rw [cl_clus]
  unfold clusF'
  rw [cut_join]; rfl
theorem cl_ones (P : Int → PropV) (hP : ∀ r, TblP (P r)) (l : List Int) : ∀ c ∈ clusOf (clL P cl0 l), OneC P c := by
  rw [cl_clus]
  exact cut_ones P hP l seg0 [] (.inl ⟨rfl, rfl⟩)
theorem cl_txok {P : Int → PropV} (hP : ∀ r, TblP (P r)) {l : List Int} (hv : ∀ r ∈ l, validB r = true) (h : Short (clL P cl0 l)) : ∀ c ∈ clusOf (clL P cl0 l), TxOk c := by
  intro c hc
  refine ⟨?_, h c hc, fun r hr => hv r ?_⟩
  · obtain ⟨x, t, rfl, _⟩ := cl_ones P hP l c hc
    simp
  · rw [← cl_flat P l]
    exact List.mem_flatten.2 ⟨c, hc, hr⟩
end Go.Proofs.YtdjpdllehhecpaaGreatDoor
namespace Go.Proofs.YtdjpdllehhecpaaGreatDoor
open Go.RowKit
set_option linter.unusedVariables false
set_option linter.unusedSimpArgs false
def rowAt (rows : List LineV) (r : Nat) : List CellV := (rows.getD r ([], false)).1
def pen1 (p : PenV) : PenV := if p.pd = true then goOnP p else p
theorem roomP_eq (W n : Nat) (p : PenV) : roomP W n p = roomQ W n (pen1 p) := rfl
structure PutOk (W h n : Nat) (p : PenV) : Prop where
  pd : p.pd = true → p.r + 1 < h
  edge : ¬ (n = 1 ∨ (pen1 p).c < W - 1) → (pen1 p).r + 1 < h ∧ kindI (rowAt (pen1 p).rows (pen1 p).r) ((W - 1 : Nat) : Int) ≠ 3
  row : (roomP W n p).r < h
  fit : (roomP W n p).c + n ≤ W
  k0 : kindI (rowAt (roomP W n p).rows (roomP W n p).r) ((roomP W n p).c : Int) ≠ 3
  k1 : kindI (rowAt (roomP W n p).rows (roomP W n p).r) (((roomP W n p).c + n : Nat) : Int) ≠ 3
theorem kind_blanks (l : List CellV) (k j : Nat) (hj : l.length ≤ j) : kindI (l ++ blankL k) (j : Int) = 0 := by
  unfold kindI
  rw [if_pos (by omega), Int.toNat_natCast, List.getElem?_append_right hj]
  unfold blankL
  rw [List.getElem?_replicate]
  split <;> rfl
theorem kind_pad {W : Nat} (l : List CellV) (j : Nat) (hj : l.length ≤ j) : kindI (padL W l) (j : Int) = 0 := kind_blanks l _ j hj
theorem kind_at (l m : List CellV) (x : CellV) : kindI (l ++ x :: m) (l.length : Int) = x.1 := by
  unfold kindI
  rw [if_pos (by omega), Int.toNat_natCast, List.getElem?_append_right (Nat.le_refl _)]
  simp
theorem rowAt_cur (W h : Nat) (s : LayV) : rowAt (rowsL W h s) s.out.length = padL W s.cur := by
  unfold rowAt rowsL
  simp
theorem begin_putok {W h : Nat} {s : LayV} (hs : s.cur.length ≤ W) (hW : 2 ≤ W) {n : Nat} (hn : n = 1 ∨ n = 2) (t : List Int) (hh : (putL W s n t).out.length < h) :
    PutOk W h n (penOf (rowsL W h s) (curL W s)) := by
  rw [put_room] at hh
  have hh : (roomL W s n).out.length < h := hh
  have hl := room_len hs hW hn
  have hrm := room_begin hs hW hn hh
  have hpd : (penOf (rowsL W h s) (curL W s)).pd = true → s.cur.length = W := fun e => by
    have e : decide (s.cur.length = W) = true := e
    simpa using e
  have hout : s.cur.length = W → (roomL W s n).out.length = s.out.length + 1 := fun e => by
    unfold roomL; rw [if_pos (by omega)]; simp
  refine ⟨fun e => ?_, fun e => ?_, ?_, ?_, ?_, ?_⟩
  · have := hout (hpd e)
    show s.out.length + 1 < h
    omega
  · by_cases hp : (penOf (rowsL W h s) (curL W s)).pd = true
    · have e1 : pen1 (penOf (rowsL W h s) (curL W s)) = penOf (rowsL W h ⟨s.out ++ [padL W s.cur], []⟩) (s.out.length + 1, 0, false) := by
        unfold pen1
        rw [if_pos hp]
        exact rows_new (by have := hout (hpd hp); omega) _ _ _ rfl
      rw [e1] at e
      exact (e (.inr (show 0 < W - 1 by omega))).elim
    · have e1 : pen1 (penOf (rowsL W h s) (curL W s)) = penOf (rowsL W h s) (curL W s) := by unfold pen1; rw [if_neg hp]
      have hne : s.cur.length ≠ W := fun e => hp (by show decide (s.cur.length = W) = true; simpa using e)
      rw [e1] at e ⊢
      have hc : (penOf (rowsL W h s) (curL W s)).c = s.cur.length := by show min s.cur.length (W - 1) = _; omega
      rw [hc] at e
      have ho : (roomL W s n).out.length = s.out.length + 1 := by unfold roomL; rw [if_pos (by omega)]; simp
      refine ⟨by show s.out.length + 1 < h; omega, ?_⟩
      show kindI (rowAt (rowsL W h s) s.out.length) _ ≠ 3
      rw [rowAt_cur, kind_pad _ _ (by omega)]
      decide
  · rw [hrm]; exact hh
  · rw [hrm]; exact hl
  · rw [hrm]
    show kindI (rowAt (rowsL W h (roomL W s n)) (roomL W s n).out.length) ((roomL W s n).cur.length : Int) ≠ 3
    rw [rowAt_cur, kind_pad _ _ (Nat.le_refl _)]
    decide
  · rw [hrm]
    show kindI (rowAt (rowsL W h (roomL W s n)) (roomL W s n).out.length) (((roomL W s n).cur.length + n : Nat) : Int) ≠ 3
    rw [rowAt_cur, kind_pad _ _ (Nat.le_add_right _ _)]
    decide
theorem widen_putok {W h : Nat} {s : LayV} (hs : s.cur.length ≤ W) (hW : 2 ≤ W) (t u : List Int) (hh : (putL W s 2 u).out.length < h) :
    PutOk W h 2 (penOf (rowsL W h (putL W s 1 t)) ((putL W s 1 t).out.length, (putL W s 1 t).cur.length - 1, false)) := by
  have hl1 := room_len (n := 1) hs hW (.inl rfl)
  have hl2 := room_len (n := 2) hs hW (.inr rfl)
  have e1 : putL W s 1 t = ⟨(roomL W s 1).out, (roomL W s 1).cur ++ [(1, t)]⟩ := put_room W s 1 t
  rw [put_room] at hh
  have hh : (roomL W s 2).out.length < h := hh
  obtain ⟨p, hp⟩ : ∃ p, penOf (rowsL W h (putL W s 1 t)) ((putL W s 1 t).out.length, (putL W s 1 t).cur.length - 1, false) = p := ⟨_, rfl⟩
  have hp1 : pen1 p = p := by rw [← hp]; rfl
  have hrow : p.r = (roomL W s 1).out.length := by rw [← hp, e1]; rfl
  have hcol : p.c = (roomL W s 1).cur.length := by rw [← hp, e1]; simp [penOf]
  have hrs : rowAt p.rows p.r = (roomL W s 1).cur ++ (1, t) :: blankL (W - (roomL W s 1).cur.length - 1) := by
    have : rowAt p.rows p.r = padL W (putL W s 1 t).cur := by
      rw [← hp]
      exact rowAt_cur W h (putL W s 1 t)
    rw [this, e1]
    unfold padL
    simp only [List.append_assoc, List.length_append, List.length_singleton, List.singleton_append, Nat.sub_add_eq]
  have kk : kindI (rowAt p.rows p.r) ((roomL W s 1).cur.length : Int) = 1 := by rw [hrs]; exact kind_at _ _ _
  rw [hp]
  by_cases hr : (roomL W s 1).cur.length + 2 ≤ W
  · have hq : roomP W 2 p = p := by
      rw [roomP_eq, hp1]
      unfold roomQ
      rw [if_pos (.inr (by omega))]
    have er : roomL W s 2 = roomL W s 1 := by
      unfold roomL at hr ⊢
      split at hr
      · rw [if_pos (by omega), if_pos (by omega)]
      · rw [if_neg (by omega), if_neg (by omega)]
    rw [er] at hh
    refine ⟨fun e => ?_, fun e => ?_, ?_, ?_, ?_, ?_⟩
    · rw [← hp] at e; cases e
    · rw [hp1] at e; omega
    · rw [hq, hrow]; exact hh
    · rw [hq, hcol]; exact hr
    · rw [hq, hcol, kk]; decide
    · rw [hq, hcol, hrs]
      have : (roomL W s 1).cur ++ ((1, t) : CellV) :: blankL (W - (roomL W s 1).cur.length - 1) = ((roomL W s 1).cur ++ [(1, t)]) ++ blankL (W - (roomL W s 1).cur.length - 1) := by simp
      rw [this, kind_blanks _ _ _ (by simp)]
      decide
  · have hc : (roomL W s 1).cur.length = W - 1 := by omega
    have er1 : roomL W s 1 = s := by
      unfold roomL at hc ⊢
      split at hc
      · simp at hc; omega
      · rw [if_neg (by omega)]
    have er2 : roomL W s 2 = ⟨s.out ++ [padL W s.cur], []⟩ := by
      unfold roomL; rw [er1] at hc; rw [if_pos (by omega)]
    rw [er2] at hh
    simp only [List.length_append, List.length_singleton] at hh
    have hq : roomP W 2 p = penOf (rowsL W h ⟨s.out ++ [padL W s.cur], []⟩) (s.out.length + 1, 0, false) := by
      rw [roomP_eq, hp1]
      unfold roomQ
      rw [if_neg (by omega)]
      have e : updR p.rows p.r (paintL (W - 1) [(0, [])]) = s.out.map (fun l => (l, true)) ++ (padL W s.cur, false) :: List.replicate (h - s.out.length - 1) (blankL W, false) := by
        rw [← hp, e1, er1]
        show updR (rowsL W h _) s.out.length _ = _
        unfold rowsL
        rw [updR_at (by simp)]
        congr 2
        unfold paintL padL
        simp only [ite_self, Prod.mk.injEq, and_true]
        rw [er1] at hc
        have e4 : W - (s.cur ++ [((1, t) : CellV)]).length = 0 := by simp; omega
        have e5 : W - s.cur.length = 1 := by omega
        rw [e4, e5, ← hc]
        simp [blankL]
      rw [e]
      exact rows_new hh _ _ _ (by rw [hrow, er1])
    refine ⟨fun e => ?_, fun e => ?_, ?_, ?_, ?_, ?_⟩
    · rw [← hp] at e; cases e
    · rw [hp1]
      refine ⟨by rw [hrow, er1]; omega, ?_⟩
      rw [← hc, kk]; decide
    · rw [hq]; exact hh
    · rw [hq]; show 0 + 2 ≤ W; omega
    · rw [hq]
      have : rowAt (rowsL W h ⟨s.out ++ [padL W s.cur], []⟩) (s.out ++ [padL W s.cur]).length = padL W [] := rowAt_cur W h _
      rw [List.length_append, List.length_singleton] at this
      show kindI (rowAt (rowsL W h ⟨s.out ++ [padL W s.cur], []⟩) (s.out.length + 1)) ((0 : Nat) : Int) ≠ 3
      rw [this, kind_pad _ _ (by simp)]
      decide
    · rw [hq]
      have : rowAt (rowsL W h ⟨s.out ++ [padL W s.cur], []⟩) (s.out ++ [padL W s.cur]).length = padL W [] := rowAt_cur W h _
      rw [List.length_append, List.length_singleton] at this
      show kindI (rowAt (rowsL W h ⟨s.out ++ [padL W s.cur], []⟩) (s.out.length + 1)) ((0 + 2 : Nat) : Int) ≠ 3
      rw [this, kind_pad _ _ (by simp)]
      decide
theorem put_cells {W h : Nat} {s : LayV} (hs : s.cur.length ≤ W) (hW : 2 ≤ W) {n : Nat} (hn : n = 1 ∨ n = 2) (t : List Int) :
    ∃ a b, rowAt (rowsL W h (putL W s n t)) (putL W s n t).out.length = a ++ stripF n t ++ b ∧ a.length = (putL W s n t).cur.length - n ∧ (putL W s n t).cur.length ≤ W ∧ n ≤ (putL W s n t).cur.length ∧
      kindI (rowAt (rowsL W h (putL W s n t)) (putL W s n t).out.length) (((putL W s n t).cur.length : Nat) : Int) = 0 := by
  have hl := room_len hs hW hn
  rw [rowAt_cur, put_room]
  have hln : ((roomL W s n).cur ++ stripF n t).length = (roomL W s n).cur.length + n := by rw [List.length_append, strip_len hn]
  refine ⟨(roomL W s n).cur, blankL (W - ((roomL W s n).cur ++ stripF n t).length), rfl, ?_, ?_, ?_, ?_⟩
  · show _ = ((roomL W s n).cur ++ stripF n t).length - n
    omega
  · show ((roomL W s n).cur ++ stripF n t).length ≤ W
    omega
  · show n ≤ ((roomL W s n).cur ++ stripF n t).length
    omega
  · exact kind_pad _ _ (Nat.le_refl _)
theorem of_strip {n : Nat} (hn : n = 1 ∨ n = 2) {t : List Int} (ht : TxOk t) : ofF (n : Int) t = stripF n t := by
  have e : (t.take 16).map replF = t := by
    rw [List.take_of_length_le ht.2.1]
    have : ∀ r ∈ t, replF r = r := fun r hr => by unfold replF; rw [if_pos (ht.2.2 r hr)]
    have h2 := List.map_congr_left this
    rw [h2]; simp
  unfold ofF
  rw [if_neg (by have := List.length_pos_iff.2 ht.1; omega), e]
  rcases hn with rfl | rfl <;> rfl
theorem lay_begin (W : Nat) (P : Int → PropV) (s : ClusV) (r : Int) (h : joinsF s.seg (P r) = false ∨ s.cur = []) :
    layF W P (clusOf (clN P s r)) = putL W (layF W P (clusOf s)) (widthF P [r]) [r] ∧ (clN P s r).cur = [r] := by
  by_cases hc : s.cur = []
  · have e : clN P s r = ⟨s.done, [r], segN s.seg (P r)⟩ := by unfold clN; rw [if_pos (.inr hc), hc]; rfl
    rw [e]
    refine ⟨?_, rfl⟩
    have e1 : clusOf ⟨s.done, [r], segN s.seg (P r)⟩ = s.done ++ [[r]] := by unfold clusOf; rw [if_neg (by simp)]
    have e2 : clusOf s = s.done := by unfold clusOf; rw [if_pos hc]
    rw [e1, e2, lay_snoc]
  · have hj : joinsF s.seg (P r) = false := h.resolve_right hc
    have e : clN P s r = ⟨s.done ++ [s.cur], [r], segN s.seg (P r)⟩ := by unfold clN; rw [if_neg (by rintro (h | h); rw [hj] at h; cases h; exact hc h)]
    rw [e]
    refine ⟨?_, rfl⟩
    have e1 : clusOf ⟨s.done ++ [s.cur], [r], segN s.seg (P r)⟩ = (s.done ++ [s.cur]) ++ [[r]] := by unfold clusOf; rw [if_neg (by simp)]
    have e2 : clusOf s = s.done ++ [s.cur] := by unfold clusOf; rw [if_neg hc]
    rw [e1, e2, lay_snoc]
theorem lay_join (W : Nat) (P : Int → PropV) (s : ClusV) (r : Int) (h : joinsF s.seg (P r) = true) (hc : s.cur ≠ []) :
    layF W P (clusOf (clN P s r)) = putL W (layF W P s.done) (widthF P (s.cur ++ [r])) (s.cur ++ [r]) ∧ layF W P (clusOf s) = putL W (layF W P s.done) (widthF P s.cur) s.cur ∧ (clN P s r).cur = s.cur ++ [r] := by
  have e : clN P s r = ⟨s.done, s.cur ++ [r], segN s.seg (P r)⟩ := by unfold clN; rw [if_pos (.inl h)]
  have e1 : clusOf ⟨s.done, s.cur ++ [r], segN s.seg (P r)⟩ = s.done ++ [s.cur ++ [r]] := by unfold clusOf; rw [if_neg (by simp)]
  have e2 : clusOf s = s.done ++ [s.cur] := by unfold clusOf; rw [if_neg hc]
  rw [e, e1, e2, lay_snoc, lay_snoc]
  exact ⟨rfl, rfl, rfl⟩
end Go.Proofs.YtdjpdllehhecpaaGreatDoor
namespace Go.Proofs.YtdjpdllehhecpaaGreatDoor
open Go.RowKit
set_option linter.unusedVariables false
set_option linter.unusedSimpArgs false
def ptrB (b : Nat) : Value := .pointer (some ⟨b, 0, none⟩)
def RowQ (w : World) (b c : Nat) (l : List CellV) (wrap : Bool) : Prop :=
  ∃ cap xs rest, Blk w b 89 #[.slice (some ⟨c, 0, none⟩) l.length cap, .bool wrap] ∧ Blk w c 86 (xs ++ rest).toArray ∧ Els RCell (Typed 0 [21] w) w l xs ∧ (xs ++ rest).length = cap * RCell.sz ∧ l.length ≤ cap ∧ cap ≤ maxLen
section
variable {w w' : World} {b c base : Nat} {l : List CellV} {wrap : Bool} {v : Value} {S : Nat → Prop}
theorem RowQ.rowIs (h : RowQ w b c l wrap) : RowIs 0 w (ptrB b) l wrap := by
  obtain ⟨cap, xs, rest, h1, h2, h3, h4, h5, h6⟩ := h
  exact ⟨b, _, rfl, Nat.zero_le _, h1, own2_shut (Nat.le_refl _) (by decide) (Nat.zero_le _) h2 h3 rfl h4 h5 h6⟩
theorem RowIs.rowQ (h : RowIs base w v l wrap) (hl : 0 < l.length) : ∃ b c, v = ptrB b ∧ base ≤ b ∧ base ≤ c ∧ RowQ w b c l wrap := by
  obtain ⟨g, s, rfl, h1, h2, h3⟩ := h
  obtain ⟨c, cap, xs, rest, rfl, h4, h5, h6, h7, h8, h9, h10⟩ := own2_open h3 hl
  exact ⟨g, c, rfl, h1, h4, cap, xs, rest, h2, h5, h7, h8, h9, h10⟩
theorem RowQ.blk (h : RowQ w b c l wrap) : (∃ cs, Blk w b 89 cs) ∧ ∃ cs, Blk w c 86 cs := by
  obtain ⟨cap, xs, rest, h1, h2, _⟩ := h
  exact ⟨⟨_, h1⟩, _, h2⟩
theorem RowQ.lt (h : RowQ w b c l wrap) : b < w.heap.size ∧ c < w.heap.size := by
  obtain ⟨⟨_, h1⟩, _, h2⟩ := h.blk
  exact ⟨h1.lt, h2.lt⟩
theorem RowQ.chg (h : RowQ w b c l wrap) (hc : Chg S w w') (hb : ¬ S b) (hcc : ¬ S c) (hT : ∀ k, S k → ¬ Bears [21] w k) : RowQ w' b c l wrap := by
  obtain ⟨cap, xs, rest, h1, h2, h3, h4, h5, h6⟩ := h
  exact ⟨cap, xs, rest, hc.blk h1 hb, hc.blk h2 hcc, h3.mono (hc.keepT hT), h4, h5, h6⟩
theorem RowQ.below (h : RowQ w b c l wrap) (hb : Below w.heap.size w w') : RowQ w' b c l wrap :=
  h.chg (S := fun _ => False) (Chg.of_below hb) id id (fun _ e => e.elim)
end
structure GridQ (w : World) (g G : Nat) (db dc : Nat → Nat) (W : Nat) (rows : List LineV) : Prop where
  blk : ∃ cap rest, Blk w g 122 #[.slice (some ⟨G, 0, none⟩) rows.length cap] ∧ Blk w G 45 ((List.range rows.length).map (fun i => ptrB (db i)) ++ rest).toArray ∧ ((List.range rows.length).map (fun i => ptrB (db i)) ++ rest).length = cap ∧ rows.length ≤ cap ∧ cap ≤ maxLen
  row : ∀ i x, rows[i]? = some x → RowQ w (db i) (dc i) x.1 x.2 ∧ x.1.length = W
  neb : ∀ i j, i < rows.length → j < rows.length → db i = db j → i = j
  nec : ∀ i j, i < rows.length → j < rows.length → dc i = dc j → i = j
def rowsPs (db : Nat → Nat) (rows : List LineV) : List RowP := (List.range rows.length).map fun i => (ptrB (db i), rows.getD i ([], false))
theorem rowsPs_len (db : Nat → Nat) (rows : List LineV) : (rowsPs db rows).length = rows.length := by unfold rowsPs; simp
theorem rowsPs_at (db : Nat → Nat) (rows : List LineV) {i : Nat} (hi : i < (rowsPs db rows).length) : (rowsPs db rows)[i] = (ptrB (db i), rows[i]'(by rw [rowsPs_len] at hi; exact hi)) := by
  have hi2 := hi
  rw [rowsPs_len] at hi2
  unfold rowsPs
  simp [hi2]
theorem rowsPs_snd (db : Nat → Nat) (rows : List LineV) : (rowsPs db rows).map Prod.snd = rows := by
  apply List.ext_getElem
  · rw [List.length_map, rowsPs_len]
  · intro i h1 h2
    rw [List.getElem_map, rowsPs_at]
theorem rowsPs_fst (db : Nat → Nat) (rows : List LineV) : (rowsPs db rows).map Prod.fst = (List.range rows.length).map (fun i => ptrB (db i)) := by
  unfold rowsPs
  rw [List.map_map]
  rfl
section
variable {w w' : World} {g G W : Nat} {db dc : Nat → Nat} {rows : List LineV} {S : Nat → Prop}
theorem GridQ.gridP (h : GridQ w g G db dc W rows) : GridP 0 w (ptrB g) (rowsPs db rows) := by
  obtain ⟨⟨cap, rest, h1, h2, h3, h4, h5⟩, hr, hb, hc⟩ := h
  refine ⟨g, _, rfl, Nat.zero_le _, h1, ?_, fun p hp => ?_, ?_⟩
  · rw [rowsPs_fst]
    have hone : ∀ x ∈ (List.range rows.length).map (fun i => ptrB (db i)), x.oneCell' = true := fun x hx => by
      obtain ⟨i, _, rfl⟩ := List.mem_map.1 hx
      rfl
    exact lown_shut (by simp) (Nat.zero_le _) h2 (els_of_val _ hone) (by simp) (by rw [h3]; simp [RVal]) h4 h5
  · obtain ⟨i, hi, rfl⟩ := List.getElem_of_mem hp
    rw [rowsPs_at]
    rw [rowsPs_len] at hi
    exact (hr i rows[i] (List.getElem?_eq_getElem hi)).1.rowIs
  · rw [List.pairwise_iff_getElem]
    intro i j hi hj hij e
    rw [rowsPs_at, rowsPs_at] at e
    rw [rowsPs_len] at hi hj
    have e : ptrB (db i) = ptrB (db j) := e
    unfold ptrB at e
    injection e with e
    injection e with e
    injection e with e
    have := hb i j hi hj e
    omega
theorem GridQ.rowB (h : GridQ w g G db dc W rows) {i : Nat} (hi : i < rows.length) : (∃ cs, Blk w (db i) 89 cs) ∧ ∃ cs, Blk w (dc i) 86 cs :=
  (h.row i rows[i] (List.getElem?_eq_getElem hi)).1.blk
def Alien (T : List TypeId) (S : Nat → Prop) (w : World) : Prop := ∀ k, S k → ∃ t cs, Blk w k t cs ∧ t ∉ T
theorem Alien.one {T : List TypeId} {k : Nat} {t : TypeId} {cs : Array Value} (h : Blk w k t cs) (ht : t ∉ T) : Alien T (· = k) w := fun j hj => by subst hj; exact ⟨t, cs, h, ht⟩
theorem Alien.no {T : List TypeId} (h : Alien T S w) {k : Nat} {t : TypeId} {cs : Array Value} (hb : Blk w k t cs) (ht : t ∈ T) : ¬ S k := fun e => by
  obtain ⟨t', cs', hb', hn⟩ := h k e
  have := hb.typ hb'
  subst this
  exact hn ht
theorem GridQ.chg (h : GridQ w g G db dc W rows) (hc : Chg S w w') (hS : Alien [122, 45, 89, 86, 21] S w) : GridQ w' g G db dc W rows := by
  have hT : ∀ k, S k → ¬ Bears [21] w k := fun k hk => by
    obtain ⟨t, cs, hb, hn⟩ := hS k hk
    exact hb.bearsNo (fun e => hn (by simp at e; subst e; decide))
  obtain ⟨⟨cap, rest, h1, h2, h3⟩, hr, hb, hcc⟩ := h
  refine ⟨⟨cap, rest, hc.blk h1 (hS.no h1 (by decide)), hc.blk h2 (hS.no h2 (by decide)), h3⟩, fun i x hx => ?_, hb, hcc⟩
  obtain ⟨hq, hl⟩ := hr i x hx
  obtain ⟨⟨_, k1⟩, _, k2⟩ := hq.blk
  exact ⟨hq.chg hc (hS.no k1 (by decide)) (hS.no k2 (by decide)) hT, hl⟩
theorem GridQ.below (h : GridQ w g G db dc W rows) (hb : Below w.heap.size w w') : GridQ w' g G db dc W rows :=
  h.chg (S := fun _ => False) (Chg.of_below hb) (fun _ e => e.elim)
theorem GridQ.put (h : GridQ w g G db dc W rows) {r : Nat} (hr : r < rows.length) (hc : Chg (fun k => k = db r ∨ k = dc r) w w') {l : List CellV} {b : Bool} (hq : RowQ w' (db r) (dc r) l b) (hl : l.length = W) : GridQ w' g G db dc W (rows.set r (l, b)) := by
  have hrow := h.row r rows[r] (List.getElem?_eq_getElem hr)
  obtain ⟨⟨_, kb⟩, _, kc⟩ := hrow.1.blk
  have hT : ∀ k, (k = db r ∨ k = dc r) → ¬ Bears [21] w k := fun k hk => by
    rcases hk with rfl | rfl
    · exact kb.bearsNo (by decide)
    · exact kc.bearsNo (by decide)
  have no : ∀ {k : Nat} {t : TypeId} {cs : Array Value}, Blk w k t cs → t ≠ 89 → t ≠ 86 → ¬ (k = db r ∨ k = dc r) := fun hb h1 h2 e => by
    rcases e with rfl | rfl
    · exact h1 (hb.typ kb)
    · exact h2 (hb.typ kc)
  obtain ⟨⟨cap, rest, h1, h2, h3⟩, hrr, hb, hcc⟩ := h
  refine ⟨⟨cap, rest, ?_, ?_, ?_⟩, fun i x hx => ?_, ?_, ?_⟩
  · rw [List.length_set]; exact hc.blk h1 (no h1 (by decide) (by decide))
  · rw [List.length_set]; exact hc.blk h2 (no h2 (by decide) (by decide))
  · rw [List.length_set]; exact h3
  · rw [List.getElem?_set] at hx
    by_cases e : r = i
    · subst e
      rw [if_pos rfl, if_pos hr] at hx
      injection hx with hx
      subst hx
      exact ⟨hq, hl⟩
    · rw [if_neg e] at hx
      have hi : i < rows.length := (List.getElem?_eq_some_iff.1 hx).1
      obtain ⟨hq2, hl2⟩ := hrr i x hx
      obtain ⟨⟨_, k1⟩, _, k2⟩ := hq2.blk
      refine ⟨hq2.chg hc ?_ ?_ hT, hl2⟩
      · rintro (e2 | e2)
        · exact e (hb r i hr hi e2.symm)
        · rw [e2] at k1
          exact absurd (k1.typ kc) (by decide)
      · rintro (e2 | e2)
        · rw [e2] at k2
          exact absurd (k2.typ kb) (by decide)
        · exact e (hcc r i hr hi e2.symm)
  · rw [List.length_set]; exact hb
  · rw [List.length_set]; exact hcc
end
structure Ids where
  p : Nat
  g : Nat
  G : Nat
  db : Nat → Nat
  dc : Nat → Nat
  W : Nat
  h : Nat
def penC (g r c : Nat) (pd : Bool) : Array Value := #[ptrB g, .int .i64 r, .int .i64 c, .bool pd, .bool true]
structure PenQ (w : World) (I : Ids) (v : PenV) : Prop where
  blk : Blk w I.p 76 (penC I.g v.r v.c v.pd)
  grid : GridQ w I.g I.G I.db I.dc I.W v.rows
  high : v.rows.length = I.h
  r : v.r < I.h
  c : v.c < I.W
  pd : v.pd = true → v.c = I.W - 1
  w2 : 2 ≤ I.W
  w1 : I.W ≤ 1024
  h1 : I.h ≤ 1024
def PenS (I : Ids) (k : Nat) : Prop := k = I.p ∨ ∃ i, i < I.h ∧ (k = I.db i ∨ k = I.dc i)
section
variable {w w' : World} {I : Ids} {v : PenV} {S : Nat → Prop}
theorem PenQ.chg (h : PenQ w I v) (hc : Chg S w w') (hS : Alien [76, 122, 45, 89, 86, 21] S w) : PenQ w' I v :=
  ⟨hc.blk h.blk (hS.no h.blk (by decide)), h.grid.chg hc (fun k hk => by
    obtain ⟨t, cs, hb, hn⟩ := hS k hk
    exact ⟨t, cs, hb, fun e => hn (List.mem_cons.2 (.inr e))⟩), h.high, h.r, h.c, h.pd, h.w2, h.w1, h.h1⟩
theorem PenQ.below (h : PenQ w I v) (hb : Below w.heap.size w w') : PenQ w' I v := h.chg (S := fun _ => False) (Chg.of_below hb) (fun _ e => e.elim)
theorem PenQ.alien (h : PenQ w I v) {T : List TypeId} (hT : 76 ∉ T ∧ 89 ∉ T ∧ 86 ∉ T) : Alien T (PenS I) w := fun k hk => by
  rcases hk with rfl | ⟨i, hi, rfl | rfl⟩
  · exact ⟨_, _, h.blk, hT.1⟩
  · obtain ⟨⟨_, k1⟩, _⟩ := h.grid.rowB (i := i) (by rw [h.high]; exact hi)
    exact ⟨_, _, k1, hT.2.1⟩
  · obtain ⟨_, _, k1⟩ := h.grid.rowB (i := i) (by rw [h.high]; exact hi)
    exact ⟨_, _, k1, hT.2.2⟩
theorem PenQ.move (h : PenQ w I v) {r c : Nat} {pd : Bool} (hc : Chg (· = I.p) w w') (hb : Blk w' I.p 76 (penC I.g r c pd)) (hr : r < I.h) (hcc : c < I.W) (hpd : pd = true → c = I.W - 1) : PenQ w' I ⟨v.rows, r, c, pd⟩ :=
  ⟨hb, h.grid.chg hc (Alien.one h.blk (by decide)), h.high, hr, hcc, hpd, h.w2, h.w1, h.h1⟩
theorem PenQ.put (h : PenQ w I v) {r : Nat} (hr : r < I.h) (hc : Chg (fun k => k = I.db r ∨ k = I.dc r) w w') {l : List CellV} {b : Bool} (hq : RowQ w' (I.db r) (I.dc r) l b) (hl : l.length = I.W) : PenQ w' I ⟨v.rows.set r (l, b), v.r, v.c, v.pd⟩ := by
  have hr2 : r < v.rows.length := by rw [h.high]; exact hr
  obtain ⟨⟨_, k1⟩, _, k2⟩ := h.grid.rowB hr2
  refine ⟨hc.blk h.blk ?_, h.grid.put hr2 hc hq hl, by rw [List.length_set]; exact h.high, h.r, h.c, h.pd, h.w2, h.w1, h.h1⟩
  rintro (e | e)
  · have := h.blk
    rw [e] at this
    exact absurd (this.typ k1) (by decide)
  · have := h.blk
    rw [e] at this
    exact absurd (this.typ k2) (by decide)
theorem PenQ.rowQ (h : PenQ w I v) {r : Nat} (hr : r < I.h) : ∃ x, v.rows[r]? = some x ∧ v.rows.getD r ([], false) = x ∧ rowAt v.rows r = x.1 ∧ RowQ w (I.db r) (I.dc r) x.1 x.2 ∧ x.1.length = I.W := by
  have hr2 : r < v.rows.length := by rw [h.high]; exact hr
  have e := List.getElem?_eq_getElem hr2
  obtain ⟨h1, h2⟩ := h.grid.row r _ e
  refine ⟨_, e, ?_, ?_, h1, h2⟩
  · rw [List.getD_eq_getElem?_getD, e]; rfl
  · unfold rowAt; rw [List.getD_eq_getElem?_getD, e]; rfl
theorem PenS.row {r : Nat} (hr : r < I.h) : ∀ k, (k = I.db r ∨ k = I.dc r) → PenS I k := fun k hk => .inr ⟨r, hr, hk⟩
end
end Go.Proofs.YtdjpdllehhecpaaGreatDoor
namespace Go.Proofs.YtdjpdllehhecpaaGreatDoor
open Go.RowKit
set_option linter.unusedVariables false
set_option linter.unusedSimpArgs false
section
variable {w w' : World} {b c : Nat} {l : List CellV} {wrap : Bool}
theorem RowQ.at_ (h : RowQ w b c l wrap) {i : Nat} (hi : i < l.length) : ∃ cap, Blk w b 89 #[.slice (some ⟨c, 0, none⟩) l.length cap, .bool wrap] ∧ l.length ≤ cap ∧ cap ≤ 9223372036854775807 ∧
    ∃ v, w.cell? ⟨c, i * 2, none⟩ = some (.int .i64 l[i].1) ∧ w.cell? ⟨c, i * 2 + 1, none⟩ = some v ∧ (Lit.int .i64 l[i].1).wf = true ∧ Slc (Rep.int .i32) (Typed 0 [21] w) (Typed 0 [21] w) w v l[i].2 := by
  obtain ⟨g, s, e, _, h1, h2⟩ := h.rowIs
  obtain ⟨cap, xs, rest, k1, k2, k3, k4, k5, k6⟩ := h
  unfold ptrB at e
  injection e with e
  injection e with e
  injection e with e
  subst e
  have hs : s = .slice (some ⟨c, 0, none⟩) l.length cap := by
    have a := h1.cell 0
    have d := k1.cell 0
    rw [a] at d
    simpa using d
  subst hs
  obtain ⟨b', off, v, hA, _, q0, q1, q2, q3⟩ := cell_at h2.slc.slb hi
  injection hA with hA
  injection hA with e1 e2
  subst e1; subst e2
  rw [Nat.zero_add] at q0 q1
  exact ⟨cap, k1, k5, by simpa [maxLen] using k6, v, q0, q1, q2, q3⟩
theorem RowQ.markCell (h : RowQ w b c l wrap) : w.cell? ⟨b, 1, none⟩ = some (.bool wrap) := by
  obtain ⟨cap, xs, rest, k1, _⟩ := h
  exact k1.cell 1
theorem RowQ.put_ (h : RowQ w b c l wrap) {i : Nat} (hi : i < l.length) {k : Int} {x : Value} {t : List Int} (hk : (Lit.int .i64 k).wf = true) (hx : Slc (Rep.int .i32) (Typed 0 [21] w) (Typed 0 [21] w) w x t) :
    RowQ ((w.setCell ⟨c, i * 2, none⟩ (.int .i64 k)).setCell ⟨c, i * 2 + 1, none⟩ x) b c (l.set i (k, t)) wrap := by
  obtain ⟨cap, xs, rest, k1, k2, k3, k4, k5, k6⟩ := h
  have hne : b ≠ c := by
    rintro rfl
    exact absurd (k1.typ k2) (by decide)
  have hxl := k3.length
  have esz : RCell.sz = 2 := rfl
  rw [esz] at hxl
  have s2 := (k2.set_ (i * 2) (.int .i64 k)).set_ (i * 2 + 1) x
  simp only [List.setIfInBounds_toArray] at s2
  rw [list_set2 xs (i * 2) (by omega)] at s2
  have hst : Step 0 [86] w ((w.setCell ⟨c, i * 2, none⟩ (.int .i64 k)).setCell ⟨c, i * 2 + 1, none⟩ x) := ((Step.refl 0 [86] w).setCell (p := ⟨c, i * 2, none⟩) (Nat.zero_le _) k2.bears (.int .i64 k)).setCell (p := ⟨c, i * 2 + 1, none⟩) (Nat.zero_le _) (k2.set_ _ _).bears x
  have hel := (k3.set_ i (k, t) [.int .i64 k, x] hi (cell_E hk hx)).mono (Keep.step hst (by decide))
  rw [esz, show (i + 1) * 2 = i * 2 + 2 by omega] at hel
  refine ⟨cap, _, rest, ?_, s2, hel, ?_, by rw [List.length_set]; exact k5, k6⟩
  · rw [List.length_set]
    exact (k1.far (by simpa using hne) _).far (by simpa using hne) _
  · rw [← k4]
    simp only [List.length_append, List.length_take, List.length_drop, List.length_cons, List.length_nil]
    omega
theorem RowQ.mark (h : RowQ w b c l wrap) (on : Bool) : RowQ (w.setCell ⟨b, 1, none⟩ (.bool on)) b c l on := by
  obtain ⟨cap, xs, rest, k1, k2, k3, k4, k5, k6⟩ := h
  have hne : c ≠ b := by
    rintro rfl
    exact absurd (k1.typ k2) (by decide)
  have hst : Step 0 [89] w (w.setCell ⟨b, 1, none⟩ (.bool on)) := (Step.refl 0 [89] w).setCell (p := ⟨b, 1, none⟩) (Nat.zero_le _) k1.bears _
  exact ⟨cap, xs, rest, k1.set_ 1 _, k2.far (by simpa using hne) _, k3.mono (Keep.step hst (by decide)), k4, k5, k6⟩
end
theorem kind_ok (b c : Nat) (l : List CellV) (wrap : Bool) (i : Nat) (w : World) (h : RowQ w b c l wrap) (hi2 : i ≤ 100000) :
    Calls Tryz.prog 197 #[ptrB b, .int .i64 i] w fun e w' => e = .returned (.int .i64 (kindI l i)) ∧ w = w' := by
  have HW := hide (Wide_ok 0 (ptrB b) l wrap w h.rowIs)
  have d0 : decide ((i : Int) < 0) = false := decide_eq_false (by omega)
  by_cases hi : i < l.length
  · obtain ⟨cap, k1, hc1, hc2, v, q0, q1, q2, q3⟩ := h.at_ hi
    have x0 := k1.cell 0
    simp only [zA, zB, zC] at x0
    have x1 := k1.lt
    have d1 : decide ((l.length : Int) ≤ i) = false := decide_eq_false (by omega)
    have hli : (i : Int) < l.length := by omega
    rw [kindI_at l i hi]
    obtain ⟨kk, hkk⟩ : ∃ kk, l[i].1 = kk := ⟨_, rfl⟩
    rw [hkk] at q0 ⊢
    clear q1 q2 q3 k1 hkk
    unfold ptrB at HW ⊢
    go_enter Tryz.func197, Tryz.ntmps197
    go_wp2_with (refine HW.out.mono ?_; rintro e w1 ⟨rfl, rfl⟩)
    go_ret
    exact ⟨rfl, rfl⟩
  · have d1 : l.length ≤ i := by omega
    rw [kindI_out l i (by omega)]
    clear hi h
    unfold ptrB at HW ⊢
    go_enter Tryz.func197, Tryz.ntmps197
    go_wp2_with (refine HW.out.mono ?_; rintro e w1 ⟨rfl, rfl⟩)
    go_ret
    exact ⟨rfl, rfl⟩
set_option maxHeartbeats 1000000 in
theorem put_ok (b c : Nat) (l : List CellV) (wrap : Bool) (i : Nat) (So Si : Nat → Prop) (k : Int) (x : Value) (t : List Int) (w : World) (h : RowQ w b c l wrap) (hi : i < l.length) (hll : l.length ≤ 100000) (hk : (Lit.int .i64 k).wf = true) (hx : Slc (Rep.int .i32) So Si w x t) (hlen : t.length ≤ 100000) :
    Calls Tryz.prog 198 #[ptrB b, .int .i64 i, .agg #[.int .i64 k, x]] w fun e w' => (∃ r, e = .returned r) ∧ RowQ w' b c (l.set i (k, t)) (if i + 1 = l.length then false else wrap) ∧ Chg (fun j => j = b ∨ j = c) w w' := by
  obtain ⟨cap, k1, hc1, hc2, v, q0, q1, q2, q3⟩ := h.at_ hi
  have hcl := World.block_lt_of_cell? w _ q0
  have hbl := k1.lt
  have hne : b ≠ c := by
    rintro rfl
    obtain ⟨_, _, k2⟩ := h.blk
    exact absurd (k1.typ k2) (by decide)
  simp only at hcl
  have hxa := (hx.ints_keep (Keep.alloc So w (.cells #[.int .i64 k, x] 86))).ints_keep (keep_dr So _)
  obtain ⟨A, n, hA⟩ : ∃ A n, x = .slice A t.length n := by
    obtain ⟨A, n, e, _⟩ := hx.open_
    exact ⟨A, n, e⟩
  subst hA
  have hq := h.chg (S := fun _ => False) (((Chg.refl _ w).alloc (.cells #[.int .i64 k, .slice A t.length n] 86)).dr) id id (fun _ e => e.elim)
  have hka := k1.alloc (.cells #[.int .i64 k, .slice A t.length n] 86)
  have y0 := hka.cell 0
  have hlo := Blk.new w 86 #[.int .i64 k, .slice A t.length n]
  have y1 := hlo.cell 0
  have y2 := hlo.cell 1
  simp only [zA, zB, zC] at y0 y1 y2
  have HX := hide hxa
  have HQ := hide hq
  have HKA := hide hka
  have hli : (i : Int) < l.length := by omega
  obtain ⟨wr2, hw2⟩ : ∃ wr2, (if i + 1 = l.length then false else wrap) = wr2 := ⟨_, rfl⟩
  rw [hw2]
  have HW2 := hide hw2
  clear hw2
  obtain ⟨L, hL⟩ : ∃ L, l.length = L := ⟨_, rfl⟩
  have HL := hide hL
  rw [hL] at y0 HKA hli
  clear hx hxa hq hka q2 q3 q0 q1 h k1 hL
  unfold ptrB
  go_enter Tryz.func198, Tryz.ntmps198
  go_upto_region 1 with fail
  refine wp_region_held_drew (S := fun w' => w'.cell? ⟨b, 0, none⟩ = some (.slice (some ⟨c, 0, none⟩) L cap) ∧ w'.cell? ⟨w.heap.size, 0, none⟩ = some (.int .i64 k) ∧ w'.cell? ⟨w.heap.size, 1, none⟩ = some (.slice A t.length n)) (by kernel_rfl) (by exact ⟨y0, y1, y2⟩) (fun hHeld => ?_)
  refine wpAnyH_take (i := 0) (oi := ?_) (v := ?_) ?_ (by kernel_rfl) (by kernel_rfl) (by kernel_rfl) ?_ (Or.inl ⟨?_, ?_⟩) (by assumption) ?_
  rotate_left 2
  · (simp only [zA, zB, zC]; rfl)
  rotate_left 1
  · rfl
  · (intro w hSw; (try dsimp only at hSw); go_simp; try with_reducible rfl)
  rotate_left 1
  · exact fun _ _ _ h => h
  try simp only [Act.put, zD, zE, zF]
  refine wpAnyH_take (i := 1) (oi := ?_) (v := ?_) ?_ (by kernel_rfl) (by kernel_rfl) (by kernel_rfl) ?_ (Or.inl ⟨?_, ?_⟩) (by assumption) ?_
  rotate_left 2
  · (simp only [zA, zB, zC]; rfl)
  rotate_left 1
  · rfl
  · (intro w hSw; (try dsimp only at hSw); go_simp; try with_reducible rfl)
  rotate_left 1
  · exact fun _ _ _ h => h
  try simp only [Act.put, zD, zE, zF]
  refine wpAnyH_take (i := 2) (oi := ?_) (v := ?_) ?_ (by kernel_rfl) (by kernel_rfl) (by kernel_rfl) ?_ (Or.inl ⟨?_, ?_⟩) (by assumption) ?_
  rotate_left 2
  · (simp only [zA, zB, zC]; rfl)
  rotate_left 1
  · rfl
  · (intro w hSw; (try dsimp only at hSw); go_simp; try with_reducible rfl)
  rotate_left 1
  · exact fun _ _ _ h => h
  try simp only [Act.put, zD, zE, zF]
  refine wpAnyH_take (i := 3) (oi := ?_) (v := ?_) ?_ (by kernel_rfl) (by kernel_rfl) (by kernel_rfl) ?_ (Or.inl ⟨?_, ?_⟩) (by assumption) ?_
  rotate_left 2
  · (simp only [zA, zB, zC]; rfl)
  rotate_left 1
  · rfl
  · (intro w hSw; (try dsimp only at hSw); go_simp; try with_reducible rfl)
  rotate_left 1
  · exact fun _ _ _ h => h
  try simp only [Act.put, zD, zE, zF]
  refine wpAnyH_take (i := 4) (oi := ?_) (v := ?_) ?_ (by kernel_rfl) (by kernel_rfl) (by kernel_rfl) ?_ (Or.inl ⟨?_, ?_⟩) (by assumption) ?_
  rotate_left 2
  · (simp only [zA, zB, zC]; rfl)
  rotate_left 1
  · rfl
  · (intro w hSw; (try dsimp only at hSw); go_simp; try with_reducible rfl)
  rotate_left 1
  · exact fun _ _ _ h => h
  try simp only [Act.put, zD, zE, zF]
  refine wpAnyH_take (i := 5) (oi := ?_) (v := ?_) ?_ (by kernel_rfl) (by kernel_rfl) (by kernel_rfl) ?_ (Or.inl ⟨?_, ?_⟩) (by assumption) ?_
  rotate_left 2
  · (simp only [zA, zB, zC]; rfl)
  rotate_left 1
  · rfl
  · (intro w hSw; (try dsimp only at hSw); go_simp; try with_reducible rfl)
  rotate_left 1
  · exact fun _ _ _ h => h
  try simp only [Act.put, zD, zE, zF]
  refine wpAnyH_ready (rs := [6]) (by kernel_rfl) (by simp) ?_
  refine AllReadyH.cons (o := ?_) ?_ (fun K hK => ?_) AllReadyH.nil
  rotate_left 1
  · (simp only [zA, zB, zC]; rfl)
  go_simp
  (go_at_call 34; refine (own_ok _ _ k _ t _ HX.out (by omega)).mono ?_; rintro e w3 ⟨v3, rfl, hv3, hb3⟩; obtain ⟨A3, c3, rfl, _, _, _⟩ := hv3.islc.open_; have hz3 := hb3.size; have z0 := (hb3.cell (p := ⟨b, 0, none⟩) (by show b < (World.alloc w _).heap.size; simp; omega)).trans y0; have z1 := (hb3.cell (p := ⟨w.heap.size, 0, none⟩) (by show _ < (World.alloc w _).heap.size; simp)).trans y1; have z2 := (hb3.cell (p := ⟨w.heap.size, 1, none⟩) (by show _ < (World.alloc w _).heap.size; simp)).trans y2; have HQ3 := hide (HQ.out.below hb3); obtain ⟨cap3, k13, _, _, v3', e0, e1, _, _⟩ := HQ3.out.at_ hi; obtain ⟨⟨_, _⟩, cs3, kc3⟩ := HQ3.out.blk; have f0 := kc3.frozen (i * 2); have f1 := kc3.frozen (i * 2 + 1); have HKC := hide kc3; have HV3 := hide hv3; have HB3 := hide hb3; clear kc3 hv3 hb3 k13)
  refine hK.out _ _ ?_ (fun hHeld => ?_)
  · ((try dsimp only); go_keep)
  clear hK K
  try simp only [Act.put, zD, zE, zF]
  refine wpAnyH_take (i := 7) (oi := ?_) (v := ?_) ?_ (by kernel_rfl) (by kernel_rfl) (by kernel_rfl) ?_ (Or.inl ⟨?_, ?_⟩) (by assumption) ?_
  rotate_left 2
  · (simp only [zA, zB, zC]; rfl)
  rotate_left 1
  · rfl
  · (intro w hSw; (try dsimp only at hSw); go_simp; try with_reducible rfl)
  rotate_left 1
  · exact fun _ _ _ h => h
  try simp only [Act.put, zD, zE, zF]
  refine wpAnyH_ready (rs := [8]) (by kernel_rfl) (by simp) ?_
  refine AllReadyH.cons (o := ?_) ?_ (fun K hK => ?_) AllReadyH.nil
  rotate_left 1
  · (simp only [zA, zB, zC]; rfl)
  go_simp
  skip
  refine hK.out _ _ ?_ (fun hHeld => ?_)
  · exact ⟨by rw [World.cell?_setCell_far _ _ _ _ (Ne.symm hne), World.cell?_setCell_far _ _ _ _ (Ne.symm hne)]; exact z0, by rw [World.cell?_setCell_far _ _ _ _ (by show c ≠ w.heap.size; omega), World.cell?_setCell_far _ _ _ _ (by show c ≠ w.heap.size; omega)]; exact z1, by rw [World.cell?_setCell_far _ _ _ _ (by show c ≠ w.heap.size; omega), World.cell?_setCell_far _ _ _ _ (by show c ≠ w.heap.size; omega)]; exact z2⟩
  clear hK K
  try simp only [Act.put, zD, zE, zF]
  refine wpAnyH_done (by kernel_rfl) ?_ _
  have hst := HQ3.out.put_ hi hk (own_typed HV3.out (base' := 0) (Typed 0 [21] w3))
  have hch : Chg (fun j => j = b ∨ j = c) w ((w3.setCell ⟨c, i * 2, none⟩ (.int .i64 k)).setCell ⟨c, i * 2 + 1, none⟩ (.slice A3 t.length c3)) := (((((Chg.refl _ w).alloc _).dr).trans (Chg.of_below HB3.out)).set (.inl (.inr rfl)) _).set (.inl (.inr rfl)) _
  obtain ⟨w5, hw5⟩ : ∃ w5, (w3.setCell ⟨c, i * 2, none⟩ (.int .i64 k)).setCell ⟨c, i * 2 + 1, none⟩ (.slice A3 t.length c3) = w5 := ⟨_, rfl⟩
  rw [hw5] at hst hch hHeld ⊢
  have hHeld := hHeld.1
  have f5 := hst.blk.1.choose_spec.frozen 1
  have e5 := hst.markCell
  have HST := hide hst
  have HCH := hide hch
  clear hst hch HV3 HB3 HKC HQ3 z0 z1 z2 f0 f1 e0 e1 hw5
  have hwr : IntKind.i64.wrap ((L : Int) - 1) = L - 1 := IntWalk.i64_in _ (by have := HL.out; omega)
  by_cases hlast : i + 1 = L
  · have d1 : ((i : Int) == L - 1) = true := by rw [beq_iff_eq]; omega
    go_wp2
    go_end0
    have hm := HST.out.mark false
    refine ⟨⟨_, rfl⟩, ?_, HCH.out.set (.inl (.inl rfl)) _⟩
    rw [← HW2.out, if_pos (by rw [HL.out]; exact hlast)]
    exact hm
  · have d1 : ((i : Int) == L - 1) = false := by rw [beq_eq_false_iff_ne]; omega
    go_wp2
    go_end0
    refine ⟨⟨_, rfl⟩, ?_, HCH.out⟩
    rw [← HW2.out, if_neg (by rw [HL.out]; exact hlast)]
    exact HST.out
end Go.Proofs.YtdjpdllehhecpaaGreatDoor
