/-
  Lines of the call's own, a part of one's cells laid anew, or its mark turned: no other line turns. Words on memory.
-/
import Derived.Test.YtphdagmaamcapaaDoorLns
import Derived.Test.YtphdagmaamcapaaDoorMem6
namespace Go.Proofs.YtphdagmaamcapaaDoor
open Go.RowKit
set_option linter.unusedVariables false
set_option linter.unusedSimpArgs false

theorem lown_open {α : Type} {R : Rep α} {e : TypeId} {T : List TypeId} {base : Nat} {w : World} {v : Value} {l : List α} (h : Own R e T base w v l) (hl : 0 < l.length) :
    ∃ g cap xs rest, v = .slice (some ⟨g, 0, none⟩) l.length cap ∧ base ≤ g ∧ Blk w g e (xs ++ rest).toArray ∧ xs.length = l.length * R.sz ∧ Els R (Typed base T w) w l xs ∧ (xs ++ rest).length = cap * R.sz ∧ l.length ≤ cap ∧ cap ≤ maxLen := by
  obtain ⟨hT, xs, ⟨hx, hown⟩, hels⟩ := h
  rcases hown with ⟨_, h0⟩ | ⟨g, cap, cur, rfl, hb, hh, hc, hm, hs, ht⟩
  · omega
  · refine ⟨g, cap, xs, cur.toList.drop (l.length * R.sz), rfl, hb, ?_, hx, hels, ?_, hc, hm⟩
    · rw [← ht, List.take_append_drop]; exact hh
    · rw [← ht, List.take_append_drop]; simpa using hs
theorem lown_shut {α : Type} {R : Rep α} {e : TypeId} {T : List TypeId} {base g cap n : Nat} {w : World} {l : List α} {xs rest : List Value} (hT : e ∉ T) (hb : base ≤ g) (hh : Blk w g e (xs ++ rest).toArray) (hels : Els R (Typed base T w) w l xs)
    (hn : l.length = n) (hs : (xs ++ rest).length = cap * R.sz) (hc : n ≤ cap) (hm : cap ≤ maxLen) : Own R e T base w (.slice (some ⟨g, 0, none⟩) n cap) l := by
  subst hn
  have hx := hels.length
  refine ⟨hT, xs, ⟨hx, .inr ⟨g, cap, _, rfl, hb, hh, hc, hm, by simpa using hs, ?_⟩⟩, hels⟩
  rw [← hx]; simp
theorem list_set1 {b : Value} {rest : List Value} : ∀ (xs : List Value) (i : Nat) (a : Value), i + 1 < xs.length → xs[i]? = some a → (xs ++ rest).set (i + 1) b = (xs.take i ++ [a, b] ++ xs.drop (i + 2)) ++ rest
  | [], i, a, h, _ => by simp at h
  | [x], i, a, h, _ => by simp at h
  | x :: y :: zs, 0, a, _, h => by simp at h; subst h; simp
  | x :: y :: zs, i + 1, a, h, ha => by
    have ih := list_set1 (b := b) (rest := rest) (y :: zs) i a (by simpa using h) (by simpa using ha)
    simp only [List.cons_append, List.set_cons_succ, List.take_succ_cons, List.drop_succ_cons] at ih ⊢
    rw [ih]

section
variable {base : Nat} {w w' : World} {v : Value} {ps : List (Value × LineV)}
theorem LnsP.down {b0 : Nat} (h : LnsP base w v ps) (hb : b0 ≤ base) : LnsP b0 w v ps := ⟨h.row.flat_base RSl.flat hb (by simp), fun p hp => (h.cells p hp).down b0 (Nat.zero_le _) hb, h.apart⟩
theorem LnsP.at_ (h : LnsP base w v ps) {i : Nat} (hi : i < ps.length) :
    ∃ G cap, v = .slice (some ⟨G, 0, none⟩) ps.length cap ∧ base ≤ G ∧ G < w.heap.size ∧ ps.length ≤ cap ∧ w.cell? ⟨G, i * 2, none⟩ = some ps[i].1 ∧ w.cell? ⟨G, i * 2 + 1, none⟩ = some (.bool ps[i].2.2) ∧ w.frozen? ⟨G, i * 2 + 1, none⟩ = false := by
  obtain ⟨G, cap, xs, rest, hv, hb, hblk, hx, hels, hl, hc, hm⟩ := lown_open h.row (by simpa using Nat.lt_of_le_of_lt (Nat.zero_le _) hi)
  rw [List.length_map] at hv hx hc
  obtain ⟨u, ⟨v1, v2, rfl, ⟨rfl, _⟩, e2⟩, hu⟩ := hels.at_ i (slB ps[i]) (by rw [List.getElem?_map, List.getElem?_eq_getElem hi]; rfl)
  cases e2
  have esz : RSl.sz = 2 := rfl
  rw [esz] at hu hx
  have h0 := hu 0 (by omega)
  have h1 := hu 1 (by omega)
  refine ⟨G, cap, hv, hb, hblk.lt, hc, ?_, ?_, hblk.frozen _⟩
  · rw [hblk.cell, List.getElem?_toArray, List.getElem?_append_left (by omega)]; exact h0
  · rw [hblk.cell, List.getElem?_toArray, List.getElem?_append_left (by omega)]; exact h1
theorem Own2.stay {α : Type} {R : Rep α} {e t : TypeId} {T : List TypeId} {b g : Nat} {s : Value} {l : List α} {cs : Array Value} (h : Own2 R e T b 0 w s l) (hg : w.grownBy w' (some g)) (hb : Blk w g t cs) (ht : t ∉ T) (hne : s.ownBlock ≠ some g) : Own2 R e T b 0 w' s l := by
  obtain ⟨hbb, hT, xs, hown, hels⟩ := h
  have hst : Step 0 [t] w w' := Step.of_gb hg (Nat.zero_le _) hb (by simp)
  refine ⟨hbb, hT, xs, ⟨hown.1, ?_⟩, hels.mono (Keep.step hst (fun t' ht' he => by simp at he; subst he; exact ht ht'))⟩
  rcases hown.2 with hn | ⟨g', cap, cur, rfl, h1, hh, rest⟩
  · exact .inl hn
  · refine .inr ⟨g', cap, cur, rfl, h1, ?_, rest⟩
    rw [hg.block g' (Array.getElem?_eq_some_iff.1 hh).1 (fun e => hne (by rw [← e]; rfl))]
    exact hh
theorem apart_fst (ps : List (Value × LineV)) : ps.Pairwise ApartB ↔ (ps.map Prod.fst).Pairwise (fun a b => ∀ g, a.ownBlock = some g → b.ownBlock ≠ some g) := by
  rw [List.pairwise_map]; rfl
theorem apart_at (h : ps.Pairwise ApartB) {i j : Nat} (hi : i < ps.length) (hj : j < ps.length) (hne : i ≠ j) {g : Nat} (hg : ps[i].1.ownBlock = some g) : ps[j].1.ownBlock ≠ some g := by
  rcases Nat.lt_or_gt_of_ne hne with hlt | hlt
  · exact (List.pairwise_iff_getElem.1 h i j hi hj hlt) g hg
  · intro h2
    exact (List.pairwise_iff_getElem.1 h j i hj hi hlt) g h2 hg
/-- A part of one line's cells is laid anew. -/
theorem LnsP.put {i f g n cap : Nat} {m : List CellV} {ys : List Value} {cur : Array Value} (h : LnsP base w v ps) (hi : i < ps.length) (he : ps[i].1 = .slice (some ⟨g, 0, none⟩) n cap) (hn : ps[i].2.1.length = n) (hf : f + m.length ≤ n) (h0 : 0 < n)
    (hcur : w.heap[g]? = some (.cells cur 62 (0, 0))) (hy : Els RCell (Typed 0 [21] w) w m ys) (hw : w' = w.setRow g (cur.toList.take (f * RCell.sz) ++ ys ++ cur.toList.drop (f * RCell.sz + ys.length)).toArray) :
    LnsP base w' v (ps.set i (ps[i].1, (ps[i].2.1.take f ++ m ++ ps[i].2.1.drop (f + m.length), ps[i].2.2))) ∧ Step base [62] w w' := by
  have hc := h.cells ps[i] (List.getElem_mem _)
  rw [he] at hc
  obtain ⟨ho, hst, hgr, hb⟩ := hc.splice_ hn (by omega) (by decide) (by omega) hcur hy hw
  have hblk : Blk w g 62 cur := hcur
  refine ⟨⟨?_, fun p hp => ?_, ?_⟩, hst⟩
  · have e : (ps.set i (ps[i].1, (ps[i].2.1.take f ++ m ++ ps[i].2.1.drop (f + m.length), ps[i].2.2))).map slB = ps.map slB := by
      rw [List.map_set]
      apply List.ext_getElem?
      intro j
      by_cases hj : i = j
      · subst hj
        rw [List.getElem?_set_self (by simpa using hi), List.getElem?_map, List.getElem?_eq_getElem hi]; rfl
      · rw [List.getElem?_set_ne hj]
    rw [e]
    exact h.row.step hst (by decide) (by simp)
  · obtain ⟨j, hj, rfl⟩ := List.getElem_of_mem hp
    rw [List.length_set] at hj
    by_cases hij : i = j
    · subst hij
      rw [List.getElem_set_self]
      rw [he]; exact ho
    · rw [List.getElem_set_ne hij]
      refine (h.cells ps[j] (List.getElem_mem _)).stay hgr hblk (by decide) (apart_at h.apart hi hj hij ?_)
      rw [he]; rfl
  · rw [apart_fst, List.map_set]
    have e : (ps.map Prod.fst).set i ps[i].1 = ps.map Prod.fst := by
      apply List.ext_getElem?
      intro j
      by_cases hj : i = j
      · subst hj
        rw [List.getElem?_set_self (by simpa using hi), List.getElem?_map, List.getElem?_eq_getElem hi]; rfl
      · rw [List.getElem?_set_ne hj]
    rw [e, ← apart_fst]
    exact h.apart
/-- One line's mark turns. -/
theorem LnsP.flip {i G n cap : Nat} {b : Bool} (h : LnsP base w v ps) (hi : i < ps.length) (he : v = .slice (some ⟨G, 0, none⟩) n cap) :
    LnsP base (w.setCell ⟨G, i * 2 + 1, none⟩ (.bool b)) v (ps.set i (ps[i].1, (ps[i].2.1, b))) ∧ Step base [45] w (w.setCell ⟨G, i * 2 + 1, none⟩ (.bool b)) := by
  obtain ⟨G', cap', xs, rest, hv, hb, hblk, hx, hels, hl, hc, hm⟩ := lown_open h.row (by simpa using Nat.lt_of_le_of_lt (Nat.zero_le _) hi)
  rw [he] at hv
  injection hv with e1 e2 e3
  injection e1 with e1
  injection e1 with e1
  subst e1; subst e3
  have hst : Step base [45] w _ := (Step.refl base [45] w).setCell (p := ⟨G, i * 2 + 1, none⟩) hb hblk.bears (.bool b)
  have esz : RSl.sz = 2 := rfl
  rw [List.length_map, esz] at hx
  obtain ⟨u, ⟨v1, v2, rfl, ⟨rfl, ho⟩, e4⟩, hu⟩ := hels.at_ i (slB ps[i]) (by rw [List.getElem?_map, List.getElem?_eq_getElem hi]; rfl)
  rw [esz] at hu
  have h0 := hu 0 (by omega)
  simp only [Nat.add_zero] at h0
  have s1 := hblk.set_ (i * 2 + 1) (.bool b)
  simp only [List.setIfInBounds_toArray] at s1
  rw [list_set1 xs (i * 2) ps[i].1 (by omega) h0] at s1
  have hkp : Keep (Typed base [] w) w (Typed base [] (w.setCell ⟨G, i * 2 + 1, none⟩ (.bool b))) _ := Keep.step (T := []) hst (by simp)
  have hel4 := (hels.mono hkp).set_ i (ps[i].1, b) [ps[i].1, .bool b] (by simpa using hi) ⟨[ps[i].1], [.bool b], rfl, ⟨rfl, ho⟩, rfl⟩
  rw [esz, show (i + 1) * 2 = i * 2 + 2 by omega] at hel4
  have e : (ps.set i (ps[i].1, (ps[i].2.1, b))).map slB = (ps.map slB).set i (ps[i].1, b) := by rw [List.map_set]; rfl
  refine ⟨⟨?_, fun p hp => ?_, ?_⟩, hst⟩
  · rw [e, he]
    refine lown_shut (by simp) hb s1 hel4 (by rw [List.length_set]; exact e2.symm) ?_ (by omega) hm
    rw [← hl]
    simp only [List.length_append, List.length_take, List.length_drop, List.length_cons, List.length_nil]
    omega
  · obtain ⟨j, hj, rfl⟩ := List.getElem_of_mem hp
    rw [List.length_set] at hj
    by_cases hij : i = j
    · subst hij
      rw [List.getElem_set_self]
      exact (h.cells ps[i] (List.getElem_mem _)).step hst (by decide) (by decide)
    · rw [List.getElem_set_ne hij]
      exact (h.cells ps[j] (List.getElem_mem _)).step hst (by decide) (by decide)
  · rw [apart_fst, List.map_set]
    have e : (ps.map Prod.fst).set i ps[i].1 = ps.map Prod.fst := by
      apply List.ext_getElem?
      intro j
      by_cases hj : i = j
      · subst hj
        rw [List.getElem?_set_self (by simpa using hi), List.getElem?_map, List.getElem?_eq_getElem hi]; rfl
      · rw [List.getElem?_set_ne hj]
    rw [e, ← apart_fst]
    exact h.apart
end
end Go.Proofs.YtphdagmaamcapaaDoor
