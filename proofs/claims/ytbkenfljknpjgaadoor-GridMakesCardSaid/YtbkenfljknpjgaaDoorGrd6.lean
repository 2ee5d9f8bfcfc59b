/-
  A row of lines of the call's own, one of them laid anew; and the laws' works: it returns true.
-/
import Derived.Test.YtbkenfljknpjgaaDoorGrd5
namespace Go.Proofs.YtbkenfljknpjgaaDoor
open Go.RowKit
set_option linter.unusedVariables false
set_option linter.unusedSimpArgs false

theorem list_set1 {b : Value} {rest : List Value} : ∀ (xs : List Value) (i : Nat) (a : Value), i + 1 < xs.length → xs[i]? = some a → (xs ++ rest).set (i + 1) b = (xs.take i ++ [a, b] ++ xs.drop (i + 2)) ++ rest
  | [], i, a, h, _ => by simp at h
  | [x], i, a, h, _ => by simp at h
  | x :: y :: zs, 0, a, _, h => by simp at h; subst h; simp
  | x :: y :: zs, i + 1, a, h, ha => by
    have ih := list_set1 (b := b) (rest := rest) (y :: zs) i a (by simpa using h) (by simpa using ha)
    simp only [List.cons_append, List.set_cons_succ, List.take_succ_cons, List.drop_succ_cons] at ih ⊢
    rw [ih]
section
variable {base G n cap : Nat} {w : World} {v : Value} {l : List (Value × Bool)}
theorem ownl_at (h : Own RSl 38 [] base w v l) {i : Nat} (hi : i < l.length) : ∃ G cap, v = .slice (some ⟨G, 0, none⟩) l.length cap ∧ base ≤ G ∧ G < w.heap.size ∧ l.length ≤ cap ∧ w.cell? ⟨G, i * 2, none⟩ = some l[i].1 ∧ w.cell? ⟨G, i * 2 + 1, none⟩ = some (.bool l[i].2) ∧ (∀ j, w.frozen? ⟨G, j, none⟩ = false) ∧ l[i].1.oneCell' = true := by
  obtain ⟨G, cap, xs, rest, hv, hb, hblk, hx, hels, hl, hc, hm⟩ := lown_open h (by omega)
  obtain ⟨u, ⟨v1, v2, rfl, ⟨rfl, ho⟩, e4⟩, hu⟩ := hels.at_ i l[i] (List.getElem?_eq_getElem hi)
  cases e4
  have esz : RSl.sz = 2 := rfl
  rw [esz] at hu hx
  have h0 := hu 0 (by omega)
  have h1 := hu 1 (by omega)
  refine ⟨G, cap, hv, hb, hblk.lt, hc, ?_, ?_, fun j => hblk.frozen j, ho⟩
  · rw [hblk.cell, List.getElem?_toArray, List.getElem?_append_left (by omega)]; exact h0
  · rw [hblk.cell, List.getElem?_toArray, List.getElem?_append_left (by omega)]; exact h1
theorem ownl_put (h : Own RSl 38 [] base w (.slice (some ⟨G, 0, none⟩) n cap) l) {i : Nat} (hi : i < l.length) {a : Value} (ha : a.oneCell' = true) (b : Bool) :
    Own RSl 38 [] base ((w.setCell ⟨G, i * 2, none⟩ a).setCell ⟨G, i * 2 + 1, none⟩ (.bool b)) (.slice (some ⟨G, 0, none⟩) n cap) (l.set i (a, b)) ∧ Step base [38] w ((w.setCell ⟨G, i * 2, none⟩ a).setCell ⟨G, i * 2 + 1, none⟩ (.bool b)) := by
  obtain ⟨G', cap', xs, rest, hv, hb, hblk, hx, hels, hl, hc, hm⟩ := lown_open h (by omega)
  injection hv with e1 e2 e3
  injection e1 with e1
  injection e1 with e1
  subst e1; subst e3
  have s1 := hblk.set_ (i * 2) a
  have s2 := s1.set_ (i * 2 + 1) (.bool b)
  have hst : Step base [38] w _ := ((Step.refl base [38] w).setCell (p := ⟨G, i * 2, none⟩) hb hblk.bears a).setCell (p := ⟨G, i * 2 + 1, none⟩) hb s1.bears (.bool b)
  have esz : RSl.sz = 2 := rfl
  rw [esz] at hx
  simp only [List.setIfInBounds_toArray] at s2
  rw [list_set2 xs (i * 2) (by omega)] at s2
  have hkp : Keep (Typed base [] w) w (Typed base [] ((w.setCell ⟨G, i * 2, none⟩ a).setCell ⟨G, i * 2 + 1, none⟩ (.bool b))) _ := Keep.step (T := []) hst (by simp)
  have hel4 := (hels.mono hkp).set_ i (a, b) [a, .bool b] hi ⟨[a], [.bool b], rfl, ⟨rfl, ha⟩, rfl⟩
  rw [esz, show (i + 1) * 2 = i * 2 + 2 by omega] at hel4
  refine ⟨lown_shut (by simp) hb s2 hel4 (by rw [List.length_set]; exact e2.symm) ?_ (by omega) hm, hst⟩
  rw [← hl]
  simp only [List.length_append, List.length_take, List.length_drop, List.length_cons, List.length_nil]
  omega
theorem ownl_mark (h : Own RSl 38 [] base w (.slice (some ⟨G, 0, none⟩) n cap) l) {i : Nat} (hi : i < l.length) (b : Bool) :
    Own RSl 38 [] base (w.setCell ⟨G, i * 2 + 1, none⟩ (.bool b)) (.slice (some ⟨G, 0, none⟩) n cap) (l.set i (l[i].1, b)) ∧ Step base [38] w (w.setCell ⟨G, i * 2 + 1, none⟩ (.bool b)) := by
  obtain ⟨G', cap', xs, rest, hv, hb, hblk, hx, hels, hl, hc, hm⟩ := lown_open h (by omega)
  injection hv with e1 e2 e3
  injection e1 with e1
  injection e1 with e1
  subst e1; subst e3
  have hst : Step base [38] w _ := (Step.refl base [38] w).setCell (p := ⟨G, i * 2 + 1, none⟩) hb hblk.bears (.bool b)
  have esz : RSl.sz = 2 := rfl
  rw [esz] at hx
  obtain ⟨u, ⟨v1, v2, rfl, ⟨rfl, ho⟩, e4⟩, hu⟩ := hels.at_ i l[i] (List.getElem?_eq_getElem hi)
  rw [esz] at hu
  have h0 := hu 0 (by omega)
  simp only [Nat.add_zero] at h0
  have s1 := hblk.set_ (i * 2 + 1) (.bool b)
  simp only [List.setIfInBounds_toArray] at s1
  rw [list_set1 xs (i * 2) l[i].1 (by omega) h0] at s1
  have hkp : Keep (Typed base [] w) w (Typed base [] (w.setCell ⟨G, i * 2 + 1, none⟩ (.bool b))) _ := Keep.step (T := []) hst (by simp)
  have hel4 := (hels.mono hkp).set_ i (l[i].1, b) [l[i].1, .bool b] hi ⟨[l[i].1], [.bool b], rfl, ⟨rfl, ho⟩, rfl⟩
  rw [esz, show (i + 1) * 2 = i * 2 + 2 by omega] at hel4
  refine ⟨lown_shut (by simp) hb s1 hel4 (by rw [List.length_set]; exact e2.symm) ?_ (by omega) hm, hst⟩
  rw [← hl]
  simp only [List.length_append, List.length_take, List.length_drop, List.length_cons, List.length_nil]
  omega
end
/-- The block of a grid's row of pointers lies below N. -/
def GLt (N : Nat) (w : World) (v : Value) : Prop := ∀ g s, v = .pointer (some ⟨g, 0, none⟩) → w.cell? ⟨g, 0, none⟩ = some s → ∀ G, s.ownBlock = some G → G < N
theorem GridP.glt {base : Nat} {w : World} {v : Value} {ps : List RowP} (h : GridP base w v ps) : GLt w.heap.size w v := by
  obtain ⟨g, s, rfl, h1, h2, h3, h4⟩ := h
  intro g' s' e hs G hG
  injection e with e
  injection e with e
  injection e with e
  subst e
  have x0 := h2.cell 0
  simp only [List.getElem?_toArray, List.getElem?_cons_zero] at x0
  rw [x0] at hs
  injection hs with hs
  subst hs
  exact (h3.lt_ G hG).2
theorem GLt.below {base N : Nat} {w w' : World} {v : Value} {ps : List RowP} (h : GLt N w v) (hg : GridP base w v ps) (hb : Below w.heap.size w w') : GLt N w' v := by
  obtain ⟨g, s, rfl, h1, h2, h3, h4⟩ := hg
  intro g' s' e hs G hG
  refine h g' s' e ?_ G hG
  injection e with e
  injection e with e
  injection e with e
  subst e
  rw [← hs]
  exact (hb.cell (p := ⟨g, 0, none⟩) h2.lt).symm
/-- What a store into another row of pointers leaves. -/
theorem GridP.gb {base G : Nat} {w w' : World} {v : Value} {ps : List RowP} (h : GridP base w v ps) (hg : w.grownBy w' (some G)) (hb : Bears [33] w G) (hne : G < base) : GridP base w' v ps := by
  obtain ⟨g, s, rfl, h1, h2, h3, h4⟩ := h
  have hst : Step 0 [33] w w' := Step.of_grown hg (fun k hk => by injection hk with hk; subst hk; exact ⟨Nat.zero_le _, hb⟩)
  refine ⟨g, s, rfl, h1, h2.grown hg (fun e => by injection e with e; omega), ?_, h4.step hst (by decide) (by decide) (by decide)⟩
  obtain ⟨hT, xs, ⟨hx, hown⟩, hels⟩ := h3
  refine ⟨hT, xs, ⟨hx, ?_⟩, hels.flat RVal.flat⟩
  rcases hown with hn | ⟨g', cap, cur, rfl, hb', hh, rest⟩
  · exact .inl hn
  · refine .inr ⟨g', cap, cur, rfl, hb', ?_, rest⟩
    rw [hg.block g' (Array.getElem?_eq_some_iff.1 hh).1 (fun e => by injection e with e; omega)]
    exact hh
theorem GSet2_in (N base b2 : Nat) (v r : Value) (l : List CellV) (wr : Bool) (i : Nat) (ps : List RowP) (w : World) (h : GridP base w v ps) (hN : GLt N w v) (hi : i < ps.length) (hr : RowIs b2 w r l wr) (hb : base ≤ b2) (hne : ∀ p ∈ ps, p.1 ≠ r) (hq : l.length = ps[i].2.1.length) :
    Calls Tryd.prog 15 #[v, .int .i64 i, r] w fun e w' => e = .returned (.bool true) ∧ GridP base w' v (ps.set i (r, l, wr)) ∧ Step base [33] w w' ∧ ∃ G, G < N ∧ w.grownBy w' (some G) ∧ Bears [33] w G := by
  have hW := Wide_ok b2 r l wr w hr
  have hR := GRow_in base v ps i w h hi
  obtain ⟨g, s, rfl, h1, h2, h3, h4⟩ := h
  have hW2 := Wide_ok base _ _ _ w (h4.row ps[i] (List.getElem_mem _))
  obtain ⟨gr, e, _, _⟩ := hr.lt
  subst e
  have HR := hide hR
  have HW := hide hW
  have HW2 := hide hW2
  have HRW := hide hr
  have HNE := hide hne
  have hrs := h4
  clear hW hR hW2 hr hne h4
  obtain ⟨n, hn⟩ : ∃ n, ps[i].2.1.length = n := ⟨_, rfl⟩
  rw [hn] at HW2 hq
  clear hn
  have hqb : ((n : Int) != l.length) = false := by simp; omega
  obtain ⟨G, cap, rfl, hGb, hGl, hc, x1, f1⟩ := ownv_at h3 (i := i) (by simpa using hi)
  obtain ⟨hset, hst⟩ := ownv_set h3 (i := i) (by simpa using hi) (x := .pointer (some ⟨gr, 0, none⟩)) rfl
  have e : (ps.map Prod.fst).set i (.pointer (some ⟨gr, 0, none⟩)) = (ps.set i (.pointer (some ⟨gr, 0, none⟩), l, wr)).map Prod.fst := by rw [List.map_set]
  rw [e] at hset
  have HS := hide hset
  have hst0 := hst
  have hrs2 := hrs.put (i := i) HRW.out hb HNE.out
  have hrs3 := hrs2.step hst (by decide) (by decide) (by decide)
  have h22 := h2.step hst (by decide)
  have HRS := hide hrs3
  have H22 := hide h22
  have HST := hide hst0
  have x0 := h2.cell 0
  simp only [List.getElem?_toArray, List.getElem?_cons_zero] at x0
  have HG := hide (hN g _ rfl x0 G rfl)
  have HGB := hide (gb_set (gb_refl w G) i (.pointer (some ⟨gr, 0, none⟩)))
  have hbr : Bears [33] w G := by
    obtain ⟨_, xs, hown, _⟩ := h3
    exact (own_bears hown G rfl).2
  have HBR := hide hbr
  rw [List.length_map] at x0 hc
  have hil : (i : Int) < ps.length := by omega
  rw [List.getElem_map] at x1
  clear hset hst hst0 hrs2 hrs3 h22 hrs h3 hGb hGl e hN hbr
  go_enter Tryd.func15, Tryd.ntmps15
  go_wp2_with fail
  refine HR.out.mono ?_
  rintro e2 w2 ⟨rfl, rfl⟩
  go_wp2_with fail
  refine HW2.out.mono ?_
  rintro e2 w2 ⟨rfl, rfl⟩
  go_wp2_with fail
  refine HW.out.mono ?_
  rintro e2 w2 ⟨rfl, rfl⟩
  go_wp2
  go_ret
  refine ⟨rfl, ⟨g, _, rfl, h1, ?_, HS.out, HRS.out⟩, HST.out, G, HG.out, HGB.out, HBR.out⟩
  exact H22.out
theorem repl_short {n m : Nat} (hn : n ≤ 100000) {ps : List RowP} (h : ps.map Prod.snd = List.replicate m (List.replicate n ((0, []) : CellV), false)) : ps.length = m ∧ ∀ p ∈ ps, p.2 = (List.replicate n (0, []), false) ∧ p.2.1.length ≤ 100000 ∧ ∀ c ∈ p.2.1, c.2.length ≤ 16 := by
  refine ⟨by have := congrArg List.length h; simpa using this, fun p hp => ?_⟩
  have : p.2 ∈ ps.map Prod.snd := List.mem_map_of_mem hp
  rw [h] at this
  have e := List.eq_of_mem_replicate this
  refine ⟨e, by rw [e]; simpa using hn, fun c hc => ?_⟩
  rw [e] at hc
  have := List.eq_of_mem_replicate hc
  subst this
  simp

set_option maxHeartbeats 2000000 in
theorem works32_ok (w : World) :
    Calls Tryd.prog 9 #[] w fun e w' => e = .returned (.bool true) ∧ Below w.heap.size w w' := by
  have HN := hide (GNew_ok 2 0 (by decide) (by decide))
  go_enter Tryd.func9, Tryd.ntmps9
  go_wp2_with fail
  refine (HN.out w).mono ?_
  rintro e w1 ⟨v, qs, rfl, hg, hqs, hb1⟩
  rw [show sideN 0 = 1 by decide, show sideN 2 = 2 by decide] at hqs
  obtain ⟨hl, hall⟩ := repl_short (by omega) hqs
  have hz1 := hb1.size
  have h0 : 0 < qs.length := by omega
  have hw0 : qs[0].2.1.length = 2 := by rw [(hall qs[0] (List.getElem_mem _)).1]; rfl
  have hW := GWide_ok w.heap.size v qs w1 hg h0
  rw [hw0] at hW
  have hH := GHigh_ok w.heap.size v qs w1 hg
  rw [hl] at hH
  have hR0 := GRow_in w.heap.size v qs 0 w1 hg h0
  have hR1 := GRow_out w.heap.size v qs 1 w1 hg (by omega)
  have hL := GLines_ok w.heap.size v qs w1 hg (by omega) (fun p hp => (hall p hp).2)
  obtain ⟨g, s, rfl, _, _, _, hrs⟩ := hg
  have hRW := Wide_ok w.heap.size _ _ _ w1 (hrs.row qs[0] (List.getElem_mem _))
  rw [hw0] at hRW
  obtain ⟨g0, e0, _, _⟩ := hrs.lt qs[0] (List.getElem_mem _)
  rw [e0] at hRW hR0
  have HW := hide hW
  have HH := hide hH
  have HR0 := hide hR0
  have HR1 := hide hR1
  have HL := hide hL
  have HRW := hide hRW
  have HQS := hide hqs
  clear hW hH hR0 hR1 hL hRW hqs hall hrs e0 hw0 hl h0
  go_wp2_with fail
  refine HW.out.mono ?_
  rintro e w2 ⟨rfl, rfl⟩
  go_wp2_with fail
  refine HH.out.mono ?_
  rintro e w2 ⟨rfl, rfl⟩
  go_wp2_with fail
  refine HR0.out.mono ?_
  rintro e w2 ⟨rfl, rfl⟩
  go_wp2_with fail
  refine HRW.out.mono ?_
  rintro e w2 ⟨rfl, rfl⟩
  go_wp2_with fail
  refine HR1.out.mono ?_
  rintro e w2 ⟨rfl, rfl⟩
  go_wp2_with fail
  refine HL.out.mono ?_
  rintro e w2 ⟨sl, rfl, hsl, hb2⟩
  rw [HQS.out] at hsl
  obtain ⟨A2, c2, rfl, _, _, _⟩ := hsl.open_
  simp only [List.length_replicate]
  go_wp2
  go_ret
  exact ⟨rfl, hb1.trans (hb2.mono hz1)⟩
end Go.Proofs.YtbkenfljknpjgaaDoor
