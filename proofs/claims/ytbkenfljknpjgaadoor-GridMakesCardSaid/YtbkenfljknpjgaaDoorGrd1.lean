/-
  What the small functions of package grid return. Each function once.
-/
import Derived.Test.YtbkenfljknpjgaaDoorGrd0
namespace Go.Proofs.YtbkenfljknpjgaaDoor
open Go.RowKit
set_option linter.unusedVariables false
set_option linter.unusedSimpArgs false

theorem GHigh_ok (base : Nat) (v : Value) (ps : List RowP) (w : World) (h : GridP base w v ps) :
    Calls Tryd.prog 20 #[v] w fun e w' => e = .returned (.int .i64 ps.length) ∧ w = w' := by
  obtain ⟨g, s, rfl, h1, h2, h3, h4⟩ := h
  obtain ⟨A, c, rfl, _, _, _⟩ := h3.slc.open_
  rw [List.length_map] at h2
  have x0 := h2.cell 0
  simp only [List.getElem?_toArray, List.getElem?_cons_zero] at x0
  go_enter Tryd.func20, Tryd.ntmps20
  go_wp2
  go_ret
  exact ⟨rfl, rfl⟩
theorem GHigh_nil (w : World) : Calls Tryd.prog 20 #[.pointer none] w fun e w' => e = .returned (.int .i64 0) ∧ w = w' := by
  go_enter Tryd.func20, Tryd.ntmps20
  go_wp2
  go_ret
  exact ⟨rfl, rfl⟩

theorem GRow_in (base : Nat) (v : Value) (ps : List RowP) (i : Nat) (w : World) (h : GridP base w v ps) (hi : i < ps.length) :
    Calls Tryd.prog 14 #[v, .int .i64 i] w fun e w' => e = .returned ps[i].1 ∧ w = w' := by
  have hH := GHigh_ok base v ps w h
  have HH := hide hH
  clear hH
  obtain ⟨g, s, rfl, h1, h2, h3, h4⟩ := h
  obtain ⟨G, cap, rfl, _, _, hc, x1, _⟩ := ownv_at h3 (i := i) (by simpa using hi)
  rw [List.getElem_map] at x1
  rw [List.length_map] at h2 hc
  obtain ⟨gr, e, _, _⟩ := h4.lt ps[i] (List.getElem_mem _)
  rw [e] at x1
  rw [e]
  have x0 := h2.cell 0
  simp only [List.getElem?_toArray, List.getElem?_cons_zero] at x0
  have hii : (i : Int) < ps.length := by omega
  go_enter Tryd.func14, Tryd.ntmps14
  go_wp2_with fail
  refine HH.out.mono ?_
  rintro e2 w2 ⟨rfl, rfl⟩
  go_wp2
  go_ret
  exact ⟨rfl, rfl⟩
theorem GRow_out (base : Nat) (v : Value) (ps : List RowP) (i : Int) (w : World) (h : GridP base w v ps) (hi : ¬ (0 ≤ i ∧ i < ps.length)) :
    Calls Tryd.prog 14 #[v, .int .i64 i] w fun e w' => e = .returned (.pointer none) ∧ w = w' := by
  have hH := GHigh_ok base v ps w h
  have HH := hide hH
  clear hH
  obtain ⟨g, s, rfl, h1, h2, h3, h4⟩ := h
  by_cases hn : i < 0
  · clear hi
    go_enter Tryd.func14, Tryd.ntmps14
    go_wp2
    go_ret
    exact ⟨rfl, rfl⟩
  · have hge : (ps.length : Int) ≤ i := by omega
    clear hi
    go_enter Tryd.func14, Tryd.ntmps14
    go_wp2_with fail
    refine HH.out.mono ?_
    rintro e2 w2 ⟨rfl, rfl⟩
    go_wp2
    go_ret
    exact ⟨rfl, rfl⟩
theorem GRow_nil (i : Int) (w : World) :
    Calls Tryd.prog 14 #[.pointer none, .int .i64 i] w fun e w' => e = .returned (.pointer none) ∧ w = w' := by
  by_cases hn : i < 0
  · go_enter Tryd.func14, Tryd.ntmps14
    go_wp2
    go_ret
    exact ⟨rfl, rfl⟩
  · have hge : (0 : Int) ≤ i := by omega
    go_enter Tryd.func14, Tryd.ntmps14
    go_wp2_with fail
    refine (GHigh_nil w).mono ?_
    rintro e2 w2 ⟨rfl, rfl⟩
    go_wp2
    go_ret
    exact ⟨rfl, rfl⟩

theorem GWide_ok (base : Nat) (v : Value) (ps : List RowP) (w : World) (h : GridP base w v ps) (h0 : 0 < ps.length) :
    Calls Tryd.prog 19 #[v] w fun e w' => e = .returned (.int .i64 ps[0].2.1.length) ∧ w = w' := by
  have hR := GRow_in base v ps 0 w h h0
  obtain ⟨g, s, rfl, h1, h2, h3, h4⟩ := h
  have hW := Wide_ok base _ _ _ w (h4.row ps[0] (List.getElem_mem _))
  have HR := hide hR
  have HW := hide hW
  clear hR hW
  go_enter Tryd.func19, Tryd.ntmps19
  go_wp2_with fail
  refine HR.out.mono ?_
  rintro e2 w2 ⟨rfl, rfl⟩
  go_wp2_with fail
  refine HW.out.mono ?_
  rintro e2 w2 ⟨rfl, rfl⟩
  go_wp2
  go_ret
  exact ⟨rfl, rfl⟩
theorem GWide_nil (w : World) : Calls Tryd.prog 19 #[.pointer none] w fun e w' => e = .returned (.int .i64 0) ∧ w = w' := by
  go_enter Tryd.func19, Tryd.ntmps19
  go_wp2_with fail
  refine (GRow_nil 0 w).mono ?_
  rintro e2 w2 ⟨rfl, rfl⟩
  go_wp2_with fail
  refine (Wide_nil w).mono ?_
  rintro e2 w2 ⟨rfl, rfl⟩
  go_wp2
  go_ret
  exact ⟨rfl, rfl⟩

theorem GSet_none (v : Value) (i : Int) (w : World) :
    Calls Tryd.prog 15 #[v, .int .i64 i, .pointer none] w fun e w' => e = .returned (.bool false) ∧ w = w' := by
  go_enter Tryd.func15, Tryd.ntmps15
  go_wp2
  go_ret
  exact ⟨rfl, rfl⟩
theorem GSet_out (base b2 : Nat) (v r : Value) (l : List CellV) (wr : Bool) (i : Int) (w : World) (hrow : Calls Tryd.prog 14 #[v, .int .i64 i] w fun e w' => e = .returned (.pointer none) ∧ w = w') (hr : RowIs b2 w r l wr) (hl : 0 < l.length) :
    Calls Tryd.prog 15 #[v, .int .i64 i, r] w fun e w' => e = .returned (.bool false) ∧ w = w' := by
  have hW := Wide_ok b2 r l wr w hr
  obtain ⟨g, e, _, _⟩ := hr.lt
  subst e
  have HR := hide hrow
  have HW := hide hW
  have hne : ((0 : Int) != l.length) = true := by simp; omega
  clear hW hrow
  go_enter Tryd.func15, Tryd.ntmps15
  go_wp2_with fail
  refine HR.out.mono ?_
  rintro e2 w2 ⟨rfl, rfl⟩
  go_wp2_with fail
  refine (Wide_nil w).mono ?_
  rintro e2 w2 ⟨rfl, rfl⟩
  go_wp2_with fail
  refine HW.out.mono ?_
  rintro e2 w2 ⟨rfl, rfl⟩
  go_wp2
  go_ret
  exact ⟨rfl, rfl⟩
theorem GSet_in (base b2 : Nat) (v r : Value) (l : List CellV) (wr : Bool) (i : Nat) (ps : List RowP) (w : World) (h : GridP base w v ps) (hi : i < ps.length) (hr : RowIs b2 w r l wr) (hb : base ≤ b2) (hne : ∀ p ∈ ps, p.1 ≠ r) :
    Calls Tryd.prog 15 #[v, .int .i64 i, r] w fun e w' => (l.length ≠ ps[i].2.1.length → e = .returned (.bool false) ∧ w = w') ∧ (l.length = ps[i].2.1.length → e = .returned (.bool true) ∧ GridP base w' v (ps.set i (r, l, wr)) ∧ Step base [33] w w') := by
  have hW := Wide_ok b2 r l wr w hr
  have hR := GRow_in base v ps i w h hi
  obtain ⟨g, s, rfl, h1, h2, h3, h4⟩ := h
  have hW2 := Wide_ok base _ _ _ w (h4.row ps[i] (List.getElem_mem _))
  obtain ⟨gr, e, _, _⟩ := hr.lt
  subst e
  have HR := hide hR
  have HW := hide hW
  have HW2 := hide hW2
  have HRW := hide hr
  have HNE := hide hne
  have hrs := h4
  clear hW hR hW2 hr hne h4
  obtain ⟨n, hn⟩ : ∃ n, ps[i].2.1.length = n := ⟨_, rfl⟩
  rw [hn] at HW2 ⊢
  clear hn
  by_cases hq : l.length = n
  · have hqb : ((n : Int) != l.length) = false := by simp; omega
    obtain ⟨G, cap, rfl, hGb, hGl, hc, x1, f1⟩ := ownv_at h3 (i := i) (by simpa using hi)
    obtain ⟨hset, hst⟩ := ownv_set h3 (i := i) (by simpa using hi) (x := .pointer (some ⟨gr, 0, none⟩)) rfl
    have e : (ps.map Prod.fst).set i (.pointer (some ⟨gr, 0, none⟩)) = (ps.set i (.pointer (some ⟨gr, 0, none⟩), l, wr)).map Prod.fst := by rw [List.map_set]
    rw [e] at hset
    have HS := hide hset
    have hst0 := hst
    have hrs2 := hrs.put (i := i) HRW.out hb HNE.out
    have hrs3 := hrs2.step hst (by decide) (by decide) (by decide)
    have h22 := h2.step hst (by decide)
    have HRS := hide hrs3
    have H22 := hide h22
    have HST := hide hst0
    have x0 := h2.cell 0
    simp only [List.getElem?_toArray, List.getElem?_cons_zero] at x0
    rw [List.length_map] at x0 hc
    have hil : (i : Int) < ps.length := by omega
    rw [List.getElem_map] at x1
    clear hset hst hst0 hrs2 hrs3 h22 hrs h3 hGb hGl e
    go_enter Tryd.func15, Tryd.ntmps15
    go_wp2_with fail
    refine HR.out.mono ?_
    rintro e2 w2 ⟨rfl, rfl⟩
    go_wp2_with fail
    refine HW2.out.mono ?_
    rintro e2 w2 ⟨rfl, rfl⟩
    go_wp2_with fail
    refine HW.out.mono ?_
    rintro e2 w2 ⟨rfl, rfl⟩
    go_wp2
    go_ret
    refine ⟨fun hne => absurd hq hne, fun _ => ⟨rfl, ⟨g, _, rfl, h1, ?_, HS.out, HRS.out⟩, HST.out⟩⟩
    exact H22.out
  · have hqb : ((n : Int) != l.length) = true := by simp; omega
    clear hrs h3 h2
    go_enter Tryd.func15, Tryd.ntmps15
    go_wp2_with fail
    refine HR.out.mono ?_
    rintro e2 w2 ⟨rfl, rfl⟩
    go_wp2_with fail
    refine HW2.out.mono ?_
    rintro e2 w2 ⟨rfl, rfl⟩
    go_wp2_with fail
    refine HW.out.mono ?_
    rintro e2 w2 ⟨rfl, rfl⟩
    go_wp2
    go_ret
    exact ⟨fun _ => ⟨rfl, rfl⟩, fun e => absurd e hq⟩
end Go.Proofs.YtbkenfljknpjgaaDoor
