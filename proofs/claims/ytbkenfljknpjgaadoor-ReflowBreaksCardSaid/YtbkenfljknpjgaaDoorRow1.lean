/-
  Rows of cells in memory; what the functions that make and read them return. Each function once.
-/
import Derived.Test.YtbkenfljknpjgaaDoorCell6
import Derived.Test.YtbkenfljknpjgaaDoorCell3
import Derived.Test.YtbkenfljknpjgaaDoorFit0
import Derived.Deep.RegionHeld3
import Derived.Lib.SliceRun
namespace Go.Proofs.YtbkenfljknpjgaaDoor
open Go.RowKit
set_option linter.unusedVariables false
set_option linter.unusedSimpArgs false

theorem Blk.dr {w : World} {g : Nat} {t : TypeId} {cs : Array Value} (h : Blk w g t cs) : Blk w.drew g t cs := h
theorem below_dr {B : Nat} {w w' : World} (h : Below B w w') : Below B w w'.drew := ⟨h.os, h.tape, h.output, h.size, h.block⟩
theorem keep_dr (S : Nat → Prop) (w : World) : Keep S w S w.drew := fun _ _ h h' => ⟨h, h'⟩
theorem own_dr {α : Type} {R : Rep α} {e : TypeId} {T : List TypeId} {base : Nat} {w : World} {v : Value} {l : List α} (h : Own R e T base w v l) : Own R e T base w.drew v l :=
  h.step (es := []) ((Step.refl base [] w).drew) (by simp) (by simp)

theorem Clone_ok (So Si : Nat → Prop) (x : Value) (t : List Int) (w : World) (hx : Slc (Rep.int .i32) So Si w x t) (hlen : t.length ≤ 100000 := by omega) :
    Calls Tryd.prog 62 #[x] w fun e w' => ∃ v, e = .returned v ∧ Own (Rep.int .i32) 21 [] w.heap.size w' v t ∧ Below w.heap.size w w' := by
  obtain ⟨A, c, rfl, hc1, hc2, hB⟩ := hx.open_
  cases A with
  | none =>
    have ht : t = [] := by
      apply Classical.byContradiction
      intro h
      have : 0 < t.length := by cases t <;> simp at *
      obtain ⟨_, _, h', _⟩ := ints_at hB this
      cases h'
    have HT := hide ht
    have hnil := fun w => Lib.run_eql_slice_nil (P := Tryd.prog) w 48 21 none t.length c 0 0 Tryd.underlying48
    simp only [Option.isNone_none] at hnil
    clear hB ht
    go_enter Tryd.func62, Tryd.ntmps62
    set_option maxRecDepth 100000 in go_wp2
    go_ret
    rw [HT.out]
    exact ⟨_, rfl, Own.nil_ _ _ _ _ _ (by simp), Below.refl _ _⟩
  | some a =>
    have hown0 : Own (Rep.int .i32) 21 [] w.heap.size (w.alloc (.cells #[] 21)) (.slice (some ⟨w.heap.size, 0, none⟩) 0 0) [] := own_i32 w [] (by simp) w.heap.size w.heap.size 0 (Nat.le_refl _) rfl rfl (by simp [maxLen])
    have hx1 := hx.ints_keep (Keep.alloc So w (.cells #[] 21))
    have hnil := fun w => Lib.run_eql_slice_nil (P := Tryd.prog) w 48 21 (some a) t.length c 0 0 Tryd.underlying48
    simp only [Option.isNone_some] at hnil
    go_enter Tryd.func62, Tryd.ntmps62
    set_option maxRecDepth 100000 in go_wp2_with (at_builtin; refine wpList_appi rfl (.tmp 5) (.tmp 6) 48 rfl .i32 21 w.heap.size 4 Tryd.underlying48 i32_info (by decide) _ _ rfl hown0 _ _ _ _ rfl hx1 (by simp; omega) (by simp) ?_; intro v2 w2 hv2 hst2; rw [List.nil_append] at hv2)
    go_ret
    exact ⟨_, rfl, hv2, ((Below.refl _ w).alloc (Nat.le_refl _) _).trans (hst2.below (by simp))⟩

set_option maxHeartbeats 1000000 in
theorem own_ok (So Si : Nat → Prop) (k : Int) (x : Value) (t : List Int) (w : World) (hx : Slc (Rep.int .i32) So Si w x t) (hlen : t.length ≤ 100000) :
    Calls Tryd.prog 43 #[.agg #[.int .i64 k, x]] w fun e w' => ∃ v, e = .returned (.agg #[.int .i64 k, v]) ∧ Own (Rep.int .i32) 21 [] w.heap.size w' v t ∧ Below w.heap.size w w' := by
  obtain ⟨A, c, rfl, hc1, hc2, _⟩ := hx.open_
  have hvd := ((hx.ints_keep (Keep.alloc So w (.cells #[.int .i64 k, .slice A t.length c] 74))).ints_keep (Keep.alloc So _ (.cells #[.int .i64 0, .slice none 0 0] 74))).ints_keep (keep_dr So _)
  have hB := Blk.new w 74 #[.int .i64 k, .slice A t.length c]
  have hB2 := hB.alloc (.cells #[.int .i64 0, .slice none 0 0] 74)
  have B0 := hB2.cell 0
  have B1 := hB2.cell 1
  simp only [List.getElem?_toArray, List.getElem?_cons_succ, List.getElem?_cons_zero] at B0 B1
  go_enter Tryd.func43, Tryd.ntmps43
  go_wp2
  refine wp_region_held_drew (S := fun w' => w'.cell? ⟨w.heap.size, 0, none⟩ = some (.int .i64 k) ∧ w'.cell? ⟨w.heap.size, 1, none⟩ = some (.slice A t.length c)) (by kernel_rfl) (by go_keep) (fun hHeld => ?_)
  refine wpAnyH_take (i := 0) (oi := ?_) (v := ?_) ?_ (by kernel_rfl) (by kernel_rfl) (by kernel_rfl) ?_ (Or.inl ⟨?_, ?_⟩) (by assumption) ?_
  rotate_left 2
  · (simp only [List.getElem?_toArray, List.getElem?_cons_succ, List.getElem?_cons_zero]; rfl)
  rotate_left 1
  · rfl
  · (intro w hSw; (try dsimp only at hSw); go_simp; try with_reducible rfl)
  rotate_left 1
  · exact fun _ _ _ h => h
  try simp only [Act.put, List.setIfInBounds_toArray, List.set_cons_zero, List.set_cons_succ]
  refine wpAnyH_take (i := 1) (oi := ?_) (v := ?_) ?_ (by kernel_rfl) (by kernel_rfl) (by kernel_rfl) ?_ (Or.inl ⟨?_, ?_⟩) (by assumption) ?_
  rotate_left 2
  · (simp only [List.getElem?_toArray, List.getElem?_cons_succ, List.getElem?_cons_zero]; rfl)
  rotate_left 1
  · rfl
  · (intro w hSw; (try dsimp only at hSw); go_simp; try with_reducible rfl)
  rotate_left 1
  · exact fun _ _ _ h => h
  try simp only [Act.put, List.setIfInBounds_toArray, List.set_cons_zero, List.set_cons_succ]
  refine wpAnyH_take (i := 2) (oi := ?_) (v := ?_) ?_ (by kernel_rfl) (by kernel_rfl) (by kernel_rfl) ?_ (Or.inl ⟨?_, ?_⟩) (by assumption) ?_
  rotate_left 2
  · (simp only [List.getElem?_toArray, List.getElem?_cons_succ, List.getElem?_cons_zero]; rfl)
  rotate_left 1
  · rfl
  · (intro w hSw; (try dsimp only at hSw); go_simp; try with_reducible rfl)
  rotate_left 1
  · exact fun _ _ _ h => h
  try simp only [Act.put, List.setIfInBounds_toArray, List.set_cons_zero, List.set_cons_succ]
  refine wpAnyH_take (i := 3) (oi := ?_) (v := ?_) ?_ (by kernel_rfl) (by kernel_rfl) (by kernel_rfl) ?_ (Or.inl ⟨?_, ?_⟩) (by assumption) ?_
  rotate_left 2
  · (simp only [List.getElem?_toArray, List.getElem?_cons_succ, List.getElem?_cons_zero]; rfl)
  rotate_left 1
  · rfl
  · (intro w hSw; (try dsimp only at hSw); go_simp; try with_reducible rfl)
  rotate_left 1
  · exact fun _ _ _ h => h
  try simp only [Act.put, List.setIfInBounds_toArray, List.set_cons_zero, List.set_cons_succ]
  refine wpAnyH_ready (rs := [4]) (by kernel_rfl) (by simp) ?_
  refine AllReadyH.cons (o := ?_) ?_ (fun K hK => ?_) AllReadyH.nil
  rotate_left 1
  · (simp only [List.getElem?_toArray, List.getElem?_cons_succ, List.getElem?_cons_zero]; rfl)
  go_simp
  (go_at_call 62; refine (Clone_ok _ _ _ t _ hvd).mono ?_; rintro e w3 ⟨v3, rfl, hv3, hb3⟩; obtain ⟨A3, c3, rfl, _, _, _⟩ := hv3.islc.open_; have z0 := (hb3.cell (p := ⟨w.heap.size, 0, none⟩) (by simp <;> omega)).trans (by first | assumption | exact B0 : _ = some (.int .i64 k)); have z1 := (hb3.cell (p := ⟨w.heap.size, 1, none⟩) (by simp <;> omega)).trans (by first | assumption | exact B1 : _ = some (.slice A t.length c)); have hg3 : Blk w3 (w.heap.size + 1) 74 #[.int .i64 0, .slice none 0 0] := (by have := Blk.new (w.alloc (.cells #[.int .i64 k, .slice A t.length c] 74)) 74 #[.int .i64 0, .slice none 0 0]; simp only [World.size_alloc] at this; exact Blk.same this.dr hb3); have g0 := hg3.cell 0; have g1 := hg3.cell 1; have gf0 := hg3.frozen 0; have gf1 := hg3.frozen 1; have gl := hg3.lt; simp only [List.getElem?_toArray, List.getElem?_cons_succ, List.getElem?_cons_zero] at g0 g1)
  refine hK.out _ _ ?_ (fun hHeld => ?_)
  · ((try dsimp only); go_keep)
  clear hK K
  try simp only [Act.put, List.setIfInBounds_toArray, List.set_cons_zero, List.set_cons_succ]
  refine wpAnyH_take (i := 5) (oi := ?_) (v := ?_) ?_ (by kernel_rfl) (by kernel_rfl) (by kernel_rfl) ?_ (Or.inl ⟨?_, ?_⟩) (by assumption) ?_
  rotate_left 2
  · (simp only [List.getElem?_toArray, List.getElem?_cons_succ, List.getElem?_cons_zero]; rfl)
  rotate_left 1
  · rfl
  · (intro w hSw; (try dsimp only at hSw); go_simp; try with_reducible rfl)
  rotate_left 1
  · exact fun _ _ _ h => h
  try simp only [Act.put, List.setIfInBounds_toArray, List.set_cons_zero, List.set_cons_succ]
  refine wpAnyH_ready (rs := [6]) (by kernel_rfl) (by simp) ?_
  refine AllReadyH.cons (o := ?_) ?_ (fun K hK => ?_) AllReadyH.nil
  rotate_left 1
  · (simp only [List.getElem?_toArray, List.getElem?_cons_succ, List.getElem?_cons_zero]; rfl)
  go_simp
  refine hK.out _ _ ?_ (fun hHeld => ?_)
  · ((try dsimp only); go_keep)
  clear hK K
  try simp only [Act.put, List.setIfInBounds_toArray, List.set_cons_zero, List.set_cons_succ]
  refine wpAnyH_done (by kernel_rfl) ?_ _
  go_wp2
  have hst : Step w.heap.size [74] w3 _ := ((Step.refl w.heap.size [74] w3).setCell (p := ⟨w.heap.size + 1, 0, none⟩) (by simp) hg3.bears (.int .i64 k)).setCell (p := ⟨w.heap.size + 1, 1, none⟩) (by simp) (hg3.set_ 0 (.int .i64 k)).bears (.slice A3 t.length c3)
  have hz3 := hb3.size
  have hbel : Below w.heap.size w w3 := (below_dr (((Below.refl _ w).alloc (Nat.le_refl _) _).alloc (by simp) _)).trans (hb3.mono (by simp <;> omega))
  have h2 := ((hg3.set_ 0 (.int .i64 k)).set_ 1 (.slice A3 t.length c3))
  have x0 := h2.cell 0
  have x1 := h2.cell 1
  simp only [List.setIfInBounds_toArray, List.set_cons_zero, List.set_cons_succ, List.getElem?_toArray, List.getElem?_cons_succ, List.getElem?_cons_zero] at x0 x1
  refine bodyPost_ret (v := .agg #[.int .i64 k, .slice A3 t.length c3]) (by simp [results, Tryd.results43, go_sem, x0, x1]) rfl ⟨_, rfl, (hv3.ints_step hst (by decide)).ints_base (by simp <;> omega) (by simp), hbel.trans (hst.below (by simp at hz3; omega))⟩

/-- A row of cells in the call's own memory, behind a pointer. -/
def RowIs (base : Nat) (w : World) (v : Value) (l : List CellV) (wrap : Bool) : Prop :=
  ∃ g s, v = .pointer (some ⟨g, 0, none⟩) ∧ base ≤ g ∧ Blk w g 83 #[s, .bool wrap] ∧ Own2 RCell 74 [21] base 0 w s l
theorem RowIs.below {base : Nat} {w w' : World} {v : Value} {l : List CellV} {wrap : Bool} (h : RowIs base w v l wrap) (hb : Below w.heap.size w w') : RowIs base w' v l wrap := by
  obtain ⟨g, s, rfl, h1, h2, h3⟩ := h
  exact ⟨g, s, rfl, h1, h2.same hb, h3.below hb⟩
theorem RowIs.drewN {base : Nat} {w : World} {v : Value} {l : List CellV} {wrap : Bool} (h : RowIs base w v l wrap) (n : Nat) : RowIs base (w.drewN n) v l wrap := by
  obtain ⟨g, s, rfl, h1, h2, h3⟩ := h
  exact ⟨g, s, rfl, h1, h2.drewN n, h3.drewN n⟩
theorem RowIs.alloc {base : Nat} {w : World} {v : Value} {l : List CellV} {wrap : Bool} (h : RowIs base w v l wrap) (o : Obj) : RowIs base (w.alloc o) v l wrap := by
  obtain ⟨g, s, rfl, h1, h2, h3⟩ := h
  exact ⟨g, s, rfl, h1, h2.alloc o, h3.alloc o⟩

theorem els_blanks_any {S S' : Nat → Prop} {w : World} : ∀ (n : Nat) (xs : List Value), Els RCell S w (List.replicate n ((0, []) : CellV)) xs → Els RCell S' w (List.replicate n ((0, []) : CellV)) xs
  | 0, xs, h => h
  | n + 1, xs, ⟨u, xs', e, ⟨a1, a2, e2, h1, v, e3, hv⟩, h⟩ => by
    obtain ⟨A, c, rfl, _, hc, _⟩ := hv.open_
    exact ⟨u, xs', e, ⟨a1, a2, e2, h1, _, e3, Slc.empty_ A c (by simp [maxLen]; omega)⟩, els_blanks_any n xs' h⟩
theorem own2_blanks {e : TypeId} {T : List TypeId} {base base' n : Nat} {w : World} {v : Value} (h : Own RCell e T base w v (List.replicate n (0, []))) (hb : base' ≤ base) : Own2 RCell e T base' 0 w v (List.replicate n (0, [])) := by
  obtain ⟨hT, xs, ⟨hx, hown⟩, hels⟩ := h
  refine ⟨Nat.zero_le _, hT, xs, ⟨hx, ?_⟩, els_blanks_any n xs hels⟩
  rcases hown with hn | ⟨g, cap, cur, rfl, h1, rest⟩
  · exact .inl hn
  · exact .inr ⟨g, cap, cur, rfl, Nat.le_trans hb h1, rest⟩

theorem New_ok (n : Nat) (h0 : 1 ≤ n) (h1 : n ≤ 1024) (w : World) :
    Calls Tryd.prog 42 #[.int .i64 n] w fun e w' => ∃ v, e = .returned v ∧ RowIs w.heap.size w' v (List.replicate n (0, [])) false ∧ Below w.heap.size w w' := by
  have hb : blanksN (n : Int) = n := by unfold blanksN; omega
  have hR := fun w => Blanks_ok (n : Int) (wf_i64 (by omega) (by omega)) w
  rw [hb] at hR
  have HR := hide hR
  have e1 : (1 : Int) ≤ n := by omega
  clear hb hR
  by_cases e2 : n = 1
  · subst e2
    go_enter Tryd.func42, Tryd.ntmps42
    go_wp2_with (refine (HR.out _).mono ?_; rintro e w1 ⟨v1, rfl, hv1, hb1⟩; obtain ⟨A1, c1, rfl, _, _, _⟩ := hv1.slc.open_)
    go_ret
    exact ⟨_, rfl, ⟨w1.heap.size, _, rfl, hb1.size, Blk.new _ _ _, (own2_blanks hv1 (Nat.le_refl _)).alloc _⟩, hb1.alloc hb1.size _⟩
  · have e3 : (1 : Int) < n := by omega
    clear e2
    go_enter Tryd.func42, Tryd.ntmps42
    go_wp2_with (refine (HR.out _).mono ?_; rintro e w1 ⟨v1, rfl, hv1, hb1⟩; obtain ⟨A1, c1, rfl, _, _, _⟩ := hv1.slc.open_)
    rw [List.length_replicate] at hv1
    go_ret
    exact ⟨_, rfl, ⟨w1.heap.size, _, rfl, hb1.size, Blk.new _ _ _, (own2_blanks hv1 (Nat.le_refl _)).alloc _⟩, hb1.alloc hb1.size _⟩

theorem Wide_ok (base : Nat) (v : Value) (l : List CellV) (wrap : Bool) (w : World) (h : RowIs base w v l wrap) :
    Calls Tryd.prog 37 #[v] w fun e w' => e = .returned (.int .i64 l.length) ∧ w = w' := by
  obtain ⟨g, s, rfl, h1, h2, h3⟩ := h
  obtain ⟨A, c, rfl, _, _, _⟩ := h3.slc.open_
  have x0 := h2.cell 0
  have x1 := h2.lt
  simp only [List.getElem?_toArray, List.getElem?_cons_succ, List.getElem?_cons_zero] at x0
  go_enter Tryd.func37, Tryd.ntmps37
  go_wp2
  go_ret
  exact ⟨rfl, rfl⟩
theorem Wide_nil (w : World) : Calls Tryd.prog 37 #[.pointer none] w fun e w' => e = .returned (.int .i64 0) ∧ w = w' := by
  go_enter Tryd.func37, Tryd.ntmps37
  go_wp2
  go_ret
  exact ⟨rfl, rfl⟩
theorem Wrap_ok (base : Nat) (v : Value) (l : List CellV) (wrap : Bool) (w : World) (h : RowIs base w v l wrap) :
    Calls Tryd.prog 47 #[v] w fun e w' => e = .returned (.bool wrap) ∧ w = w' := by
  obtain ⟨g, s, rfl, h1, h2, h3⟩ := h
  have x0 := h2.cell 1
  have x1 := h2.lt
  simp only [List.getElem?_toArray, List.getElem?_cons_succ, List.getElem?_cons_zero] at x0
  go_enter Tryd.func47, Tryd.ntmps47
  go_wp2
  go_ret
  exact ⟨rfl, rfl⟩
theorem GoOn_ok (base : Nat) (v : Value) (l : List CellV) (wrap on : Bool) (w : World) (h : RowIs base w v l wrap) :
    Calls Tryd.prog 16 #[v, .bool on] w fun e w' => (∃ r, e = .returned r) ∧ RowIs base w' v l on ∧ Step base [83] w w' := by
  obtain ⟨g, s, rfl, h1, h2, h3⟩ := h
  have x0 := h2.cell 1
  have x1 := h2.lt
  have x2 := h2.frozen 1
  simp only [List.getElem?_toArray, List.getElem?_cons_succ, List.getElem?_cons_zero] at x0
  have hst : Step base [83] w (w.setCell ⟨g, 1, none⟩ (.bool on)) := (Step.refl _ _ _).setCell h1 h2.bears _
  go_enter Tryd.func16, Tryd.ntmps16
  go_wp2
  go_end0
  exact ⟨⟨_, rfl⟩, ⟨g, s, rfl, h1, h2.set_ 1 _, h3.step hst (by decide) (by decide)⟩, hst⟩
end Go.Proofs.YtbkenfljknpjgaaDoor
