import Derived.Test.YtdjpdllehhecpaaGreatDoorQ11
import Derived.Test.YtdjpdllehhecpaaGreatDoorQ03
import Derived.Deep.RegionHeld3
import Derived.Lib.SliceRun
import Derived.Test.YtdjpdllehhecpaaGreatDoorQ10
import Derived.Test.YtdjpdllehhecpaaGreatDoorQ01
open List renaming getElem?_toArray → zA, getElem?_cons_succ → zB, getElem?_cons_zero → zC, setIfInBounds_toArray → zD, set_cons_zero → zE, set_cons_succ → zF
namespace Go.Proofs.YtdjpdllehhecpaaGreatDoor
open Go.RowKit
set_option linter.unusedVariables false
set_option linter.unusedSimpArgs false
theorem Blk.dr {w : World} {g : Nat} {t : TypeId} {cs : Array Value} (h : Blk w g t cs) : Blk w.drew g t cs := h
theorem below_dr {B : Nat} {w w' : World} (h : Below B w w') : Below B w w'.drew := ⟨h.os, h.tape, h.output, h.size, h.block⟩
theorem keep_dr (S : Nat → Prop) (w : World) : Keep S w S w.drew := fun _ _ h h' => ⟨h, h'⟩
theorem own_dr {α : Type} {R : Rep α} {e : TypeId} {T : List TypeId} {base : Nat} {w : World} {v : Value} {l : List α} (h : Own R e T base w v l) : Own R e T base w.drew v l :=
  h.step (es := []) ((Step.refl base [] w).drew) (by simp) (by simp)
theorem Clone_ok (So Si : Nat → Prop) (x : Value) (t : List Int) (w : World) (hx : Slc (Rep.int .i32) So Si w x t) (hlen : t.length ≤ 100000 := by omega) :
    Calls Tryz.prog 58 #[x] w fun e w' => ∃ v, e = .returned v ∧ Own (Rep.int .i32) 21 [] w.heap.size w' v t ∧ Below w.heap.size w w' := by
  obtain ⟨A, c, rfl, hc1, hc2, hB⟩ := hx.open_
  cases A with
  | none =>
    have ht : t = [] := by
      apply Classical.byContradiction
      intro h
      have : 0 < t.length := by cases t <;> simp at *
      obtain ⟨_, _, h', _⟩ := ints_at hB this
      cases h'
    have HT := hide ht
    have hnil := fun w => Lib.run_eql_slice_nil (P := Tryz.prog) w 24 21 none t.length c 0 0 Tryz.underlying24
    simp only [Option.isNone_none] at hnil
    clear hB ht
    go_enter Tryz.func58, Tryz.ntmps58
    set_option maxRecDepth 100000 in go_wp2
    go_ret
    rw [HT.out]
    exact ⟨_, rfl, Own.nil_ _ _ _ _ _ (by simp), Below.refl _ _⟩
  | some a =>
    have hown0 : Own (Rep.int .i32) 21 [] w.heap.size (w.alloc (.cells #[] 21)) (.slice (some ⟨w.heap.size, 0, none⟩) 0 0) [] := own_i32 w [] (by simp) w.heap.size w.heap.size 0 (Nat.le_refl _) rfl rfl (by simp [maxLen])
    have hx1 := hx.ints_keep (Keep.alloc So w (.cells #[] 21))
    have hnil := fun w => Lib.run_eql_slice_nil (P := Tryz.prog) w 24 21 (some a) t.length c 0 0 Tryz.underlying24
    simp only [Option.isNone_some] at hnil
    go_enter Tryz.func58, Tryz.ntmps58
    set_option maxRecDepth 100000 in go_wp2_with (at_builtin; refine wpList_appi rfl (.tmp 5) (.tmp 6) 24 rfl .i32 21 w.heap.size 4 Tryz.underlying24 i32_info (by decide) _ _ rfl hown0 _ _ _ _ rfl hx1 (by simp; omega) (by simp) ?_; intro v2 w2 hv2 hst2; rw [List.nil_append] at hv2)
    go_ret
    exact ⟨_, rfl, hv2, ((Below.refl _ w).alloc (Nat.le_refl _) _).trans (hst2.below (by simp))⟩
set_option maxHeartbeats 1000000 in
theorem own_ok (So Si : Nat → Prop) (k : Int) (x : Value) (t : List Int) (w : World) (hx : Slc (Rep.int .i32) So Si w x t) (hlen : t.length ≤ 100000) :
    Calls Tryz.prog 34 #[.agg #[.int .i64 k, x]] w fun e w' => ∃ v, e = .returned (.agg #[.int .i64 k, v]) ∧ Own (Rep.int .i32) 21 [] w.heap.size w' v t ∧ Below w.heap.size w w' := by
  obtain ⟨A, c, rfl, hc1, hc2, _⟩ := hx.open_
  have hvd := ((hx.ints_keep (Keep.alloc So w (.cells #[.int .i64 k, .slice A t.length c] 86))).ints_keep (Keep.alloc So _ (.cells #[.int .i64 0, .slice none 0 0] 86))).ints_keep (keep_dr So _)
  have hB := Blk.new w 86 #[.int .i64 k, .slice A t.length c]
  have hB2 := hB.alloc (.cells #[.int .i64 0, .slice none 0 0] 86)
  have B0 := hB2.cell 0
  have B1 := hB2.cell 1
  simp only [zA, zB, zC] at B0 B1
  go_enter Tryz.func34, Tryz.ntmps34
  go_wp2
  refine wp_region_held_drew (S := fun w' => w'.cell? ⟨w.heap.size, 0, none⟩ = some (.int .i64 k) ∧ w'.cell? ⟨w.heap.size, 1, none⟩ = some (.slice A t.length c)) (by kernel_rfl) (by go_keep) (fun hHeld => ?_)
  refine wpAnyH_take (i := 0) (oi := ?_) (v := ?_) ?_ (by kernel_rfl) (by kernel_rfl) (by kernel_rfl) ?_ (Or.inl ⟨?_, ?_⟩) (by assumption) ?_
  rotate_left 2
  · (simp only [zA, zB, zC]; rfl)
  rotate_left 1
  · rfl
  · (intro w hSw; (try dsimp only at hSw); go_simp; try with_reducible rfl)
  rotate_left 1
  · exact fun _ _ _ h => h
  try simp only [Act.put, zD, zE, zF]
  refine wpAnyH_take (i := 1) (oi := ?_) (v := ?_) ?_ (by kernel_rfl) (by kernel_rfl) (by kernel_rfl) ?_ (Or.inl ⟨?_, ?_⟩) (by assumption) ?_
  rotate_left 2
  · (simp only [zA, zB, zC]; rfl)
  rotate_left 1
  · rfl
  · (intro w hSw; (try dsimp only at hSw); go_simp; try with_reducible rfl)
  rotate_left 1
  · exact fun _ _ _ h => h
  try simp only [Act.put, zD, zE, zF]
  refine wpAnyH_take (i := 2) (oi := ?_) (v := ?_) ?_ (by kernel_rfl) (by kernel_rfl) (by kernel_rfl) ?_ (Or.inl ⟨?_, ?_⟩) (by assumption) ?_
  rotate_left 2
  · (simp only [zA, zB, zC]; rfl)
  rotate_left 1
  · rfl
  · (intro w hSw; (try dsimp only at hSw); go_simp; try with_reducible rfl)
  rotate_left 1
  · exact fun _ _ _ h => h
  try simp only [Act.put, zD, zE, zF]
  refine wpAnyH_take (i := 3) (oi := ?_) (v := ?_) ?_ (by kernel_rfl) (by kernel_rfl) (by kernel_rfl) ?_ (Or.inl ⟨?_, ?_⟩) (by assumption) ?_
  rotate_left 2
  · (simp only [zA, zB, zC]; rfl)
  rotate_left 1
  · rfl
  · (intro w hSw; (try dsimp only at hSw); go_simp; try with_reducible rfl)
  rotate_left 1
  · exact fun _ _ _ h => h
  try simp only [Act.put, zD, zE, zF]
  refine wpAnyH_ready (rs := [4]) (by kernel_rfl) (by simp) ?_
  refine AllReadyH.cons (o := ?_) ?_ (fun K hK => ?_) AllReadyH.nil
  rotate_left 1
  · (simp only [zA, zB, zC]; rfl)
  go_simp
  (go_at_call 58; refine (Clone_ok _ _ _ t _ hvd).mono ?_; rintro e w3 ⟨v3, rfl, hv3, hb3⟩; obtain ⟨A3, c3, rfl, _, _, _⟩ := hv3.islc.open_; have z0 := (hb3.cell (p := ⟨w.heap.size, 0, none⟩) (by simp <;> omega)).trans (by first | assumption | exact B0 : _ = some (.int .i64 k)); have z1 := (hb3.cell (p := ⟨w.heap.size, 1, none⟩) (by simp <;> omega)).trans (by first | assumption | exact B1 : _ = some (.slice A t.length c)); have hg3 : Blk w3 (w.heap.size + 1) 86 #[.int .i64 0, .slice none 0 0] := (by have := Blk.new (w.alloc (.cells #[.int .i64 k, .slice A t.length c] 86)) 86 #[.int .i64 0, .slice none 0 0]; simp only [World.size_alloc] at this; exact Blk.same this.dr hb3); have g0 := hg3.cell 0; have g1 := hg3.cell 1; have gf0 := hg3.frozen 0; have gf1 := hg3.frozen 1; have gl := hg3.lt; simp only [zA, zB, zC] at g0 g1)
  refine hK.out _ _ ?_ (fun hHeld => ?_)
  · ((try dsimp only); go_keep)
  clear hK K
  try simp only [Act.put, zD, zE, zF]
  refine wpAnyH_take (i := 5) (oi := ?_) (v := ?_) ?_ (by kernel_rfl) (by kernel_rfl) (by kernel_rfl) ?_ (Or.inl ⟨?_, ?_⟩) (by assumption) ?_
  rotate_left 2
  · (simp only [zA, zB, zC]; rfl)
  rotate_left 1
  · rfl
  · (intro w hSw; (try dsimp only at hSw); go_simp; try with_reducible rfl)
  rotate_left 1
  · exact fun _ _ _ h => h
  try simp only [Act.put, zD, zE, zF]
  refine wpAnyH_ready (rs := [6]) (by kernel_rfl) (by simp) ?_
  refine AllReadyH.cons (o := ?_) ?_ (fun K hK => ?_) AllReadyH.nil
  rotate_left 1
  · (simp only [zA, zB, zC]; rfl)
  go_simp
  refine hK.out _ _ ?_ (fun hHeld => ?_)
  · ((try dsimp only); go_keep)
  clear hK K
  try simp only [Act.put, zD, zE, zF]
  refine wpAnyH_done (by kernel_rfl) ?_ _
  go_wp2
  have hst : Step w.heap.size [86] w3 _ := ((Step.refl w.heap.size [86] w3).setCell (p := ⟨w.heap.size + 1, 0, none⟩) (by simp) hg3.bears (.int .i64 k)).setCell (p := ⟨w.heap.size + 1, 1, none⟩) (by simp) (hg3.set_ 0 (.int .i64 k)).bears (.slice A3 t.length c3)
  have hz3 := hb3.size
  have hbel : Below w.heap.size w w3 := (below_dr (((Below.refl _ w).alloc (Nat.le_refl _) _).alloc (by simp) _)).trans (hb3.mono (by simp <;> omega))
  have h2 := ((hg3.set_ 0 (.int .i64 k)).set_ 1 (.slice A3 t.length c3))
  have x0 := h2.cell 0
  have x1 := h2.cell 1
  simp only [zD, zE, zF, zA, zB, zC] at x0 x1
  refine bodyPost_ret (v := .agg #[.int .i64 k, .slice A3 t.length c3]) (by simp [results, Tryz.results34, go_sem, x0, x1]) rfl ⟨_, rfl, (hv3.ints_step hst (by decide)).ints_base (by simp <;> omega) (by simp), hbel.trans (hst.below (by simp at hz3; omega))⟩
def RowIs (base : Nat) (w : World) (v : Value) (l : List CellV) (wrap : Bool) : Prop :=
  ∃ g s, v = .pointer (some ⟨g, 0, none⟩) ∧ base ≤ g ∧ Blk w g 89 #[s, .bool wrap] ∧ Own2 RCell 86 [21] base 0 w s l
theorem RowIs.below {base : Nat} {w w' : World} {v : Value} {l : List CellV} {wrap : Bool} (h : RowIs base w v l wrap) (hb : Below w.heap.size w w') : RowIs base w' v l wrap := by
  obtain ⟨g, s, rfl, h1, h2, h3⟩ := h
  exact ⟨g, s, rfl, h1, h2.same hb, h3.below hb⟩
theorem RowIs.drewN {base : Nat} {w : World} {v : Value} {l : List CellV} {wrap : Bool} (h : RowIs base w v l wrap) (n : Nat) : RowIs base (w.drewN n) v l wrap := by
  obtain ⟨g, s, rfl, h1, h2, h3⟩ := h
  exact ⟨g, s, rfl, h1, h2.drewN n, h3.drewN n⟩
theorem RowIs.alloc {base : Nat} {w : World} {v : Value} {l : List CellV} {wrap : Bool} (h : RowIs base w v l wrap) (o : Obj) : RowIs base (w.alloc o) v l wrap := by
  obtain ⟨g, s, rfl, h1, h2, h3⟩ := h
  exact ⟨g, s, rfl, h1, h2.alloc o, h3.alloc o⟩
theorem els_blanks_any {S S' : Nat → Prop} {w : World} : ∀ (n : Nat) (xs : List Value), Els RCell S w (List.replicate n ((0, []) : CellV)) xs → Els RCell S' w (List.replicate n ((0, []) : CellV)) xs
  | 0, xs, h => h
  | n + 1, xs, ⟨u, xs', e, ⟨a1, a2, e2, h1, v, e3, hv⟩, h⟩ => by
    obtain ⟨A, c, rfl, _, hc, _⟩ := hv.open_
    exact ⟨u, xs', e, ⟨a1, a2, e2, h1, _, e3, Slc.empty_ A c (by simp [maxLen]; omega)⟩, els_blanks_any n xs' h⟩
theorem own2_blanks {e : TypeId} {T : List TypeId} {base base' n : Nat} {w : World} {v : Value} (h : Own RCell e T base w v (List.replicate n (0, []))) (hb : base' ≤ base) : Own2 RCell e T base' 0 w v (List.replicate n (0, [])) := by
  obtain ⟨hT, xs, ⟨hx, hown⟩, hels⟩ := h
  refine ⟨Nat.zero_le _, hT, xs, ⟨hx, ?_⟩, els_blanks_any n xs hels⟩
  rcases hown with hn | ⟨g, cap, cur, rfl, h1, rest⟩
  · exact .inl hn
  · exact .inr ⟨g, cap, cur, rfl, Nat.le_trans hb h1, rest⟩
theorem New_ok (n : Nat) (h0 : 1 ≤ n) (h1 : n ≤ 1024) (w : World) :
    Calls Tryz.prog 33 #[.int .i64 n] w fun e w' => ∃ v, e = .returned v ∧ RowIs w.heap.size w' v (List.replicate n (0, [])) false ∧ Below w.heap.size w w' := by
  have hb : blanksN (n : Int) = n := by unfold blanksN; omega
  have hR := fun w => Blanks_ok (n : Int) (wf_i64 (by omega) (by omega)) w
  rw [hb] at hR
  have HR := hide hR
  have e1 : (1 : Int) ≤ n := by omega
  clear hb hR
  by_cases e2 : n = 1
  · subst e2
    go_enter Tryz.func33, Tryz.ntmps33
    go_wp2_with (refine (HR.out _).mono ?_; rintro e w1 ⟨v1, rfl, hv1, hb1⟩; obtain ⟨A1, c1, rfl, _, _, _⟩ := hv1.slc.open_)
    go_ret
    exact ⟨_, rfl, ⟨w1.heap.size, _, rfl, hb1.size, Blk.new _ _ _, (own2_blanks hv1 (Nat.le_refl _)).alloc _⟩, hb1.alloc hb1.size _⟩
  · have e3 : (1 : Int) < n := by omega
    clear e2
    go_enter Tryz.func33, Tryz.ntmps33
    go_wp2_with (refine (HR.out _).mono ?_; rintro e w1 ⟨v1, rfl, hv1, hb1⟩; obtain ⟨A1, c1, rfl, _, _, _⟩ := hv1.slc.open_)
    rw [List.length_replicate] at hv1
    go_ret
    exact ⟨_, rfl, ⟨w1.heap.size, _, rfl, hb1.size, Blk.new _ _ _, (own2_blanks hv1 (Nat.le_refl _)).alloc _⟩, hb1.alloc hb1.size _⟩
theorem Wide_ok (base : Nat) (v : Value) (l : List CellV) (wrap : Bool) (w : World) (h : RowIs base w v l wrap) :
    Calls Tryz.prog 51 #[v] w fun e w' => e = .returned (.int .i64 l.length) ∧ w = w' := by
  obtain ⟨g, s, rfl, h1, h2, h3⟩ := h
  obtain ⟨A, c, rfl, _, _, _⟩ := h3.slc.open_
  have x0 := h2.cell 0
  have x1 := h2.lt
  simp only [zA, zB, zC] at x0
  go_enter Tryz.func51, Tryz.ntmps51
  go_wp2
  go_ret
  exact ⟨rfl, rfl⟩
theorem Wrap_ok (base : Nat) (v : Value) (l : List CellV) (wrap : Bool) (w : World) (h : RowIs base w v l wrap) :
    Calls Tryz.prog 52 #[v] w fun e w' => e = .returned (.bool wrap) ∧ w = w' := by
  obtain ⟨g, s, rfl, h1, h2, h3⟩ := h
  have x0 := h2.cell 1
  have x1 := h2.lt
  simp only [zA, zB, zC] at x0
  go_enter Tryz.func52, Tryz.ntmps52
  go_wp2
  go_ret
  exact ⟨rfl, rfl⟩
end Go.Proofs.YtdjpdllehhecpaaGreatDoor
namespace Go.Proofs.YtdjpdllehhecpaaGreatDoor
open Go.RowKit
set_option linter.unusedVariables false
set_option linter.unusedSimpArgs false
theorem list_set2 {a b : Value} {rest : List Value} : ∀ (xs : List Value) (i : Nat), i + 1 < xs.length → ((xs ++ rest).set i a).set (i + 1) b = (xs.take i ++ [a, b] ++ xs.drop (i + 2)) ++ rest
  | [], i, h => by simp at h
  | [x], i, h => by simp at h
  | x :: y :: zs, 0, _ => by simp
  | x :: xs, i + 1, h => by
    have ih := list_set2 (a := a) (b := b) (rest := rest) xs i (by simpa using h)
    simp only [List.cons_append, List.set_cons_succ, List.take_succ_cons, List.drop_succ_cons]
    rw [ih]
theorem take_set {α : Type} (l : List α) (b : α) (n k : Nat) (hk : k < l.length) (hn : l.length = n) : (l.take k ++ List.replicate (n - k) b).set k l[k] = l.take (k + 1) ++ List.replicate (n - (k + 1)) b := by
  have e : n - k = (n - (k + 1)) + 1 := by omega
  rw [e, List.replicate_succ, List.set_append_right _ _ (by simp; omega)]
  have : k - (l.take k).length = 0 := by simp; omega
  rw [this, List.set_cons_zero, take_snoc' l k hk, List.append_assoc]
  rfl
theorem sound_len {l : List CellV} (h : soundB l = true) : ∀ c ∈ l, c.2.length ≤ 16 := by
  have : ∀ (l : List CellV) (b : Bool), soundG b l = true → ∀ c ∈ l, c.2.length ≤ 16 := by
    intro l
    induction l with
    | nil => intro b _ c hc; cases hc
    | cons d l ih =>
      intro b h c hc
      simp only [soundG, Bool.and_eq_true] at h
      rcases List.mem_cons.1 hc with rfl | hc
      · have hr := h.1.1
        unfold rightB at hr
        split at hr
        · simp only [decide_eq_true_eq] at hr; omega
        · split at hr
          · simp only [Bool.and_eq_true, decide_eq_true_eq] at hr; omega
          · cases hr
      · exact ih _ h.2 c hc
  exact this l false h
set_option maxHeartbeats 2000000 in
theorem ROf_ok (So Si : Nat → Prop) (x : Value) (l : List CellV) (w : World) (hx : Slc RCell So Si w x l) (h0 : 0 < l.length) (h1 : l.length ≤ 1024) (hs : soundB l = true) :
    Calls Tryz.prog 12 #[x] w fun e w' => ∃ v, e = .returned (.tuple #[v, .nilIface]) ∧ RowIs w.heap.size w' v l false ∧ Below w.heap.size w w' := by
  obtain ⟨A, c, rfl, hc1, hc2, hB⟩ := hx.open_
  have hsl := sound_len hs
  have hR := fun w hx => Sound_ok So Si (.slice A l.length c) l w hx
  rw [hs] at hR
  have HR := hide hR
  have HSL := hide hsl
  have hb0 : ((l.length : Int) == 0) = false := by rw [beq_eq_false_iff_ne]; omega
  have hb1 : ¬ (1024 : Int) < l.length := by omega
  clear hR hsl hs
  go_enter Tryz.func12, Tryz.ntmps12
  go_wp2_with fail
  refine (HR.out _ hx).mono ?_
  rintro e w1 ⟨rfl, hb1'⟩
  have hz1 := hb1'.size
  go_wp2_with fail
  refine (New_ok l.length h0 h1 _).mono ?_
  rintro e w2 ⟨v2, rfl, hv2, hb2⟩
  have hb2' := hb1'.trans (hb2.mono hz1)
  have hz2 := hb2'.size
  have hv2 : RowIs w.heap.size w2 v2 (l.take 0 ++ List.replicate (l.length - 0) (0, [])) false := by
    obtain ⟨g, s, rfl, q1, q2, q3⟩ := hv2
    exact ⟨g, s, rfl, Nat.le_trans hz1 q1, q2, by simpa using q3.down w.heap.size (Nat.zero_le _) hz1⟩
  obtain ⟨g, s, rfl, hgb, hgk, hown⟩ := hv2
  go_wp2
  go_loopw [27] (fun i wr => ∃ k : Nat, k ≤ l.length ∧ i = .int .i64 k ∧ Below w.heap.size w wr ∧ RowIs w.heap.size wr (.pointer (some ⟨g, 0, none⟩)) (l.take k ++ List.replicate (l.length - k) (0, [])) false) (fun i _ => l.length - (intOf i).toNat)
  case atStart => exact ⟨0, Nat.zero_le _, rfl, hb2', g, s, rfl, hgb, hgk, hown⟩
  case round =>
    obtain ⟨k, hk, rfl, hbel, hrow⟩ := hrel
    have hsz := hbel.size
    by_cases hlt : k < l.length
    · obtain ⟨g', s', hge, hgb', hgk', hown'⟩ := hrow
      obtain rfl : g = g' := by simpa using hge
      have hxk := hx.mono (Keep.below (S := So) hbel) (Keep.below (S := Si) hbel)
      obtain ⟨ab, off, v, rfl, _, q0, q1, hw, hv⟩ := cell_at hxk.slb hlt
      obtain ⟨A', c', rfl, hd1, hd2, _⟩ := hv.open_
      have hln := HSL.out l[k] (List.getElem_mem _)
      have hvd := (hv.ints_keep (Keep.alloc Si wr (.cells #[.int .i64 l[k].1, .slice A' l[k].2.length c'] 86))).ints_keep (keep_dr _ _)
      have hll : (l.take k ++ List.replicate (l.length - k) ((0, []) : CellV)).length = l.length := by simp; omega
      obtain ⟨g2, cap, xs, rest, rfl, hg2, hblk, hxl, hels, hsz2, hcap, hcm⟩ := own2_open hown' (by omega)
      rw [hll] at hxl hcap
      have esz : RCell.sz = 2 := rfl
      rw [esz] at hxl
      have hab := World.block_lt_of_cell? wr _ q0
      simp only at hab
      have hne : g ≠ g2 := by
        intro e
        subst e
        have h1 : wr.heap[g]? = _ := hgk'
        have h2 : wr.heap[g]? = _ := hblk
        rw [h1] at h2
        injection h2 with h2
        injection h2 with _ h2
        simp at h2
      have hg2a := (hblk.alloc (.cells #[.int .i64 l[k].1, .slice A' l[k].2.length c'] 86)).dr
      have hgka := hgk'.alloc (.cells #[.int .i64 l[k].1, .slice A' l[k].2.length c'] 86)
      have hlo := Blk.new wr 86 #[.int .i64 l[k].1, .slice A' l[k].2.length c']
      have y0 := hgka.cell 0
      have y1 := hlo.cell 0
      have y2 := hlo.cell 1
      rw [hll] at y0
      simp only [zA, zB, zC] at y0 y1 y2
      have hxa : (xs ++ rest).toArray[k * 2]? = some (xs[k * 2]'(by omega)) := by simp; rw [List.getElem?_append_left (by omega), List.getElem?_eq_getElem]
      have hxb : (xs ++ rest).toArray[k * 2 + 1]? = some (xs[k * 2 + 1]'(by omega)) := by simp; rw [List.getElem?_append_left (by omega), List.getElem?_eq_getElem]
      have hg1 := hgk'.lt
      have hg2l := hblk.lt
      have hne2 : g2 ≠ wr.heap.size := by omega
      go_wp2
      refine wp_region_held_drew (S := fun w' => w'.cell? ⟨g, 0, none⟩ = some (.slice (some ⟨g2, 0, none⟩) l.length cap) ∧ w'.cell? ⟨wr.heap.size, 0, none⟩ = some (.int .i64 l[k].1) ∧ w'.cell? ⟨wr.heap.size, 1, none⟩ = some (.slice A' l[k].2.length c')) (by kernel_rfl) (by go_keep) (fun hHeld => ?_)
      refine wpAnyH_take (i := 0) (oi := ?_) (v := ?_) ?_ (by kernel_rfl) (by kernel_rfl) (by kernel_rfl) ?_ (Or.inl ⟨?_, ?_⟩) (by assumption) ?_
      rotate_left 2
      · (simp only [zA, zB, zC]; rfl)
      rotate_left 1
      · rfl
      · (intro w hSw; (try dsimp only at hSw); go_simp; try with_reducible rfl)
      rotate_left 1
      · exact fun _ _ _ h => h
      try simp only [Act.put, zD, zE, zF]
      refine wpAnyH_take (i := 1) (oi := ?_) (v := ?_) ?_ (by kernel_rfl) (by kernel_rfl) (by kernel_rfl) ?_ (Or.inl ⟨?_, ?_⟩) (by assumption) ?_
      rotate_left 2
      · (simp only [zA, zB, zC]; rfl)
      rotate_left 1
      · rfl
      · (intro w hSw; (try dsimp only at hSw); go_simp; try with_reducible rfl)
      rotate_left 1
      · exact fun _ _ _ h => h
      try simp only [Act.put, zD, zE, zF]
      refine wpAnyH_take (i := 2) (oi := ?_) (v := ?_) ?_ (by kernel_rfl) (by kernel_rfl) (by kernel_rfl) ?_ (Or.inl ⟨?_, ?_⟩) (by assumption) ?_
      rotate_left 2
      · (simp only [zA, zB, zC]; rfl)
      rotate_left 1
      · rfl
      · (intro w hSw; (try dsimp only at hSw); go_simp; try with_reducible rfl)
      rotate_left 1
      · exact fun _ _ _ h => h
      try simp only [Act.put, zD, zE, zF]
      refine wpAnyH_take (i := 3) (oi := ?_) (v := ?_) ?_ (by kernel_rfl) (by kernel_rfl) (by kernel_rfl) ?_ (Or.inl ⟨?_, ?_⟩) (by assumption) ?_
      rotate_left 2
      · (simp only [zA, zB, zC]; rfl)
      rotate_left 1
      · rfl
      · (intro w hSw; (try dsimp only at hSw); go_simp; try with_reducible rfl)
      rotate_left 1
      · exact fun _ _ _ h => h
      try simp only [Act.put, zD, zE, zF]
      refine wpAnyH_take (i := 4) (oi := ?_) (v := ?_) ?_ (by kernel_rfl) (by kernel_rfl) (by kernel_rfl) ?_ (Or.inl ⟨?_, ?_⟩) (by assumption) ?_
      rotate_left 2
      · (simp only [zA, zB, zC]; rfl)
      rotate_left 1
      · rfl
      · (intro w hSw; (try dsimp only at hSw); go_simp; try with_reducible rfl)
      rotate_left 1
      · exact fun _ _ _ h => h
      try simp only [Act.put, zD, zE, zF]
      refine wpAnyH_take (i := 5) (oi := ?_) (v := ?_) ?_ (by kernel_rfl) (by kernel_rfl) (by kernel_rfl) ?_ (Or.inl ⟨?_, ?_⟩) (by assumption) ?_
      rotate_left 2
      · (simp only [zA, zB, zC]; rfl)
      rotate_left 1
      · rfl
      · (intro w hSw; (try dsimp only at hSw); go_simp; try with_reducible rfl)
      rotate_left 1
      · exact fun _ _ _ h => h
      try simp only [Act.put, zD, zE, zF]
      refine wpAnyH_ready (rs := [6]) (by kernel_rfl) (by simp) ?_
      refine AllReadyH.cons (o := ?_) ?_ (fun K hK => ?_) AllReadyH.nil
      rotate_left 1
      · (simp only [zA, zB, zC]; rfl)
      go_simp
      (go_at_call 34; refine (own_ok _ _ l[k].1 _ l[k].2 _ hvd (by omega)).mono ?_; rintro e w3 ⟨v3, rfl, hv3, hb3⟩; obtain ⟨A3, c3, rfl, _, _, _⟩ := hv3.islc.open_; have z0 := (hb3.cell (p := ⟨g, 0, none⟩) (by simp <;> omega)).trans (by first | assumption | exact y0 : _ = some (.slice (some ⟨g2, 0, none⟩) l.length cap)); have z1 := (hb3.cell (p := ⟨wr.heap.size, 0, none⟩) (by simp <;> omega)).trans (by first | assumption | exact y1 : _ = some (.int .i64 l[k].1)); have z2 := (hb3.cell (p := ⟨wr.heap.size, 1, none⟩) (by simp <;> omega)).trans (by first | assumption | exact y2 : _ = some (.slice A' l[k].2.length c')); have hg3 := hg2a.same hb3; have gl := hg3.lt; have gf0 := hg3.frozen (k * 2); have gf1 := hg3.frozen (k * 2 + 1); have gc0 := hg3.cell (k * 2); have gc1 := hg3.cell (k * 2 + 1); rw [hxa] at gc0; rw [hxb] at gc1)
      refine hK.out _ _ ?_ (fun hHeld => ?_)
      · ((try dsimp only); go_keep)
      clear hK K
      try simp only [Act.put, zD, zE, zF]
      refine wpAnyH_take (i := 7) (oi := ?_) (v := ?_) ?_ (by kernel_rfl) (by kernel_rfl) (by kernel_rfl) ?_ (Or.inl ⟨?_, ?_⟩) (by assumption) ?_
      rotate_left 2
      · (simp only [zA, zB, zC]; rfl)
      rotate_left 1
      · rfl
      · (intro w hSw; (try dsimp only at hSw); go_simp; try with_reducible rfl)
      rotate_left 1
      · exact fun _ _ _ h => h
      try simp only [Act.put, zD, zE, zF]
      refine wpAnyH_ready (rs := [8]) (by kernel_rfl) (by simp) ?_
      refine AllReadyH.cons (o := ?_) ?_ (fun K hK => ?_) AllReadyH.nil
      rotate_left 1
      · (simp only [zA, zB, zC]; rfl)
      go_simp
      refine hK.out _ _ ?_ (fun hHeld => ?_)
      · exact ⟨by rw [World.cell?_setCell_far _ _ _ _ (Ne.symm hne), World.cell?_setCell_far _ _ _ _ (Ne.symm hne)]; exact z0, by rw [World.cell?_setCell_far _ _ _ _ hne2, World.cell?_setCell_far _ _ _ _ hne2]; exact z1, by rw [World.cell?_setCell_far _ _ _ _ hne2, World.cell?_setCell_far _ _ _ _ hne2]; exact z2⟩
      clear hK K
      try simp only [Act.put, zD, zE, zF]
      refine wpAnyH_done (by kernel_rfl) ?_ _
      have hz3 := hb3.size
      have s1 := hg3.set_ (k * 2) (.int .i64 l[k].1)
      have s2 := s1.set_ (k * 2 + 1) (.slice A3 l[k].2.length c3)
      have hst : Step w.heap.size [86] w3 _ := ((Step.refl w.heap.size [86] w3).setCell (p := ⟨g2, k * 2, none⟩) hg2 hg3.bears (.int .i64 l[k].1)).setCell (p := ⟨g2, k * 2 + 1, none⟩) hg2 s1.bears (.slice A3 l[k].2.length c3)
      have hv5 := hv3.ints_step hst (by decide)
      have hbel3 := (below_dr (hbel.alloc hsz (.cells #[.int .i64 l[k].1, .slice A' l[k].2.length c'] 86))).trans (hb3.mono (by simp; omega))
      have hels3 := (hels.mono (Keep.step (es := []) ((Step.alloc1 0 [] wr (.cells #[.int .i64 l[k].1, .slice A' l[k].2.length c'] 86)).drew.trans (Step.of_below hb3)) (by simp))).mono (Keep.step (hst.mono (Nat.zero_le _) (fun _ h => h)) (by decide))
      have hel4 := hels3.set_ k l[k] [.int .i64 l[k].1, .slice A3 l[k].2.length c3] (by omega) (cell_E hw (own_typed hv5 _))
      rw [take_set l _ _ k hlt rfl, esz] at hel4
      simp only [List.setIfInBounds_toArray] at s2
      rw [list_set2 xs (k * 2) (by omega)] at s2
      have hgk5 := (hgka.dr.same hb3).step hst (by decide)
      rw [show (k + 1) * 2 = k * 2 + 2 by omega] at hel4
      have hfin : Own2 RCell 86 [21] w.heap.size 0 _ (.slice (some ⟨g2, 0, none⟩) l.length cap) (l.take (k + 1) ++ List.replicate (l.length - (k + 1)) (0, [])) :=
        own2_shut (Nat.zero_le _) (by decide) hg2 s2 hel4 (by simp; omega) (by rw [← hsz2]; simp; omega) hcap hcm
      rw [hll] at hgk5
      go_wp2
      go_roundw
      case rel => exact ⟨k + 1, by omega, by go_num, hbel3.trans (hst.below (by simp at hz3; omega)), g, _, rfl, hgb, hgk5, hfin⟩
      case measure => simp [intOf]; omega
    · have e : l.take k ++ List.replicate (l.length - k) ((0, []) : CellV) = l := by
        rw [List.take_of_length_le (by omega), show l.length - k = 0 by omega]; simp
      rw [e] at hrow
      go_wp2
      go_ret2
      exact ⟨_, rfl, hrow, hbel⟩
end Go.Proofs.YtdjpdllehhecpaaGreatDoor
namespace Go.Proofs.YtdjpdllehhecpaaGreatDoor
open Go.RowKit
set_option linter.unusedVariables false
set_option linter.unusedSimpArgs false
set_option maxHeartbeats 1000000 in
theorem Cells_ok (base : Nat) (v : Value) (l : List CellV) (wrap : Bool) (w : World) (h : RowIs base w v l wrap) (hlen : l.length ≤ 100000) (htx : ∀ c ∈ l, c.2.length ≤ 16) :
    Calls Tryz.prog 35 #[v] w fun e w' => ∃ s, e = .returned s ∧ Own2 RCell 86 [21] w.heap.size 0 w' s l ∧ Below w.heap.size w w' := by
  have HTX := hide htx
  have hW := fun w h => Wide_ok base v l wrap w h
  have HW := hide hW
  have HH := hide h
  obtain ⟨g, s, rfl, hgb, hgk, hown⟩ := h
  obtain ⟨A, c, rfl, hc1, hc2, hB⟩ := hown.slc.open_
  have hgl := hgk.lt
  clear htx hW
  go_enter Tryz.func35, Tryz.ntmps35
  go_wp2_with (refine (HW.out _ HH.out).mono ?_; rintro e w1 ⟨rfl, rfl⟩)
  go_loopw [3, 7] (fun out i wr => ∃ k : Nat, k ≤ l.length ∧ i = .int .i64 k ∧ Own2 RCell 86 [21] w.heap.size 0 wr out (l.take k) ∧ Below w.heap.size w wr) (fun _ i _ => l.length - (intOf i).toNat)
  case atStart => exact ⟨0, Nat.zero_le _, rfl, Own2.nil_ _ _ _ _ _ _ (Nat.zero_le _) (by decide), Below.refl _ _⟩
  case round =>
    obtain ⟨k, hk, rfl, hout, hbel⟩ := hrel
    have hsz := hbel.size
    by_cases hlt : k < l.length
    · have hgk2 := hgk.below hbel hgl
      have x0 := hgk2.cell 0
      have x1 := hgk2.lt
      simp only [zA, zB, zC] at x0
      have hxk := hown.slc.mono (Keep.below hbel) (Keep.below hbel)
      obtain ⟨ab, off, v2, rfl, _, q0, q1, hw, hv⟩ := cell_at hxk.slb hlt
      obtain ⟨A', c', rfl, hd1, hd2, _⟩ := hv.open_
      have hln := HTX.out l[k] (List.getElem_mem _)
      have hsn := take_snoc' l k hlt
      have HSN := hide hsn
      clear hsn
      go_wp2_with fail
      refine (own_ok _ _ l[k].1 _ l[k].2 _ hv (by omega)).mono ?_
      rintro e w3 ⟨v3, rfl, hv3, hb3⟩
      have hz3 := hb3.size
      have hout3 := hout.below hb3
      have hb3' := hbel.trans (hb3.mono hsz)
      obtain ⟨A3, c3, rfl, _, _, _⟩ := hv3.islc.open_
      have hone : Own2 RCell 86 [21] w3.heap.size 0 (w3.alloc (.cells #[.int .i64 l[k].1, .slice A3 l[k].2.length c3] 86)) (.slice (some ⟨w3.heap.size, 0, none⟩) 1 1) [l[k]] :=
        Own2.lit (Nat.zero_le _) (by decide) (els_cell1 hw (own_typed hv3 _)) (Nat.le_refl _) rfl (by simp [maxLen])
      have hout4 := hout3.alloc (.cells #[.int .i64 l[k].1, .slice A3 l[k].2.length c3] 86)
      have htl : (l.take k).length ≤ k := List.length_take_le _ _
      go_wp2_with (at_builtin; refine wpList_app2 rfl (.tmp 10) (.tmp 19) 48 rfl RCell 86 [21] w.heap.size 0 32 _ Tryz.underlying48 cell_info rfl (by decide) (by decide) _ _ rfl hout4 _ _ _ _ _ rfl hone (by simp) (by simp; omega) (by simp; omega) ?_; intro v5 w5 hv5 hst5)
      go_roundw
      case rel => exact ⟨k + 1, by omega, by go_num, by rw [HSN.out]; exact hv5, (hb3'.alloc hb3'.size _).trans (hst5.below (by simp; omega))⟩
      case measure => simp [intOf]; omega
    · have e : l.take k = l := List.take_of_length_le (by omega)
      rw [e] at hout
      go_wp2
      go_ret
      exact ⟨_, rfl, hout, hbel⟩
end Go.Proofs.YtdjpdllehhecpaaGreatDoor
namespace Go.Proofs.YtdjpdllehhecpaaGreatDoor
open Go.RowKit
set_option linter.unusedVariables false
set_option linter.unusedSimpArgs false
end Go.Proofs.YtdjpdllehhecpaaGreatDoor
namespace Go.Proofs.YtdjpdllehhecpaaGreatDoor
open Go.RowKit
set_option linter.unusedVariables false
set_option linter.unusedSimpArgs false
def RVal : Rep Value where
  sz := 1
  E := fun _ _ vs x => vs = [x] ∧ x.oneCell' = true
  len := by rintro _ _ _ _ ⟨rfl, _⟩; rfl
  one := by rintro _ _ _ _ ⟨rfl, h⟩ u hu; simp at hu; subst hu; exact h
  mono := fun _ h => h
theorem RVal.flat : Flat RVal := fun _ _ _ _ _ _ h => h
def RSl : Rep (Value × Bool) := Rep.pair RVal Rep.bool
theorem RSl.flat : Flat RSl := by
  rintro S S' w w' vs x ⟨v1, v2, rfl, h1, h2⟩
  exact ⟨v1, v2, rfl, h1, h2⟩
theorem line_info : (Tryz.prog.info? 50).map (fun i => (i.zero, i.size, i.bytes)) = some (some (.agg #[.slice none 0 0, .bool false]), RSl.sz, 32) := by kernel_rfl
theorem rowp_info : (Tryz.prog.info? 45).map (fun i => (i.zero, i.size, i.bytes)) = some (some (.pointer none), RVal.sz, 8) := by kernel_rfl
theorem els_val {S : Nat → Prop} {w : World} : ∀ (l xs : List Value), Els RVal S w l xs → xs = l
  | [], xs, h => h
  | x :: l, xs, ⟨u, xs', e, ⟨e2, _⟩, h⟩ => by rw [e, e2, els_val l xs' h]; rfl
def slB (p : Value × LineV) : Value × Bool := (p.1, p.2.2)
theorem els_lines {S : Nat → Prop} {w : World} : ∀ (ps : List (Value × LineV)) (xs : List Value), Els RSl S w (ps.map slB) xs → (∀ p ∈ ps, Slc RCell S S w p.1 p.2.1) → Els RLine S w (ps.map Prod.snd) xs
  | [], xs, h, _ => h
  | p :: ps, xs, ⟨u, xs', e, ⟨v1, v2, e2, ⟨e3, _⟩, e4⟩, h⟩, hp => by
    refine ⟨u, xs', e, ⟨v1, v2, e2, ⟨p.1, e3, hp p (List.mem_cons.2 (.inl rfl))⟩, e4⟩, els_lines ps xs' h (fun q hq => hp q (List.mem_cons.2 (.inr hq)))⟩
theorem lines_slc {So Si : Nat → Prop} {w : World} {v : Value} {ps : List (Value × LineV)} (h : Slc RSl So Si w v (ps.map slB)) (hp : ∀ p ∈ ps, Slc RCell Si Si w p.1 p.2.1) : Slc RLine So Si w v (ps.map Prod.snd) := by
  obtain ⟨A, c, rfl, h1, h2, xs, h3, h4⟩ := h
  refine ⟨A, c, by simp, by simpa using h1, h2, xs, els_lines ps xs h3 hp, ?_⟩
  have e : (ps.map slB).length * RSl.sz = (ps.map Prod.snd).length * RLine.sz := by simp; rfl
  rw [← e]; exact h4
section
variable {e : TypeId} {base G n cap : Nat} {w : World} {v : Value} {l : List Value}
theorem lown_open {α : Type} {R : Rep α} {e : TypeId} {T : List TypeId} {base : Nat} {w : World} {v : Value} {l : List α} (h : Own R e T base w v l) (hl : 0 < l.length) :
    ∃ g cap xs rest, v = .slice (some ⟨g, 0, none⟩) l.length cap ∧ base ≤ g ∧ Blk w g e (xs ++ rest).toArray ∧ xs.length = l.length * R.sz ∧ Els R (Typed base T w) w l xs ∧ (xs ++ rest).length = cap * R.sz ∧ l.length ≤ cap ∧ cap ≤ maxLen := by
  obtain ⟨hT, xs, ⟨hx, hown⟩, hels⟩ := h
  rcases hown with ⟨_, h0⟩ | ⟨g, cap, cur, rfl, hb, hh, hc, hm, hs, ht⟩
  · omega
  · refine ⟨g, cap, xs, cur.toList.drop (l.length * R.sz), rfl, hb, ?_, hx, hels, ?_, hc, hm⟩
    · rw [← ht, List.take_append_drop]; exact hh
    · rw [← ht, List.take_append_drop]; simpa using hs
theorem lown_shut {α : Type} {R : Rep α} {e : TypeId} {T : List TypeId} {base g cap n : Nat} {w : World} {l : List α} {xs rest : List Value} (hT : e ∉ T) (hb : base ≤ g) (hh : Blk w g e (xs ++ rest).toArray) (hels : Els R (Typed base T w) w l xs)
    (hn : l.length = n) (hs : (xs ++ rest).length = cap * R.sz) (hc : n ≤ cap) (hm : cap ≤ maxLen) : Own R e T base w (.slice (some ⟨g, 0, none⟩) n cap) l := by
  subst hn
  have hx := hels.length
  refine ⟨hT, xs, ⟨hx, .inr ⟨g, cap, _, rfl, hb, hh, hc, hm, by simpa using hs, ?_⟩⟩, hels⟩
  rw [← hx]; simp
theorem els_of_val {S : Nat → Prop} {w : World} : ∀ (l : List Value), (∀ x ∈ l, x.oneCell' = true) → Els RVal S w l l
  | [], _ => rfl
  | x :: l, h => ⟨[x], l, rfl, ⟨rfl, h x (List.mem_cons.2 (.inl rfl))⟩, els_of_val l (fun y hy => h y (List.mem_cons.2 (.inr hy)))⟩
theorem ownv_at (h : Own RVal e [] base w v l) {i : Nat} (hi : i < l.length) : ∃ G cap, v = .slice (some ⟨G, 0, none⟩) l.length cap ∧ base ≤ G ∧ G < w.heap.size ∧ l.length ≤ cap ∧ w.cell? ⟨G, i, none⟩ = some l[i] ∧ w.frozen? ⟨G, i, none⟩ = false := by
  obtain ⟨G, cap, xs, rest, hv, hb, hblk, hx, hels, hl, hc, hm⟩ := lown_open h (by omega)
  obtain rfl := els_val _ _ hels
  refine ⟨G, cap, hv, hb, hblk.lt, hc, ?_, hblk.frozen _⟩
  rw [hblk.cell, List.getElem?_toArray, List.getElem?_append_left (by omega), List.getElem?_eq_getElem]
end
abbrev RowP := Value × LineV
def RNe (p q : RowP) : Prop := p.1 ≠ q.1
structure RowsP (base : Nat) (w : World) (ps : List RowP) : Prop where
  row : ∀ p ∈ ps, RowIs base w p.1 p.2.1 p.2.2
  ne : ps.Pairwise RNe
section
variable {base b0 b2 : Nat} {w w' : World} {v : Value} {l : List CellV} {wrap : Bool} {ps : List RowP} {es : List TypeId}
theorem RowIs.step (h : RowIs base w v l wrap) (hs : Step b2 es w w') (h1 : 89 ∉ es) (h2 : 86 ∉ es) (h3 : 21 ∉ es) : RowIs base w' v l wrap := by
  obtain ⟨g, s, rfl, hb, hblk, hbb, hne, xs, ⟨hx, hown⟩, hels⟩ := h
  have hs0 := hs.mono (Nat.zero_le b2) (fun _ h => h)
  refine ⟨g, s, rfl, hb, hblk.step hs h1, hbb, hne, xs, ⟨hx, ?_⟩, hels.mono (Keep.step hs0 (by intro t ht; simp at ht; subst ht; exact h3))⟩
  rcases hown with hn | ⟨g', cap, cur, rfl, hb', hh, rest⟩
  · exact .inl hn
  · refine .inr ⟨g', cap, cur, rfl, hb', ?_, rest⟩
    rw [hs.block g' (Array.getElem?_eq_some_iff.1 hh).1 (.inr (fun ⟨cs', t', fz', hh', ht'⟩ => by
      rw [hh] at hh'; injection hh' with hh'; injection hh' with _ e'; subst e'; exact h2 ht'))]
    exact hh
theorem RowIs.down (h : RowIs base w v l wrap) (hb : b0 ≤ base) : RowIs b0 w v l wrap := by
  obtain ⟨g, s, rfl, h1, h2, h3⟩ := h
  exact ⟨g, s, rfl, Nat.le_trans hb h1, h2, h3.down b0 (Nat.zero_le _) hb⟩
theorem RowIs.lt (h : RowIs base w v l wrap) : ∃ g, v = .pointer (some ⟨g, 0, none⟩) ∧ base ≤ g ∧ g < w.heap.size := by
  obtain ⟨g, s, rfl, h1, h2, h3⟩ := h
  exact ⟨g, rfl, h1, h2.lt⟩
theorem RowIs.far {g : Nat} {cs : Array Value} {on : Value} (h : RowIs base w v l wrap) (hg : Blk w g 89 cs) (hne : v ≠ .pointer (some ⟨g, 0, none⟩)) : RowIs base (w.setCell ⟨g, 1, none⟩ on) v l wrap := by
  obtain ⟨g', s, rfl, hb, hblk, hown⟩ := h
  have hst : Step 0 [89] w (w.setCell ⟨g, 1, none⟩ on) := (Step.refl 0 [89] w).setCell (p := ⟨g, 1, none⟩) (Nat.zero_le _) hg.bears on
  have hgg : g' ≠ g := fun e => hne (by rw [e])
  obtain ⟨hbb, hT, xs, ⟨hx, ho⟩, hels⟩ := hown
  refine ⟨g', s, rfl, hb, hblk.far (p := ⟨g, 1, none⟩) hgg on, hbb, hT, xs, ⟨hx, ?_⟩, hels.mono (Keep.step hst (by decide))⟩
  rcases ho with hn | ⟨g3, cap, cur, rfl, hb', hh, rest⟩
  · exact .inl hn
  · refine .inr ⟨g3, cap, cur, rfl, hb', ?_, rest⟩
    rw [hst.block g3 (Array.getElem?_eq_some_iff.1 hh).1 (.inr (fun ⟨cs', t', fz', hh', ht'⟩ => by
      rw [hh] at hh'; injection hh' with hh'; injection hh' with _ e'; subst e'; simp at ht'))]
    exact hh
theorem RowIs.mark {on : Bool} (h : RowIs base w v l wrap) : ∃ g s, v = .pointer (some ⟨g, 0, none⟩) ∧ Blk w g 89 #[s, .bool wrap] ∧ RowIs base (w.setCell ⟨g, 1, none⟩ (.bool on)) v l on := by
  obtain ⟨g, s, rfl, h1, h2, h3⟩ := h
  have hst : Step base [89] w (w.setCell ⟨g, 1, none⟩ (.bool on)) := (Step.refl _ _ _).setCell h1 h2.bears _
  exact ⟨g, s, rfl, h2, g, s, rfl, h1, h2.set_ 1 _, h3.step hst (by decide) (by decide)⟩
theorem RowsP.step (h : RowsP base w ps) (hs : Step b2 es w w') (h1 : 89 ∉ es) (h2 : 86 ∉ es) (h3 : 21 ∉ es) : RowsP base w' ps :=
  ⟨fun p hp => (h.row p hp).step hs h1 h2 h3, h.ne⟩
theorem RowsP.below (h : RowsP base w ps) (hb : Below w.heap.size w w') : RowsP base w' ps := ⟨fun p hp => (h.row p hp).below hb, h.ne⟩
theorem RowsP.down (h : RowsP base w ps) (hb : b0 ≤ base) : RowsP b0 w ps := ⟨fun p hp => (h.row p hp).down hb, h.ne⟩
theorem RowsP.nil_ (base : Nat) (w : World) : RowsP base w [] := ⟨fun p hp => (by cases hp), List.Pairwise.nil⟩
theorem RowsP.lt (h : RowsP base w ps) : ∀ p ∈ ps, ∃ g, p.1 = .pointer (some ⟨g, 0, none⟩) ∧ base ≤ g ∧ g < w.heap.size := fun p hp => (h.row p hp).lt
theorem RowsP.snoc (h : RowsP base w ps) {b2 : Nat} (hr : RowIs b2 w v l wrap) (hb : base ≤ b2) (hlt : ∀ p ∈ ps, ∃ g, p.1 = .pointer (some ⟨g, 0, none⟩) ∧ g < b2) : RowsP base w (ps ++ [(v, l, wrap)]) := by
  refine ⟨fun p hp => ?_, List.pairwise_append.2 ⟨h.ne, List.pairwise_singleton _ _, fun p hp q hq => ?_⟩⟩
  · rcases List.mem_append.1 hp with hp | hp
    · exact h.row p hp
    · rw [List.mem_singleton] at hp; subst hp; exact hr.down hb
  · rw [List.mem_singleton] at hq
    subst hq
    obtain ⟨g, e, hg⟩ := hlt p hp
    obtain ⟨g2, e2, hg2, _⟩ := hr.lt
    intro e3
    rw [e] at e3
    simp only at e3
    rw [e2] at e3
    injection e3 with e3
    injection e3 with e3
    injection e3 with e3
    omega
theorem pair_set {α : Type} {R : α → α → Prop} {l : List α} {i : Nat} {x : α} (h : l.Pairwise R) (hx : ∀ y ∈ l, R x y ∧ R y x) : (l.set i x).Pairwise R := by
  rw [List.pairwise_iff_getElem] at h ⊢
  intro a b ha hb hab
  rw [List.length_set] at ha hb
  rw [List.getElem_set, List.getElem_set]
  split
  · rw [if_neg (by omega)]
    exact (hx _ (List.getElem_mem _)).1
  · split
    · exact (hx _ (List.getElem_mem _)).2
    · exact h a b ha hb hab
theorem RowsP.put (h : RowsP base w ps) {b2 i : Nat} (hr : RowIs b2 w v l wrap) (hb : base ≤ b2) (hne : ∀ p ∈ ps, p.1 ≠ v) : RowsP base w (ps.set i (v, l, wrap)) := by
  refine ⟨fun p hp => ?_, pair_set h.ne (fun y hy => ⟨fun e => hne y hy e.symm, fun e => hne y hy e⟩)⟩
  rcases List.mem_or_eq_of_mem_set hp with hp | rfl
  · exact h.row p hp
  · exact hr.down hb
theorem RowsP.mark (h : RowsP base w ps) {i g : Nat} {on : Bool} (hi : i < ps.length) (hg : ps[i].1 = .pointer (some ⟨g, 0, none⟩)) : RowsP base (w.setCell ⟨g, 1, none⟩ (.bool on)) (ps.set i (ps[i].1, ps[i].2.1, on)) := by
  obtain ⟨g', s, e, hblk, hrow⟩ := (h.row ps[i] (List.getElem_mem _)).mark (on := on)
  rw [hg] at e
  injection e with e
  injection e with e
  injection e with e
  subst e
  refine ⟨fun p hp => ?_, ?_⟩
  · obtain ⟨j, hj, rfl⟩ := List.getElem_of_mem hp
    rw [List.length_set] at hj
    by_cases hij : i = j
    · subst hij
      rw [List.getElem_set_self]
      exact hrow
    · rw [List.getElem_set_ne hij]
      refine (h.row ps[j] (List.getElem_mem _)).far hblk (fun e => ?_)
      rw [← hg] at e
      rcases Nat.lt_or_gt_of_ne hij with hlt | hlt
      · exact (List.pairwise_iff_getElem.1 h.ne i j hi hj hlt) e.symm
      · exact (List.pairwise_iff_getElem.1 h.ne j i hj hi hlt) e
  · have h2 := h.ne
    rw [List.pairwise_iff_getElem] at h2 ⊢
    intro a b ha hb hab
    rw [List.length_set] at ha hb
    have e : ∀ k (hk : k < (ps.set i (ps[i].1, ps[i].2.1, on)).length), ((ps.set i (ps[i].1, ps[i].2.1, on))[k]).1 = (ps[k]'(by rw [List.length_set] at hk; exact hk)).1 := by
      intro k hk
      rw [List.getElem_set]
      split
      · rename_i e; subst e; rfl
      · rfl
    unfold RNe
    rw [e, e]
    exact h2 a b ha hb hab
theorem RowsP.far (h : RowsP base w ps) {g : Nat} {cs : Array Value} {on : Value} (hg : Blk w g 89 cs) (hne : ∀ p ∈ ps, p.1 ≠ .pointer (some ⟨g, 0, none⟩)) : RowsP base (w.setCell ⟨g, 1, none⟩ on) ps :=
  ⟨fun p hp => (h.row p hp).far hg (hne p hp), h.ne⟩
def GridP (base : Nat) (w : World) (v : Value) (ps : List RowP) : Prop :=
  ∃ g s, v = .pointer (some ⟨g, 0, none⟩) ∧ base ≤ g ∧ Blk w g 122 #[s] ∧ Own RVal 45 [] base w s (ps.map Prod.fst) ∧ RowsP base w ps
theorem GridP.step (h : GridP base w v ps) (hs : Step b2 es w w') (h0 : 122 ∉ es) (h00 : 45 ∉ es) (h1 : 89 ∉ es) (h2 : 86 ∉ es) (h3 : 21 ∉ es) : GridP base w' v ps := by
  obtain ⟨g, s, rfl, hb, hblk, hown, hrow⟩ := h
  exact ⟨g, s, rfl, hb, hblk.step hs h0, hown.flat_step RVal.flat hs h00, hrow.step hs h1 h2 h3⟩
theorem GridP.below (h : GridP base w v ps) (hb : Below w.heap.size w w') : GridP base w' v ps :=
  h.step (b2 := 0) (es := []) (Step.of_below hb) (by simp) (by simp) (by simp) (by simp) (by simp)
theorem GridP.down (h : GridP base w v ps) (hb : b0 ≤ base) : GridP b0 w v ps := by
  obtain ⟨g, s, rfl, h1, h2, h3, h4⟩ := h
  exact ⟨g, s, rfl, Nat.le_trans hb h1, h2, h3.flat_base RVal.flat hb (by simp), h4.down hb⟩
theorem GridP.far (h : GridP base w v ps) {g : Nat} {cs : Array Value} {on : Value} (hg : Blk w g 89 cs) (hne : ∀ p ∈ ps, p.1 ≠ .pointer (some ⟨g, 0, none⟩)) : GridP base (w.setCell ⟨g, 1, none⟩ on) v ps := by
  obtain ⟨g', s, rfl, h1, h2, h3, h4⟩ := h
  have hst : Step 0 [89] w (w.setCell ⟨g, 1, none⟩ on) := (Step.refl 0 [89] w).setCell (p := ⟨g, 1, none⟩) (Nat.zero_le _) hg.bears on
  exact ⟨g', s, rfl, h1, h2.step hst (by decide), h3.flat_step RVal.flat hst (by decide), h4.far hg hne⟩
theorem GridP.mark (h : GridP base w v ps) {i g : Nat} {on : Bool} (hi : i < ps.length) (hg : ps[i].1 = .pointer (some ⟨g, 0, none⟩)) : GridP base (w.setCell ⟨g, 1, none⟩ (.bool on)) v (ps.set i (ps[i].1, ps[i].2.1, on)) := by
  obtain ⟨g', s, rfl, h1, h2, h3, h4⟩ := h
  obtain ⟨g2, s2, e, hblk, _⟩ := (h4.row ps[i] (List.getElem_mem _)).mark (on := on)
  rw [hg] at e
  injection e with e
  injection e with e
  injection e with e
  subst e
  have hst : Step 0 [89] w (w.setCell ⟨g, 1, none⟩ (.bool on)) := (Step.refl 0 [89] w).setCell (p := ⟨g, 1, none⟩) (Nat.zero_le _) hblk.bears _
  refine ⟨g', s, rfl, h1, h2.step hst (by decide), ?_, h4.mark hi hg⟩
  have e : (ps.set i (ps[i].1, ps[i].2.1, on)).map Prod.fst = ps.map Prod.fst := by
    rw [List.map_set]
    simp only
    apply List.ext_getElem?
    intro j
    by_cases hj : i = j
    · subst hj
      rw [List.getElem?_set_self (by simpa using hi), List.getElem?_map, List.getElem?_eq_getElem hi]; rfl
    · rw [List.getElem?_set_ne hj]
  rw [e]
  exact h3.flat_step RVal.flat hst (by decide)
end
end Go.Proofs.YtdjpdllehhecpaaGreatDoor
namespace Go.Proofs.YtdjpdllehhecpaaGreatDoor
open Go.RowKit
set_option linter.unusedVariables false
set_option linter.unusedSimpArgs false
theorem GHigh_ok (base : Nat) (v : Value) (ps : List RowP) (w : World) (h : GridP base w v ps) :
    Calls Tryz.prog 27 #[v] w fun e w' => e = .returned (.int .i64 ps.length) ∧ w = w' := by
  obtain ⟨g, s, rfl, h1, h2, h3, h4⟩ := h
  obtain ⟨A, c, rfl, _, _, _⟩ := h3.slc.open_
  rw [List.length_map] at h2
  have x0 := h2.cell 0
  simp only [List.getElem?_toArray, List.getElem?_cons_zero] at x0
  go_enter Tryz.func27, Tryz.ntmps27
  go_wp2
  go_ret
  exact ⟨rfl, rfl⟩
theorem GRow_in (base : Nat) (v : Value) (ps : List RowP) (i : Nat) (w : World) (h : GridP base w v ps) (hi : i < ps.length) :
    Calls Tryz.prog 50 #[v, .int .i64 i] w fun e w' => e = .returned ps[i].1 ∧ w = w' := by
  have hH := GHigh_ok base v ps w h
  have HH := hide hH
  clear hH
  obtain ⟨g, s, rfl, h1, h2, h3, h4⟩ := h
  obtain ⟨G, cap, rfl, _, _, hc, x1, _⟩ := ownv_at h3 (i := i) (by simpa using hi)
  rw [List.getElem_map] at x1
  rw [List.length_map] at h2 hc
  obtain ⟨gr, e, _, _⟩ := h4.lt ps[i] (List.getElem_mem _)
  rw [e] at x1
  rw [e]
  have x0 := h2.cell 0
  simp only [List.getElem?_toArray, List.getElem?_cons_zero] at x0
  have hii : (i : Int) < ps.length := by omega
  go_enter Tryz.func50, Tryz.ntmps50
  go_wp2_with fail
  refine HH.out.mono ?_
  rintro e2 w2 ⟨rfl, rfl⟩
  go_wp2
  go_ret
  exact ⟨rfl, rfl⟩
theorem GWide_ok (base : Nat) (v : Value) (ps : List RowP) (w : World) (h : GridP base w v ps) (h0 : 0 < ps.length) :
    Calls Tryz.prog 26 #[v] w fun e w' => e = .returned (.int .i64 ps[0].2.1.length) ∧ w = w' := by
  have hR := GRow_in base v ps 0 w h h0
  obtain ⟨g, s, rfl, h1, h2, h3, h4⟩ := h
  have hW := Wide_ok base _ _ _ w (h4.row ps[0] (List.getElem_mem _))
  have HR := hide hR
  have HW := hide hW
  clear hR hW
  go_enter Tryz.func26, Tryz.ntmps26
  go_wp2_with fail
  refine HR.out.mono ?_
  rintro e2 w2 ⟨rfl, rfl⟩
  go_wp2_with fail
  refine HW.out.mono ?_
  rintro e2 w2 ⟨rfl, rfl⟩
  go_wp2
  go_ret
  exact ⟨rfl, rfl⟩
end Go.Proofs.YtdjpdllehhecpaaGreatDoor
namespace Go.Proofs.YtdjpdllehhecpaaGreatDoor
open Go.RowKit
set_option linter.unusedVariables false
set_option linter.unusedSimpArgs false
set_option maxHeartbeats 2000000 in
theorem Of2_ok (So Si : Nat → Prop) (x : Value) (l : List Int) (wide : Int) (w : World) (hwd : (Lit.int .i64 wide).wf = true) (hx : Slc (Rep.int .i32) So Si w x l) (hlen : l.length ≤ 100000) :
    Calls Tryz.prog 203 #[.int .i64 wide, x] w fun e w' => ∃ v, e = .returned v ∧ Own2 RCell 86 [21] w.heap.size 0 w' v (ofF wide l) ∧ Below w.heap.size w w' := by
  obtain ⟨A1, c1, rfl, hd1, hd2, hB1⟩ := hx.open_
  have hmin : ∃ m : Nat, m = min l.length 16 ∧ m ≤ l.length ∧ l.take m = l.take 16 := by
    refine ⟨min l.length 16, rfl, by omega, ?_⟩
    by_cases hh : 16 ≤ l.length
    · rw [Nat.min_eq_right hh]
    · rw [Nat.min_eq_left (by omega), List.take_of_length_le (by omega), List.take_of_length_le (by omega)]
  obtain ⟨m, hm, hml, hmt⟩ := hmin
  by_cases hwide : 1 < wide
  · have hw2 : (2 : Int) ≤ wide := by omega
    have hO1 : Own RCell 86 [21] w.heap.size (w.alloc (.cells #[.int .i64 0, .slice none 0 0] 86)) (.slice (some ⟨w.heap.size, 0, none⟩) 1 1) [(0, [])] :=
      Own.lit (by decide) (els_cell1 (by decide) Slc.nil_) (Nat.le_refl _) rfl (by simp [maxLen])
    have hO2 := hO1.alloc (.cells #[.int .i64 0, .slice none 0 0] 86)
    have hS2 : Slc RCell (fun b => b < ((w.alloc (.cells #[.int .i64 0, .slice none 0 0] 86)).alloc (.cells #[.int .i64 0, .slice none 0 0] 86)).heap.size) (fun _ => False) ((w.alloc (.cells #[.int .i64 0, .slice none 0 0] 86)).alloc (.cells #[.int .i64 0, .slice none 0 0] 86)) (.slice (some ⟨(w.alloc (.cells #[.int .i64 0, .slice none 0 0] 86)).heap.size, 0, none⟩) 1 1) [(0, [])] :=
      (Slc.lit1 (R := RCell) (Si := fun _ => False) (Si' := fun _ => False) 86 (cell_E (by decide) Slc.nil_) (fun _ _ h _ => h.elim)).mono (Keep.lt _ _) (Keep.refl _ _)
    simp only [World.size_alloc] at hS2
    by_cases hz : l.length = 0
    · skip
      have hof : ofF wide l = [(0, []), (0, [])] := by unfold ofF; rw [if_pos hz, if_pos hwide]
      have HOF := hide hof
      have hzi : ((l.length : Int) == 0) = true := by simp [hz]
      clear hof hz
      go_enter Tryz.func203, Tryz.ntmps203
      go_wp2_with (at_builtin; refine wpList_appg rfl (.tmp 10) (.tmp 12) 48 rfl RCell 86 [21] w.heap.size 32 _ Tryz.underlying48 cell_info rfl (by decide) (by decide) _ _ rfl hO2 _ _ _ _ rfl hS2 (fun _ h => h.elim) (by simp) (by simp; omega) ?_; intro v3 w3 hv3 hst3 hg3 hob3)
      go_ret
      rw [HOF.out]
      exact ⟨_, rfl, own2_blanks (n := 2) hv3 (Nat.le_refl _), (((Below.refl _ w).alloc (Nat.le_refl _) _).alloc (by simp) _).trans (hst3.below (by simp <;> omega))⟩
    · skip
      by_cases h16 : l.length ≤ 16
      · obtain rfl : m = l.length := by omega
        clear hm
        have hof : ofF wide l = [(2, (l.take 16).map replF), (3, [])] := by unfold ofF; rw [if_neg hz, if_pos hwide]
        rw [← hmt] at hof
        have HOF := hide hof
        have hzi : ((l.length : Int) == 0) = false := by simpa using hz
        clear hof hz
        go_enter Tryz.func203, Tryz.ntmps203
        go_wp2_with (at_builtin; refine wpList_appg rfl (.tmp 10) (.tmp 12) 48 rfl RCell 86 [21] w.heap.size 32 _ Tryz.underlying48 cell_info rfl (by decide) (by decide) _ _ rfl hO2 _ _ _ _ rfl hS2 (fun _ h => h.elim) (by simp) (by simp; omega) ?_; intro v3 w3 hv3 hst3 hg3 hob3)
        have hb3 : Below w.heap.size w w3 := (((Below.refl _ w).alloc (Nat.le_refl _) _).alloc (by simp) _).trans (hst3.below (by simp <;> omega))
        have hz3 := hb3.size
        have hx3 := (hx.ints_keep (Keep.below (S := So) hb3)).front (k := l.length) (by omega)
        obtain ⟨g, cap, xs, rest, rfl, hgb, hblk, _, hels, hsz3, hcap, hcm⟩ := own_open hv3 (by simp)
        obtain ⟨s0, s1, rfl, hs0, hs1⟩ := els_cell2_inv hels
        obtain ⟨B1, d1, rfl, _, _, _⟩ := hs1.open_
        simp only [List.cons_append, List.nil_append] at hblk
        have hglt := hblk.lt
        refine (Replace_ok _ _ _ (l.take l.length) _ hx3 (by rw [List.length_take]; omega)).mono ?_
        rintro e w4 ⟨v4, rfl, hv4, hb4⟩
        generalize hTT : (l.take l.length).map replF = T at *
        clear hTT
        have hz4 := hb4.size
        have hblk4 := hblk.same hb4
        have c0 := hblk4.cell 0
        have c1' := hblk4.cell 1
        have c2 := hblk4.cell 2
        have c3 := hblk4.cell 3
        simp only [zA, zB, zC] at c0 c1' c2 c3
        have f0 := hblk4.frozen 0
        have f1 := hblk4.frozen 1
        have f2 := hblk4.frozen 2
        have h5 := hblk4.set_ 0 (.int .i64 1)
        have h6 := h5.set_ 1 v4
        have h7 := h6.set_ 0 (.int .i64 2)
        have h8 := h7.set_ 2 (.int .i64 3)
        have hst : Step w.heap.size [86] w4 _ := ((((Step.refl w.heap.size [86] w4).setCell (p := ⟨g, 0, none⟩) hgb hblk4.bears (.int .i64 1)).setCell (p := ⟨g, 1, none⟩) hgb h5.bears v4).setCell (p := ⟨g, 0, none⟩) hgb h6.bears (.int .i64 2)).setCell (p := ⟨g, 2, none⟩) hgb h7.bears (.int .i64 3)
        have hb8 := (hb3.trans (hb4.mono hz3)).trans (hst.below (Nat.le_trans hz3 hz4))
        have hv8 := hv4.ints_step hst (by decide)
        simp only [zD, zE, zF] at h8
        have hO : Own2 RCell 86 [21] w.heap.size 0 _ (.slice (some ⟨g, 0, none⟩) 2 cap) [(2, T), (3, [])] :=
          own2_shut (Nat.zero_le _) (xs := [.int .i64 2, v4, .int .i64 3, .slice B1 0 d1]) (by decide) hgb h8 (els_cell2 (by decide) (own_typed hv8 _) (by decide) (Slc.empty_ B1 d1 (by simp [maxLen]; omega))) rfl hsz3 hcap hcm
        obtain ⟨A4, c4, rfl, _, _, _⟩ := hv4.islc.open_
        go_wp2
        go_ret
        rw [HOF.out]
        exact ⟨_, rfl, hO, hb8⟩
      · obtain rfl : m = 16 := by omega
        clear hm
        have h17 : (16 : Int) < l.length := by omega
        have hof : ofF wide l = [(2, (l.take 16).map replF), (3, [])] := by unfold ofF; rw [if_neg hz, if_pos hwide]
        rw [← hmt] at hof
        have HOF := hide hof
        have hzi : ((l.length : Int) == 0) = false := by simpa using hz
        clear hof hz
        go_enter Tryz.func203, Tryz.ntmps203
        go_wp2_with (at_builtin; refine wpList_appg rfl (.tmp 10) (.tmp 12) 48 rfl RCell 86 [21] w.heap.size 32 _ Tryz.underlying48 cell_info rfl (by decide) (by decide) _ _ rfl hO2 _ _ _ _ rfl hS2 (fun _ h => h.elim) (by simp) (by simp; omega) ?_; intro v3 w3 hv3 hst3 hg3 hob3)
        have hb3 : Below w.heap.size w w3 := (((Below.refl _ w).alloc (Nat.le_refl _) _).alloc (by simp) _).trans (hst3.below (by simp <;> omega))
        have hz3 := hb3.size
        have hx3 := (hx.ints_keep (Keep.below (S := So) hb3)).front (k := 16) (by omega)
        obtain ⟨g, cap, xs, rest, rfl, hgb, hblk, _, hels, hsz3, hcap, hcm⟩ := own_open hv3 (by simp)
        obtain ⟨s0, s1, rfl, hs0, hs1⟩ := els_cell2_inv hels
        obtain ⟨B1, d1, rfl, _, _, _⟩ := hs1.open_
        simp only [List.cons_append, List.nil_append] at hblk
        have hglt := hblk.lt
        refine (Replace_ok _ _ _ (l.take 16) _ hx3 (by rw [List.length_take]; omega)).mono ?_
        rintro e w4 ⟨v4, rfl, hv4, hb4⟩
        generalize hTT : (l.take 16).map replF = T at *
        clear hTT
        have hz4 := hb4.size
        have hblk4 := hblk.same hb4
        have c0 := hblk4.cell 0
        have c1' := hblk4.cell 1
        have c2 := hblk4.cell 2
        have c3 := hblk4.cell 3
        simp only [zA, zB, zC] at c0 c1' c2 c3
        have f0 := hblk4.frozen 0
        have f1 := hblk4.frozen 1
        have f2 := hblk4.frozen 2
        have h5 := hblk4.set_ 0 (.int .i64 1)
        have h6 := h5.set_ 1 v4
        have h7 := h6.set_ 0 (.int .i64 2)
        have h8 := h7.set_ 2 (.int .i64 3)
        have hst : Step w.heap.size [86] w4 _ := ((((Step.refl w.heap.size [86] w4).setCell (p := ⟨g, 0, none⟩) hgb hblk4.bears (.int .i64 1)).setCell (p := ⟨g, 1, none⟩) hgb h5.bears v4).setCell (p := ⟨g, 0, none⟩) hgb h6.bears (.int .i64 2)).setCell (p := ⟨g, 2, none⟩) hgb h7.bears (.int .i64 3)
        have hb8 := (hb3.trans (hb4.mono hz3)).trans (hst.below (Nat.le_trans hz3 hz4))
        have hv8 := hv4.ints_step hst (by decide)
        simp only [zD, zE, zF] at h8
        have hO : Own2 RCell 86 [21] w.heap.size 0 _ (.slice (some ⟨g, 0, none⟩) 2 cap) [(2, T), (3, [])] :=
          own2_shut (Nat.zero_le _) (xs := [.int .i64 2, v4, .int .i64 3, .slice B1 0 d1]) (by decide) hgb h8 (els_cell2 (by decide) (own_typed hv8 _) (by decide) (Slc.empty_ B1 d1 (by simp [maxLen]; omega))) rfl hsz3 hcap hcm
        obtain ⟨A4, c4, rfl, _, _, _⟩ := hv4.islc.open_
        go_wp2
        go_ret
        rw [HOF.out]
        exact ⟨_, rfl, hO, hb8⟩
  · have hw2 : ¬ (2 : Int) ≤ wide := by omega
    have hO1 : Own RCell 86 [21] w.heap.size (w.alloc (.cells #[.int .i64 0, .slice none 0 0] 86)) (.slice (some ⟨w.heap.size, 0, none⟩) 1 1) [(0, [])] :=
      Own.lit (by decide) (els_cell1 (by decide) Slc.nil_) (Nat.le_refl _) rfl (by simp [maxLen])
    by_cases hz : l.length = 0
    · skip
      have hof : ofF wide l = [(0, [])] := by unfold ofF; rw [if_pos hz, if_neg hwide]
      have HOF := hide hof
      have hzi : ((l.length : Int) == 0) = true := by simp [hz]
      clear hof hz
      go_enter Tryz.func203, Tryz.ntmps203
      go_wp2
      go_ret
      rw [HOF.out]
      exact ⟨_, rfl, own2_blanks (n := 1) hO1 (Nat.le_refl _), (Below.refl _ w).alloc (Nat.le_refl _) _⟩
    · skip
      by_cases h16 : l.length ≤ 16
      · obtain rfl : m = l.length := by omega
        clear hm
        have hof : ofF wide l = [(1, (l.take 16).map replF)] := by unfold ofF; rw [if_neg hz, if_neg hwide]
        rw [← hmt] at hof
        have HOF := hide hof
        have hzi : ((l.length : Int) == 0) = false := by simpa using hz
        clear hof hz
        have hb3 : Below w.heap.size w (w.alloc (.cells #[.int .i64 0, .slice none 0 0] 86)) := (Below.refl _ w).alloc (Nat.le_refl _) _
        have hx3 := (hx.ints_keep (Keep.below (S := So) hb3)).front (k := l.length) (by omega)
        have hblk := Blk.new w 86 #[.int .i64 0, .slice none 0 0]
        go_enter Tryz.func203, Tryz.ntmps203
        go_wp2_with fail
        refine (Replace_ok _ _ _ (l.take l.length) _ hx3 (by rw [List.length_take]; omega)).mono ?_
        rintro e w4 ⟨v4, rfl, hv4, hb4⟩
        generalize hTT : (l.take l.length).map replF = T at *
        clear hTT
        have hz4 := hb4.size
        have hblk4 := hblk.same hb4
        have c0 := hblk4.cell 0
        have c1' := hblk4.cell 1
        simp only [zA, zB, zC] at c0 c1'
        have f0 := hblk4.frozen 0
        have f1 := hblk4.frozen 1
        have hglt := hblk4.lt
        have h5 := hblk4.set_ 0 (.int .i64 1)
        have h6 := h5.set_ 1 v4
        have hst : Step w.heap.size [86] w4 _ := ((Step.refl w.heap.size [86] w4).setCell (p := ⟨w.heap.size, 0, none⟩) (Nat.le_refl _) hblk4.bears (.int .i64 1)).setCell (p := ⟨w.heap.size, 1, none⟩) (Nat.le_refl _) h5.bears v4
        have hb8 := (hb3.trans (hb4.mono (by simp))).trans (hst.below (by simp at hz4; omega))
        have hv8 := hv4.ints_step hst (by decide)
        simp only [zD, zE, zF] at h6
        have hO : Own2 RCell 86 [21] w.heap.size 0 _ (.slice (some ⟨w.heap.size, 0, none⟩) 1 1) [(1, T)] :=
          own2_shut (Nat.zero_le _) (rest := []) (xs := [.int .i64 1, v4]) (by decide) (Nat.le_refl _) h6 (els_cell1 (by decide) (own_typed hv8 _)) rfl rfl (Nat.le_refl _) (by simp [maxLen])
        obtain ⟨A4, c4, rfl, _, _, _⟩ := hv4.islc.open_
        go_wp2
        go_ret
        rw [HOF.out]
        exact ⟨_, rfl, hO, hb8⟩
      · obtain rfl : m = 16 := by omega
        clear hm
        have h17 : (16 : Int) < l.length := by omega
        have hof : ofF wide l = [(1, (l.take 16).map replF)] := by unfold ofF; rw [if_neg hz, if_neg hwide]
        rw [← hmt] at hof
        have HOF := hide hof
        have hzi : ((l.length : Int) == 0) = false := by simpa using hz
        clear hof hz
        have hb3 : Below w.heap.size w (w.alloc (.cells #[.int .i64 0, .slice none 0 0] 86)) := (Below.refl _ w).alloc (Nat.le_refl _) _
        have hx3 := (hx.ints_keep (Keep.below (S := So) hb3)).front (k := 16) (by omega)
        have hblk := Blk.new w 86 #[.int .i64 0, .slice none 0 0]
        go_enter Tryz.func203, Tryz.ntmps203
        go_wp2_with fail
        refine (Replace_ok _ _ _ (l.take 16) _ hx3 (by rw [List.length_take]; omega)).mono ?_
        rintro e w4 ⟨v4, rfl, hv4, hb4⟩
        generalize hTT : (l.take 16).map replF = T at *
        clear hTT
        have hz4 := hb4.size
        have hblk4 := hblk.same hb4
        have c0 := hblk4.cell 0
        have c1' := hblk4.cell 1
        simp only [zA, zB, zC] at c0 c1'
        have f0 := hblk4.frozen 0
        have f1 := hblk4.frozen 1
        have hglt := hblk4.lt
        have h5 := hblk4.set_ 0 (.int .i64 1)
        have h6 := h5.set_ 1 v4
        have hst : Step w.heap.size [86] w4 _ := ((Step.refl w.heap.size [86] w4).setCell (p := ⟨w.heap.size, 0, none⟩) (Nat.le_refl _) hblk4.bears (.int .i64 1)).setCell (p := ⟨w.heap.size, 1, none⟩) (Nat.le_refl _) h5.bears v4
        have hb8 := (hb3.trans (hb4.mono (by simp))).trans (hst.below (by simp at hz4; omega))
        have hv8 := hv4.ints_step hst (by decide)
        simp only [zD, zE, zF] at h6
        have hO : Own2 RCell 86 [21] w.heap.size 0 _ (.slice (some ⟨w.heap.size, 0, none⟩) 1 1) [(1, T)] :=
          own2_shut (Nat.zero_le _) (rest := []) (xs := [.int .i64 1, v4]) (by decide) (Nat.le_refl _) h6 (els_cell1 (by decide) (own_typed hv8 _)) rfl rfl (Nat.le_refl _) (by simp [maxLen])
        obtain ⟨A4, c4, rfl, _, _, _⟩ := hv4.islc.open_
        go_wp2
        go_ret
        rw [HOF.out]
        exact ⟨_, rfl, hO, hb8⟩
end Go.Proofs.YtdjpdllehhecpaaGreatDoor
