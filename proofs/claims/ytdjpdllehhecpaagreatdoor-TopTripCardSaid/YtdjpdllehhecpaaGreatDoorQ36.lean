import Derived.Test.YtdjpdllehhecpaaGreatDoorQ35
import Derived.Test.YtdjpdllehhecpaaGreatDoorQ18
import Derived.Deep.CutRange
open List renaming getElem?_toArray → zA, getElem?_cons_succ → zB, getElem?_cons_zero → zC, setIfInBounds_toArray → zD, set_cons_zero → zE, set_cons_succ → zF
namespace Go.Proofs.YtdjpdllehhecpaaGreatDoor
open Go.RowKit
set_option linter.unusedVariables false
set_option linter.unusedSimpArgs false
structure RowsD (B : Nat) (w : World) (bl : List CellV) (ds : List (Nat × Nat)) : Prop where
  row : ∀ d ∈ ds, RowQ w d.1 d.2 bl false ∧ B ≤ d.1 ∧ B ≤ d.2
  neb : (ds.map Prod.fst).Nodup
  nec : (ds.map Prod.snd).Nodup
theorem RowsD.nil_ (B : Nat) (w : World) (bl : List CellV) : RowsD B w bl [] := ⟨fun d hd => (by cases hd), List.nodup_nil, List.nodup_nil⟩
theorem RowsD.chg {B : Nat} {w w' : World} {bl : List CellV} {ds : List (Nat × Nat)} {S : Nat → Prop} (h : RowsD B w bl ds) (hc : Chg S w w') (hS : Alien [89, 86, 21] S w) : RowsD B w' bl ds :=
  ⟨fun d hd => by
    obtain ⟨h1, h2⟩ := h.row d hd
    obtain ⟨⟨_, k1⟩, _, k2⟩ := h1.blk
    refine ⟨h1.chg hc (hS.no k1 (by decide)) (hS.no k2 (by decide)) (fun k hk => ?_), h2⟩
    obtain ⟨t, cs, hb, hn⟩ := hS k hk
    exact hb.bearsNo (fun e => hn (by simp at e; subst e; decide)), h.neb, h.nec⟩
theorem RowQ.step2 {w w' : World} {b c B : Nat} {l : List CellV} {wrap : Bool} {es : List TypeId} (h : RowQ w b c l wrap) (hs : Step B es w w') (h1 : 89 ∉ es) (h2 : 86 ∉ es) (h3 : 21 ∉ es) : RowQ w' b c l wrap := by
  obtain ⟨cap, xs, rest, k1, k2, k3, k4⟩ := h
  exact ⟨cap, xs, rest, k1.step hs h1, k2.step hs h2, k3.mono (Keep.step (hs.mono (Nat.zero_le _) (fun _ h => h)) (by simpa using h3)), k4⟩
theorem RowsD.step2 {B B2 : Nat} {w w' : World} {bl : List CellV} {ds : List (Nat × Nat)} {es : List TypeId} (h : RowsD B w bl ds) (hs : Step B2 es w w') (h1 : 89 ∉ es) (h2 : 86 ∉ es) (h3 : 21 ∉ es) : RowsD B w' bl ds :=
  ⟨fun d hd => ⟨(h.row d hd).1.step2 hs h1 h2 h3, (h.row d hd).2⟩, h.neb, h.nec⟩
theorem RowsD.below {B : Nat} {w w' : World} {bl : List CellV} {ds : List (Nat × Nat)} (h : RowsD B w bl ds) (hb : Below w.heap.size w w') : RowsD B w' bl ds := h.chg (S := fun _ => False) (Chg.of_below hb) (fun _ e => e.elim)
theorem RowsD.snoc {B C : Nat} {w : World} {bl : List CellV} {ds : List (Nat × Nat)} (h : RowsD B w bl ds) {b c : Nat} (hq : RowQ w b c bl false) (hBC : B ≤ C) (hb : C ≤ b) (hc : C ≤ c) (hlt : ∀ d ∈ ds, d.1 < C ∧ d.2 < C) : RowsD B w bl (ds ++ [(b, c)]) := by
  refine ⟨fun d hd => ?_, ?_, ?_⟩
  · rcases List.mem_append.1 hd with hd | hd
    · exact h.row d hd
    · rw [List.mem_singleton] at hd
      subst hd
      exact ⟨hq, Nat.le_trans hBC hb, Nat.le_trans hBC hc⟩
  · rw [List.map_append, List.nodup_append]
    refine ⟨h.neb, by simp, fun x hx y hy => ?_⟩
    obtain ⟨d, hd, rfl⟩ := List.mem_map.1 hx
    simp at hy
    subst hy
    have := (hlt d hd).1
    omega
  · rw [List.map_append, List.nodup_append]
    refine ⟨h.nec, by simp, fun x hx y hy => ?_⟩
    obtain ⟨d, hd, rfl⟩ := List.mem_map.1 hx
    simp at hy
    subst hy
    have := (hlt d hd).2
    omega
theorem RowsD.lt {B : Nat} {w : World} {bl : List CellV} {ds : List (Nat × Nat)} (h : RowsD B w bl ds) : ∀ d ∈ ds, d.1 < w.heap.size ∧ d.2 < w.heap.size := fun d hd => (h.row d hd).1.lt
theorem nodup_at {l : List Nat} (h : l.Nodup) {i j : Nat} (hi : i < l.length) (hj : j < l.length) (e : l[i] = l[j]) : i = j := by
  rcases Nat.lt_trichotomy i j with hl | hl | hl
  · exact absurd e ((List.pairwise_iff_getElem.1 h) i j hi hj hl)
  · exact hl
  · exact absurd e.symm ((List.pairwise_iff_getElem.1 h) j i hj hi hl)
theorem RowsD.grid {B g n : Nat} {w : World} {bl : List CellV} {ds : List (Nat × Nat)} {sv : Value} (h : RowsD B w bl ds) (hg : Blk w g 122 #[sv]) (ho : Own RVal 45 [] B w sv (ds.map fun d => ptrB d.1)) (hn : ds.length = n) (h0 : 0 < n) :
    ∃ G, B ≤ G ∧ GridQ w g G (fun i => (ds.getD i (0, 0)).1) (fun i => (ds.getD i (0, 0)).2) bl.length (List.replicate n (bl, false)) := by
  subst hn
  obtain ⟨G, cap, xs, rest, rfl, hG, hB, hx, hels, hs, hc, hm⟩ := lown_open ho (by simpa using h0)
  have hxs := els_val _ _ hels
  subst hxs
  have hl : (ds.map fun d => ptrB d.1) = (List.range ds.length).map (fun i => ptrB (ds.getD i (0, 0)).1) := by
    apply List.ext_getElem
    · simp
    · intro i h1 h2
      rw [List.getElem_map, List.getElem_map, List.getElem_range]
      rw [List.length_map] at h1
      simp [List.getD_eq_getElem?_getD, List.getElem?_eq_getElem h1]
  refine ⟨G, hG, ⟨⟨cap, rest, ?_, ?_, ?_, ?_, hm⟩, fun i x hi => ?_, fun i j hi hj e => ?_, fun i j hi hj e => ?_⟩⟩
  · rw [List.length_replicate]
    rw [List.length_map] at hg
    exact hg
  · rw [List.length_replicate, ← hl]; exact hB
  · rw [List.length_replicate, ← hl]; simpa [RVal] using hs
  · rw [List.length_replicate]
    rw [List.length_map] at hc
    exact hc
  · rw [List.getElem?_replicate] at hi
    split at hi
    · rename_i hlt
      injection hi with hi
      subst hi
      have hm2 : ds.getD i (0, 0) ∈ ds := by
        rw [List.getD_eq_getElem?_getD, List.getElem?_eq_getElem hlt]
        exact List.getElem_mem _
      exact ⟨(h.row _ hm2).1, rfl⟩
    · cases hi
  · rw [List.length_replicate] at hi hj
    simp only [List.getD_eq_getElem?_getD, List.getElem?_eq_getElem hi, List.getElem?_eq_getElem hj, Option.getD_some] at e
    exact nodup_at h.neb (i := i) (j := j) (by simpa using hi) (by simpa using hj) (by simpa using e)
  · rw [List.length_replicate] at hi hj
    simp only [List.getD_eq_getElem?_getD, List.getElem?_eq_getElem hi, List.getElem?_eq_getElem hj, Option.getD_some] at e
    exact nodup_at h.nec (i := i) (j := j) (by simpa using hi) (by simpa using hj) (by simpa using e)
set_option maxHeartbeats 2000000 in
theorem GNewQ_ok (n m : Nat) (hn : 1 ≤ n) (hn2 : n ≤ 1024) (hm : 1 ≤ m) (hm2 : m ≤ 1024) (w : World) :
    Calls Tryz.prog 49 #[.int .i64 n, .int .i64 m] w fun e w' => e = .returned (ptrB w.heap.size) ∧ (∃ G db dc, w.heap.size ≤ G ∧ (∀ i, i < m → w.heap.size ≤ db i ∧ w.heap.size ≤ dc i) ∧ GridQ w' w.heap.size G db dc n (List.replicate m (List.replicate n (0, []), false))) ∧ Below w.heap.size w w' := by
  have HN := hide (New_ok n hn hn2)
  obtain ⟨bl, hbl⟩ : ∃ bl : List CellV, List.replicate n (0, []) = bl := ⟨_, rfl⟩
  rw [hbl] at HN ⊢
  have HBN : Hid (bl.length = n) := hide (by rw [← hbl]; simp)
  have bn := Blk.new w 122 #[.slice none 0 0]
  have hb1 := (Below.refl w.heap.size w).alloc (Nat.le_refl _) (.cells #[.slice none 0 0] 122)
  have h1n : 0 < n := hn
  clear hbl hn
  unfold ptrB
  go_enter Tryz.func49, Tryz.ntmps49
  go_upto_region 2 with fail
  go_cut [10, 11] from 8 to 11 (fun s t wx => s = .int .i64 m ∧ t = .int .i64 0 ∧ w.alloc (.cells #[.slice none 0 0] 122) = wx)
  case first =>
    rcases (by omega : m = 1 ∨ (1 < m ∧ m < 1024) ∨ m = 1024) with h1 | ⟨h1, h2⟩ | h1
    · subst h1
      go_wp2
      go_meet
      exact ⟨rfl, rfl, rfl⟩
    · go_wp2
      go_meet
      exact ⟨by first | rfl | simp <;> omega, rfl, rfl⟩
    · subst h1
      go_wp2
      go_meet
      exact ⟨rfl, rfl, rfl⟩
  case rest =>
    obtain ⟨rfl, rfl, rfl⟩ := hcut
    go_wp2
    go_loopw [11] (fun iv wr => ∃ k : Nat, k ≤ m ∧ iv = .int .i64 k ∧ ∃ (sv : Value) (ds : List (Nat × Nat)), ds.length = k ∧ Blk wr w.heap.size 122 #[sv] ∧ Own RVal 45 [] w.heap.size wr sv (ds.map fun d => ptrB d.1) ∧ RowsD w.heap.size wr bl ds ∧ Below w.heap.size w wr ∧ w.heap.size < wr.heap.size) (fun iv _ => m - (intOf iv).toNat)
    case atStart => exact ⟨0, Nat.zero_le _, rfl, _, [], rfl, bn, Own.nil_ _ _ _ _ _ (by simp), RowsD.nil_ _ _ _, hb1, bn.lt⟩
    case round =>
      clear bn hb1
      obtain ⟨k, hk, rfl, sv, ds, hds, bn, hov, hrs, hbr, hgl⟩ := hrel
      have hzr := hbr.size
      by_cases hlt : k < m
      · have hki : (k : Int) < m := by omega
        have HDS := hide hds
        have HOLT := hide hrs.lt
        obtain ⟨A6, n6, c6, rfl⟩ : ∃ A6 n6 c6, sv = .slice A6 n6 c6 := by
          obtain ⟨A, c, e, _⟩ := hov.slc.open_
          exact ⟨A, _, c, e⟩
        have s0 := bn.cell 0
        simp only [zA, zB, zC] at s0
        have HBN1 := hide bn
        have HOV := hide hov
        have HRS := hide hrs
        have HBR := hide hbr
        clear hds bn hov hrs hbr
        go_upto_region 4 with fail
        refine wp_region_late (S := fun w' => w'.cell? ⟨w.heap.size, 0, none⟩ = some (.slice A6 n6 c6)) [11] (by kernel_rfl) (by exact s0) (fun hHeld => ?_)
        refine wpAnyT_take (i := 0) (oi := ?_) (v := ?_) ?_ (by kernel_rfl) (by kernel_rfl) (by kernel_rfl) (by kernel_rfl) (by kernel_rfl) ?_ (Or.inl ⟨?_, ?_⟩) (by assumption) ?_
        rotate_left 2
        · (simp only [zA, zB, zC]; rfl)
        rotate_left 1
        · rfl
        · (intro w hSw; (try dsimp only at hSw); go_simp; try with_reducible rfl)
        rotate_left 1
        · exact fun _ _ _ h => h
        try simp only [Act.put, zD, zE, zF]
        refine wpAnyT_take (i := 1) (oi := ?_) (v := ?_) ?_ (by kernel_rfl) (by kernel_rfl) (by kernel_rfl) (by kernel_rfl) (by kernel_rfl) ?_ (Or.inl ⟨?_, ?_⟩) (by assumption) ?_
        rotate_left 2
        · (simp only [zA, zB, zC]; rfl)
        rotate_left 1
        · rfl
        · (intro w hSw; (try dsimp only at hSw); go_simp; try with_reducible rfl)
        rotate_left 1
        · exact fun _ _ _ h => h
        try simp only [Act.put, zD, zE, zF]
        refine wpAnyT_take (i := 2) (oi := ?_) (v := ?_) ?_ (by kernel_rfl) (by kernel_rfl) (by kernel_rfl) (by kernel_rfl) (by kernel_rfl) ?_ (Or.inl ⟨?_, ?_⟩) (by assumption) ?_
        rotate_left 2
        · (simp only [zA, zB, zC]; rfl)
        rotate_left 1
        · rfl
        · (intro w hSw; (try dsimp only at hSw); go_simp; try with_reducible rfl)
        rotate_left 1
        · exact fun _ _ _ h => h
        try simp only [Act.put, zD, zE, zF]
        refine wpAnyT_take (i := 3) (oi := ?_) (v := ?_) ?_ (by kernel_rfl) (by kernel_rfl) (by kernel_rfl) (by kernel_rfl) (by kernel_rfl) ?_ (Or.inl ⟨?_, ?_⟩) (by assumption) ?_
        rotate_left 2
        · (simp only [zA, zB, zC]; rfl)
        rotate_left 1
        · rfl
        · (intro w hSw; (try dsimp only at hSw); go_simp; try with_reducible rfl)
        rotate_left 1
        · exact fun _ _ _ h => h
        try simp only [Act.put, zD, zE, zF]
        refine wpAnyT_take (i := 4) (oi := ?_) (v := ?_) ?_ (by kernel_rfl) (by kernel_rfl) (by kernel_rfl) (by kernel_rfl) (by kernel_rfl) ?_ (Or.inl ⟨?_, ?_⟩) (by assumption) ?_
        rotate_left 2
        · (simp only [zA, zB, zC]; rfl)
        rotate_left 1
        · rfl
        · (intro w hSw; (try dsimp only at hSw); go_simp; try with_reducible rfl)
        rotate_left 1
        · exact fun _ _ _ h => h
        try simp only [Act.put, zD, zE, zF]
        refine wpAnyT_take (i := 5) (oi := ?_) (v := ?_) ?_ (by kernel_rfl) (by kernel_rfl) (by kernel_rfl) (by kernel_rfl) (by kernel_rfl) ?_ (Or.inl ⟨?_, ?_⟩) (by assumption) ?_
        rotate_left 2
        · (simp only [zA, zB, zC]; rfl)
        rotate_left 1
        · rfl
        · (intro w hSw; (try dsimp only at hSw); go_simp; try with_reducible rfl)
        rotate_left 1
        · exact fun _ _ _ h => h
        try simp only [Act.put, zD, zE, zF]
        refine wpAnyT_ready (rs := [6]) (by kernel_rfl) (by simp) ?_
        refine AllReadyT.cons (o := ?_) ?_ (fun K hK => ?_) AllReadyT.nil
        rotate_left 1
        · (simp only [zA, zB, zC]; rfl)
        go_simp
        (go_at_call 33; refine (HN.out _).mono ?_; rintro e w5 ⟨v5, rfl, hv5, hc5⟩; obtain ⟨gv, gc, rfl, hgv, hgc, hq5⟩ := hv5.rowQ (by rw [HBN.out]; exact h1n); have hb5 := (below_drw HBR.out).trans (hc5.mono hzr); have hz5 := hc5.size; have bn5 := (show Blk wr.drew _ _ _ from HBN1.out).same hc5; have hov5 := (own_dr HOV.out).below hc5; have hrs5 := (HRS.out.chg (S := fun _ => False) (Chg.refl _ wr).dr (fun _ e => e.elim)).below hc5; have s0 := bn5.cell 0; simp only [zA, zB, zC] at s0; have hrs6 := hrs5.snoc hq5 hzr hgv hgc HOLT.out; clear hrs5 hv5 hc5)
        refine hK.out _ _ ?_ (fun hHeld => ?_)
        · ((try dsimp only); go_keep)
        clear hK K
        try simp only [Act.put, zD, zE, zF]
        refine wpAnyT_ready (rs := [7]) (by kernel_rfl) (by simp) ?_
        refine AllReadyT.cons (o := ?_) ?_ (fun K hK => ?_) AllReadyT.nil
        rotate_left 1
        · (simp only [zA, zB, zC]; rfl)
        unfold ptrB; go_simp; have bn6 := bn5.alloc (.cells #[.pointer (some ⟨gv, 0, none⟩)] 45); have hov6 := hov5.alloc (.cells #[.pointer (some ⟨gv, 0, none⟩)] 45); have hrs7 := hrs6.below ((Below.refl _ w5).alloc (Nat.le_refl _) (.cells #[.pointer (some ⟨gv, 0, none⟩)] 45)); have hb6 := hb5.alloc hb5.size (.cells #[.pointer (some ⟨gv, 0, none⟩)] 45); have hone := Slc.lit1 (R := RVal) (Si := fun _ => False) (Si' := fun _ => False) (w := w5) (x := (.pointer (some ⟨gv, 0, none⟩) : Value)) (u := [.pointer (some ⟨gv, 0, none⟩)]) 45 ⟨rfl, rfl⟩ (fun _ _ h => h.elim); have s0 := bn6.cell 0; simp only [zA, zB, zC] at s0; clear bn5 hov5 hrs6
        refine hK.out _ _ ?_ (fun hHeld => ?_)
        · ((try dsimp only); go_keep)
        clear hK K
        try simp only [Act.put, zD, zE, zF]
        refine wpAnyT_ready (rs := [8]) (by kernel_rfl) (by simp) ?_
        refine AllReadyT.cons (o := ?_) ?_ (fun K hK => ?_) AllReadyT.nil
        rotate_left 1
        · (simp only [zA, zB, zC]; rfl)
        refine step_appg rfl (.tmp 17) (.tmp 20) 120 rfl RVal 45 [] w.heap.size 8 _ Tryz.underlying120 rowp_info rfl (by decide) (by decide) _ _ rfl hov6 _ (fun _ => False) _ _ rfl hone (fun _ h => False.elim h) (by have := HDS.out; simp; omega) hb6.size ?_; intro v7 w7 hv7 hst7 hg7 ho7; obtain ⟨A7, n7, c7, rfl⟩ : ∃ A7 n7 c7, v7 = .slice A7 n7 c7 := (by obtain ⟨A, c, e, _⟩ := hv7.slc.open_; exact ⟨A, _, c, e⟩); have hb7 := hb6.trans (hst7.below hb6.size); have bn7 := bn6.step hst7 (by decide); have hrs8 := hrs7.step2 hst7 (by decide) (by decide) (by decide); have f0 := bn7.frozen 0; have s0 := bn7.cell 0; simp only [zA, zB, zC] at s0; have hst9 : Step w.heap.size [122] w7 (w7.setCell ⟨w.heap.size, 0, none⟩ (.slice A7 n7 c7)) := (Step.refl w.heap.size [122] w7).setCell (p := ⟨w.heap.size, 0, none⟩) (Nat.le_refl _) bn7.bears (.slice A7 n7 c7); have HBR9 := hide (hb7.trans (hst9.below hb7.size)); have HBN9 := hide (show Blk (w7.setCell ⟨w.heap.size, 0, none⟩ (.slice A7 n7 c7)) w.heap.size 122 #[.slice A7 n7 c7] from bn7.set_ 0 (.slice A7 n7 c7)); have HOV9 := hide (show Own RVal 45 [] w.heap.size (w7.setCell ⟨w.heap.size, 0, none⟩ (.slice A7 n7 c7)) (.slice A7 n7 c7) ((ds ++ [(gv, gc)]).map fun d => ptrB d.1) from (by rw [List.map_append]; exact hv7.flat_step RVal.flat hst9 (by decide))); have HRS9 := hide (hrs8.step2 hst9 (by decide) (by decide) (by decide)); clear hv7 hst7 hg7 ho7 hrs7 hrs8 bn6 hov6 hst9 hone hb6
        refine hK.out _ _ ?_ (fun hHeld => ?_)
        · ((try dsimp only); go_keep)
        clear hK K
        try simp only [Act.put, zD, zE, zF]
        refine wpAnyT_take (i := 9) (oi := ?_) (v := ?_) ?_ (by kernel_rfl) (by kernel_rfl) (by kernel_rfl) (by kernel_rfl) (by kernel_rfl) ?_ (Or.inl ⟨?_, ?_⟩) (by assumption) ?_
        rotate_left 2
        · (simp only [zA, zB, zC]; rfl)
        rotate_left 1
        · rfl
        · (intro w hSw; (try dsimp only at hSw); go_simp; try with_reducible rfl)
        rotate_left 1
        · exact fun _ _ _ h => h
        try simp only [Act.put, zD, zE, zF]
        refine wpAnyT_take (i := 10) (oi := ?_) (v := ?_) ?_ (by kernel_rfl) (by kernel_rfl) (by kernel_rfl) (by kernel_rfl) (by kernel_rfl) ?_ (Or.inl ⟨?_, ?_⟩) (by assumption) ?_
        rotate_left 2
        · (simp only [zA, zB, zC]; rfl)
        rotate_left 1
        · rfl
        · (intro w hSw; (try dsimp only at hSw); go_simp; try with_reducible rfl)
        rotate_left 1
        · exact fun _ _ _ h => h
        try simp only [Act.put, zD, zE, zF]
        refine wpAnyT_ready (rs := [11]) (by kernel_rfl) (by simp) ?_
        refine AllReadyT.consL (o := ?_) ?_ (by kernel_rfl) (fun K hK => ?_) AllReadyT.nil
        rotate_left 1
        · (simp only [zA, zB, zC]; rfl)
        go_simp
        refine hK.out _ _ ?_
        clear hK K
        try simp only [Act.put, zD, zE, zF]
        refine wpAnyT_done (by kernel_rfl) ?_ _
        clear s0 hHeld
        go_wp2
        go_roundw
        case rel => exact ⟨k + 1, by omega, by go_num, _, ds ++ [(gv, gc)], by simp [HDS.out], HBN9.out, HOV9.out, HRS9.out, HBR9.out, by have := HBN9.out.lt; omega⟩
        case measure => simp [intOf]; omega
      · have hkm : k = m := by omega
        obtain ⟨G, hG, hgq⟩ := hrs.grid bn hov (hds.trans hkm) (by omega)
        rw [HBN.out] at hgq
        have HG := hide hgq
        have HF := hide (fun i (hi : i < m) => (by
          have hi2 : i < ds.length := by omega
          have hm2 : ds.getD i (0, 0) ∈ ds := by
            rw [List.getD_eq_getElem?_getD, List.getElem?_eq_getElem hi2]
            exact List.getElem_mem _
          exact (hrs.row _ hm2).2 : w.heap.size ≤ (ds.getD i (0, 0)).1 ∧ w.heap.size ≤ (ds.getD i (0, 0)).2))
        have HBR := hide hbr
        clear hds bn hov hrs hbr hgq
        go_wp2
        go_ret
        exact ⟨rfl, ⟨G, _, _, hG, HF.out, HG.out⟩, HBR.out⟩
end Go.Proofs.YtdjpdllehhecpaaGreatDoor
namespace Go.Proofs.YtdjpdllehhecpaaGreatDoor
open Go.RowKit
set_option linter.unusedVariables false
set_option linter.unusedSimpArgs false
theorem penS_nil {W h : Nat} (hW : 2 ≤ W) (hh : 1 ≤ h) : penS W h [] = ⟨List.replicate h (List.replicate W (0, []), false), 0, 0, false⟩ := by
  have e : layS W [] = lay0 := rfl
  unfold penS
  rw [e]
  unfold penOf rowsL curL lay0 padL blankL
  obtain ⟨k, rfl⟩ : ∃ k, h = k + 1 := ⟨h - 1, by omega⟩
  have : decide (0 = W) = false := decide_eq_false (by omega)
  simp [List.replicate_succ, this]
theorem textOk_nil : TextOk [] := ⟨fun r hr => (by cases hr), fun c hc => by
  have e : clusOf (clS []) = [] := rfl
  rw [e] at hc
  cases hc⟩
theorem PNew_ok (n m : Nat) (hn : 2 ≤ n) (hn2 : n ≤ 1024) (hm : 1 ≤ m) (hm2 : m ≤ 1024) (w : World) :
    Calls Tryz.prog 23 #[.int .i64 n, .int .i64 m] w fun e w' => ∃ I : Ids, e = .returned (ptrB I.p) ∧ I.W = n ∧ I.h = m ∧ PenQ w' I (penS n m []) ∧ (∀ k, PenS I k → w.heap.size ≤ k) ∧ Below w.heap.size w w' := by
  have HG := hide (GNewQ_ok n m (by omega) hn2 hm hm2 w)
  have HB := hide (And.intro hn (And.intro hn2 (And.intro hm hm2)))
  clear hn hn2 hm hm2
  unfold ptrB at HG
  go_enter Tryz.func23, Tryz.ntmps23
  go_wp2_with fail
  refine HG.out.mono ?_
  rintro e w1 ⟨rfl, ⟨G, db, dc, hG, hF, hq⟩, hb⟩
  have HQ := hide hq
  have HBL := hide hb
  clear hq hb
  go_wp2
  go_ret
  have hz := HBL.out.size
  obtain ⟨hn, hn2, hm, hm2⟩ := HB.out
  have hbn := Blk.new w1 76 (penC w.heap.size 0 0 false)
  refine ⟨⟨w1.heap.size, w.heap.size, G, db, dc, n, m⟩, rfl, rfl, rfl, ?_, ?_, HBL.out.alloc hz _⟩
  · rw [penS_nil hn hm]
    exact ⟨hbn, HQ.out.chg (S := fun _ => False) ((Chg.refl _ w1).alloc _) (fun _ e => e.elim), by simp, by show 0 < m; omega, by show 0 < n; omega, fun e => (by cases e), hn, hn2, hm2⟩
  · rintro k (rfl | ⟨i, hi, rfl | rfl⟩)
    · exact hz
    · exact (hF i hi).1
    · exact (hF i hi).2
theorem FNew_ok (I : Ids) (v : PenV) (w : World) (h : PenQ w I v) :
    Calls Tryz.prog 24 #[ptrB I.p] w fun e w' => e = .returned (ptrB w.heap.size) ∧ w' = w.alloc (.cells (feedC I.p (decOf []) seg0 (.pointer none)) 116) := by
  obtain ⟨x0, -⟩ := h.cells
  have hl := h.blk.lt
  obtain ⟨p, hp⟩ : ∃ p, I.p = p := ⟨_, rfl⟩
  rw [hp] at x0 hl ⊢
  clear h hp
  unfold ptrB
  go_enter Tryz.func24, Tryz.ntmps24
  go_wp2
  go_ret
  exact ⟨rfl, rfl⟩
structure ScnQ (N : Nat) (I : Ids) (f sc : Nat) (w : World) (hd l : List Int) : Prop where
  scn : Blk w sc 71 #[ptrB f, ptrB I.p]
  fed : FedQ N I f w hd l
  lo : N ≤ f ∧ N ≤ sc ∧ ∀ k, PenS I k → N ≤ k
  size : N ≤ w.heap.size
theorem ScnNew_ok (n m : Nat) (hn : 2 ≤ n) (hn2 : n ≤ 1024) (hm : 1 ≤ m) (hm2 : m ≤ 1024) (w : World) :
    Calls Tryz.prog 7 #[.int .i64 n, .int .i64 m] w fun e w' => ∃ (I : Ids) (f sc : Nat), e = .returned (ptrB sc) ∧ I.W = n ∧ I.h = m ∧ ScnQ w.heap.size I f sc w' [] [] ∧ Below w.heap.size w w' := by
  have HG := hide (PNew_ok n m hn hn2 hm hm2 w)
  have HF := hide FNew_ok
  clear hn hn2 hm hm2
  unfold ptrB at HG HF
  go_enter Tryz.func7, Tryz.ntmps7
  go_wp2_with fail
  refine HG.out.mono ?_
  rintro e w1 ⟨I, rfl, hW, hh, hq, hlo, hb⟩
  have HQ := hide hq
  have HBL := hide hb
  have HI := hide (And.intro hW (And.intro hh hlo))
  clear hq hb hW hh hlo
  go_wp2_with fail
  refine (HF.out I _ _ HQ.out).mono ?_
  rintro e w2 ⟨rfl, hw2⟩
  have hf2 : Blk w2 w1.heap.size 116 (feedC I.p (decOf []) seg0 (.pointer none)) := by rw [hw2]; exact Blk.new w1 _ _
  have hb2 : Below w1.heap.size w1 w2 := by rw [hw2]; exact (Below.refl _ w1).alloc (Nat.le_refl _) _
  have HF2 := hide hf2
  have HB2 := hide hb2
  clear hw2 hf2 hb2
  go_wp2
  go_ret
  have hz := HBL.out.size
  have hz2 := HB2.out.size
  obtain ⟨hW, hh, hlo⟩ := HI.out
  refine ⟨I, w1.heap.size, w2.heap.size, rfl, hW, hh, ⟨Blk.new w2 _ _, ⟨?_, ⟨.pointer none, HF2.out.alloc _, .inl ⟨rfl, rfl⟩⟩, pre_nil, bytes_nil, textOk_nil⟩, ⟨hz, by omega, hlo⟩, ?_⟩, (HBL.out.trans (HB2.out.mono hz)).alloc (by omega) _⟩
  · rw [hW, hh]
    exact (HQ.out.below HB2.out).alloc _
  · show w.heap.size ≤ (World.alloc w2 _).heap.size
    simp
    omega
end Go.Proofs.YtdjpdllehhecpaaGreatDoor
namespace Go.Proofs.YtdjpdllehhecpaaGreatDoor
open Go.RowKit
set_option linter.unusedVariables false
set_option linter.unusedSimpArgs false
theorem no_fed {N : Nat} {I : Ids} {f k : Nat} {w : World} {v : PenV} {t : TypeId} {cs cf : Array Value} (hp : PenQ w I v) (hf : Blk w f 116 cf) (hb : Blk w k t cs) (ht : t ∉ [116, 76, 89, 86, 213]) : ¬ FedS N I f w k := by
  rintro (rfl | e | ⟨_, e⟩)
  · exact ht (by rw [hb.typ hf]; simp)
  · obtain ⟨t', cs', hb', hn⟩ := hp.alien (T := [t]) ⟨by simp; intro e; exact ht (by rw [← e]; simp), by simp; intro e; exact ht (by rw [← e]; simp), by simp; intro e; exact ht (by rw [← e]; simp)⟩ k e
    exact hn (by rw [hb'.typ hb]; simp)
  · exact hb.bearsNo (T := [213]) (fun e2 => ht (by simp at e2; rw [e2]; simp)) e
theorem ScnQ.no {N : Nat} {I : Ids} {f sc k : Nat} {w : World} {hd l : List Int} {t : TypeId} {cs : Array Value} (h : ScnQ N I f sc w hd l) (hb : Blk w k t cs) (ht : t ∉ [116, 76, 89, 86, 213]) : ¬ FedS N I f w k := by
  obtain ⟨ov, h1, _⟩ := h.fed.blk
  exact no_fed h.fed.pen h1 hb ht
theorem ScnQ.below {N : Nat} {I : Ids} {f sc : Nat} {w w' : World} {hd l : List Int} (h : ScnQ N I f sc w hd l) (hb : Below w.heap.size w w') : ScnQ N I f sc w' hd l :=
  ⟨h.scn.same hb, h.fed.below hb, h.lo, Nat.le_trans h.size hb.size⟩
def opA (k : Int) (x : Value) : Value := .agg #[.int .i64 k, .int .i64 0, .int .i64 0, x]
set_option maxHeartbeats 2000000 in
theorem DoFeed_ok (N : Nat) (I : Ids) (f sc : Nat) (hd l b : List Int) (So Si : Nat → Prop) (x : Value) (w : World) (h : ScnQ N I f sc w hd l) (hx : Slc (Rep.int .u8) So Si w x b) (hSo : ∀ k, So k → k < w.heap.size ∧ ¬ FedS N I f w k)
    (hs : ∀ r ∈ (feedF hd b).1, silF r = false) (ht : TextOk (l ++ (feedF hd b).1)) (hh : (layS I.W (l ++ (feedF hd b).1)).out.length < I.h) (hm : b.length ≤ 10000) :
    Calls Tryz.prog 15 #[ptrB sc, opA 0 x] w fun e w' => e = .returned .nilIface ∧ ScnQ N I f sc w' (feedF hd b).2 (l ++ (feedF hd b).1) ∧ Chg (FedS N I f w) w w' := by
  obtain ⟨A, c, rfl, _, _, _⟩ := hx.open_
  obtain ⟨W0, hW0⟩ : ∃ W0, w.alloc (.cells #[.int .i64 0, .int .i64 0, .int .i64 0, .slice A b.length c] 36) = W0 := ⟨_, rfl⟩
  have hb0 : Below w.heap.size w W0 := by rw [← hW0]; exact (Below.refl _ w).alloc (Nat.le_refl _) _
  have hO0 : Blk W0 w.heap.size 36 #[.int .i64 0, .int .i64 0, .int .i64 0, .slice A b.length c] := by rw [← hW0]; exact Blk.new w _ _
  have hd0 : Below w.heap.size w W0.drew := below_dr hb0
  have hq0 := h.below hd0
  have hch0 : Chg (FedS N I f w) w W0.drew := Chg.of_below hd0
  have HBY := hide (Bytes_ok N I f hd l b So Si _ W0.drew hq0.fed hq0.size (hx.ints_keep (Keep.below hd0)) (fun k hk => fed_any hch0 (hSo k hk).1 (hSo k hk).2) hs ht hh hm)
  have hs0 := h.scn.same hb0
  have y0 := hs0.cell 0
  have z0 := hO0.cell 0
  have z3 := hO0.cell 3
  unfold ptrB at y0
  simp only [zA, zB, zC] at y0 z0 z3
  have hsl := hs0.lt
  have HQ0 := hide hq0
  have HO0 := hide hO0
  have HC0 := hide hch0
  have HW0 := hide hW0
  unfold ptrB at HBY ⊢
  unfold opA
  clear hx hSo hs ht hh hs0 hq0 hch0 hO0 hb0 hd0 hW0 h
  go_enter Tryz.func15, Tryz.ntmps15
  go_upto_region 1 with fail
  rw [HW0.out]
  go_upto_region 10 with fail
  refine wp_region_held_drew (S := fun w' => w'.cell? ⟨sc, 0, none⟩ = some (.pointer (some ⟨f, 0, none⟩)) ∧ w'.cell? ⟨w.heap.size, 3, none⟩ = some (.slice A b.length c)) (by kernel_rfl) (by exact ⟨y0, z3⟩) (fun hHeld => ?_)
  refine wpAnyH_take (i := 0) (oi := ?_) (v := ?_) ?_ (by kernel_rfl) (by kernel_rfl) (by kernel_rfl) ?_ (Or.inl ⟨?_, ?_⟩) (by assumption) ?_
  rotate_left 2
  · (simp only [zA, zB, zC]; rfl)
  rotate_left 1
  · rfl
  · (intro w hSw; (try dsimp only at hSw); go_simp; try with_reducible rfl)
  rotate_left 1
  · exact fun _ _ _ h => h
  try simp only [Act.put, zD, zE, zF]
  refine wpAnyH_take (i := 1) (oi := ?_) (v := ?_) ?_ (by kernel_rfl) (by kernel_rfl) (by kernel_rfl) ?_ (Or.inl ⟨?_, ?_⟩) (by assumption) ?_
  rotate_left 2
  · (simp only [zA, zB, zC]; rfl)
  rotate_left 1
  · rfl
  · (intro w hSw; (try dsimp only at hSw); go_simp; try with_reducible rfl)
  rotate_left 1
  · exact fun _ _ _ h => h
  try simp only [Act.put, zD, zE, zF]
  refine wpAnyH_take (i := 2) (oi := ?_) (v := ?_) ?_ (by kernel_rfl) (by kernel_rfl) (by kernel_rfl) ?_ (Or.inl ⟨?_, ?_⟩) (by assumption) ?_
  rotate_left 2
  · (simp only [zA, zB, zC]; rfl)
  rotate_left 1
  · rfl
  · (intro w hSw; (try dsimp only at hSw); go_simp; try with_reducible rfl)
  rotate_left 1
  · exact fun _ _ _ h => h
  try simp only [Act.put, zD, zE, zF]
  refine wpAnyH_take (i := 3) (oi := ?_) (v := ?_) ?_ (by kernel_rfl) (by kernel_rfl) (by kernel_rfl) ?_ (Or.inl ⟨?_, ?_⟩) (by assumption) ?_
  rotate_left 2
  · (simp only [zA, zB, zC]; rfl)
  rotate_left 1
  · rfl
  · (intro w hSw; (try dsimp only at hSw); go_simp; try with_reducible rfl)
  rotate_left 1
  · exact fun _ _ _ h => h
  try simp only [Act.put, zD, zE, zF]
  refine wpAnyH_take (i := 4) (oi := ?_) (v := ?_) ?_ (by kernel_rfl) (by kernel_rfl) (by kernel_rfl) ?_ (Or.inl ⟨?_, ?_⟩) (by assumption) ?_
  rotate_left 2
  · (simp only [zA, zB, zC]; rfl)
  rotate_left 1
  · rfl
  · (intro w hSw; (try dsimp only at hSw); go_simp; try with_reducible rfl)
  rotate_left 1
  · exact fun _ _ _ h => h
  try simp only [Act.put, zD, zE, zF]
  refine wpAnyH_take (i := 5) (oi := ?_) (v := ?_) ?_ (by kernel_rfl) (by kernel_rfl) (by kernel_rfl) ?_ (Or.inl ⟨?_, ?_⟩) (by assumption) ?_
  rotate_left 2
  · (simp only [zA, zB, zC]; rfl)
  rotate_left 1
  · rfl
  · (intro w hSw; (try dsimp only at hSw); go_simp; try with_reducible rfl)
  rotate_left 1
  · exact fun _ _ _ h => h
  try simp only [Act.put, zD, zE, zF]
  refine wpAnyH_ready (rs := [6]) (by kernel_rfl) (by simp) ?_
  refine AllReadyH.cons (o := ?_) ?_ (fun K hK => ?_) AllReadyH.nil
  rotate_left 1
  · (simp only [zA, zB, zC]; rfl)
  go_simp
  (go_at_call 36; refine HBY.out.mono ?_; rintro e w5 ⟨⟨x5, rfl⟩, hq5, hc5⟩; have hsc := hc5.blk HQ0.out.scn (HQ0.out.no HQ0.out.scn (by decide)); have ho := hc5.blk HO0.out.dr (HQ0.out.no HO0.out.dr (by decide)); have y0 := hsc.cell 0; have z3 := ho.cell 3; unfold ptrB at y0; simp only [zA, zB, zC] at y0 z3; have HQ5 := hide hq5; have HC5 := hide hc5; have HSC := hide hsc; clear hq5 hc5 hsc ho)
  refine hK.out _ _ ?_ (fun hHeld => ?_)
  · ((try dsimp only); go_keep)
  clear hK K
  try simp only [Act.put, zD, zE, zF]
  refine wpAnyH_done (by kernel_rfl) ?_ _
  clear hHeld
  go_wp2
  go_ret
  exact ⟨rfl, ⟨HSC.out, HQ5.out, HQ0.out.lo, Nat.le_trans HQ0.out.size HC5.out.size⟩, FedS.trans HC0.out HC5.out⟩
set_option maxHeartbeats 2000000 in
theorem DoFlush_ok (N : Nat) (I : Ids) (f sc : Nat) (l : List Int) (w : World) (h : ScnQ N I f sc w [] l) (hh : (layS I.W l).out.length < I.h) :
    Calls Tryz.prog 15 #[ptrB sc, opA 1 (.slice none 0 0)] w fun e w' => e = .returned .nilIface ∧ PenQ w' I (penS I.W I.h l) ∧ Blk w' sc 71 #[ptrB f, ptrB I.p] ∧ Chg (FedS N I f w) w w' := by
  obtain ⟨W0, hW0⟩ : ∃ W0, w.alloc (.cells #[.int .i64 1, .int .i64 0, .int .i64 0, .slice none 0 0] 36) = W0 := ⟨_, rfl⟩
  have hb0 : Below w.heap.size w W0 := by rw [← hW0]; exact (Below.refl _ w).alloc (Nat.le_refl _) _
  have hO0 : Blk W0 w.heap.size 36 #[.int .i64 1, .int .i64 0, .int .i64 0, .slice none 0 0] := by rw [← hW0]; exact Blk.new w _ _
  have hq0 := h.below hb0
  have HFL := hide (Flush0_ok N I f l W0 hq0.fed hq0.size hh)
  have hs0 := h.scn.same hb0
  have y0 := hs0.cell 0
  have z0 := hO0.cell 0
  unfold ptrB at y0
  simp only [zA, zB, zC] at y0 z0
  have hsl := hs0.lt
  have HQ0 := hide hq0
  have HC0 : Hid (Chg (FedS N I f w) w W0) := hide (Chg.of_below hb0)
  have HW0 := hide hW0
  unfold ptrB at HFL ⊢
  unfold opA
  clear hh hs0 hq0 hO0 hb0 hW0 h
  go_enter Tryz.func15, Tryz.ntmps15
  go_upto_region 1 with fail
  rw [HW0.out]
  go_wp2_with fail
  refine HFL.out.mono ?_
  rintro e w2 ⟨⟨x2, rfl⟩, hq2, hc2⟩
  have HQ2 := hide hq2
  have HSC := hide (hc2.blk HQ0.out.scn (HQ0.out.no HQ0.out.scn (by decide)))
  have HC2 := hide hc2
  clear hq2 hc2
  go_wp2
  go_ret
  exact ⟨rfl, HQ2.out, HSC.out, FedS.trans HC0.out HC2.out⟩
end Go.Proofs.YtdjpdllehhecpaaGreatDoor
namespace Go.Proofs.YtdjpdllehhecpaaGreatDoor
open Go.RowKit
set_option linter.unusedVariables false
set_option linter.unusedSimpArgs false
def ops3 (x1 x2 : Value) : Array Value := #[.int .i64 0, .int .i64 0, .int .i64 0, x1, .int .i64 0, .int .i64 0, .int .i64 0, x2, .int .i64 1, .int .i64 0, .int .i64 0, .slice none 0 0]
set_option maxHeartbeats 4000000 in
theorem Run3_ok (N : Nat) (I : Ids) (f sc o3 : Nat) (b1 b2 l : List Int) (So Si : Nat → Prop) (x1 x2 : Value) (w : World) (h : ScnQ N I f sc w [] []) (hB : Blk w o3 36 (ops3 x1 x2)) (hx1 : Slc (Rep.int .u8) So Si w x1 b1) (hx2 : Slc (Rep.int .u8) So Si w x2 b2) (hSo : ∀ k, So k → k < w.heap.size ∧ ¬ FedS N I f w k)
    (hl : (feedF [] b1).1 ++ (feedF (feedF [] b1).2 b2).1 = l) (h0 : (feedF (feedF [] b1).2 b2).2 = []) (hs : ∀ r ∈ l, silF r = false) (ht : TextOk l) (hh : (layS I.W l).out.length < I.h) (hm1 : b1.length ≤ 10000) (hm2 : b2.length ≤ 10000) :
    Calls Tryz.prog 8 #[ptrB sc, .slice (some ⟨o3, 0, none⟩) 3 3] w fun e w' => e = .returned .nilIface ∧ PenQ w' I (penS I.W I.h l) ∧ Blk w' sc 71 #[ptrB f, ptrB I.p] ∧ Chg (FedS N I f w) w w' := by
  have hno := h.no hB (by decide)
  have HNO := hide hno
  have HD1 := hide (fun W (hW : ScnQ N I f sc W [] []) (hch : Chg (FedS N I f w) w W) => by
    have e : l = [] ++ (feedF [] b1).1 ++ (feedF (feedF [] b1).2 b2).1 := by rw [List.nil_append]; exact hl.symm
    have t1 : TextOk ([] ++ (feedF [] b1).1) := by rw [e] at ht; exact ht.take
    have h1 : (layS I.W ([] ++ (feedF [] b1).1)).out.length < I.h := by rw [e] at hh; exact Nat.lt_of_le_of_lt (layS_back _ _ _) hh
    have := DoFeed_ok N I f sc [] [] b1 So Si x1 W hW (hx1.ints_keep (hch.keep (fun k hk => (hSo k hk).2))) (fun k hk => ⟨Nat.lt_of_lt_of_le (hSo k hk).1 hch.size, fed_any hch (hSo k hk).1 (hSo k hk).2⟩) (fun r hr => hs r (by rw [← hl]; simp [hr])) t1 h1 hm1
    rw [List.nil_append] at this
    exact this)
  have HD2 := hide (fun W (hW : ScnQ N I f sc W (feedF [] b1).2 (feedF [] b1).1) (hch : Chg (FedS N I f w) w W) => by
    have := DoFeed_ok N I f sc (feedF [] b1).2 (feedF [] b1).1 b2 So Si x2 W hW (hx2.ints_keep (hch.keep (fun k hk => (hSo k hk).2))) (fun k hk => ⟨Nat.lt_of_lt_of_le (hSo k hk).1 hch.size, fed_any hch (hSo k hk).1 (hSo k hk).2⟩) (fun r hr => hs r (by rw [← hl]; simp [hr])) (by rw [hl]; exact ht) (by rw [hl]; exact hh) hm2
    rw [hl, h0] at this
    exact this)
  have HD3 := hide (fun W (hW : ScnQ N I f sc W [] l) => DoFlush_ok N I f sc l W hW hh)
  obtain ⟨A1, n1, c1, rfl⟩ : ∃ A n c, x1 = .slice A n c := by obtain ⟨A, c, e, _⟩ := hx1.open_; exact ⟨A, _, c, e⟩
  obtain ⟨A2, n2, c2, rfl⟩ : ∃ A n c, x2 = .slice A n c := by obtain ⟨A, c, e, _⟩ := hx2.open_; exact ⟨A, _, c, e⟩
  have HB := hide hB
  have H0 := hide h
  have hol := hB.lt
  unfold ptrB opA at HD1 HD2 HD3
  unfold ptrB
  clear hno hl h0 hs ht hh hx1 hx2 hSo h hB
  go_enter Tryz.func8, Tryz.ntmps8
  go_wp2
  go_loopw [5, 11] (fun s i wr => s = .nilIface ∧ Chg (FedS N I f w) w wr ∧ ((i = .int .i64 0 ∧ ScnQ N I f sc wr [] []) ∨ (i = .int .i64 1 ∧ ScnQ N I f sc wr (feedF [] b1).2 (feedF [] b1).1) ∨ (i = .int .i64 2 ∧ ScnQ N I f sc wr [] l) ∨ (i = .int .i64 3 ∧ PenQ wr I (penS I.W I.h l) ∧ Blk wr sc 71 #[.pointer (some ⟨f, 0, none⟩), .pointer (some ⟨I.p, 0, none⟩)]))) (fun _ i _ => 3 - (intOf i).toNat)
  case atStart => exact ⟨rfl, Chg.refl _ _, .inl ⟨rfl, H0.out⟩⟩
  case round =>
    obtain ⟨rfl, hch, ⟨rfl, hq⟩ | ⟨rfl, hq⟩ | ⟨rfl, hq⟩ | ⟨rfl, hq, hsc⟩⟩ := hrel
    · have hb := hch.blk HB.out HNO.out
      have k0 := hb.cell 0
      have k1 := hb.cell 1
      have k2 := hb.cell 2
      have k3 := hb.cell 3
      have e0 : (ops3 (.slice A1 n1 c1) (.slice A2 n2 c2))[0]? = some (.int .i64 0) := rfl
      have e1 : (ops3 (.slice A1 n1 c1) (.slice A2 n2 c2))[1]? = some (.int .i64 0) := rfl
      have e2 : (ops3 (.slice A1 n1 c1) (.slice A2 n2 c2))[2]? = some (.int .i64 0) := rfl
      have e3 : (ops3 (.slice A1 n1 c1) (.slice A2 n2 c2))[3]? = some (.slice A1 n1 c1) := rfl
      rw [e0] at k0
      rw [e1] at k1
      rw [e2] at k2
      rw [e3] at k3
      have HQ := hide hq
      have HCH := hide hch
      have HAL := hide ((Below.refl wr.heap.size wr).alloc (Nat.le_refl _) (.cells #[.int .i64 0, .int .i64 0, .int .i64 0, .slice A1 n1 c1] 36))
      clear hb e0 e1 e2 e3 hq hch
      go_wp2_with fail
      refine (HD1.out _ (HQ.out.below HAL.out) (HCH.out.trans (Chg.of_below HAL.out))).mono ?_
      rintro e w2 ⟨rfl, hq2, hc2⟩
      have HQ2 := hide hq2
      have HC2 := hide (FedS.trans (HCH.out.trans (Chg.of_below HAL.out)) hc2)
      clear hq2 hc2
      go_wp2
      go_roundw
      case rel => exact ⟨rfl, HC2.out, .inr (.inl ⟨by go_num, HQ2.out⟩)⟩
      case measure => simp [intOf]
    · have hb := hch.blk HB.out HNO.out
      have k0 := hb.cell 4
      have k1 := hb.cell 5
      have k2 := hb.cell 6
      have k3 := hb.cell 7
      have e0 : (ops3 (.slice A1 n1 c1) (.slice A2 n2 c2))[4]? = some (.int .i64 0) := rfl
      have e1 : (ops3 (.slice A1 n1 c1) (.slice A2 n2 c2))[5]? = some (.int .i64 0) := rfl
      have e2 : (ops3 (.slice A1 n1 c1) (.slice A2 n2 c2))[6]? = some (.int .i64 0) := rfl
      have e3 : (ops3 (.slice A1 n1 c1) (.slice A2 n2 c2))[7]? = some (.slice A2 n2 c2) := rfl
      rw [e0] at k0
      rw [e1] at k1
      rw [e2] at k2
      rw [e3] at k3
      have HQ := hide hq
      have HCH := hide hch
      have HAL := hide ((Below.refl wr.heap.size wr).alloc (Nat.le_refl _) (.cells #[.int .i64 0, .int .i64 0, .int .i64 0, .slice A2 n2 c2] 36))
      clear hb e0 e1 e2 e3 hq hch
      go_wp2_with fail
      refine (HD2.out _ (HQ.out.below HAL.out) (HCH.out.trans (Chg.of_below HAL.out))).mono ?_
      rintro e w2 ⟨rfl, hq2, hc2⟩
      have HQ2 := hide hq2
      have HC2 := hide (FedS.trans (HCH.out.trans (Chg.of_below HAL.out)) hc2)
      clear hq2 hc2
      go_wp2
      go_roundw
      case rel => exact ⟨rfl, HC2.out, .inr (.inr (.inl ⟨by go_num, HQ2.out⟩))⟩
      case measure => simp [intOf]
    · have hb := hch.blk HB.out HNO.out
      have k0 := hb.cell 8
      have k1 := hb.cell 9
      have k2 := hb.cell 10
      have k3 := hb.cell 11
      have e0 : (ops3 (.slice A1 n1 c1) (.slice A2 n2 c2))[8]? = some (.int .i64 1) := rfl
      have e1 : (ops3 (.slice A1 n1 c1) (.slice A2 n2 c2))[9]? = some (.int .i64 0) := rfl
      have e2 : (ops3 (.slice A1 n1 c1) (.slice A2 n2 c2))[10]? = some (.int .i64 0) := rfl
      have e3 : (ops3 (.slice A1 n1 c1) (.slice A2 n2 c2))[11]? = some (.slice none 0 0) := rfl
      rw [e0] at k0
      rw [e1] at k1
      rw [e2] at k2
      rw [e3] at k3
      have HQ := hide hq
      have HCH := hide hch
      have HAL := hide ((Below.refl wr.heap.size wr).alloc (Nat.le_refl _) (.cells #[.int .i64 1, .int .i64 0, .int .i64 0, .slice none 0 0] 36))
      clear hb e0 e1 e2 e3 hq hch
      go_wp2_with fail
      refine (HD3.out _ (HQ.out.below HAL.out)).mono ?_
      rintro e w2 ⟨rfl, hq2, hs2, hc2⟩
      have HQ2 := hide hq2
      have HS2 := hide hs2
      have HC2 := hide (FedS.trans (HCH.out.trans (Chg.of_below HAL.out)) hc2)
      clear hq2 hc2 hs2
      go_wp2
      go_roundw
      case rel => exact ⟨rfl, HC2.out, .inr (.inr (.inr ⟨by go_num, HQ2.out, HS2.out⟩))⟩
      case measure => simp [intOf]
    · have HQ := hide hq
      have HS := hide hsc
      have HC := hide hch
      clear hq hsc hch
      go_wp2
      go_ret
      exact ⟨rfl, HQ.out, HS.out, HC.out⟩
set_option maxHeartbeats 4000000 in
theorem View_ok (I : Ids) (f sc : Nat) (v : PenV) (w : World) (hs : Blk w sc 71 #[ptrB f, ptrB I.p]) (h : PenQ w I v) (htx : ∀ x ∈ v.rows, ∀ c ∈ x.1, c.2.length ≤ 16) :
    Calls Tryz.prog 9 #[ptrB sc] w fun e w' => ∃ s, e = .returned (.agg #[.int .i64 I.W, .int .i64 I.h, s, .int .i64 v.r, .int .i64 v.c, .bool v.pd, .bool true]) ∧ Slc RLine (fun b => b < w'.heap.size) (fun b => b < w'.heap.size) w' s v.rows ∧ Below w.heap.size w w' := by
  obtain ⟨W0, hW0⟩ : ∃ W0, w.alloc (.cells #[.int .i64 0, .int .i64 0, .slice none 0 0, .int .i64 0, .int .i64 0, .bool false, .bool false] 41) = W0 := ⟨_, rfl⟩
  have hb0 : Below w.heap.size w W0 := by rw [← hW0]; exact (Below.refl _ w).alloc (Nat.le_refl _) _
  have hR0 : Blk W0 w.heap.size 41 #[.int .i64 0, .int .i64 0, .slice none 0 0, .int .i64 0, .int .i64 0, .bool false, .bool false] := by rw [← hW0]; exact Blk.new w _ _
  have hq0 := (h.below hb0).dr
  have hs0 := hs.same hb0
  obtain ⟨x0, x1, x2, x3, x4⟩ := (h.below hb0).cells
  have y1 := hs0.cell 1
  unfold ptrB at y1
  simp only [zA, zB, zC] at y1
  have hsl := hs0.lt
  have hpl := hq0.blk.lt
  have HWD := hide (pWide_ok hq0)
  have HHI := hide (pHigh_ok hq0)
  have hL := GLinesT_ok 0 _ _ W0.drew hq0.grid.gridP (by rw [rowsPs_len, hq0.high]; have := hq0.h1; omega) (fun p hp => by
    obtain ⟨i, hi, rfl⟩ := List.getElem_of_mem hp
    rw [rowsPs_at]
    rw [rowsPs_len] at hi
    exact ⟨by have := (hq0.grid.row i _ (List.getElem?_eq_getElem hi)).2; have h2 := hq0.w1; simp only at this ⊢; omega, htx _ (List.getElem_mem hi)⟩)
  rw [rowsPs_snd] at hL
  unfold ptrB at hL
  have HL := hide hL
  have hbl : Below w.heap.size w W0.drew := below_dr hb0
  have HBL := hide hbl
  have HR0 := hide hR0
  have HQ0 := hide hq0
  have HS0 := hide hs0
  have HW0 := hide hW0
  obtain ⟨p, hp⟩ : ∃ p, I.p = p := ⟨_, rfl⟩
  obtain ⟨g, hg⟩ : ∃ g, I.g = g := ⟨_, rfl⟩
  obtain ⟨W, hW⟩ : ∃ W : Int, (I.W : Int) = W := ⟨_, rfl⟩
  obtain ⟨H, hH⟩ : ∃ H : Int, (I.h : Int) = H := ⟨_, rfl⟩
  obtain ⟨r, hr⟩ : ∃ r : Int, (v.r : Int) = r := ⟨_, rfl⟩
  obtain ⟨c, hc⟩ : ∃ c : Int, (v.c : Int) = c := ⟨_, rfl⟩
  obtain ⟨pd, hpd⟩ : ∃ pd, v.pd = pd := ⟨_, rfl⟩
  obtain ⟨rows, hrows⟩ : ∃ rows, v.rows = rows := ⟨_, rfl⟩
  have HI := hide (And.intro hp (And.intro hg (And.intro hr (And.intro hc hpd))))
  rw [hg, hW] at HWD
  rw [hg, hH] at HHI
  rw [hg, hrows] at HL
  rw [hp] at x0 x1 x2 x3 x4 y1 hpl
  rw [hg] at x0
  rw [hr] at x1
  rw [hc] at x2
  rw [hpd] at x3
  rw [hW, hH, hr, hc, hpd, hrows]
  unfold ptrB
  have hwl : w.heap.size < W0.heap.size := hR0.lt
  clear hs h htx hb0 hR0 hq0 hs0 hL hbl hW0 hp hg hW hH hr hc hpd hrows
  go_enter Tryz.func9, Tryz.ntmps9
  go_upto_region 1 with fail
  rw [HW0.out]
  go_upto_region 4 with fail
  refine wp_region_late (S := fun w' => w'.cell? ⟨sc, 1, none⟩ = some (.pointer (some ⟨p, 0, none⟩)) ∧ w'.cell? ⟨p, 1, none⟩ = some (.int .i64 r) ∧ w'.cell? ⟨p, 2, none⟩ = some (.int .i64 c) ∧ w'.cell? ⟨p, 3, none⟩ = some (.bool pd) ∧ w'.cell? ⟨p, 4, none⟩ = some (.bool true)) [21] (by kernel_rfl) (by exact ⟨y1, x1, x2, x3, x4⟩) (fun hHeld => ?_)
  refine wpAnyT_take (i := 0) (oi := ?_) (v := ?_) ?_ (by kernel_rfl) (by kernel_rfl) (by kernel_rfl) (by kernel_rfl) (by kernel_rfl) ?_ (Or.inl ⟨?_, ?_⟩) (by assumption) ?_
  rotate_left 2
  · (simp only [zA, zB, zC]; rfl)
  rotate_left 1
  · rfl
  · (intro w hSw; (try dsimp only at hSw); go_simp; try with_reducible rfl)
  rotate_left 1
  · exact fun _ _ _ h => h
  try simp only [Act.put, zD, zE, zF]
  refine wpAnyT_take (i := 2) (oi := ?_) (v := ?_) ?_ (by kernel_rfl) (by kernel_rfl) (by kernel_rfl) (by kernel_rfl) (by kernel_rfl) ?_ (Or.inl ⟨?_, ?_⟩) (by assumption) ?_
  rotate_left 2
  · (simp only [zA, zB, zC]; rfl)
  rotate_left 1
  · rfl
  · (intro w hSw; (try dsimp only at hSw); go_simp; try with_reducible rfl)
  rotate_left 1
  · exact fun _ _ _ h => h
  try simp only [Act.put, zD, zE, zF]
  refine wpAnyT_take (i := 4) (oi := ?_) (v := ?_) ?_ (by kernel_rfl) (by kernel_rfl) (by kernel_rfl) (by kernel_rfl) (by kernel_rfl) ?_ (Or.inl ⟨?_, ?_⟩) (by assumption) ?_
  rotate_left 2
  · (simp only [zA, zB, zC]; rfl)
  rotate_left 1
  · rfl
  · (intro w hSw; (try dsimp only at hSw); go_simp; try with_reducible rfl)
  rotate_left 1
  · exact fun _ _ _ h => h
  try simp only [Act.put, zD, zE, zF]
  refine wpAnyT_take (i := 6) (oi := ?_) (v := ?_) ?_ (by kernel_rfl) (by kernel_rfl) (by kernel_rfl) (by kernel_rfl) (by kernel_rfl) ?_ (Or.inl ⟨?_, ?_⟩) (by assumption) ?_
  rotate_left 2
  · (simp only [zA, zB, zC]; rfl)
  rotate_left 1
  · rfl
  · (intro w hSw; (try dsimp only at hSw); go_simp; try with_reducible rfl)
  rotate_left 1
  · exact fun _ _ _ h => h
  try simp only [Act.put, zD, zE, zF]
  refine wpAnyT_take (i := 7) (oi := ?_) (v := ?_) ?_ (by kernel_rfl) (by kernel_rfl) (by kernel_rfl) (by kernel_rfl) (by kernel_rfl) ?_ (Or.inl ⟨?_, ?_⟩) (by assumption) ?_
  rotate_left 2
  · (simp only [zA, zB, zC]; rfl)
  rotate_left 1
  · rfl
  · (intro w hSw; (try dsimp only at hSw); go_simp; try with_reducible rfl)
  rotate_left 1
  · exact fun _ _ _ h => h
  try simp only [Act.put, zD, zE, zF]
  refine wpAnyT_take (i := 8) (oi := ?_) (v := ?_) ?_ (by kernel_rfl) (by kernel_rfl) (by kernel_rfl) (by kernel_rfl) (by kernel_rfl) ?_ (Or.inl ⟨?_, ?_⟩) (by assumption) ?_
  rotate_left 2
  · (simp only [zA, zB, zC]; rfl)
  rotate_left 1
  · rfl
  · (intro w hSw; (try dsimp only at hSw); go_simp; try with_reducible rfl)
  rotate_left 1
  · exact fun _ _ _ h => h
  try simp only [Act.put, zD, zE, zF]
  refine wpAnyT_take (i := 9) (oi := ?_) (v := ?_) ?_ (by kernel_rfl) (by kernel_rfl) (by kernel_rfl) (by kernel_rfl) (by kernel_rfl) ?_ (Or.inl ⟨?_, ?_⟩) (by assumption) ?_
  rotate_left 2
  · (simp only [zA, zB, zC]; rfl)
  rotate_left 1
  · rfl
  · (intro w hSw; (try dsimp only at hSw); go_simp; try with_reducible rfl)
  rotate_left 1
  · exact fun _ _ _ h => h
  try simp only [Act.put, zD, zE, zF]
  refine wpAnyT_take (i := 10) (oi := ?_) (v := ?_) ?_ (by kernel_rfl) (by kernel_rfl) (by kernel_rfl) (by kernel_rfl) (by kernel_rfl) ?_ (Or.inl ⟨?_, ?_⟩) (by assumption) ?_
  rotate_left 2
  · (simp only [zA, zB, zC]; rfl)
  rotate_left 1
  · rfl
  · (intro w hSw; (try dsimp only at hSw); go_simp; try with_reducible rfl)
  rotate_left 1
  · exact fun _ _ _ h => h
  try simp only [Act.put, zD, zE, zF]
  refine wpAnyT_take (i := 11) (oi := ?_) (v := ?_) ?_ (by kernel_rfl) (by kernel_rfl) (by kernel_rfl) (by kernel_rfl) (by kernel_rfl) ?_ (Or.inl ⟨?_, ?_⟩) (by assumption) ?_
  rotate_left 2
  · (simp only [zA, zB, zC]; rfl)
  rotate_left 1
  · rfl
  · (intro w hSw; (try dsimp only at hSw); go_simp; try with_reducible rfl)
  rotate_left 1
  · exact fun _ _ _ h => h
  try simp only [Act.put, zD, zE, zF]
  refine wpAnyT_take (i := 12) (oi := ?_) (v := ?_) ?_ (by kernel_rfl) (by kernel_rfl) (by kernel_rfl) (by kernel_rfl) (by kernel_rfl) ?_ (Or.inl ⟨?_, ?_⟩) (by assumption) ?_
  rotate_left 2
  · (simp only [zA, zB, zC]; rfl)
  rotate_left 1
  · rfl
  · (intro w hSw; (try dsimp only at hSw); go_simp; try with_reducible rfl)
  rotate_left 1
  · exact fun _ _ _ h => h
  try simp only [Act.put, zD, zE, zF]
  refine wpAnyT_take (i := 13) (oi := ?_) (v := ?_) ?_ (by kernel_rfl) (by kernel_rfl) (by kernel_rfl) (by kernel_rfl) (by kernel_rfl) ?_ (Or.inl ⟨?_, ?_⟩) (by assumption) ?_
  rotate_left 2
  · (simp only [zA, zB, zC]; rfl)
  rotate_left 1
  · rfl
  · (intro w hSw; (try dsimp only at hSw); go_simp; try with_reducible rfl)
  rotate_left 1
  · exact fun _ _ _ h => h
  try simp only [Act.put, zD, zE, zF]
  refine wpAnyT_take (i := 14) (oi := ?_) (v := ?_) ?_ (by kernel_rfl) (by kernel_rfl) (by kernel_rfl) (by kernel_rfl) (by kernel_rfl) ?_ (Or.inl ⟨?_, ?_⟩) (by assumption) ?_
  rotate_left 2
  · (simp only [zA, zB, zC]; rfl)
  rotate_left 1
  · rfl
  · (intro w hSw; (try dsimp only at hSw); go_simp; try with_reducible rfl)
  rotate_left 1
  · exact fun _ _ _ h => h
  try simp only [Act.put, zD, zE, zF]
  refine wpAnyT_take (i := 15) (oi := ?_) (v := ?_) ?_ (by kernel_rfl) (by kernel_rfl) (by kernel_rfl) (by kernel_rfl) (by kernel_rfl) ?_ (Or.inl ⟨?_, ?_⟩) (by assumption) ?_
  rotate_left 2
  · (simp only [zA, zB, zC]; rfl)
  rotate_left 1
  · rfl
  · (intro w hSw; (try dsimp only at hSw); go_simp; try with_reducible rfl)
  rotate_left 1
  · exact fun _ _ _ h => h
  try simp only [Act.put, zD, zE, zF]
  refine wpAnyT_take (i := 16) (oi := ?_) (v := ?_) ?_ (by kernel_rfl) (by kernel_rfl) (by kernel_rfl) (by kernel_rfl) (by kernel_rfl) ?_ (Or.inl ⟨?_, ?_⟩) (by assumption) ?_
  rotate_left 2
  · (simp only [zA, zB, zC]; rfl)
  rotate_left 1
  · rfl
  · (intro w hSw; (try dsimp only at hSw); go_simp; try with_reducible rfl)
  rotate_left 1
  · exact fun _ _ _ h => h
  try simp only [Act.put, zD, zE, zF]
  refine wpAnyT_take (i := 17) (oi := ?_) (v := ?_) ?_ (by kernel_rfl) (by kernel_rfl) (by kernel_rfl) (by kernel_rfl) (by kernel_rfl) ?_ (Or.inl ⟨?_, ?_⟩) (by assumption) ?_
  rotate_left 2
  · (simp only [zA, zB, zC]; rfl)
  rotate_left 1
  · rfl
  · (intro w hSw; (try dsimp only at hSw); go_simp; try with_reducible rfl)
  rotate_left 1
  · exact fun _ _ _ h => h
  try simp only [Act.put, zD, zE, zF]
  refine wpAnyT_take (i := 18) (oi := ?_) (v := ?_) ?_ (by kernel_rfl) (by kernel_rfl) (by kernel_rfl) (by kernel_rfl) (by kernel_rfl) ?_ (Or.inl ⟨?_, ?_⟩) (by assumption) ?_
  rotate_left 2
  · (simp only [zA, zB, zC]; rfl)
  rotate_left 1
  · rfl
  · (intro w hSw; (try dsimp only at hSw); go_simp; try with_reducible rfl)
  rotate_left 1
  · exact fun _ _ _ h => h
  try simp only [Act.put, zD, zE, zF]
  refine wpAnyT_take (i := 19) (oi := ?_) (v := ?_) ?_ (by kernel_rfl) (by kernel_rfl) (by kernel_rfl) (by kernel_rfl) (by kernel_rfl) ?_ (Or.inl ⟨?_, ?_⟩) (by assumption) ?_
  rotate_left 2
  · (simp only [zA, zB, zC]; rfl)
  rotate_left 1
  · rfl
  · (intro w hSw; (try dsimp only at hSw); go_simp; try with_reducible rfl)
  rotate_left 1
  · exact fun _ _ _ h => h
  try simp only [Act.put, zD, zE, zF]
  refine wpAnyT_ready (rs := [1]) (by kernel_rfl) (by simp) ?_
  refine AllReadyT.cons (o := ?_) ?_ (fun K hK => ?_) AllReadyT.nil
  rotate_left 1
  · (simp only [zA, zB, zC]; rfl)
  go_simp
  (go_at_call 26; refine HWD.out.mono ?_; rintro e w' ⟨rfl, rfl⟩)
  refine hK.out _ _ ?_ (fun hHeld => ?_)
  · ((try dsimp only); go_keep)
  clear hK K
  try simp only [Act.put, zD, zE, zF]
  refine wpAnyT_ready (rs := [3]) (by kernel_rfl) (by simp) ?_
  refine AllReadyT.cons (o := ?_) ?_ (fun K hK => ?_) AllReadyT.nil
  rotate_left 1
  · (simp only [zA, zB, zC]; rfl)
  go_simp
  (go_at_call 27; refine HHI.out.mono ?_; rintro e w' ⟨rfl, rfl⟩)
  refine hK.out _ _ ?_ (fun hHeld => ?_)
  · ((try dsimp only); go_keep)
  clear hK K
  try simp only [Act.put, zD, zE, zF]
  refine wpAnyT_ready (rs := [5]) (by kernel_rfl) (by simp) ?_
  refine AllReadyT.cons (o := ?_) ?_ (fun K hK => ?_) AllReadyT.nil
  rotate_left 1
  · (simp only [zA, zB, zC]; rfl)
  go_simp
  (go_at_call 28; refine HL.out.mono ?_; rintro e w3 ⟨s3, rfl, hs3, hb3⟩; obtain ⟨A3, c3, rfl, _, _, _⟩ := hs3.open_; have y1 := (hb3.cell (p := ⟨sc, 1, none⟩) hsl).trans y1; have x1 := (hb3.cell (p := ⟨p, 1, none⟩) hpl).trans x1; have x2 := (hb3.cell (p := ⟨p, 2, none⟩) hpl).trans x2; have x3 := (hb3.cell (p := ⟨p, 3, none⟩) hpl).trans x3; have x4 := (hb3.cell (p := ⟨p, 4, none⟩) hpl).trans x4; have hR3 := HR0.out.dr.same hb3; have v0 := hR3.cell 0; have v1 := hR3.cell 1; have v2 := hR3.cell 2; have v3 := hR3.cell 3; have v4 := hR3.cell 4; have v5 := hR3.cell 5; have v6 := hR3.cell 6; have f0 := hR3.frozen 0; have f1 := hR3.frozen 1; have f2 := hR3.frozen 2; have f3 := hR3.frozen 3; have f4 := hR3.frozen 4; have f5 := hR3.frozen 5; have f6 := hR3.frozen 6; simp only [zA, zB, zC] at v0 v1 v2 v3 v4 v5 v6; have HS3 := hide hs3; have HR3 := hide hR3; have HB3 := hide hb3; clear hs3 hR3 hb3)
  refine hK.out _ _ ?_ (fun hHeld => ?_)
  · ((try dsimp only); go_keep)
  clear hK K
  try simp only [Act.put, zD, zE, zF]
  refine wpAnyT_take (i := 20) (oi := ?_) (v := ?_) ?_ (by kernel_rfl) (by kernel_rfl) (by kernel_rfl) (by kernel_rfl) (by kernel_rfl) ?_ (Or.inl ⟨?_, ?_⟩) (by assumption) ?_
  rotate_left 2
  · (simp only [zA, zB, zC]; rfl)
  rotate_left 1
  · rfl
  · (intro w hSw; (try dsimp only at hSw); go_simp; try with_reducible rfl)
  rotate_left 1
  · exact fun _ _ _ h => h
  try simp only [Act.put, zD, zE, zF]
  refine wpAnyT_ready (rs := [21]) (by kernel_rfl) (by simp) ?_
  refine AllReadyT.consL (o := ?_) ?_ (by kernel_rfl) (fun K hK => ?_) AllReadyT.nil
  rotate_left 1
  · (simp only [zA, zB, zC]; rfl)
  go_simp
  refine hK.out _ _ ?_
  clear hK K
  try simp only [Act.put, zD, zE, zF]
  refine wpAnyT_done (by kernel_rfl) ?_ _
  clear hHeld
  have hx := ((((((HR3.out.set_ 0 (.int .i64 W)).set_ 1 (.int .i64 H)).set_ 2 (.slice A3 rows.length c3)).set_ 3 (.int .i64 r)).set_ 4 (.int .i64 c)).set_ 5 (.bool pd)).set_ 6 (.bool true)
  simp only [zD, zE, zF] at hx
  have q0 := hx.cell 0
  have q1 := hx.cell 1
  have q2 := hx.cell 2
  have q3 := hx.cell 3
  have q4 := hx.cell 4
  have q5 := hx.cell 5
  have q6 := hx.cell 6
  simp only [zA, zB, zC] at q0 q1 q2 q3 q4 q5 q6
  have hc := ((((((((Chg.refl (fun k => k = w.heap.size) w3).set (p := ⟨w.heap.size, 0, none⟩) (.inl rfl) (.int .i64 W)).set (p := ⟨w.heap.size, 1, none⟩) (.inl rfl) (.int .i64 H)).set (p := ⟨w.heap.size, 2, none⟩) (.inl rfl) (.slice A3 rows.length c3)).set (p := ⟨w.heap.size, 3, none⟩) (.inl rfl) (.int .i64 r)).set (p := ⟨w.heap.size, 4, none⟩) (.inl rfl) (.int .i64 c)).set (p := ⟨w.heap.size, 5, none⟩) (.inl rfl) (.bool pd)).set (p := ⟨w.heap.size, 6, none⟩) (.inl rfl) (.bool true))
  go_wp2_with fail
  refine bodyPost_ret (v := .agg #[.int .i64 W, .int .i64 H, .slice A3 rows.length c3, .int .i64 r, .int .i64 c, .bool pd, .bool true]) (by simp [results, Tryz.results9, go_sem, q0, q1, q2, q3, q4, q5, q6]) rfl ?_
  refine ⟨_, rfl, ?_, ?_⟩
  · exact HS3.out.mono ((hc.keepT (fun k hk => by rw [hk]; exact HR3.out.bearsNo (by decide))).trans (Keep.lt _ _)) ((hc.keepT (fun k hk => by rw [hk]; exact HR3.out.bearsNo (by decide))).trans (Keep.lt _ _))
  · exact (HBL.out.trans (HB3.out.mono (by rw [show W0.drew.heap.size = W0.heap.size from rfl]; omega))).trans (hc.below (fun k hk => by omega) (by have := HR3.out.lt; omega))
end Go.Proofs.YtdjpdllehhecpaaGreatDoor
