import Derived.Test.YtdjpdllehhecpaaGreatDoorQ38
import Derived.Test.YtdjpdllehhecpaaGreatDoorQ29
open List renaming getElem?_toArray → zA, getElem?_cons_succ → zB, getElem?_cons_zero → zC, setIfInBounds_toArray → zD, set_cons_zero → zE, set_cons_succ → zF
namespace Go.Proofs.YtdjpdllehhecpaaGreatDoor
open Go.RowKit Go.Shelf
set_option linter.unusedVariables false
set_option linter.unusedSimpArgs false
theorem line24_info : (Tryz.prog.info? 24).map (fun i => (i.zero, i.size, i.bytes)) = some (some (.slice none 0 0), RVal.sz, 24) := by kernel_rfl
def LnR (n0 : Nat) (vl : Value) (w : World) (v : Value) (l : List Int) : Prop :=
  Slc (Rep.int .i32) (fun k => n0 ≤ k ∧ k < w.heap.size ∧ vl.ownBlock ≠ some k ∧ Bears [21] w k) (fun _ => False) w v l
theorem LnR.to {n0 : Nat} {vl vl' v : Value} {w w' : World} {l : List Int} (h : LnR n0 vl w v l) (hz : w.heap.size ≤ w'.heap.size)
    (hk : ∀ k, n0 ≤ k → k < w.heap.size → vl.ownBlock ≠ some k → Bears [21] w k → w'.heap[k]? = w.heap[k]? ∧ vl'.ownBlock ≠ some k) : LnR n0 vl' w' v l := by
  refine h.ints_keep (fun p u hs hc => ?_)
  obtain ⟨h1, h2, h3, h4⟩ := hs
  obtain ⟨e, h5⟩ := hk _ h1 h2 h3 h4
  obtain ⟨cs, t, fz, hh, ht⟩ := h4
  exact ⟨⟨h1, by omega, h5, cs, t, fz, e.trans hh, ht⟩, (World.cell?_of_block e).trans hc⟩
theorem LnR.step {n0 B : Nat} {vl v : Value} {w w' : World} {l : List Int} {es : List TypeId} (h : LnR n0 vl w v l) (hs : Step B es w w') (he : 21 ∉ es) : LnR n0 vl w' v l :=
  h.to hs.size (fun k _ hk h3 hb => ⟨hs.block k hk (.inr (fun hc => by
    obtain ⟨cs, t, fz, hh, ht⟩ := hb
    obtain ⟨cs', t', fz', hh', ht'⟩ := hc
    rw [hh] at hh'; injection hh' with hh'; injection hh' with _ e; subst e
    simp only [List.mem_singleton] at ht
    subst ht
    exact he ht')), h3⟩)
theorem LnR.turn {n0 : Nat} {vl vl' v : Value} {w w' : World} {l : List Int} (h : LnR n0 vl w v l) (hg : w.grownBy w' vl.ownBlock) (ho : vl'.ownBlock = vl.ownBlock ∨ vl'.ownBlock = some w.heap.size) : LnR n0 vl' w' v l :=
  h.to hg.size (fun k _ hk h3 hb => ⟨hg.block k hk (fun e => h3 e.symm), by rcases ho with e | e <;> rw [e]; exact h3; intro e2; injection e2; omega⟩)
def FitQ (n0 g W : Nat) (s : FitV) (w : World) : Prop :=
  ∃ (vo vl : Value) (ps : List (Value × List Int)), Blk w g 61 #[.int .i64 W, .int .i64 s.room, vo, vl] ∧ Own RVal 24 [] n0 w vo (ps.map Prod.fst) ∧ ps.map Prod.snd = s.out ∧ (∀ p ∈ ps, LnR n0 vl w p.1 p.2) ∧ Own (Rep.int .i32) 21 [] n0 w vl s.line
theorem FitQ.below {n0 g W : Nat} {s : FitV} {w w' : World} (h : FitQ n0 g W s w) (hb : Below w.heap.size w w') : FitQ n0 g W s w' := by
  obtain ⟨vo, vl, ps, h1, h2, h3, h4, h5⟩ := h
  exact ⟨vo, vl, ps, h1.same hb, h2.below hb, h3, fun p hp => (h4 p hp).step (es := []) (B := 0) (Step.of_below hb) (by simp), h5.below hb⟩
theorem FitQ.step {n0 g W B : Nat} {s : FitV} {w w' : World} {es : List TypeId} (h : FitQ n0 g W s w) (hs : Step B es w w') (e1 : 61 ∉ es) (e2 : 24 ∉ es) (e3 : 21 ∉ es) : FitQ n0 g W s w' := by
  obtain ⟨vo, vl, ps, h1, h2, h3, h4, h5⟩ := h
  exact ⟨vo, vl, ps, h1.step hs e1, h2.flat_step RVal.flat hs e2, h3, fun p hp => (h4 p hp).step hs e3, h5.ints_step hs e3⟩
def FES : List TypeId := [61, 21, 24]
set_option maxHeartbeats 4000000 in
theorem fPut_ok (n0 g W : Nat) (s : FitV) (So Si : Nat → Prop) (x : Value) (c : List Int) (w : World) (h : FitQ n0 g W s w) (hgn : g < n0) (hnw : n0 ≤ w.heap.size) (hx : Slc (Rep.int .i32) So Si w x c) (hSo : ∀ b, So b → b < n0 ∧ b ≠ g) (hone : clusF' propF c = [c]) (h0 : 0 < c.length) (hlen : c.length ≤ 16) (hsil : silF c[0] = false)
    (hW2 : 2 ≤ W) (hWm : W ≤ 1024) (hrm : s.room ≤ W) (hol : s.out.length ≤ 100000) (hll : s.line.length ≤ 100000) :
    Calls Tryz.prog 22 #[.pointer (some ⟨g, 0, none⟩), x] w fun e w' => (∃ v, e = .returned v) ∧ FitQ n0 g W (fitN W s (widthF propF c) c) w' ∧ Step 0 FES w w' ∧ Chg (fun k => k = g ∨ n0 ≤ k) w w' := by
  obtain ⟨wn, hwn⟩ : ∃ wn, widthF propF c = wn := ⟨_, rfl⟩
  have hwl : 0 ≤ (wn : Int) ∧ (wn : Int) ≤ 2 := by have := widthF_or propF c; rw [hwn] at this; omega
  have HC := hide (Columns_ok So Si x c w.drew (hx.ints_keep (Keep.below (below_dr (Below.refl _ w)))) (fun b hb => Nat.lt_of_lt_of_le (hSo b hb).1 hnw) hone h0 hlen hsil)
  have hC2 := fun W' (hb : Below w.heap.size w W') => (show Slc (Rep.int .i32) So Si W' x c from hx.ints_keep (Keep.below hb))
  have HXB := hide hC2
  rw [hwn] at HC ⊢
  clear hwn hC2 hsil hone
  obtain ⟨A, cc, rfl, hc1, hc2, _⟩ := hx.open_
  obtain ⟨out, line, room⟩ := s
  simp only at hrm hol hll
  obtain ⟨vo, vl, ps, hB, hO, hP, hL, hV⟩ := h
  simp only at hB hO hP hV
  obtain ⟨Ao, co, rfl, _, _, _⟩ := (hO.fslc RVal.flat).open_
  obtain ⟨Al, cl, rfl, _, _, _⟩ := hV.islc.open_
  rw [List.length_map] at hB hO
  have hpl : ps.length = out.length := by have := congrArg List.length hP; rwa [List.length_map] at this
  rw [hpl] at hB hO
  have HPL := hide hpl
  clear hpl
  have y0 := hB.cell 0
  simp only [zA, zB, zC] at y0
  have hgl := hB.lt
  have HO := hide hO
  have HP := hide hP
  have HL := hide hL
  have HV := hide hV
  have HB := hide hB
  have HSO := hide hSo
  clear hB hO hP hL hV hSo hx
  go_enter Tryz.func22, Tryz.ntmps22
  go_upto_region 0 with fail
  refine wp_region_held_drew (S := fun w' => w'.cell? ⟨g, 0, none⟩ = some (.int .i64 W)) (by kernel_rfl) (by exact y0) (fun hHeld => ?_)
  refine wpAnyH_take (i := 0) (oi := ?_) (v := ?_) ?_ (by kernel_rfl) (by kernel_rfl) (by kernel_rfl) ?_ (Or.inl ⟨?_, ?_⟩) (by assumption) ?_
  rotate_left 2
  · (simp only [zA, zB, zC]; rfl)
  rotate_left 1
  · rfl
  · (intro w hSw; (try dsimp only at hSw); go_simp; try with_reducible rfl)
  rotate_left 1
  · exact fun _ _ _ h => h
  try simp only [Act.put, zD, zE, zF]
  refine wpAnyH_take (i := 2) (oi := ?_) (v := ?_) ?_ (by kernel_rfl) (by kernel_rfl) (by kernel_rfl) ?_ (Or.inl ⟨?_, ?_⟩) (by assumption) ?_
  rotate_left 2
  · (simp only [zA, zB, zC]; rfl)
  rotate_left 1
  · rfl
  · (intro w hSw; (try dsimp only at hSw); go_simp; try with_reducible rfl)
  rotate_left 1
  · exact fun _ _ _ h => h
  try simp only [Act.put, zD, zE, zF]
  refine wpAnyH_take (i := 3) (oi := ?_) (v := ?_) ?_ (by kernel_rfl) (by kernel_rfl) (by kernel_rfl) ?_ (Or.inl ⟨?_, ?_⟩) (by assumption) ?_
  rotate_left 2
  · (simp only [zA, zB, zC]; rfl)
  rotate_left 1
  · rfl
  · (intro w hSw; (try dsimp only at hSw); go_simp; try with_reducible rfl)
  rotate_left 1
  · exact fun _ _ _ h => h
  try simp only [Act.put, zD, zE, zF]
  refine wpAnyH_take (i := 4) (oi := ?_) (v := ?_) ?_ (by kernel_rfl) (by kernel_rfl) (by kernel_rfl) ?_ (Or.inl ⟨?_, ?_⟩) (by assumption) ?_
  rotate_left 2
  · (simp only [zA, zB, zC]; rfl)
  rotate_left 1
  · rfl
  · (intro w hSw; (try dsimp only at hSw); go_simp; try with_reducible rfl)
  rotate_left 1
  · exact fun _ _ _ h => h
  try simp only [Act.put, zD, zE, zF]
  refine wpAnyH_take (i := 5) (oi := ?_) (v := ?_) ?_ (by kernel_rfl) (by kernel_rfl) (by kernel_rfl) ?_ (Or.inl ⟨?_, ?_⟩) (by assumption) ?_
  rotate_left 2
  · (simp only [zA, zB, zC]; rfl)
  rotate_left 1
  · rfl
  · (intro w hSw; (try dsimp only at hSw); go_simp; try with_reducible rfl)
  rotate_left 1
  · exact fun _ _ _ h => h
  try simp only [Act.put, zD, zE, zF]
  refine wpAnyH_ready (rs := [1]) (by kernel_rfl) (by simp) ?_
  refine AllReadyH.cons (o := ?_) ?_ (fun K hK => ?_) AllReadyH.nil
  rotate_left 1
  · (simp only [zA, zB, zC]; rfl)
  go_simp
  (go_at_call 48; refine HC.out.mono ?_; rintro e w2 ⟨rfl, hb2⟩; have hb2 : Below w.heap.size w w2 := (below_dr (Below.refl _ w)).trans hb2; have HB2 := hide (HB.out.same hb2); have HO2 := hide (HO.out.below hb2); have HL2 := hide (fun p hp => (HL.out p hp).step (es := []) (B := 0) (Step.of_below hb2) (by simp)); have HV2 := hide (HV.out.below hb2); have HXW := hide (HXB.out w2 hb2); have y0 := HB2.out.cell 0; simp only [zA, zB, zC] at y0; have HBL2 := hide hb2; clear hb2)
  refine hK.out _ _ ?_ (fun hHeld => ?_)
  · ((try dsimp only); go_keep)
  clear hK K
  try simp only [Act.put, zD, zE, zF]
  refine wpAnyH_take (i := 6) (oi := ?_) (v := ?_) ?_ (by kernel_rfl) (by kernel_rfl) (by kernel_rfl) ?_ (Or.inl ⟨?_, ?_⟩) (by assumption) ?_
  rotate_left 2
  · (simp only [zA, zB, zC]; rfl)
  rotate_left 1
  · rfl
  · (intro w hSw; (try dsimp only at hSw); go_simp; try with_reducible rfl)
  rotate_left 1
  · exact fun _ _ _ h => h
  try simp only [Act.put, zD, zE, zF]
  refine wpAnyH_take (i := 7) (oi := ?_) (v := ?_) ?_ (by kernel_rfl) (by kernel_rfl) (by kernel_rfl) ?_ (Or.inl ⟨?_, ?_⟩) (by assumption) ?_
  rotate_left 2
  · (simp only [zA, zB, zC]; rfl)
  rotate_left 1
  · rfl
  · (intro w hSw; (try dsimp only at hSw); go_simp; try with_reducible rfl)
  rotate_left 1
  · exact fun _ _ _ h => h
  try simp only [Act.put, zD, zE, zF]
  refine wpAnyH_done (by kernel_rfl) ?_ _
  clear hHeld
  rw [show min (wn : Int) (W : Int) = wn from by omega]
  have y0 := HB2.out.cell 0
  have y1 := HB2.out.cell 1
  have y2 := HB2.out.cell 2
  have y3 := HB2.out.cell 3
  have f1 := HB2.out.frozen 1
  have f2 := HB2.out.frozen 2
  have f3 := HB2.out.frozen 3
  simp only [zA, zB, zC] at y0 y1 y2 y3
  have hrI : (room : Int) ≤ 1024 := by omega
  have hWI : (W : Int) ≤ 1024 := by omega
  have hW0 : (2 : Int) ≤ W := by omega
  by_cases hlt : (room : Int) < wn
  · obtain ⟨d, hd⟩ : ∃ d, decide ((wn : Int) > room) = d := ⟨_, rfl⟩
    have hd1 : d = true := by rw [← hd]; exact decide_eq_true hlt
    clear hd
    go_upto_region 2 with fail
    refine wp_region_late (S := fun w' => w'.cell? ⟨g, 2, none⟩ = some (.slice Ao out.length co) ∧ w'.cell? ⟨g, 3, none⟩ = some (.slice Al line.length cl)) [13] (by kernel_rfl) (by exact ⟨y2, y3⟩) (fun hHeld => ?_)
    refine wpAnyT_take (i := 0) (oi := ?_) (v := ?_) ?_ (by kernel_rfl) (by kernel_rfl) (by kernel_rfl) (by kernel_rfl) (by kernel_rfl) ?_ (Or.inl ⟨?_, ?_⟩) (by assumption) ?_
    rotate_left 2
    · (simp only [zA, zB, zC]; rfl)
    rotate_left 1
    · rfl
    · (intro w hSw; (try dsimp only at hSw); go_simp; try with_reducible rfl)
    rotate_left 1
    · exact fun _ _ _ h => h
    try simp only [Act.put, zD, zE, zF]
    refine wpAnyT_take (i := 1) (oi := ?_) (v := ?_) ?_ (by kernel_rfl) (by kernel_rfl) (by kernel_rfl) (by kernel_rfl) (by kernel_rfl) ?_ (Or.inl ⟨?_, ?_⟩) (by assumption) ?_
    rotate_left 2
    · (simp only [zA, zB, zC]; rfl)
    rotate_left 1
    · rfl
    · (intro w hSw; (try dsimp only at hSw); go_simp; try with_reducible rfl)
    rotate_left 1
    · exact fun _ _ _ h => h
    try simp only [Act.put, zD, zE, zF]
    refine wpAnyT_take (i := 2) (oi := ?_) (v := ?_) ?_ (by kernel_rfl) (by kernel_rfl) (by kernel_rfl) (by kernel_rfl) (by kernel_rfl) ?_ (Or.inl ⟨?_, ?_⟩) (by assumption) ?_
    rotate_left 2
    · (simp only [zA, zB, zC]; rfl)
    rotate_left 1
    · rfl
    · (intro w hSw; (try dsimp only at hSw); go_simp; try with_reducible rfl)
    rotate_left 1
    · exact fun _ _ _ h => h
    try simp only [Act.put, zD, zE, zF]
    refine wpAnyT_take (i := 3) (oi := ?_) (v := ?_) ?_ (by kernel_rfl) (by kernel_rfl) (by kernel_rfl) (by kernel_rfl) (by kernel_rfl) ?_ (Or.inl ⟨?_, ?_⟩) (by assumption) ?_
    rotate_left 2
    · (simp only [zA, zB, zC]; rfl)
    rotate_left 1
    · rfl
    · (intro w hSw; (try dsimp only at hSw); go_simp; try with_reducible rfl)
    rotate_left 1
    · exact fun _ _ _ h => h
    try simp only [Act.put, zD, zE, zF]
    refine wpAnyT_take (i := 4) (oi := ?_) (v := ?_) ?_ (by kernel_rfl) (by kernel_rfl) (by kernel_rfl) (by kernel_rfl) (by kernel_rfl) ?_ (Or.inl ⟨?_, ?_⟩) (by assumption) ?_
    rotate_left 2
    · (simp only [zA, zB, zC]; rfl)
    rotate_left 1
    · rfl
    · (intro w hSw; (try dsimp only at hSw); go_simp; try with_reducible rfl)
    rotate_left 1
    · exact fun _ _ _ h => h
    try simp only [Act.put, zD, zE, zF]
    refine wpAnyT_take (i := 5) (oi := ?_) (v := ?_) ?_ (by kernel_rfl) (by kernel_rfl) (by kernel_rfl) (by kernel_rfl) (by kernel_rfl) ?_ (Or.inl ⟨?_, ?_⟩) (by assumption) ?_
    rotate_left 2
    · (simp only [zA, zB, zC]; rfl)
    rotate_left 1
    · rfl
    · (intro w hSw; (try dsimp only at hSw); go_simp; try with_reducible rfl)
    rotate_left 1
    · exact fun _ _ _ h => h
    try simp only [Act.put, zD, zE, zF]
    refine wpAnyT_take (i := 6) (oi := ?_) (v := ?_) ?_ (by kernel_rfl) (by kernel_rfl) (by kernel_rfl) (by kernel_rfl) (by kernel_rfl) ?_ (Or.inl ⟨?_, ?_⟩) (by assumption) ?_
    rotate_left 2
    · (simp only [zA, zB, zC]; rfl)
    rotate_left 1
    · rfl
    · (intro w hSw; (try dsimp only at hSw); go_simp; try with_reducible rfl)
    rotate_left 1
    · exact fun _ _ _ h => h
    try simp only [Act.put, zD, zE, zF]
    refine wpAnyT_take (i := 7) (oi := ?_) (v := ?_) ?_ (by kernel_rfl) (by kernel_rfl) (by kernel_rfl) (by kernel_rfl) (by kernel_rfl) ?_ (Or.inl ⟨?_, ?_⟩) (by assumption) ?_
    rotate_left 2
    · (simp only [zA, zB, zC]; rfl)
    rotate_left 1
    · rfl
    · (intro w hSw; (try dsimp only at hSw); go_simp; try with_reducible rfl)
    rotate_left 1
    · exact fun _ _ _ h => h
    try simp only [Act.put, zD, zE, zF]
    refine wpAnyT_take (i := 8) (oi := ?_) (v := ?_) ?_ (by kernel_rfl) (by kernel_rfl) (by kernel_rfl) (by kernel_rfl) (by kernel_rfl) ?_ (Or.inl ⟨?_, ?_⟩) (by assumption) ?_
    rotate_left 2
    · (simp only [zA, zB, zC]; rfl)
    rotate_left 1
    · rfl
    · (intro w hSw; (try dsimp only at hSw); go_simp; try with_reducible rfl)
    rotate_left 1
    · exact fun _ _ _ h => h
    try simp only [Act.put, zD, zE, zF]
    refine wpAnyT_ready (rs := [9]) (by kernel_rfl) (by simp) ?_
    refine AllReadyT.cons (o := ?_) ?_ (fun K hK => ?_) AllReadyT.nil
    rotate_left 1
    · (simp only [zA, zB, zC]; rfl)
    go_simp
    (have hB3 := (HB2.out.alloc (.cells #[.slice Al line.length cl] 24)).dr; have y2 := hB3.cell 2; have y3 := hB3.cell 3; simp only [zA, zB, zC] at y2 y3; have hone := Slc.lit1 (R := RVal) (Si := fun _ => False) (Si' := fun _ => False) (w := w2) (x := (.slice Al line.length cl : Value)) (u := [.slice Al line.length cl]) 24 ⟨rfl, rfl⟩ (fun _ _ h => h.elim); have hone := hone.flat_keep (Si' := fun _ => False) RVal.flat (Keep.below (S := fun _ => True) (below_dr (Below.refl _ _))); have hO3 := own_dr (HO2.out.alloc (.cells #[.slice Al line.length cl] 24)); have hs3 : Step 0 [] w2 (w2.alloc (.cells #[.slice Al line.length cl] 24)).drew := ((Step.refl 0 [] w2).alloc _).drew; have HS3 := hide hs3; have HB3 := hide hB3; clear hB3 hs3)
    refine hK.out _ _ ?_ (fun hHeld => ?_)
    · ((try dsimp only); go_keep)
    clear hK K
    try simp only [Act.put, zD, zE, zF]
    refine wpAnyT_ready (rs := [10]) (by kernel_rfl) (by simp) ?_
    refine AllReadyT.cons (o := ?_) ?_ (fun K hK => ?_) AllReadyT.nil
    rotate_left 1
    · (simp only [zA, zB, zC]; rfl)
    refine step_appg rfl (.tmp 22) (.tmp 27) 28 rfl RVal 24 [] n0 24 _ Tryz.underlying28 line24_info rfl (by decide) (by decide) _ _ rfl hO3 _ (fun _ => False) _ [(.slice Al line.length cl : Value)] rfl hone (fun _ h => False.elim h) (by have := HPL.out; simp; omega) (by have := HS3.out.size; have := HBL2.out.size; omega) ?_; intro v4 w4 hv4 hst4 hg4 ho4; obtain ⟨A4, n4, c4, rfl⟩ : ∃ A4 n4 c4, v4 = .slice A4 n4 c4 := (by obtain ⟨A, c, e, _⟩ := (hv4.fslc RVal.flat).open_; exact ⟨A, _, c, e⟩); have hB4 := HB3.out.step hst4 (by decide); have y2 := hB4.cell 2; have y3 := hB4.cell 3; have f2 := hB4.frozen 2; simp only [zA, zB, zC] at y2 y3; have HO4 := hide (show Own RVal 24 [] n0 w4 (.slice A4 n4 c4) ((ps ++ [((.slice Al line.length cl : Value), line)]).map Prod.fst) from (by rw [List.map_append]; exact hv4)); have HL4 := hide (fun p (hp : p ∈ ps ++ [((.slice Al line.length cl : Value), line)]) => (show LnR n0 (.slice none 0 0) w4 p.1 p.2 from (by rcases List.mem_append.1 hp with hp | hp; exact (((HL2.out p hp).step HS3.out (by simp)).step hst4 (by decide)).to (Nat.le_refl _) (fun k _ _ _ _ => ⟨rfl, by simp [Value.ownBlock]⟩); rw [List.mem_singleton] at hp; subst hp; exact ((HV2.out.ints_step HS3.out (by simp)).ints_step hst4 (by decide)).islc.ints_keep (Keep.weaken (fun b hb => ⟨hb.2.1, hb.1, by simp [Value.ownBlock], hb.2.2⟩))))); have HST4 := hide (show Step 0 FES w w4 from (show Step 0 FES w w2 from Step.of_below HBL2.out).trans ((HS3.out.mono (Nat.le_refl _) (by simp)).trans (hst4.mono (Nat.zero_le _) (by decide : ∀ t ∈ [24], t ∈ FES)))); have HCH4 := hide (show Chg (fun k => k = g ∨ n0 ≤ k) w w4 from (Chg.of_below HBL2.out).trans ((((Chg.refl _ w2).alloc _).dr).trans ⟨hst4.os, hst4.tape, hst4.output, hst4.size, fun k hk hn => hst4.block k hk (.inl (by omega))⟩)); have HB4 := hide hB4; clear hB4 hv4 hst4 hg4 ho4 hO3 hone
    refine hK.out _ _ ?_ (fun hHeld => ?_)
    · ((try dsimp only); go_keep)
    clear hK K
    try simp only [Act.put, zD, zE, zF]
    refine wpAnyT_take (i := 11) (oi := ?_) (v := ?_) ?_ (by kernel_rfl) (by kernel_rfl) (by kernel_rfl) (by kernel_rfl) (by kernel_rfl) ?_ (Or.inl ⟨?_, ?_⟩) (by assumption) ?_
    rotate_left 2
    · (simp only [zA, zB, zC]; rfl)
    rotate_left 1
    · rfl
    · (intro w hSw; (try dsimp only at hSw); go_simp; try with_reducible rfl)
    rotate_left 1
    · exact fun _ _ _ h => h
    try simp only [Act.put, zD, zE, zF]
    refine wpAnyT_take (i := 12) (oi := ?_) (v := ?_) ?_ (by kernel_rfl) (by kernel_rfl) (by kernel_rfl) (by kernel_rfl) (by kernel_rfl) ?_ (Or.inl ⟨?_, ?_⟩) (by assumption) ?_
    rotate_left 2
    · (simp only [zA, zB, zC]; rfl)
    rotate_left 1
    · rfl
    · (intro w hSw; (try dsimp only at hSw); go_simp; try with_reducible rfl)
    rotate_left 1
    · exact fun _ _ _ h => h
    try simp only [Act.put, zD, zE, zF]
    refine wpAnyT_ready (rs := [13]) (by kernel_rfl) (by simp) ?_
    refine AllReadyT.consL (o := ?_) ?_ (by kernel_rfl) (fun K hK => ?_) AllReadyT.nil
    rotate_left 1
    · (simp only [zA, zB, zC]; rfl)
    go_simp
    refine hK.out _ _ ?_
    clear hK K
    try simp only [Act.put, zD, zE, zF]
    refine wpAnyT_done (by kernel_rfl) ?_ _
    clear hHeld
    have hbt := HB4.out.bears
    obtain ⟨W5, hW5⟩ : ∃ W5, w4.setCell ⟨g, 2, none⟩ (.slice A4 n4 c4) = W5 := ⟨_, rfl⟩
    have hs45 : Step 0 [61] w4 W5 := by rw [← hW5]; exact (Step.refl 0 _ w4).setCell (p := ⟨g, 2, none⟩) (Nat.zero_le _) hbt _
    have hc45 : Chg (fun k => k = g ∨ n0 ≤ k) w4 W5 := by rw [← hW5]; exact (Chg.refl _ w4).set (p := ⟨g, 2, none⟩) (.inl (.inl rfl)) _
    have hB5 : Blk W5 g 61 #[.int .i64 W, .int .i64 room, .slice A4 n4 c4, .slice Al line.length cl] := by rw [← hW5]; exact HB4.out.set_ 2 _
    rw [hW5]
    obtain ⟨W6, hW6⟩ : ∃ W6, (W5.setCell ⟨g, 3, none⟩ (.slice none 0 0)).setCell ⟨g, 1, none⟩ (.int .i64 W) = W6 := ⟨_, rfl⟩
    have hB6 : Blk W6 g 61 #[.int .i64 W, .int .i64 W, .slice A4 n4 c4, .slice none 0 0] := by rw [← hW6]; exact (hB5.set_ 3 (.slice none 0 0)).set_ 1 (.int .i64 W)
    have hs56 : Step 0 [61] W5 W6 := by rw [← hW6]; exact ((Step.refl 0 _ W5).setCell (p := ⟨g, 3, none⟩) (Nat.zero_le _) hB5.bears _).setCell (p := ⟨g, 1, none⟩) (Nat.zero_le _) (hB5.set_ 3 _).bears _
    have hc56 : Chg (fun k => k = g ∨ n0 ≤ k) W5 W6 := by rw [← hW6]; exact ((Chg.refl _ W5).set (p := ⟨g, 3, none⟩) (.inl (.inl rfl)) _).set (p := ⟨g, 1, none⟩) (.inl (.inl rfl)) _
    have y0 := hB5.cell 0
    have y1 := hB5.cell 1
    have y3 := hB5.cell 3
    have f1 := hB5.frozen 1
    have f3 := hB5.frozen 3
    simp only [zA, zB, zC] at y0 y1 y3
    have hs46 := hs45.trans hs56
    have HO6 := hide (HO4.out.flat_step RVal.flat hs46 (by decide))
    have HL6 := hide (fun p (hp : p ∈ ps ++ [((.slice Al line.length cl : Value), line)]) => (HL4.out p hp).step hs46 (by decide))
    have HST6 := hide (HST4.out.trans (hs46.mono (Nat.zero_le _) (by decide : ∀ t ∈ [61], t ∈ FES)))
    have HCH6 := hide (HCH4.out.trans (hc45.trans hc56))
    have HX6 := hide (show Slc (Rep.int .i32) So Si W6 (.slice A c.length cc) c from (HXB.out w (Below.refl _ w)).ints_keep (((HCH4.out.trans (hc45.trans hc56))).keep (fun k hk => by have := HSO.out k hk; omega)))
    have HP6 := hide (show (ps ++ [((.slice Al line.length cl : Value), line)]).map Prod.snd = out ++ [line] from by rw [List.map_append, HP.out]; rfl)
    have HB6 := hide hB6
    have HV6 := hide (show Own (Rep.int .i32) 21 [] n0 W6 (.slice none 0 0) [] from Own.nil_ _ _ _ _ _ (by simp))
    have HW6 := hide hW6
    have HRES := hide (show fitN W ⟨out, line, room⟩ wn c = ⟨out ++ [line], [] ++ c, W - wn⟩ from by unfold fitN; rw [if_pos (by simp only; omega)]; rfl)
    obtain ⟨ps6, hps6⟩ : ∃ ps6, ps ++ [((.slice Al line.length cl : Value), line)] = ps6 := ⟨_, rfl⟩
    rw [hps6] at HL6 HP6 HO6
    clear hs45 hc45 hB5 hs56 hc56 hB6 hW6 hs46 hbt hps6 HO4 HL4 HB4 HO2 HL2 HV2 HB2
    go_upto_region 4 with fail
    rw [HW6.out]
    have y0 := HB6.out.cell 0
    have y1 := HB6.out.cell 1
    have y3 := HB6.out.cell 3
    have f1 := HB6.out.frozen 1
    have f3 := HB6.out.frozen 3
    simp only [zA, zB, zC] at y0 y1 y3
    have hz6 : n0 ≤ W6.heap.size := Nat.le_trans hnw HST6.out.size
    have hlen9 : ([] : List Int).length ≤ 100000 := by simp
    go_wp2_with (refine wpList_appg rfl (.tmp 45) (.tmp 46) 24 rfl (Rep.int .i32) 21 [] n0 4 _ Tryz.underlying24 i32_info rfl (by decide) (by decide) (.slice none 0 0) _ rfl HV6.out _ (fun _ => False) _ c rfl (HX6.out.ints_any (fun _ => False)) (fun _ h => h.elim) (by omega) hz6 ?_; intro v7 w7 hv7 hst7 hg7 ho7; obtain ⟨A7, n7, c7, rfl⟩ : ∃ A7 n7 c7, v7 = .slice A7 n7 c7 := (by obtain ⟨A, c, e, _⟩ := hv7.islc.open_; exact ⟨A, _, c, e⟩); have hB7 := HB6.out.step hst7 (by decide); have y1 := hB7.cell 1; have y3 := hB7.cell 3; have f1 := hB7.frozen 1; have f3 := hB7.frozen 3; simp only [zA, zB, zC] at y1 y3; have HV7 := hide hv7; have HB7 := hide hB7; have HST7 := hide hst7; have HG7 := hide hg7; have HO7 := hide ho7; clear hv7 hB7 hst7 hg7 ho7)
    go_end0
    have hs8 : Step 0 [61] w7 ((w7.setCell ⟨g, 3, none⟩ (.slice A7 n7 c7)).setCell ⟨g, 1, none⟩ (.int .i64 ((W : Nat) - (wn : Nat) : Int))) := ((Step.refl 0 _ w7).setCell (p := ⟨g, 3, none⟩) (Nat.zero_le _) HB7.out.bears _).setCell (p := ⟨g, 1, none⟩) (Nat.zero_le _) (HB7.out.set_ 3 _).bears _
    have hc8 : Chg (fun k => k = g ∨ n0 ≤ k) w7 ((w7.setCell ⟨g, 3, none⟩ (.slice A7 n7 c7)).setCell ⟨g, 1, none⟩ (.int .i64 ((W : Nat) - (wn : Nat) : Int))) := ((Chg.refl _ w7).set (p := ⟨g, 3, none⟩) (.inl (.inl rfl)) _).set (p := ⟨g, 1, none⟩) (.inl (.inl rfl)) _
    refine ⟨⟨_, rfl⟩, ?_, HST6.out.trans ((HST7.out.mono (Nat.zero_le _) (by decide : ∀ t ∈ [21], t ∈ FES)).trans (hs8.mono (Nat.zero_le _) (by decide : ∀ t ∈ [61], t ∈ FES))), HCH6.out.trans (Chg.trans ⟨HST7.out.os, HST7.out.tape, HST7.out.output, HST7.out.size, fun k hk hn => HST7.out.block k hk (.inl (by omega))⟩ hc8)⟩
    rw [HRES.out]
    have hB9 := (HB7.out.set_ 3 (.slice A7 n7 c7)).set_ 1 (.int .i64 ((W : Nat) - (wn : Nat) : Int))
    refine ⟨_, .slice A7 n7 c7, ps6, ?_, (HO6.out.flat_step RVal.flat HST7.out (by decide)).flat_step RVal.flat hs8 (by decide), HP6.out, fun p hp => ((HL6.out p hp).turn HG7.out HO7.out).step hs8 (by decide), HV7.out.ints_step hs8 (by decide)⟩
    have hsub : (((W - wn : Nat) : Nat) : Int) = ((W : Nat) - (wn : Nat) : Int) := by omega
    simp only
    rw [hsub]
    exact hB9
  · obtain ⟨d, hd⟩ : ∃ d, decide ((wn : Int) > room) = d := ⟨_, rfl⟩
    have hd1 : d = false := by rw [← hd]; exact decide_eq_false hlt
    clear hd
    have HO6 := HO2
    have HL6 := HL2
    have HV6 := HV2
    have HB6 := HB2
    have HP6 := HP
    have HX6 := HXW
    have HST6 := hide (show Step 0 FES w w2 from Step.of_below HBL2.out)
    have HCH6 := hide (show Chg (fun k => k = g ∨ n0 ≤ k) w w2 from Chg.of_below HBL2.out)
    have HRES := hide (show fitN W ⟨out, line, room⟩ wn c = ⟨out, line ++ c, room - wn⟩ from by unfold fitN; rw [if_neg (by simp only; omega)])
    clear HO2 HL2 HV2 HB2
    go_upto_region 4 with fail
    have y0 := HB6.out.cell 0
    have y1 := HB6.out.cell 1
    have y3 := HB6.out.cell 3
    have f1 := HB6.out.frozen 1
    have f3 := HB6.out.frozen 3
    simp only [zA, zB, zC] at y0 y1 y3
    have hz6 : n0 ≤ w2.heap.size := Nat.le_trans hnw HST6.out.size
    have hlen9 : line.length ≤ 100000 := hll
    go_wp2_with (refine wpList_appg rfl (.tmp 45) (.tmp 46) 24 rfl (Rep.int .i32) 21 [] n0 4 _ Tryz.underlying24 i32_info rfl (by decide) (by decide) (.slice Al line.length cl) _ rfl HV6.out _ (fun _ => False) _ c rfl (HX6.out.ints_any (fun _ => False)) (fun _ h => h.elim) (by omega) hz6 ?_; intro v7 w7 hv7 hst7 hg7 ho7; obtain ⟨A7, n7, c7, rfl⟩ : ∃ A7 n7 c7, v7 = .slice A7 n7 c7 := (by obtain ⟨A, c, e, _⟩ := hv7.islc.open_; exact ⟨A, _, c, e⟩); have hB7 := HB6.out.step hst7 (by decide); have y1 := hB7.cell 1; have y3 := hB7.cell 3; have f1 := hB7.frozen 1; have f3 := hB7.frozen 3; simp only [zA, zB, zC] at y1 y3; have HV7 := hide hv7; have HB7 := hide hB7; have HST7 := hide hst7; have HG7 := hide hg7; have HO7 := hide ho7; clear hv7 hB7 hst7 hg7 ho7)
    go_end0
    have hs8 : Step 0 [61] w7 ((w7.setCell ⟨g, 3, none⟩ (.slice A7 n7 c7)).setCell ⟨g, 1, none⟩ (.int .i64 ((room : Nat) - (wn : Nat) : Int))) := ((Step.refl 0 _ w7).setCell (p := ⟨g, 3, none⟩) (Nat.zero_le _) HB7.out.bears _).setCell (p := ⟨g, 1, none⟩) (Nat.zero_le _) (HB7.out.set_ 3 _).bears _
    have hc8 : Chg (fun k => k = g ∨ n0 ≤ k) w7 ((w7.setCell ⟨g, 3, none⟩ (.slice A7 n7 c7)).setCell ⟨g, 1, none⟩ (.int .i64 ((room : Nat) - (wn : Nat) : Int))) := ((Chg.refl _ w7).set (p := ⟨g, 3, none⟩) (.inl (.inl rfl)) _).set (p := ⟨g, 1, none⟩) (.inl (.inl rfl)) _
    refine ⟨⟨_, rfl⟩, ?_, HST6.out.trans ((HST7.out.mono (Nat.zero_le _) (by decide : ∀ t ∈ [21], t ∈ FES)).trans (hs8.mono (Nat.zero_le _) (by decide : ∀ t ∈ [61], t ∈ FES))), HCH6.out.trans (Chg.trans ⟨HST7.out.os, HST7.out.tape, HST7.out.output, HST7.out.size, fun k hk hn => HST7.out.block k hk (.inl (by omega))⟩ hc8)⟩
    rw [HRES.out]
    have hB9 := (HB7.out.set_ 3 (.slice A7 n7 c7)).set_ 1 (.int .i64 ((room : Nat) - (wn : Nat) : Int))
    refine ⟨_, .slice A7 n7 c7, ps, ?_, (HO6.out.flat_step RVal.flat HST7.out (by decide)).flat_step RVal.flat hs8 (by decide), HP6.out, fun p hp => ((HL6.out p hp).turn HG7.out HO7.out).step hs8 (by decide), HV7.out.ints_step hs8 (by decide)⟩
    have hsub : (((room - wn : Nat) : Nat) : Int) = ((room : Nat) - (wn : Nat) : Int) := by omega
    simp only
    rw [hsub]
    exact hB9
end Go.Proofs.YtdjpdllehhecpaaGreatDoor
namespace Go.Proofs.YtdjpdllehhecpaaGreatDoor
open Go.RowKit Go.Shelf
set_option linter.unusedVariables false
set_option linter.unusedSimpArgs false
attribute [local go_sem] Oper.semAt_some
theorem FitQ.cells {n0 g W : Nat} {s : FitV} {w w' : World} (h : FitQ n0 g W s w) (hz : w.heap.size ≤ w'.heap.size) (hk : ∀ (k : Nat) (cs : Array Value) (t : TypeId) (fz : Nat × Nat), w.heap[k]? = some (.cells cs t fz) → w'.heap[k]? = w.heap[k]?) : FitQ n0 g W s w' := by
  obtain ⟨vo, vl, ps, h1, h2, h3, h4, h5⟩ := h
  refine ⟨vo, vl, ps, (hk _ _ _ _ h1).trans h1, ?_, h3, fun p hp => (h4 p hp).to hz (fun k _ _ h6 hb => ?_), ?_⟩
  · obtain ⟨hne, xs, hown, hels⟩ := h2
    refine ⟨hne, xs, ⟨hown.1, ?_⟩, hels.flat RVal.flat⟩
    rcases hown.2 with hn | ⟨g', cap, cur, rfl, hb, hg, rest⟩
    · exact .inl hn
    · exact .inr ⟨g', cap, cur, rfl, hb, (hk _ _ _ _ hg).trans hg, rest⟩
  · obtain ⟨cs, t, fz, hh, _⟩ := hb
    exact ⟨hk _ _ _ _ hh, h6⟩
  · obtain ⟨hne, xs, hown, hels⟩ := h5
    refine ⟨hne, xs, ⟨hown.1, ?_⟩, hels.flat (Flat.int .i32)⟩
    rcases hown.2 with hn | ⟨g', cap, cur, rfl, hb, hg, rest⟩
    · exact .inl hn
    · exact .inr ⟨g', cap, cur, rfl, hb, (hk _ _ _ _ hg).trans hg, rest⟩
theorem flat_len : ∀ {cs : List (List Int)}, (∀ c ∈ cs, c ≠ []) → cs.length ≤ cs.flatten.length
  | [], _ => Nat.le_refl _
  | c :: cs, h => by
    have h1 := flat_len (cs := cs) (fun c hc => h c (List.mem_cons.2 (.inr hc)))
    have h2 : 0 < c.length := List.length_pos_iff.2 (h c (List.mem_cons.2 (.inl rfl)))
    rw [List.flatten_cons, List.length_append, List.length_cons]; omega
theorem fit_small (W : Nat) (P : Int → PropV) (cs : List (List Int)) : (fitF W P cs).out.length ≤ cs.length ∧ (fitF W P cs).line.length ≤ cs.flatten.length ∧ (fitF W P cs).room ≤ W := by
  rw [fit_lay]
  refine ⟨by simp only [List.length_map]; exact out_le W P cs, ?_, Nat.sub_le _ _⟩
  have := congrArg List.length (lay_text W P cs)
  rw [List.length_append] at this
  simp only
  omega
theorem places_snd : ∀ (cs : List (List Int)) (f : Nat), (placesF f cs).map Prod.snd = cs
  | [], _ => rfl
  | c :: cs, f => by rw [placesF, List.map_cons, places_snd cs]
theorem places_at : ∀ (cs : List (List Int)) (f : Nat) (pre : List (Nat × List Int)) (x : Nat × List Int) (rest : List (Nat × List Int)), placesF f cs = pre ++ x :: rest → cs = pre.map Prod.snd ++ x.2 :: rest.map Prod.snd ∧ x.1 = f + (pre.map Prod.snd).flatten.length
  | [], f, pre, x, rest, h => by rw [placesF] at h; cases pre <;> cases h
  | c :: cs, f, [], x, rest, h => by
    rw [placesF, List.nil_append] at h
    injection h with h1 h2
    subst h1
    refine ⟨?_, by simp⟩
    rw [← h2, places_snd]; rfl
  | c :: cs, f, y :: pre, x, rest, h => by
    rw [placesF, List.cons_append] at h
    injection h with h1 h2
    obtain ⟨e1, e2⟩ := places_at cs _ pre x rest h2
    subst h1
    refine ⟨by rw [List.map_cons, List.cons_append, ← e1], ?_⟩
    rw [e2, List.map_cons, List.flatten_cons, List.length_append]; simp only; omega
set_option maxHeartbeats 4000000 in
theorem all_iter_nil (n : Nat) (A : Option Addr) (c Bn : Nat) (es : List TypeId) (w : World) (n0 : Nat) (hBn : Blk w Bn 24 #[.slice A 0 c]) :
    IterC 105 Fence.wide n Tryz.prog 45 #[.pointer (some ⟨Bn, 0, none⟩)] (encP 0 0) (KeepC n0 es Bn) [] w := by
  intro lr J W hbW hJs hY hJ0
  refine callsIn_of_wp Tryz.func45 rfl trivial ?_ rfl
  simp only [Tryz.ntmps45, List.size_toArray, List.length_cons, List.length_nil, Nat.reduceAdd, Nat.reduceSub, Array.replicate_succ, Array.replicate_zero, List.push_toArray, List.append_toArray, List.nil_append, List.cons_append]
  have hBnW := hBn.same hbW
  obtain ⟨W1, hW1⟩ : ∃ W1, W.alloc (.cells #[.bool false, .int .i64 0, .int .i64 0, .int .i64 0, .bool false] 105) = W1 := ⟨_, rfl⟩
  have hb1 : Below W.heap.size W W1 := by rw [← hW1]; exact (Below.refl _ W).alloc (Nat.le_refl _) _
  have hst1 : Step W.heap.size [105] W W1 := by rw [← hW1]; exact Step.alloc1 _ _ W _
  have hBnk := hBnW.same hb1
  have HJ1 := hide (hJs [] _ _ hJ0 hst1)
  have hBn1 := hBnk.cell 0
  simp only [zA, zB, zC] at hBn1
  have HW1 := hide hW1
  have HBN := hide hBnk
  clear hW1 hJ0 hb1 hst1 hJs hY hBnW hbW hBn hBnk
  gi_upto_region 2 with fail
  rw [HW1.out]
  gi_wp2
  gi_loopw [4, 9] (fun fr i wr => fr = .int .i64 0 ∧ i = .int .i64 0 ∧ W1 = wr) (fun _ _ _ => 0)
  case atStart => exact ⟨rfl, rfl, rfl⟩
  case round =>
    obtain ⟨rfl, rfl, rfl⟩ := hrel
    gi_wp2
    go_end0
    exact ⟨⟨_, rfl⟩, HJ1.out⟩
theorem all_iterX (n : Nat) (So Si : Nat → Prop) (x : Value) (Bn : Nat) (es : List TypeId) (he : 105 ∉ es) (l : List Int) (hlen : l.length ≤ 100000) (w : World)
    (hx : Slc (Rep.int .i32) So Si w x l) (n0 : Nat) (hn0 : n0 ≤ w.heap.size) (hSo : ∀ b, So b → b < n0) (hBn : Blk w Bn 24 #[x]) :
    ∃ b off, IterC 105 Fence.wide n Tryz.prog 45 #[.pointer (some ⟨Bn, 0, none⟩)] (encP b off) (KeepC n0 es Bn) (placesF 0 (clusOf (clL propF cl0 l))) w ∧ (0 < l.length → ∃ c, x = .slice (some ⟨b, off, none⟩) l.length c) := by
  obtain ⟨A, c, rfl, h1, h2, hB⟩ := hx.open_
  cases l with
  | nil => exact ⟨0, 0, all_iter_nil n A c Bn es w n0 hBn, fun h => by cases h⟩
  | cons r t =>
    obtain ⟨b, off, rfl, _, _, _⟩ := ints_at hB (j := 0) (by simp)
    exact ⟨b, off, all_iter n So Si b off c Bn es he _ (by simp) hlen w hx n0 hn0 hSo hBn, fun _ => ⟨c, rfl⟩⟩
def onlyN (Q : Exit → Act → World → Prop) : Exit → Act → World → Prop
  | .normal, a, w => Q .normal a w
  | _, _, _ => False
theorem onlyN_in {F : Fence} {n : Nat} {P : Program} {c : Code} {Q : Exit → Act → World → Prop} {a : Act} {w : World} (h : c.wpIn F n P (onlyN Q) a w) : c.wpIn F n P Q a w :=
  wpIn_mono h (fun e a w hp => by cases e <;> first | exact hp | exact hp.elim)
theorem onlyN_to {Q : Exit → Act → World → Prop} {a : Act} {w : World} (h : Q .normal a w) : onlyN Q .normal a w := h
def LnI (n0 g z W : Nat) (w : World) (pv : Nat) (pre : List (Nat × List Int)) (V : World) : Prop :=
  Below n0 w V ∧ z ≤ V.heap.size ∧ Blk V pv 59 #[.pointer (some ⟨g, 0, none⟩)] ∧ FitQ z g W (fitF W propF (pre.map Prod.snd)) V
theorem els_rows {S : Nat → Prop} {w : World} : ∀ (ps : List (Value × List Int)), (∀ p ∈ ps, Slc (Rep.int .i32) S (fun _ => False) w p.1 p.2) → Els RRow S w (ps.map Prod.snd) (ps.map Prod.fst)
  | [], _ => rfl
  | p :: ps, h => ⟨[p.1], ps.map Prod.fst, rfl, ⟨p.1, rfl, (h p (List.mem_cons.2 (.inl rfl))).ints_any _⟩, els_rows ps (fun q hq => h q (List.mem_cons.2 (.inr hq)))⟩
theorem rows_slc {So Si Sj : Nat → Prop} {w : World} {v : Value} {ps : List (Value × List Int)} (h : Slc RVal So Sj w v (ps.map Prod.fst)) (hp : ∀ p ∈ ps, Slc (Rep.int .i32) Si (fun _ => False) w p.1 p.2) : Slc RRow So Si w v (ps.map Prod.snd) := by
  obtain ⟨A, c, rfl, h1, h2, xs, h3, h4⟩ := h
  obtain rfl := els_val _ _ h3
  refine ⟨A, c, by simp, by simpa using h1, h2, ps.map Prod.fst, els_rows ps hp, ?_⟩
  have e : (ps.map Prod.fst).length * RVal.sz = (ps.map Prod.snd).length * RRow.sz := by simp; rfl
  rw [← e]; exact h4
theorem clus_at {So Si : Nat → Prop} {V : World} {b off cap f : Nat} {l p c r : List Int} (h : Slc (Rep.int .i32) So Si V (.slice (some ⟨b, off, none⟩) l.length cap) l) (hl : l = p ++ c ++ r) (hf : f = p.length) (hm : l.length ≤ 10000) :
    Slc (Rep.int .i32) So Si V (.slice (some ⟨b, off + f, none⟩) c.length c.length) c := by
  have h1 := (h.slb.cut (k := f) (c := l.length + 1) (by rw [hl, hf]; simp) (by omega)).front c.length
  have e1 : (l.drop f).take c.length = c := by rw [hl, hf, List.append_assoc, List.drop_left, List.take_left]
  have hle : f ≤ l.length := by rw [hl, hf]; simp
  rw [e1, if_neg (by omega)] at h1
  refine ⟨_, c.length, rfl, Nat.le_refl _, ?_, ?_⟩
  · have : c.length ≤ l.length := by rw [hl]; simp; omega
    simp [maxLen]; omega
  · have e2 : Option.map (fun x : Addr => x.add (f * (Rep.int IntKind.i32).sz)) (some (⟨b, off, none⟩ : Addr)) = some (⟨b, off + f, none⟩ : Addr) := by simp [Rep.int, Addr.add]
    rw [← e2]; exact h1
set_option maxHeartbeats 8000000 in
theorem fLines_ok (So Si : Nat → Prop) (x : Value) (l : List Int) (W : Nat) (w : World) (hx : Slc (Rep.int .i32) So Si w x l) (hSo : ∀ b, So b → b < w.heap.size) (hlen : l.length ≤ 10000) (hsil : ∀ r ∈ l, silF r = false)
    (hsh : ∀ c ∈ clusOf (clL propF cl0 l), c.length ≤ 16) (hW2 : 2 ≤ W) (hWm : W ≤ 1024) :
    Calls Tryz.prog 6 #[x, .int .i64 W] w fun e w' => ∃ s, e = .returned s ∧ Slc RRow (fun b => w.heap.size ≤ b ∧ b < w'.heap.size) (fun b => w.heap.size ≤ b ∧ b < w'.heap.size) w' s (linesF W propF (clusOf (clL propF cl0 l))) ∧ Below w.heap.size w w' := by
  obtain ⟨LF, hLF⟩ : ∃ LF, linesF W propF (clusOf (clL propF cl0 l)) = LF := ⟨_, rfl⟩
  rw [hLF]
  obtain ⟨A, cc, rfl, hc1, hc2, _⟩ := hx.open_
  refine (callsIn_wide (n := 3)).1 ?_
  refine callsIn_of_wp_marks Tryz.func6 rfl trivial ?_ rfl
  simp only [Tryz.ntmps6, List.size_toArray, List.length_cons, List.length_nil, Nat.reduceAdd, Nat.reduceSub, Array.replicate_succ, Array.replicate_zero, List.push_toArray, List.append_toArray, List.nil_append, List.cons_append]
  have HAL := hide (fun V => All_fn A l.length cc V)
  gi_upto_region 2 with fail
  rw [show max (1 : Int) (min (W : Int) 1024) = W from by omega]
  gi_upto_region 3 with fail
  obtain ⟨V2, hV2⟩ : ∃ V2, ((w.alloc (.cells #[.int .i64 W, .int .i64 W, .slice none 0 0, .slice none 0 0] 61)).alloc (.cells #[.pointer (some ⟨w.heap.size, 0, none⟩)] 59)) = V2 := ⟨_, rfl⟩
  have hg2 : Blk V2 w.heap.size 61 #[.int .i64 W, .int .i64 W, .slice none 0 0, .slice none 0 0] := by rw [← hV2]; exact (Blk.new w _ _).alloc _
  have hp2 : Blk V2 (w.heap.size + 1) 59 #[.pointer (some ⟨w.heap.size, 0, none⟩)] := by
    rw [← hV2]
    have := Blk.new (w.alloc (.cells #[.int .i64 W, .int .i64 W, .slice none 0 0, .slice none 0 0] 61)) 59 #[.pointer (some ⟨w.heap.size, 0, none⟩)]
    rwa [World.size_alloc] at this
  have hb2 : Below w.heap.size w V2 := by rw [← hV2]; exact ((Below.refl _ w).alloc (Nat.le_refl _) _).alloc (by simp) _
  have hz2 : V2.heap.size = w.heap.size + 2 := by rw [← hV2, World.size_alloc, World.size_alloc]
  rw [hV2]
  clear hV2
  obtain ⟨V3, hV3⟩ : ∃ V3, V2.alloc (.cells #[.slice A l.length cc] 24) = V3 := ⟨_, rfl⟩
  have hb23 : Below V2.heap.size V2 V3 := by rw [← hV3]; exact (Below.refl _ V2).alloc (Nat.le_refl _) _
  have hbx : Blk V3 V2.heap.size 24 #[.slice A l.length cc] := by rw [← hV3]; exact Blk.new V2 _ _
  have hz3 : V3.heap.size = V2.heap.size + 1 := by rw [← hV3, World.size_alloc]
  have hb3 : Below w.heap.size w V3 := hb2.trans (hb23.mono (by omega))
  have HV3 := hide hV3
  have HZ := hide (And.intro hz2 hz3)
  have HSO := hide hSo
  clear hz2 hz3 hV3
  gi_wp2_with (refine ⟨trivial, ?_⟩; gi_at_call 20; refine (callsIn_wide.2 (HAL.out _)).mono ?_; rintro e w1 ⟨rfl, rfl⟩)
  rw [HV3.out]
  have hx3 := hx.ints_keep (So' := So) (Keep.below (S := So) hb3)
  obtain ⟨b, off, hit, hsh2⟩ := all_iterX 2 So Si _ V2.heap.size [61, 21, 24] (by decide) l (by omega) V3 hx3 w.heap.size hb3.size hSo hbx
  have hzz := HZ.out
  refine range_C (F := Fence.wide) rfl (by omega) (gf := 45) (lb := #[.pointer (some ⟨V2.heap.size, 0, none⟩)]) rfl trivial (enters_of Tryz.func45 (by kernel_rfl) rfl) hit KeepC.trans (KeepC.put (by omega) (by omega)) (fun _ => rfl) (LnI w.heap.size w.heap.size V3.heap.size W w (w.heap.size + 1)) ?own ?step ?start ?a1 ?assign ?body ?done
  case assign =>
    intro l x W K hK
    unfold encP
    gi_wp2
    exact hK
  case own =>
    intro s P Q row hs hg hr
    obtain ⟨h1, h2, h3, h4⟩ := hs
    have hr2 : ∀ r, row = some r → ∃ o : Obj, P.heap[r]? = some o ∧ o.isCells = false := fun r e => (hr r e).2
    refine ⟨h1.grown hg h1.size (fun k e => by have := (hr k e).1; omega), Nat.le_trans h2 hg.size, blk_own h3 hg hr2, h4.cells hg.size (fun k cs t fz hk => hg.block k (Array.getElem?_eq_some_iff.1 hk).1 (fun e => ?_))⟩
    obtain ⟨o, ho, hc⟩ := hr2 k e.symm
    rw [hk] at ho
    injection ho with ho
    subst ho
    cases hc
  case step =>
    intro s P Q hs hst
    obtain ⟨h1, h2, h3, h4⟩ := hs
    exact ⟨h1.trans (hst.below' (by omega) h2), Nat.le_trans h2 hst.size, h3.step hst (by decide), h4.step hst (by decide) (by decide) (by decide)⟩
  case start => exact ⟨hb3, Nat.le_refl _, hp2.same hb23, .slice none 0 0, .slice none 0 0, [], hg2.same hb23, Own.nil_ _ _ _ _ _ (by simp), rfl, fun p hp => (by cases hp), Own.nil_ _ _ _ _ _ (by simp)⟩
  case body =>
    intro lr pre xx rest V he hI
    obtain ⟨f, c⟩ := xx
    obtain ⟨e1, e2⟩ := places_at _ _ _ _ _ he
    simp only [Nat.zero_add] at e1 e2
    obtain ⟨hb, hz, hpv, hq⟩ := hI
    have hcm : c ∈ clusOf (clL propF cl0 l) := by rw [e1]; simp
    have hO := cl_ones propF propF_ok l c hcm
    have hone := one_clus propF hO
    have hc0 : 0 < c.length := by obtain ⟨r, t, rfl, _⟩ := hO; simp
    have hfl : l = (pre.map Prod.snd).flatten ++ c ++ (rest.map Prod.snd).flatten := by
      have := cl_flat propF l
      rw [e1, List.flatten_append, List.flatten_cons, ← List.append_assoc] at this
      exact this.symm
    have hsl : silF c[0] = false := hsil _ (by rw [hfl]; simp)
    have hlp : 0 < l.length := by have := congrArg List.length hfl; simp only [List.length_append] at this; omega
    obtain ⟨cap, hcap⟩ := hsh2 hlp
    injection hcap with hA _ hc9
    subst hA
    have hxV : Slc (Rep.int .i32) So Si V (.slice (some ⟨b, off, none⟩) l.length cc) l := hx.ints_keep (Keep.below (S := So) hb)
    have hxc := clus_at hxV hfl e2 hlen
    have hne : ∀ y ∈ pre.map Prod.snd, y ≠ [] := fun y hy => by
      obtain ⟨r, t, rfl, _⟩ := cl_ones propF propF_ok l y (by rw [e1]; exact List.mem_append.2 (.inl hy))
      simp
    have hsm := fit_small W propF (pre.map Prod.snd)
    have hfn := flat_len hne
    have hln := congrArg List.length hfl
    simp only [List.length_append] at hln
    have HPUT := hide (fPut_ok V3.heap.size w.heap.size W (fitF W propF (pre.map Prod.snd)) So Si _ c V hq (by omega) hz hxc (fun k hk => by have := HSO.out k hk; omega) hone hc0 (hsh c hcm) hsl hW2 hWm hsm.2.2 (by omega) (by omega))
    obtain ⟨b9, o9, hA9, _, x0, _⟩ := ints_at hxc.slb hc0
    injection hA9 with hA9
    injection hA9 with e8 e9
    subst e8; subst e9
    rw [Nat.add_zero] at x0
    have HSL := hide (bsil_ok c[0])
    rw [hsl] at HSL
    obtain ⟨r0, hr0⟩ : ∃ r0, c[0] = r0 := ⟨_, rfl⟩
    rw [hr0] at x0 HSL
    rw [← fit_snoc] at HPUT
    have y0 := hpv.cell 0
    simp only [zA, zB, zC] at y0
    have hcI : (0 : Int) < c.length := by omega
    have HPV := hide hpv
    have HB := hide hb
    have HZV := hide hz
    have HQV := hide hq
    clear hx hx3 hit hsh2 hb2 hb3 hb23 hbx hg2 hp2 hxV hxc hone hO hcm he hfl hsl hne hsm hfn hln hpv hb hq e1 e2 hr0 hzz hsil hsh hlen hz
    gi_wp2_with fail
    refine ⟨trivial, (CallsIn.inRound lr (callsIn_wide.2 (HSL.out _))).mono ?_⟩
    rintro e w2 ⟨rfl, rfl⟩
    gi_wp2_with fail
    refine ⟨trivial, (CallsIn.inRound lr (callsIn_wide.2 HPUT.out)).mono ?_⟩
    rintro e w3 ⟨⟨v3, rfl⟩, hq3, hs3, hc3⟩
    gi_wp2
    have hzz := HZ.out
    have hzv := HZV.out
    refine ⟨⟨hs3.size, fun k o hk ho => ?_⟩, ⟨?_, fun k cs t fz hk ht => ?_, ?_⟩, ?_, Nat.le_trans hzv hs3.size, HPV.out.step hs3 (by decide), ?_⟩
    · refine (hs3.block k (Array.getElem?_eq_some_iff.1 hk).1 (.inr (fun ⟨cs, t, fz, hh, _⟩ => ?_))).trans hk
      rw [hk] at hh
      injection hh with hh
      subst hh
      cases ho
    · exact hc3.below (fun k hk => by omega) (by omega)
    · refine hs3.block k (Array.getElem?_eq_some_iff.1 hk).1 (.inr (fun ⟨cs', t', fz', hh, ht'⟩ => ?_))
      rw [hk] at hh
      injection hh with hh
      injection hh with _ e
      subst e
      exact ht ht'
    · exact hc3.block _ (by omega) (by omega)
    · exact HB.out.trans (hc3.below (fun k hk => by omega) (by omega))
    · rw [List.map_append]; exact hq3
  case done =>
    intro D V hD hI hW
    obtain ⟨h1, h2, h3, h4⟩ := hI
    rw [places_snd] at h4
    obtain ⟨vo, vl, ps, hB, hO, hP, hL, hV⟩ := h4
    obtain ⟨Ao, co, rfl, _, _, _⟩ := (hO.fslc RVal.flat).open_
    obtain ⟨Al, cl, rfl, _, _, _⟩ := hV.islc.open_
    have y0 := h3.cell 0
    have y2 := hB.cell 2
    have y3 := hB.cell 3
    simp only [zA, zB, zC] at y0 y2 y3
    obtain ⟨st, hst⟩ : ∃ st, fitF W propF (clusOf (clL propF cl0 l)) = st := ⟨_, rfl⟩
    have hsm := fit_small W propF (clusOf (clL propF cl0 l))
    have hln : (clusOf (clL propF cl0 l)).length ≤ l.length := by
      have := flat_len (cs := clusOf (clL propF cl0 l)) (fun y hy => by obtain ⟨r, t, rfl, _⟩ := cl_ones propF propF_ok l y hy; simp)
      rwa [cl_flat] at this
    have HLF := hide (show LF = st.out ++ [st.line] by rw [← hLF]; unfold linesF; rw [hst])
    rw [hst] at hB hP hV y3 hsm hL
    have hpl := congrArg List.length hP
    rw [List.length_map] at hpl
    simp only [List.length_map, hpl] at y2 hO
    have hVz : V3.heap.size ≤ V.heap.size := h2
    have hpm : ps.length ≤ 10000 := by omega
    simp only [List.length_map, hpl] at hB
    obtain ⟨on, hon⟩ : ∃ on, st.out.length = on := ⟨_, rfl⟩
    obtain ⟨ln, hln2⟩ : ∃ ln, st.line.length = ln := ⟨_, rfl⟩
    rw [hon] at hO y2 hB
    rw [hln2] at hL hV y3 hB
    have HBK := hide hB
    have HPV := hide h3
    have HO := hide hO
    have HL := hide hL
    have HV := hide hV
    have HB1 := hide h1
    have HP := hide hP
    have HW := hide hW
    have hzz := HZ.out
    have HVZ := hide (show w.heap.size + 3 ≤ V.heap.size by omega)
    have HV3 := hide hVz
    clear hx hx3 hit hsh2 hb2 hb3 hb23 hbx hg2 hp2 hzz hst hsm hln hpl hon hln2 hLF hB hO hP hL hV h1 h2 h3 hW hVz HAL hSo hsil hsh
    gi_upto_region 7 with fail
    refine onlyN_in ?_
    refine wpIn_wide.2 ?_
    refine wp_region_held_drew (S := fun w' => w'.cell? ⟨w.heap.size + 1, 0, none⟩ = some (.pointer (some ⟨w.heap.size, 0, none⟩)) ∧ w'.cell? ⟨w.heap.size, 2, none⟩ = some (.slice Ao on co) ∧ w'.cell? ⟨w.heap.size, 3, none⟩ = some (.slice Al ln cl)) (by kernel_rfl) (by exact ⟨y0, y2, y3⟩) (fun hHeld => ?_)
    refine wpAnyH_take (i := 0) (oi := ?_) (v := ?_) ?_ (by kernel_rfl) (by kernel_rfl) (by kernel_rfl) ?_ (Or.inl ⟨?_, ?_⟩) (by assumption) ?_
    rotate_left 2
    · (simp only [zA, zB, zC]; rfl)
    rotate_left 1
    · rfl
    · (intro w hSw; (try dsimp only at hSw); go_simp; try with_reducible rfl)
    rotate_left 1
    · exact fun _ _ _ h => h
    try simp only [Act.put, zD, zE, zF]
    refine wpAnyH_take (i := 1) (oi := ?_) (v := ?_) ?_ (by kernel_rfl) (by kernel_rfl) (by kernel_rfl) ?_ (Or.inl ⟨?_, ?_⟩) (by assumption) ?_
    rotate_left 2
    · (simp only [zA, zB, zC]; rfl)
    rotate_left 1
    · rfl
    · (intro w hSw; (try dsimp only at hSw); go_simp; try with_reducible rfl)
    rotate_left 1
    · exact fun _ _ _ h => h
    try simp only [Act.put, zD, zE, zF]
    refine wpAnyH_take (i := 2) (oi := ?_) (v := ?_) ?_ (by kernel_rfl) (by kernel_rfl) (by kernel_rfl) ?_ (Or.inl ⟨?_, ?_⟩) (by assumption) ?_
    rotate_left 2
    · (simp only [zA, zB, zC]; rfl)
    rotate_left 1
    · rfl
    · (intro w hSw; (try dsimp only at hSw); go_simp; try with_reducible rfl)
    rotate_left 1
    · exact fun _ _ _ h => h
    try simp only [Act.put, zD, zE, zF]
    refine wpAnyH_take (i := 3) (oi := ?_) (v := ?_) ?_ (by kernel_rfl) (by kernel_rfl) (by kernel_rfl) ?_ (Or.inl ⟨?_, ?_⟩) (by assumption) ?_
    rotate_left 2
    · (simp only [zA, zB, zC]; rfl)
    rotate_left 1
    · rfl
    · (intro w hSw; (try dsimp only at hSw); go_simp; try with_reducible rfl)
    rotate_left 1
    · exact fun _ _ _ h => h
    try simp only [Act.put, zD, zE, zF]
    refine wpAnyH_take (i := 4) (oi := ?_) (v := ?_) ?_ (by kernel_rfl) (by kernel_rfl) (by kernel_rfl) ?_ (Or.inl ⟨?_, ?_⟩) (by assumption) ?_
    rotate_left 2
    · (simp only [zA, zB, zC]; rfl)
    rotate_left 1
    · rfl
    · (intro w hSw; (try dsimp only at hSw); go_simp; try with_reducible rfl)
    rotate_left 1
    · exact fun _ _ _ h => h
    try simp only [Act.put, zD, zE, zF]
    refine wpAnyH_take (i := 5) (oi := ?_) (v := ?_) ?_ (by kernel_rfl) (by kernel_rfl) (by kernel_rfl) ?_ (Or.inl ⟨?_, ?_⟩) (by assumption) ?_
    rotate_left 2
    · (simp only [zA, zB, zC]; rfl)
    rotate_left 1
    · rfl
    · (intro w hSw; (try dsimp only at hSw); go_simp; try with_reducible rfl)
    rotate_left 1
    · exact fun _ _ _ h => h
    try simp only [Act.put, zD, zE, zF]
    refine wpAnyH_take (i := 6) (oi := ?_) (v := ?_) ?_ (by kernel_rfl) (by kernel_rfl) (by kernel_rfl) ?_ (Or.inl ⟨?_, ?_⟩) (by assumption) ?_
    rotate_left 2
    · (simp only [zA, zB, zC]; rfl)
    rotate_left 1
    · rfl
    · (intro w hSw; (try dsimp only at hSw); go_simp; try with_reducible rfl)
    rotate_left 1
    · exact fun _ _ _ h => h
    try simp only [Act.put, zD, zE, zF]
    refine wpAnyH_take (i := 7) (oi := ?_) (v := ?_) ?_ (by kernel_rfl) (by kernel_rfl) (by kernel_rfl) ?_ (Or.inl ⟨?_, ?_⟩) (by assumption) ?_
    rotate_left 2
    · (simp only [zA, zB, zC]; rfl)
    rotate_left 1
    · rfl
    · (intro w hSw; (try dsimp only at hSw); go_simp; try with_reducible rfl)
    rotate_left 1
    · exact fun _ _ _ h => h
    try simp only [Act.put, zD, zE, zF]
    refine wpAnyH_ready (rs := [8]) (by kernel_rfl) (by simp) ?_
    refine AllReadyH.cons (o := ?_) ?_ (fun K hK => ?_) AllReadyH.nil
    rotate_left 1
    · (simp only [zA, zB, zC]; rfl)
    go_simp
    (have hone := Slc.lit1 (R := RVal) (Si := fun _ => False) (Si' := fun _ => False) (w := V) (x := (.slice Al ln cl : Value)) (u := [.slice Al ln cl]) 24 ⟨rfl, rfl⟩ (fun _ _ h => h.elim); have hone := hone.flat_keep (Si' := fun _ => False) RVal.flat (Keep.below (S := fun _ => True) (below_dr (Below.refl _ _))); have hO3 := own_dr (HO.out.alloc (.cells #[.slice Al ln cl] 24)); have hg3 := (HBK.out.alloc (.cells #[.slice Al ln cl] 24)).dr; have hp3 := (HPV.out.alloc (.cells #[.slice Al ln cl] 24)).dr; have k0 := hp3.cell 0; have k2 := hg3.cell 2; have k3 := hg3.cell 3; simp only [zA, zB, zC] at k0 k2 k3; have HG3 := hide hg3; have HP3 := hide hp3; clear hg3 hp3)
    refine hK.out _ _ ?_ (fun hHeld => ?_)
    · exact ⟨k0, k2, k3⟩
    clear hK K
    try simp only [Act.put, zD, zE, zF]
    refine wpAnyH_ready (rs := [9]) (by kernel_rfl) (by simp) ?_
    refine AllReadyH.cons (o := ?_) ?_ (fun K hK => ?_) AllReadyH.nil
    rotate_left 1
    · (simp only [zA, zB, zC]; rfl)
    refine step_appg rfl (.tmp 30) (.tmp 35) 28 rfl RVal 24 [] V3.heap.size 24 _ Tryz.underlying28 line24_info rfl (by decide) (by decide) _ _ rfl hO3 _ (fun _ => False) _ [(.slice Al ln cl : Value)] rfl hone (fun _ h => False.elim h) (by simp; omega) (by show V3.heap.size ≤ (World.alloc V _).heap.size; rw [World.size_alloc]; exact Nat.le_succ_of_le HV3.out) ?_; intro v5 w5 hv5 hst5 hg5 ho5; obtain ⟨A5, n5, c5, rfl⟩ : ∃ A5 n5 c5, v5 = .slice A5 n5 c5 := (by obtain ⟨A, c, e, _⟩ := (hv5.fslc RVal.flat).open_; exact ⟨A, _, c, e⟩); have hg6 := HG3.out.step hst5 (by decide); have hp6 := HP3.out.step hst5 (by decide); have k0 := hp6.cell 0; have k2 := hg6.cell 2; have k3 := hg6.cell 3; simp only [zA, zB, zC] at k0 k2 k3; have HV5 := hide hv5; have HST5 := hide hst5; clear hg6 hp6 hv5 hst5 hg5 ho5 hO3 hone
    refine hK.out _ _ ?_ (fun hHeld => ?_)
    · exact ⟨k0, k2, k3⟩
    clear hK K
    try simp only [Act.put, zD, zE, zF]
    refine wpAnyH_take (i := 10) (oi := ?_) (v := ?_) ?_ (by kernel_rfl) (by kernel_rfl) (by kernel_rfl) ?_ (Or.inl ⟨?_, ?_⟩) (by assumption) ?_
    rotate_left 2
    · (simp only [zA, zB, zC]; rfl)
    rotate_left 1
    · rfl
    · (intro w hSw; (try dsimp only at hSw); go_simp; try with_reducible rfl)
    rotate_left 1
    · exact fun _ _ _ h => h
    try simp only [Act.put, zD, zE, zF]
    refine wpAnyH_done (by kernel_rfl) ?_ _
    refine onlyN_to ?_
    have hs0 : Step 0 [] V (V.alloc (.cells #[.slice Al ln cl] 24)).drew := ((Step.refl 0 [] V).alloc _).drew
    have hsa : Step V3.heap.size [24] V w5 := (Step.mono (((Step.refl V3.heap.size [] V).alloc _).drew) (Nat.le_refl _) (by simp)).trans HST5.out
    have hW5 : w5.heap[D]? = some (.deferred (some [])) := step_keeps hsa HW.out rfl
    have hgD : ∀ o', w5.grownBy (w5.putObj D o') (some D) := fun o' => grownBy_putObj' w5 D o'
    have hnb : ∀ (T : List TypeId) (b : Nat), Bears T w5 b → b ≠ D := fun T b hb e => by
      obtain ⟨cs, t, fz, hh, _⟩ := hb
      rw [e, hW5] at hh
      cases hh
    have hrs : ∀ p ∈ ps ++ [((.slice Al ln cl : Value), st.line)], Slc (Rep.int .i32) (fun b => V3.heap.size ≤ b ∧ b < w5.heap.size ∧ b ≠ D) (fun _ => False) w5 p.1 p.2 := fun p hp => by
      rcases List.mem_append.1 hp with hp | hp
      · exact (((HL.out p hp).step hs0 (by simp)).step HST5.out (by decide)).ints_keep (Keep.weaken (fun b hb => ⟨hb.1, hb.2.1, hnb _ _ hb.2.2.2⟩))
      · rw [List.mem_singleton] at hp
        subst hp
        exact ((HV.out.ints_step hs0 (by simp)).ints_step HST5.out (by decide)).islc.ints_keep (Keep.weaken (fun b hb => ⟨hb.2.1, hb.1, hnb _ _ hb.2.2⟩))
    have hov : Slc RVal (fun b => V3.heap.size ≤ b ∧ b < w5.heap.size ∧ b ≠ D) (fun _ => False) w5 (.slice A5 n5 c5) ((ps ++ [((.slice Al ln cl : Value), st.line)]).map Prod.fst) := by
      rw [List.map_append]
      exact (HV5.out.fslc RVal.flat).mono (Keep.weaken (fun b hb => ⟨hb.2.1, hb.1, hnb _ _ hb.2.2⟩)) (Keep.refl _ _)
    have hrr := rows_slc hov hrs
    have hzz := HZ.out
    have hbl : Below w.heap.size w w5 := HB1.out.trans (hsa.below HV3.out |>.mono (by omega))
    have HRES := hide (fun (o' : Obj) => (⟨_, rfl, by
      have h2 : (ps ++ [((.slice Al ln cl : Value), st.line)]).map Prod.snd = LF := by rw [List.map_append, HP.out, HLF.out]; rfl
      rw [h2] at hrr
      have hk : Keep (fun b => V3.heap.size ≤ b ∧ b < w5.heap.size ∧ b ≠ D) w5 (fun b => w.heap.size ≤ b ∧ b < (w5.putObj D o').heap.size) (w5.putObj D o') := (Keep.gb (hgD o') (fun b hb => hb.2.2)).trans (Keep.weaken (fun b hb => ⟨by omega, Nat.lt_of_lt_of_le hb.2.1 (hgD o').size⟩))
      exact hrr.mono hk hk, hbl.grown (hgD o') hbl.size (fun k e => by cases e; have := HV3.out; omega)⟩ : ∃ s, Ending.returned (.slice A5 n5 c5) = .returned s ∧ Slc RRow (fun b => w.heap.size ≤ b ∧ b < (w5.putObj D o').heap.size) (fun b => w.heap.size ≤ b ∧ b < (w5.putObj D o').heap.size) (w5.putObj D o') s LF ∧ Below w.heap.size w (w5.putObj D o')))
    clear hrr hov hrs hbl hs0 hsa hnb hgD hzz hHeld
    gi_wp2
    refine ⟨by simp, .inl ⟨_, _, rfl, run_takeDeferred hW5, ?_⟩⟩
    refine ⟨_, results_tmp rfl _ _ _, ?_⟩
    exact HRES.out _
end Go.Proofs.YtdjpdllehhecpaaGreatDoor
