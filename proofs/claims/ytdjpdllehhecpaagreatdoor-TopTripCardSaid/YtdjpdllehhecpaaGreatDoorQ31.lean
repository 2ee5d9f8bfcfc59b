import Derived.Test.YtdjpdllehhecpaaGreatDoorQ30
import Derived.Deep.MidRow
import Derived.Test.YtdjpdllehhecpaaGreatDoorQ23
open List renaming getElem?_toArray → zA, getElem?_cons_succ → zB, getElem?_cons_zero → zC, setIfInBounds_toArray → zD, set_cons_zero → zE, set_cons_succ → zF
namespace Go.Proofs.YtdjpdllehhecpaaGreatDoor
open Go.RowKit
set_option linter.unusedVariables false
set_option linter.unusedSimpArgs false
theorem clAt_nil (o : Nat) (cs : Array Value) (h : o + 17 ≤ cs.size) (hm : cs[o + 16]? = some (.int .i64 0)) (h1 : ∀ i u, i < 17 → cs[o + i]? = some u → u.oneCell' = true) : ClAt cs o [] := ⟨h, by simp, fun i hi => (by simp at hi), hm, fun n hn => (by cases hn), h1⟩
set_option maxHeartbeats 4000000 in
theorem cluOf_ok (So Si : Nat → Prop) (x : Value) (l : List Int) (w : World) (hx : Slc (Rep.int .i32) So Si w x l) (hlen : l.length ≤ 16) :
    Calls Tryz.prog 159 #[x] w fun e w' => ∃ cs, e = .returned (.agg cs) ∧ cs.size = 17 ∧ ClAt cs 0 l ∧ Below w.heap.size w w' := by
  have hwf := hx.ints_wf
  obtain ⟨A, c, rfl, hc1, hc2, _⟩ := hx.open_
  go_enter Tryz.func159, Tryz.ntmps159
  go_upto_region 2 with fail
  obtain ⟨W0, hW0⟩ : ∃ W0, (w.alloc (.cells #[.int .i32 0, .int .i32 0, .int .i32 0, .int .i32 0, .int .i32 0, .int .i32 0, .int .i32 0, .int .i32 0, .int .i32 0, .int .i32 0, .int .i32 0, .int .i32 0, .int .i32 0, .int .i32 0, .int .i32 0, .int .i32 0, .int .i64 0] 208)).alloc (.cells #[.int .i32 0, .int .i32 0, .int .i32 0, .int .i32 0, .int .i32 0, .int .i32 0, .int .i32 0, .int .i32 0, .int .i32 0, .int .i32 0, .int .i32 0, .int .i32 0, .int .i32 0, .int .i32 0, .int .i32 0, .int .i32 0, .int .i64 0] 208) = W0 := ⟨_, rfl⟩
  have hZ0 : Blk W0 w.heap.size 208 #[.int .i32 0, .int .i32 0, .int .i32 0, .int .i32 0, .int .i32 0, .int .i32 0, .int .i32 0, .int .i32 0, .int .i32 0, .int .i32 0, .int .i32 0, .int .i32 0, .int .i32 0, .int .i32 0, .int .i32 0, .int .i32 0, .int .i64 0] := by rw [← hW0]; exact (Blk.new w _ _).alloc _
  have hB0 : Blk W0 (w.heap.size + 1) 208 #[.int .i32 0, .int .i32 0, .int .i32 0, .int .i32 0, .int .i32 0, .int .i32 0, .int .i32 0, .int .i32 0, .int .i32 0, .int .i32 0, .int .i32 0, .int .i32 0, .int .i32 0, .int .i32 0, .int .i32 0, .int .i32 0, .int .i64 0] := by rw [← hW0]; have := Blk.new (w.alloc (.cells #[.int .i32 0, .int .i32 0, .int .i32 0, .int .i32 0, .int .i32 0, .int .i32 0, .int .i32 0, .int .i32 0, .int .i32 0, .int .i32 0, .int .i32 0, .int .i32 0, .int .i32 0, .int .i32 0, .int .i32 0, .int .i32 0, .int .i64 0] 208)) 208 #[.int .i32 0, .int .i32 0, .int .i32 0, .int .i32 0, .int .i32 0, .int .i32 0, .int .i32 0, .int .i32 0, .int .i32 0, .int .i32 0, .int .i32 0, .int .i32 0, .int .i32 0, .int .i32 0, .int .i32 0, .int .i32 0, .int .i64 0]; simpa using this
  have hb0 : Below w.heap.size w W0 := by rw [← hW0]; exact ((Below.refl _ w).alloc (Nat.le_refl _) _).alloc (by simp) _
  rw [hW0]
  have hC0 : ClAt #[.int .i32 0, .int .i32 0, .int .i32 0, .int .i32 0, .int .i32 0, .int .i32 0, .int .i32 0, .int .i32 0, .int .i32 0, .int .i32 0, .int .i32 0, .int .i32 0, .int .i32 0, .int .i32 0, .int .i32 0, .int .i32 0, .int .i64 0] 0 [] := clAt_nil 0 _ (by simp) rfl (fun i u hi hu => by
    have hm := Array.mem_of_getElem? hu
    simp at hm
    rcases hm with rfl | rfl <;> rfl)
  have HTK := hide (fun k (h : k < l.length) => (List.take_succ_eq_append_getElem h : l.take (k + 1) = l.take k ++ [l[k]]))
  have HLL : Hid (∀ k, (l.take k).length = min k l.length) := hide (fun k => List.length_take)
  have H0 := hide (⟨#[.int .i32 0, .int .i32 0, .int .i32 0, .int .i32 0, .int .i32 0, .int .i32 0, .int .i32 0, .int .i32 0, .int .i32 0, .int .i32 0, .int .i32 0, .int .i32 0, .int .i32 0, .int .i32 0, .int .i32 0, .int .i32 0, .int .i64 0], hB0, by simp, hC0, hZ0, hb0⟩ : ∃ cs, Blk W0 (w.heap.size + 1) 208 cs ∧ cs.size = 17 ∧ ClAt cs 0 [] ∧ Blk W0 w.heap.size 208 #[.int .i32 0, .int .i32 0, .int .i32 0, .int .i32 0, .int .i32 0, .int .i32 0, .int .i32 0, .int .i32 0, .int .i32 0, .int .i32 0, .int .i32 0, .int .i32 0, .int .i32 0, .int .i32 0, .int .i32 0, .int .i32 0, .int .i64 0] ∧ Below w.heap.size w W0)
  clear hZ0 hB0 hb0 hC0 hW0
  go_wp2
  go_loopw [8] (fun i wr => ∃ (k : Nat), k ≤ l.length ∧ i = .int .i64 k ∧ ∃ cs, Blk wr (w.heap.size + 1) 208 cs ∧ cs.size = 17 ∧ ClAt cs 0 (l.take k) ∧ Blk wr w.heap.size 208 #[.int .i32 0, .int .i32 0, .int .i32 0, .int .i32 0, .int .i32 0, .int .i32 0, .int .i32 0, .int .i32 0, .int .i32 0, .int .i32 0, .int .i32 0, .int .i32 0, .int .i32 0, .int .i32 0, .int .i32 0, .int .i32 0, .int .i64 0] ∧ Below w.heap.size w wr)
    (fun i _ => l.length - (intOf i).toNat)
  case atStart => exact ⟨0, Nat.zero_le _, rfl, H0.out⟩
  case round =>
    obtain ⟨k, hk, rfl, cs, hB, hsz, hCl, hZ, hbel⟩ := hrel
    have hszw := hbel.size
    by_cases hlt : k < l.length
    · have hxk := hx.ints_keep (Keep.below (S := So) hbel)
      obtain ⟨b, off, hA, _, q0, _⟩ := ints_at hxk.slb hlt
      subst hA
      have hwr := hwf _ (List.getElem_mem hlt)
      have htk := HTK.out k hlt
      obtain ⟨r, hrr⟩ : ∃ r, l[k] = r := ⟨_, rfl⟩
      rw [hrr] at q0 hwr htk
      have HA := hide (cAdd_ok (w.heap.size + 1) 0 _ cs (l.take k) r hwr wr hB hCl (by rw [HLL.out]; omega))
      have HT := hide htk
      have hkl : (k : Int) < l.length := by omega
      have HZ := hide hZ
      have HSZ := hide hsz
      clear hrr htk hCl hB hZ hsz
      go_wp2_with fail
      refine HA.out.mono ?_
      rintro e w1 ⟨rfl, ⟨cs', hB1, hs1, hC1, _⟩, hgr⟩
      have HN := hide (⟨cs', hB1, by rw [hs1]; exact HSZ.out, by rw [HT.out]; exact hC1, HZ.out.grown hgr (by intro e; injection e with e; omega), hbel.grown hgr hszw (fun j e => by cases e; omega)⟩ : ∃ cs, Blk w1 (w.heap.size + 1) 208 cs ∧ cs.size = 17 ∧ ClAt cs 0 (l.take (k + 1)) ∧ Blk w1 w.heap.size 208 #[.int .i32 0, .int .i32 0, .int .i32 0, .int .i32 0, .int .i32 0, .int .i32 0, .int .i32 0, .int .i32 0, .int .i32 0, .int .i32 0, .int .i32 0, .int .i32 0, .int .i32 0, .int .i32 0, .int .i32 0, .int .i32 0, .int .i64 0] ∧ Below w.heap.size w w1)
      clear hB1 hs1 hC1 hgr
      go_wp2
      go_roundw
      case rel => exact ⟨k + 1, by omega, by go_num, HN.out⟩
      case measure => simp [intOf]; omega
    · obtain rfl : k = l.length := by omega
      rw [List.take_length] at hCl
      have hones : cs.all (·.oneCell') = true := Array.all_eq_true_iff_forall_mem.2 (fun v hv => by
        obtain ⟨i, hi, rfl⟩ := Array.getElem_of_mem hv
        exact hCl.one i _ (by omega) (by rw [Nat.zero_add]; exact Array.getElem?_eq_getElem hi))
      have hthere : wr.there w.heap.size 0 cs.size := fun j hj => ⟨by rw [hZ.cell, Nat.zero_add]; rw [hsz] at hj; rcases j with _ | _ | _ | _ | _ | _ | _ | _ | _ | _ | _ | _ | _ | _ | _ | _ | _ | j <;> first | rfl | omega, hZ.frozen _⟩
      have hrange : wr.rangeAt (w.heap.size + 1) 0 cs.toList := fun j v hv => by
        rw [hB.cell, Nat.zero_add, ← hv]; simp
      obtain ⟨cs', hN1, hN2, hN3⟩ := blk_cells cs.toList 0 wr _ hZ (by simp [hsz])
      have hcs' : cs' = cs := by
        have := setTo_all hN2 (by simp [hsz])
        simpa using this
      subst hcs'
      have hbf : Below w.heap.size w (wr.setCells w.heap.size 0 cs'.toList) := hbel.grown hN3 hszw (fun j e => by cases e; exact Nat.le_refl _)
      have hrr : (wr.setCells w.heap.size 0 cs'.toList).rangeAt w.heap.size 0 cs'.toList := fun j v hv => by
        rw [hN1.cell, Nat.zero_add, ← hv]; simp
      go_upto_region 7 with fail
      refine wp_region_lit ?_
      refine wpList_load_mid rfl _ _ rfl (w.heap.size + 1) 0 rfl cs'.toList _ hrange Tryz.underlying208 rfl (by rw [show cs'.toList.length = 17 from by simpa using hsz]; kernel_rfl) ?_
      refine wpList_store_mid rfl _ _ _ rfl w.heap.size 0 cs' rfl rfl hthere (by rw [hsz]; kernel_rfl) hones ?_
      have HR := hide hrr
      have HCL := hide hCl
      have HF := hide hbf
      have HS17 := hide hsz
      clear hrr hCl hbf hN1 hN2 hN3 hrange hthere hones hZ hB hsz hbel
      refine wpList_nil ?_
      go_wp2
      refine bodyPost_ret (v := .agg cs') ?_ rfl ⟨_, rfl, HS17.out, HCL.out, HF.out⟩
      have hld := run_loadVar_mid (P := Tryz.prog) _ w.heap.size 0 208 cs'.toList _ HR.out Tryz.underlying208 rfl (by rw [show cs'.toList.length = 17 from by simpa using HS17.out]; kernel_rfl)
      rw [Array.toArray_toList] at hld
      simp [results, Tryz.results159, Act.put, asAddr, hld]
end Go.Proofs.YtdjpdllehhecpaaGreatDoor
namespace Go.Proofs.YtdjpdllehhecpaaGreatDoor
open Go.RowKit
set_option linter.unusedVariables false
set_option linter.unusedSimpArgs false
structure OpnG (cs : Array Value) (t : List Int) : Prop where
  size : cs.size = 24
  text : ClAt cs 4 t
  g0 : cs[21]? = some (.bool (gauL propF gau0 t).some)
  g1 : cs[22]? = some (.bool (gauL propF gau0 t).pict)
  g2 : cs[23]? = some (.bool (gauL propF gau0 t).wide)
structure OpnC (cs : Array Value) (r c n : Nat) (t : List Int) : Prop where
  g : OpnG cs t
  row : cs[0]? = some (.int .i64 r)
  col : cs[1]? = some (.int .i64 c)
  pd : cs[2]? = some (.bool false)
  wide : cs[3]? = some (.int .i64 n)
theorem gau_at (t : List Int) (r : Int) : gauN (gauL propF gau0 t) r (propF r) = gauL propF gau0 (t ++ [r]) := (gauL_snoc propF gau0 t r).symm
theorem OpnG.set {cs : Array Value} {t : List Int} (h : OpnG cs t) {i : Nat} (hi : i < 4) (u : Value) : OpnG (cs.setIfInBounds i u) t := by
  have hg : ∀ j, 4 ≤ j → (cs.setIfInBounds i u)[j]? = cs[j]? := fun j hj => by rw [Array.getElem?_setIfInBounds, if_neg (by omega)]
  obtain ⟨h1, h2, h3, h4, h5⟩ := h
  refine ⟨by simp [h1], ⟨by simp [h1], h2.len, fun k hk => (hg _ (by omega)).trans (h2.num k hk), (hg _ (by omega)).trans h2.many, h2.wf, fun k v hk hv => h2.one k v hk ((hg _ (by omega)).symm.trans hv)⟩, (hg _ (by omega)).trans h3, (hg _ (by omega)).trans h4, (hg _ (by omega)).trans h5⟩
theorem ClAt.old {cs cs' : Array Value} {o : Nat} {l : List Int} (h : ClAt cs o l) (hs : cs'.size = cs.size) (ho : ∀ i, o ≤ i → i < o + 17 → cs'[i]? = cs[i]?) : ClAt cs' o l :=
  ⟨by rw [hs]; exact h.room, h.len, fun i hi => (ho _ (by omega) (by have := h.len; omega)).trans (h.num i hi), (ho _ (by omega) (by omega)).trans h.many, h.wf, fun i u hi hu => h.one i u hi ((ho _ (by omega) (by omega)).symm.trans hu)⟩
theorem OpnG.of_set {cs cs' : Array Value} {l : List Int} (hc : ClAt cs 4 l) (hs : cs.size = 24) (h : SetTo cs 21 (gauC (gauL propF gau0 l)) cs') : OpnG cs' l ∧ ∀ i, i < 21 → cs'[i]? = cs[i]? := by
  have ho : ∀ i, i < 21 → cs'[i]? = cs[i]? := fun i hi => h.old i (.inl hi)
  exact ⟨⟨h.size.trans hs, hc.old h.size (fun i _ hi => ho i (by omega)), h.new 0 (by simp [gauC]), h.new 1 (by simp [gauC]), h.new 2 (by simp [gauC])⟩, ho⟩
set_option maxHeartbeats 4000000 in
theorem wAdd_ok (o : Nat) (cs : Array Value) (t : List Int) (r : Int) (w : World) (hB : Blk w o 213 cs) (h : OpnG cs t) (hl : t.length < 16) (hv : validB r = true) :
    Calls Tryz.prog 165 #[ptrB o, .int .i32 r, propA (propF r)] w fun e w' => e = .returned (.int .i64 (widthF propF (t ++ [r]))) ∧ (∃ cs', Blk w' o 213 cs' ∧ OpnG cs' (t ++ [r]) ∧ ∀ i, i < 4 → cs'[i]? = cs[i]?) ∧ w.grownBy w' (some o) := by
  have hvr := (validB_iff r).1 hv
  have hwf : (Lit.int .i32 r).wf = true := wf_i32 (by omega) (by omega)
  have hV := sValid_ok r (by omega) (by omega)
  rw [hv] at hV
  have HV := hide hV
  have hpk := propF_ok r
  obtain ⟨pp, hpp⟩ : ∃ pp, propF r = pp := ⟨_, rfl⟩
  have HA := hide (fun W (hW : Blk W o 213 cs) => cAdd_ok o 4 _ cs t r hwf W hW h.text hl)
  have HG := hide (fun W cs' (hW : Blk W o 213 cs') (hs : cs'.size = 24) (k0 : cs'[21]? = cs[21]?) (k1 : cs'[22]? = cs[22]?) (k2 : cs'[23]? = cs[23]?) => gStep_ok o 21 _ cs' (gauL propF gau0 t) r (propF r) hpk.1.1 hpk.1.2 W hW (by omega) (k0.trans h.g0) (k1.trans h.g1) (k2.trans h.g2))
  rw [gau_at] at HG
  have HWD : Hid (wideG (gauL propF gau0 (t ++ [r])) = widthF propF (t ++ [r])) := hide rfl
  rw [HWD.out] at HG
  obtain ⟨wd, hwd⟩ : ∃ wd : Int, ((widthF propF (t ++ [r]) : Nat) : Int) = wd := ⟨_, rfl⟩
  rw [hwd] at HG ⊢
  have HSZ := hide h.size
  have hol := hB.lt
  have HBB := hide hB
  rw [hpp] at HG ⊢
  obtain ⟨brk, pict, conj, east⟩ := pp
  unfold propA at HG ⊢
  simp only [propL] at HG ⊢
  have hP := Blk.new w 108 #[.int .i64 brk, .bool pict, .int .i64 conj, .int .i64 east]
  have HP := hide hP
  clear hV hvr hv hpk hpp hwd h hP hB
  unfold ptrB
  go_enter Tryz.func165, Tryz.ntmps165
  go_wp2_with fail
  refine (HV.out _).mono ?_
  rintro e w1 ⟨rfl, rfl⟩
  go_wp2_with fail
  refine (HA.out _ (HBB.out.alloc _)).mono ?_
  rintro e w2 ⟨rfl, ⟨cs2, hB2, hs2, hC2, hold2⟩, hgr2⟩
  have hP2 := HP.out.grown hgr2 (by intro e; injection e with e; omega)
  have hgs := HG.out
  have hz2 := hgr2.size
  have x0 := hP2.cell 0
  have x1 := hP2.cell 1
  have x2 := hP2.cell 2
  have x3 := hP2.cell 3
  simp only [zA, zB, zC] at x0 x1 x2 x3
  have HS2 := hide (HG.out w2.drew cs2 hB2.dr (by rw [hs2]; exact HSZ.out) (hold2 21 (by omega)) (hold2 22 (by omega)) (hold2 23 (by omega)))
  have HO2 := hide hold2
  have HB2 := hide hB2
  have HC2 := hide hC2
  have HZ2 := hide (hs2.trans HSZ.out)
  have HGR2 := hide hgr2
  clear hB2 hs2 hC2 hold2 hgr2 hP2 hgs
  go_upto_region 4 with fail
  refine wp_region_held_drew (S := fun w' => w'.cell? ⟨w.heap.size, 0, none⟩ = some (.int .i64 brk) ∧ w'.cell? ⟨w.heap.size, 1, none⟩ = some (.bool pict) ∧ w'.cell? ⟨w.heap.size, 2, none⟩ = some (.int .i64 conj) ∧ w'.cell? ⟨w.heap.size, 3, none⟩ = some (.int .i64 east)) (by kernel_rfl) (by exact ⟨x0, x1, x2, x3⟩) (fun hHeld => ?_)
  refine wpAnyH_take (i := 0) (oi := ?_) (v := ?_) ?_ (by kernel_rfl) (by kernel_rfl) (by kernel_rfl) ?_ (Or.inl ⟨?_, ?_⟩) (by assumption) ?_
  rotate_left 2
  · (simp only [zA, zB, zC]; rfl)
  rotate_left 1
  · rfl
  · (intro w hSw; (try dsimp only at hSw); go_simp; try with_reducible rfl)
  rotate_left 1
  · exact fun _ _ _ h => h
  try simp only [Act.put, zD, zE, zF]
  refine wpAnyH_take (i := 1) (oi := ?_) (v := ?_) ?_ (by kernel_rfl) (by kernel_rfl) (by kernel_rfl) ?_ (Or.inl ⟨?_, ?_⟩) (by assumption) ?_
  rotate_left 2
  · (simp only [zA, zB, zC]; rfl)
  rotate_left 1
  · rfl
  · (intro w hSw; (try dsimp only at hSw); go_simp; try with_reducible rfl)
  rotate_left 1
  · exact fun _ _ _ h => h
  try simp only [Act.put, zD, zE, zF]
  refine wpAnyH_take (i := 2) (oi := ?_) (v := ?_) ?_ (by kernel_rfl) (by kernel_rfl) (by kernel_rfl) ?_ (Or.inl ⟨?_, ?_⟩) (by assumption) ?_
  rotate_left 2
  · (simp only [zA, zB, zC]; rfl)
  rotate_left 1
  · rfl
  · (intro w hSw; (try dsimp only at hSw); go_simp; try with_reducible rfl)
  rotate_left 1
  · exact fun _ _ _ h => h
  try simp only [Act.put, zD, zE, zF]
  refine wpAnyH_take (i := 3) (oi := ?_) (v := ?_) ?_ (by kernel_rfl) (by kernel_rfl) (by kernel_rfl) ?_ (Or.inl ⟨?_, ?_⟩) (by assumption) ?_
  rotate_left 2
  · (simp only [zA, zB, zC]; rfl)
  rotate_left 1
  · rfl
  · (intro w hSw; (try dsimp only at hSw); go_simp; try with_reducible rfl)
  rotate_left 1
  · exact fun _ _ _ h => h
  try simp only [Act.put, zD, zE, zF]
  refine wpAnyH_take (i := 4) (oi := ?_) (v := ?_) ?_ (by kernel_rfl) (by kernel_rfl) (by kernel_rfl) ?_ (Or.inl ⟨?_, ?_⟩) (by assumption) ?_
  rotate_left 2
  · (simp only [zA, zB, zC]; rfl)
  rotate_left 1
  · rfl
  · (intro w hSw; (try dsimp only at hSw); go_simp; try with_reducible rfl)
  rotate_left 1
  · exact fun _ _ _ h => h
  try simp only [Act.put, zD, zE, zF]
  refine wpAnyH_ready (rs := [5]) (by kernel_rfl) (by simp) ?_
  refine AllReadyH.cons (o := ?_) ?_ (fun K hK => ?_) AllReadyH.nil
  rotate_left 1
  · (simp only [zA, zB, zC]; rfl)
  go_simp
  (go_at_call 189; refine HS2.out.mono ?_; rintro e w3 ⟨rfl, ⟨cs3, hB3, hset⟩, hgr3⟩; have x0 := (World.cell?_of_block (hgr3.block w.heap.size (World.block_lt_of_cell? _ _ x0) (by intro e; injection e with e; omega))).trans x0; have x1 := (World.cell?_of_block (hgr3.block w.heap.size (World.block_lt_of_cell? _ _ x1) (by intro e; injection e with e; omega))).trans x1; have x2 := (World.cell?_of_block (hgr3.block w.heap.size (World.block_lt_of_cell? _ _ x2) (by intro e; injection e with e; omega))).trans x2; have x3 := (World.cell?_of_block (hgr3.block w.heap.size (World.block_lt_of_cell? _ _ x3) (by intro e; injection e with e; omega))).trans x3; have HB3 := hide hB3; have HSET := hide hset; have HGR3 := hide hgr3; clear hB3 hset hgr3)
  refine hK.out _ _ ?_ (fun hHeld => ?_)
  · ((try dsimp only); go_keep)
  clear hK K
  try simp only [Act.put, zD, zE, zF]
  refine wpAnyH_take (i := 6) (oi := ?_) (v := ?_) ?_ (by kernel_rfl) (by kernel_rfl) (by kernel_rfl) ?_ (Or.inl ⟨?_, ?_⟩) (by assumption) ?_
  rotate_left 2
  · (simp only [zA, zB, zC]; rfl)
  rotate_left 1
  · rfl
  · (intro w hSw; (try dsimp only at hSw); go_simp; try with_reducible rfl)
  rotate_left 1
  · exact fun _ _ _ h => h
  try simp only [Act.put, zD, zE, zF]
  refine wpAnyH_done (by kernel_rfl) ?_ _
  clear hHeld
  go_wp2
  go_ret
  obtain ⟨k1, k2⟩ := OpnG.of_set HC2.out HZ2.out HSET.out
  exact ⟨rfl, ⟨cs3, HB3.out, k1, fun i hi => (k2 i (by omega)).trans (HO2.out i (.inl hi))⟩, gb_trans (gb_dr (gb_trans (gb_alloc (gb_refl w o) _) HGR2.out)) HGR3.out⟩
def open0 : Array Value := #[.int .i64 0, .int .i64 0, .bool false, .int .i64 0, .int .i32 0, .int .i32 0, .int .i32 0, .int .i32 0, .int .i32 0, .int .i32 0, .int .i32 0, .int .i32 0, .int .i32 0, .int .i32 0, .int .i32 0, .int .i32 0, .int .i32 0, .int .i32 0, .int .i32 0, .int .i32 0, .int .i64 0, .bool false, .bool false, .bool false]
theorem open0_one : open0.all (·.oneCell') = true := by kernel_rfl
theorem open0_G : OpnG open0 [] := ⟨rfl, clAt_nil 4 _ (by decide) rfl (fun i u hi hu => (Array.all_eq_true_iff_forall_mem.1 open0_one) u (Array.mem_of_getElem? hu)), rfl, rfl, rfl⟩
theorem OpnG.place {cs : Array Value} {t : List Int} (h : OpnG cs t) (r c n : Nat) : OpnC ((((cs.setIfInBounds 3 (.int .i64 n)).setIfInBounds 0 (.int .i64 r)).setIfInBounds 1 (.int .i64 c)).setIfInBounds 2 (.bool false)) r c n t := by
  have hs := h.size
  refine ⟨(((h.set (i := 3) (by omega) _).set (i := 0) (by omega) _).set (i := 1) (by omega) _).set (i := 2) (by omega) _, ?_, ?_, ?_, ?_⟩ <;> simp [Array.getElem?_setIfInBounds, hs]
set_option maxHeartbeats 8000000 in
theorem Begin_ok (I : Ids) (v : PenV) (r : Int) (w : World) (h : PenQ w I v) (hv : validB r = true) (hP : PutOk I.W I.h (widthF propF [r]) v) :
    Calls Tryz.prog 128 #[ptrB I.p, .int .i32 r, propA (propF r)] w fun e w' => ∃ o, e = .returned (ptrB o) ∧ w.heap.size ≤ o ∧ PenQ w' I (putP I.W (widthF propF [r]) [r] v) ∧
      (∃ cs, Blk w' o 213 cs ∧ OpnC cs (roomP I.W (widthF propF [r]) v).r (roomP I.W (widthF propF [r]) v).c (widthF propF [r]) [r]) ∧ Chg (PenS I) w w' := by
  have hpk := propF_ok r
  have hwd := widthF_or propF [r]
  have HADD := hide (fun o (W : World) (hW : Blk W o 213 open0) => wAdd_ok o open0 [] r W hW open0_G (by decide) hv)
  have htx : TxOk [r] := ⟨by simp, by simp, fun x hx => by rw [List.mem_singleton] at hx; subst hx; exact hv⟩
  obtain ⟨n, hn⟩ : ∃ n, widthF propF [r] = n := ⟨_, rfl⟩
  rw [List.nil_append, hn] at HADD
  rw [hn] at hP hwd ⊢
  have HPUT := hide (fun (So Si : Nat → Prop) x W (hW : PenQ W I v) hx hSo => Put_ok I v n hwd So Si x [r] W hW hP htx hx hSo)
  obtain ⟨q, hq⟩ : ∃ q, roomP I.W n v = q := ⟨_, rfl⟩
  obtain ⟨res, hres⟩ : ∃ res, putP I.W n [r] v = res := ⟨_, rfl⟩
  rw [hq, hres] at HPUT ⊢
  obtain ⟨p, hp⟩ : ∃ p, I.p = p := ⟨_, rfl⟩
  obtain ⟨g, hg⟩ : ∃ g, I.g = g := ⟨_, rfl⟩
  obtain ⟨N, hN⟩ : ∃ N : Int, (n : Int) = N := ⟨_, rfl⟩
  obtain ⟨qr, hqr⟩ : ∃ x : Int, (q.r : Int) = x := ⟨_, rfl⟩
  obtain ⟨qc, hqc⟩ : ∃ x : Int, (q.c : Int) = x := ⟨_, rfl⟩
  have HI := hide (And.intro hp (And.intro hg (And.intro hN (And.intro hqr hqc))))
  have hsl : ∀ k, PenS I k → k < w.heap.size := fun k hk => h.sLt hk
  have HSL := hide hsl
  obtain ⟨x0, -⟩ := h.cells
  have hpl := h.blk.lt
  rw [hp] at x0 hpl
  rw [hg] at x0
  simp only [hN] at HADD HPUT
  simp only [hqr, hqc] at HPUT
  unfold ptrB at HADD HPUT ⊢
  simp only [hp] at HPUT ⊢
  have HQ := hide h
  obtain ⟨pp, hpp⟩ : ∃ pp, propF r = pp := ⟨_, rfl⟩
  rw [hpp] at HADD ⊢
  obtain ⟨brk, pict, conj, east⟩ := pp
  unfold propA at HADD ⊢
  simp only [propL] at HADD ⊢
  unfold curA at HPUT
  clear hpk hv htx hn hP hq hres hp hg hN hqr hqc hsl h hpp hwd
  go_enter Tryz.func128, Tryz.ntmps128
  go_upto_region 4 with fail
  obtain ⟨W0, hW0⟩ : ∃ W0, (w.alloc (.cells #[.int .i64 brk, .bool pict, .int .i64 conj, .int .i64 east] 108)).alloc (.cells #[.int .i64 0, .int .i64 0, .bool false, .int .i64 0, .int .i32 0, .int .i32 0, .int .i32 0, .int .i32 0, .int .i32 0, .int .i32 0, .int .i32 0, .int .i32 0, .int .i32 0, .int .i32 0, .int .i32 0, .int .i32 0, .int .i32 0, .int .i32 0, .int .i32 0, .int .i32 0, .int .i64 0, .bool false, .bool false, .bool false] 213) = W0 := ⟨_, rfl⟩
  obtain ⟨O, hO⟩ : ∃ O, w.heap.size + 1 = O := ⟨_, rfl⟩
  have hB0 : Blk W0 O 213 open0 := by
    rw [← hW0, ← hO]
    have := Blk.new (w.alloc (.cells #[.int .i64 brk, .bool pict, .int .i64 conj, .int .i64 east] 108)) 213 open0
    rw [World.size_alloc] at this
    exact this
  have hP0 : Blk W0 w.heap.size 108 #[.int .i64 brk, .bool pict, .int .i64 conj, .int .i64 east] := by rw [← hW0]; exact (Blk.new w _ _).alloc _
  have hq0 : PenQ W0 I v := by rw [← hW0]; exact (HQ.out.alloc _).alloc _
  have hc0 : Chg (PenS I) w W0 := by rw [← hW0]; exact ((Chg.refl _ w).alloc _).alloc _
  have z0 := hP0.cell 0
  have z1 := hP0.cell 1
  have z2 := hP0.cell 2
  have z3 := hP0.cell 3
  simp only [zA, zB, zC] at z0 z1 z2 z3
  have HB0 := hide hB0
  have HQ0 := hide hq0
  have HC0 := hide hc0
  have HW0 := hide hW0
  have HO := hide hO
  clear hB0 hP0 hq0 hc0 hW0 hO
  rw [HW0.out, HO.out]
  go_wp2_with fail
  refine (HADD.out _ _ HB0.out).mono ?_
  rintro e w2 ⟨rfl, ⟨cs2, hB2, hG2, hold2⟩, hgr2⟩
  have k3 := (hB2.cell 3).trans (hold2 3 (by omega))
  have f3 := hB2.frozen 3
  have hk3 : open0[3]? = some (.int .i64 0) := rfl
  rw [hk3] at k3
  have hc2 := HC0.out.next (Chg.of_gb (S := (· = O)) hgr2 rfl) (fun k hk => .inr (by have := HO.out; omega))
  have hq2 := HQ0.out.chg (Chg.of_gb (S := (· = O)) hgr2 rfl) (Alien.one HB0.out (by decide))
  have HB2 := hide hB2
  have HG2 := hide hG2
  have HOLD := hide hold2
  have HC2 := hide hc2
  have HQ2 := hide hq2
  clear hB2 hG2 hold2 hgr2 hk3 hc2 hq2 z0 z1 z2 z3
  go_upto_region 5 with fail
  obtain ⟨w3, hw3⟩ : ∃ w3, w2.setCell ⟨O, 3, none⟩ (.int .i64 N) = w3 := ⟨_, rfl⟩
  have hB3 : Blk w3 O 213 (cs2.setIfInBounds 3 (.int .i64 N)) := by rw [← hw3]; exact HB2.out.set_ 3 _
  have hs3 : Chg (· = O) w2 w3 := by rw [← hw3]; exact (Chg.refl (· = O) w2).set (p := ⟨O, 3, none⟩) (.inl rfl) _
  have HG3 := hide (HG2.out.set (i := 3) (by omega) (.int .i64 N))
  have HQ3 := hide (HQ2.out.chg hs3 (Alien.one HB2.out (by decide)))
  have HC3 := hide (HC2.out.next hs3 (fun k hk => .inr (by have := HO.out; omega)))
  have hsz3 : 3 < cs2.size := by rw [HG2.out.size]; decide
  have k3 := hB3.cell 3
  rw [Array.getElem?_setIfInBounds, if_pos rfl, if_pos hsz3] at k3
  have HTX := hide (cText_ok O 4 _ _ [r] w3.drew hB3.dr HG3.out.text)
  have HB3 := hide hB3
  have HW3 := hide hw3
  have hol3 := hB3.lt
  have hwz3 := HC3.out.size
  clear hB3 hs3 hw3 f3
  rw [HW3.out]
  refine wp_region_late (S := fun w' => w'.cell? ⟨O, 3, none⟩ = some (.int .i64 N)) [13] (by kernel_rfl) (by exact k3) (fun hHeld => ?_)
  refine wpAnyT_take (i := 0) (oi := ?_) (v := ?_) ?_ (by kernel_rfl) (by kernel_rfl) (by kernel_rfl) (by kernel_rfl) (by kernel_rfl) ?_ (Or.inl ⟨?_, ?_⟩) (by assumption) ?_
  rotate_left 2
  · (simp only [zA, zB, zC]; rfl)
  rotate_left 1
  · rfl
  · (intro w hSw; (try dsimp only at hSw); go_simp; try with_reducible rfl)
  rotate_left 1
  · exact fun _ _ _ h => h
  try simp only [Act.put, zD, zE, zF]
  refine wpAnyT_take (i := 1) (oi := ?_) (v := ?_) ?_ (by kernel_rfl) (by kernel_rfl) (by kernel_rfl) (by kernel_rfl) (by kernel_rfl) ?_ (Or.inl ⟨?_, ?_⟩) (by assumption) ?_
  rotate_left 2
  · (simp only [zA, zB, zC]; rfl)
  rotate_left 1
  · rfl
  · (intro w hSw; (try dsimp only at hSw); go_simp; try with_reducible rfl)
  rotate_left 1
  · exact fun _ _ _ h => h
  try simp only [Act.put, zD, zE, zF]
  refine wpAnyT_take (i := 2) (oi := ?_) (v := ?_) ?_ (by kernel_rfl) (by kernel_rfl) (by kernel_rfl) (by kernel_rfl) (by kernel_rfl) ?_ (Or.inl ⟨?_, ?_⟩) (by assumption) ?_
  rotate_left 2
  · (simp only [zA, zB, zC]; rfl)
  rotate_left 1
  · rfl
  · (intro w hSw; (try dsimp only at hSw); go_simp; try with_reducible rfl)
  rotate_left 1
  · exact fun _ _ _ h => h
  try simp only [Act.put, zD, zE, zF]
  refine wpAnyT_take (i := 3) (oi := ?_) (v := ?_) ?_ (by kernel_rfl) (by kernel_rfl) (by kernel_rfl) (by kernel_rfl) (by kernel_rfl) ?_ (Or.inl ⟨?_, ?_⟩) (by assumption) ?_
  rotate_left 2
  · (simp only [zA, zB, zC]; rfl)
  rotate_left 1
  · rfl
  · (intro w hSw; (try dsimp only at hSw); go_simp; try with_reducible rfl)
  rotate_left 1
  · exact fun _ _ _ h => h
  try simp only [Act.put, zD, zE, zF]
  refine wpAnyT_take (i := 4) (oi := ?_) (v := ?_) ?_ (by kernel_rfl) (by kernel_rfl) (by kernel_rfl) (by kernel_rfl) (by kernel_rfl) ?_ (Or.inl ⟨?_, ?_⟩) (by assumption) ?_
  rotate_left 2
  · (simp only [zA, zB, zC]; rfl)
  rotate_left 1
  · rfl
  · (intro w hSw; (try dsimp only at hSw); go_simp; try with_reducible rfl)
  rotate_left 1
  · exact fun _ _ _ h => h
  try simp only [Act.put, zD, zE, zF]
  refine wpAnyT_take (i := 5) (oi := ?_) (v := ?_) ?_ (by kernel_rfl) (by kernel_rfl) (by kernel_rfl) (by kernel_rfl) (by kernel_rfl) ?_ (Or.inl ⟨?_, ?_⟩) (by assumption) ?_
  rotate_left 2
  · (simp only [zA, zB, zC]; rfl)
  rotate_left 1
  · rfl
  · (intro w hSw; (try dsimp only at hSw); go_simp; try with_reducible rfl)
  rotate_left 1
  · exact fun _ _ _ h => h
  try simp only [Act.put, zD, zE, zF]
  refine wpAnyT_take (i := 6) (oi := ?_) (v := ?_) ?_ (by kernel_rfl) (by kernel_rfl) (by kernel_rfl) (by kernel_rfl) (by kernel_rfl) ?_ (Or.inl ⟨?_, ?_⟩) (by assumption) ?_
  rotate_left 2
  · (simp only [zA, zB, zC]; rfl)
  rotate_left 1
  · rfl
  · (intro w hSw; (try dsimp only at hSw); go_simp; try with_reducible rfl)
  rotate_left 1
  · exact fun _ _ _ h => h
  try simp only [Act.put, zD, zE, zF]
  refine wpAnyT_take (i := 7) (oi := ?_) (v := ?_) ?_ (by kernel_rfl) (by kernel_rfl) (by kernel_rfl) (by kernel_rfl) (by kernel_rfl) ?_ (Or.inl ⟨?_, ?_⟩) (by assumption) ?_
  rotate_left 2
  · (simp only [zA, zB, zC]; rfl)
  rotate_left 1
  · rfl
  · (intro w hSw; (try dsimp only at hSw); go_simp; try with_reducible rfl)
  rotate_left 1
  · exact fun _ _ _ h => h
  try simp only [Act.put, zD, zE, zF]
  refine wpAnyT_take (i := 8) (oi := ?_) (v := ?_) ?_ (by kernel_rfl) (by kernel_rfl) (by kernel_rfl) (by kernel_rfl) (by kernel_rfl) ?_ (Or.inl ⟨?_, ?_⟩) (by assumption) ?_
  rotate_left 2
  · (simp only [zA, zB, zC]; rfl)
  rotate_left 1
  · rfl
  · (intro w hSw; (try dsimp only at hSw); go_simp; try with_reducible rfl)
  rotate_left 1
  · exact fun _ _ _ h => h
  try simp only [Act.put, zD, zE, zF]
  refine wpAnyT_ready (rs := [9]) (by kernel_rfl) (by simp) ?_
  refine AllReadyT.cons (o := ?_) ?_ (fun K hK => ?_) AllReadyT.nil
  rotate_left 1
  · (simp only [zA, zB, zC]; rfl)
  go_simp
  (go_at_call 160; refine HTX.out.mono ?_; rintro e w4 ⟨v4, rfl, hv4, hb4⟩; have hB4 := HB3.out.dr.same hb4; have k3 := (hb4.cell (p := ⟨O, 3, none⟩) hol3).trans k3; have HV4 := hide hv4; have HB4 := hide hB4; have HQ4 := hide (HQ3.out.dr.below hb4); have HC4 := hide (HC3.out.dr.trans (Chg.of_below hb4)); clear hv4 hb4 hB4)
  refine hK.out _ _ ?_ (fun hHeld => ?_)
  · ((try dsimp only); go_keep)
  clear hK K
  try simp only [Act.put, zD, zE, zF]
  refine wpAnyT_ready (rs := [10]) (by kernel_rfl) (by simp) ?_
  refine AllReadyT.cons (o := ?_) ?_ (fun K hK => ?_) AllReadyT.nil
  rotate_left 1
  · (simp only [zA, zB, zC]; rfl)
  go_simp
  (go_at_call 166; refine (HPUT.out _ _ _ _ HQ4.out HV4.out.islc (fun k hk => ⟨hk.1, fun e => by have h1 := HSL.out k e; have h2 : w3.heap.size ≤ k := hk.2.1; omega⟩)).mono ?_; rintro e w5 ⟨rfl, hq5, hc5⟩; have hB5 := hc5.blk HB4.out (fun e => by have := HSL.out _ e; have := HO.out; omega); have k3 := hB5.cell 3; rw [Array.getElem?_setIfInBounds, if_pos rfl, if_pos hsz3] at k3; have k0 := hB5.cell 0; have k1 := hB5.cell 1; have k2 := hB5.cell 2; have f0 := hB5.frozen 0; have f1 := hB5.frozen 1; have f2 := hB5.frozen 2; rw [Array.getElem?_setIfInBounds, if_neg (by decide), HOLD.out _ (by omega)] at k0 k1 k2; have e0 : open0[0]? = some (.int .i64 0) := rfl; have e1 : open0[1]? = some (.int .i64 0) := rfl; have e2 : open0[2]? = some (.bool false) := rfl; rw [e0] at k0; rw [e1] at k1; rw [e2] at k2; have HB5 := hide hB5; have HQ5 := hide hq5; have HC5 := hide (HC4.out.trans hc5); clear hB5 hq5 hc5 e0 e1 e2)
  refine hK.out _ _ ?_ (fun hHeld => ?_)
  · ((try dsimp only); go_keep)
  clear hK K
  try simp only [Act.put, zD, zE, zF]
  refine wpAnyT_take (i := 11) (oi := ?_) (v := ?_) ?_ (by kernel_rfl) (by kernel_rfl) (by kernel_rfl) (by kernel_rfl) (by kernel_rfl) ?_ (Or.inl ⟨?_, ?_⟩) (by assumption) ?_
  rotate_left 2
  · (simp only [zA, zB, zC]; rfl)
  rotate_left 1
  · rfl
  · (intro w hSw; (try dsimp only at hSw); go_simp; try with_reducible rfl)
  rotate_left 1
  · exact fun _ _ _ h => h
  try simp only [Act.put, zD, zE, zF]
  refine wpAnyT_take (i := 12) (oi := ?_) (v := ?_) ?_ (by kernel_rfl) (by kernel_rfl) (by kernel_rfl) (by kernel_rfl) (by kernel_rfl) ?_ (Or.inl ⟨?_, ?_⟩) (by assumption) ?_
  rotate_left 2
  · (simp only [zA, zB, zC]; rfl)
  rotate_left 1
  · rfl
  · (intro w hSw; (try dsimp only at hSw); go_simp; try with_reducible rfl)
  rotate_left 1
  · exact fun _ _ _ h => h
  try simp only [Act.put, zD, zE, zF]
  refine wpAnyT_ready (rs := [13]) (by kernel_rfl) (by simp) ?_
  refine AllReadyT.consL (o := ?_) ?_ (by kernel_rfl) (fun K hK => ?_) AllReadyT.nil
  rotate_left 1
  · (simp only [zA, zB, zC]; rfl)
  go_simp
  refine hK.out _ _ ?_
  clear hK K
  try simp only [Act.put, zD, zE, zF]
  refine wpAnyT_done (by kernel_rfl) ?_ _
  clear hHeld k0 k1 k2 k3 f0 f1 f2
  go_wp2
  go_ret
  obtain ⟨hp, hg, hN, hqr, hqc⟩ := HI.out
  subst hN; subst hqr; subst hqc
  have hfin : Chg (· = O) w5 (((w5.setCell ⟨O, 0, none⟩ (.int .i64 q.r)).setCell ⟨O, 1, none⟩ (.int .i64 q.c)).setCell ⟨O, 2, none⟩ (.bool false)) := (((Chg.refl (· = O) w5).set (p := ⟨O, 0, none⟩) (.inl rfl) _).set (p := ⟨O, 1, none⟩) (.inl rfl) _).set (p := ⟨O, 2, none⟩) (.inl rfl) _
  exact ⟨O, rfl, by have := HO.out; omega, HQ5.out.chg hfin (Alien.one HB5.out (by decide)), ⟨_, ((HB5.out.set_ 0 _).set_ 1 _).set_ 2 _, HG2.out.place q.r q.c n⟩, HC5.out.next hfin (fun k hk => .inr (by have := HO.out; omega))⟩
end Go.Proofs.YtdjpdllehhecpaaGreatDoor
