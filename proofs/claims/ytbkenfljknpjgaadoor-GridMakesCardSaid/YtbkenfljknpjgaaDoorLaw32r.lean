/-
  The law on a grid's rows: the walk returns true and leaves the memory that was there as it was.
-/
import Derived.Test.YtbkenfljknpjgaaDoorGrd6
import Derived.Lib.Builder
namespace Go.Proofs.YtbkenfljknpjgaaDoor
open Go.RowKit
set_option linter.unusedVariables false
set_option linter.unusedSimpArgs false

theorem Slc.lt_up2 {α : Type} {R : Rep α} {So : Nat → Prop} {w w' : World} {v : Value} {l : List α} (h : Slc R So So w v l) (hb : Below w.heap.size w w') : Slc R (fun b => b < w'.heap.size) (fun b => b < w'.heap.size) w' v l :=
  (h.mono (Keep.below (S := So) hb) (Keep.below (S := So) hb)).mono (Keep.lt _ _) (Keep.lt _ _)
/-- What is known of lines none of which is wrong. -/
theorem right_lines {ls : List LineV} (h : wrgF ls = none) : ∀ l ∈ ls, l.1.length ≠ 0 ∧ l.1.length ≤ 1024 ∧ soundB l.1 = true ∧ l.1.length = head0 ls := by
  intro l hl
  have h1 := wrg_none ls 0 h l hl
  rcases wr1_cases (head0 ls) l.1 with ⟨_, h2⟩ | ⟨_, _, h2⟩ | ⟨_, _, _, h2⟩ | ⟨h2, h3, h4, _⟩
  · omega
  · omega
  · omega
  · exact ⟨h2.1, h2.2, h3, h4⟩
theorem right_rows {ls : List LineV} {ps : List RowP} (h : wrgF ls = none) (hp : ps.map Prod.snd = ls) : ∀ p ∈ ps, p.2.1.length ≤ 100000 ∧ ∀ c ∈ p.2.1, c.2.length ≤ 16 := by
  intro p hpm
  have hm : p.2 ∈ ls := by rw [← hp]; exact List.mem_map_of_mem hpm
  have := right_lines h p.2 hm
  exact ⟨by omega, sound_len this.2.2.1⟩

theorem wantA {α : Type} (l : List α) (k : Nat) (a b : α) : (l.set k a).set k b = l.set k b := by rw [List.set_set]
theorem rowT : (Tryd.prog.info? 83).isSome = true := by kernel_rfl
theorem rowsA (l : List RowP) (k : Nat) (v : Value) (c : List CellV) (x : Bool) (h : k < (l.set k (v, c, x)).length) : l.set k (((l.set k (v, c, x))[k]).1, ((l.set k (v, c, x))[k]).2.1, true) = l.set k (v, c, true) := by
  rw [List.getElem_set_self]
theorem wantC (ls0 : List (Value × LineV)) (k : Nat) (hk : k < ls0.length) : (ls0.map slB).set k (((ls0.map slB)[k]'(by simpa using hk)).1, true) = (ls0.set k (ls0[k].1, (ls0[k].2.1, true))).map slB := by
  rw [List.map_set, List.getElem_map]
  rfl
theorem snd_at {ls : List LineV} {ls0 : List (Value × LineV)} {qs : List RowP} (h : ls0.map Prod.snd = ls) (h2 : qs.map Prod.snd = ls) {k : Nat} (hk : k < ls0.length) (hk2 : k < qs.length) : ls0[k].2 = qs[k].2 := by
  have e1 : (ls0.map Prod.snd)[k]'(by simpa using hk) = ls0[k].2 := by rw [List.getElem_map]
  have e2 : (qs.map Prod.snd)[k]'(by simpa using hk2) = qs[k].2 := by rw [List.getElem_map]
  rw [← e1, ← e2]
  congr 1
  rw [h, h2]
theorem wantB (ls0 : List (Value × LineV)) (k : Nat) (a : Value) (pl : List CellV) (hk : k < ls0.length) : ((ls0.map slB).set k (a, false)).set k ((((ls0.map slB).set k (a, false))[k]'(by simpa using hk)).1, true) = (ls0.set k (a, (pl, true))).map slB := by
  rw [List.getElem_set_self, List.set_set, List.map_set]
  rfl

set_option maxRecDepth 100000 in
set_option maxHeartbeats 8000000 in
theorem walkS_GridRows (x : Value) (i : Int) (y : Value) (ls : List LineV) (pl : List CellV) (w : World) (hx : Slc RLine (fun b => b < w.heap.size) (fun b => b < w.heap.size) w x ls) (hy : Slc RCell (fun b => b < w.heap.size) (fun b => b < w.heap.size) w y pl) :
    Calls Tryd.prog 3 #[x, .int .i64 i, y] w fun e w' => e = .returned (.bool true) ∧ Below w.heap.size w w' := by
  obtain ⟨A, cp, rfl, _, _, _⟩ := hx.open_
  obtain ⟨B, cq, rfl, _, _, _⟩ := hy.open_
  have HX := hide (fun W (h : Below w.heap.size w W) => (hx.mono (Keep.below (S := fun b => b < w.heap.size) h) (Keep.below (S := fun b => b < w.heap.size) h)).mono (Keep.lt _ _) (Keep.lt _ _))
  have HY := hide (fun W (h : Below w.heap.size w W) => (hy.mono (Keep.below (S := fun b => b < w.heap.size) h) (Keep.below (S := fun b => b < w.heap.size) h)).mono (Keep.lt _ _) (Keep.lt _ _))
  have HXI := hide (fun W (h : Below w.heap.size w W) => (hx.mono (Keep.below (S := fun b => b < w.heap.size) h) (Keep.below (S := fun b => b < w.heap.size) h)).mono (Keep.lt _ _) (Keep.weaken (S' := fun b => b < W.heap.size) (fun b hb => by have := h.size; omega)))
  have HWR := hide (rWrong32_ok _ _ ls w hx)
  obtain ⟨res, hres⟩ : ∃ res, wrgF ls = res := ⟨_, rfl⟩
  rw [hres] at HWR
  have HR := hide hres
  clear hres
  go_enter Tryd.func3, Tryd.ntmps3
  go_wp2_with fail
  refine HWR.out.mono ?_
  rintro e w1 ⟨rfl, hb1⟩
  have hz1 := hb1.size
  cases res with
  | some jc =>
    obtain ⟨j, cd⟩ := jc
    simp only [wrgV]
    go_wp2_with fail
    refine (works32_ok _).mono ?_
    rintro e w2 ⟨rfl, hc2⟩
    have hb2 := hb1.trans (hc2.mono hz1)
    have hj : (0 : Int) ≤ j := by omega
    by_cases n1 : (40 : Int) < ls.length
    · go_wp2_with fail
      refine (works32_ok _).mono ?_
      rintro e w9 ⟨rfl, hc9⟩
      go_wp2
      go_ret
      exact ⟨rfl, hb2.trans (hc9.mono hb2.size)⟩
    · by_cases n2 : ls.length = 0
      · have t1 : ((ls.length : Int) == 0) = true := by rw [n2]; rfl
        go_wp2_with fail
        refine (works32_ok _).mono ?_
        rintro e w9 ⟨rfl, hc9⟩
        go_wp2
        go_ret
        exact ⟨rfl, hb2.trans (hc9.mono hb2.size)⟩
      · have t1 : ((ls.length : Int) == 0) = false := by rw [beq_eq_false_iff_ne]; omega
        go_wp2_with fail
        refine (works32_ok _).mono ?_
        rintro e w9 ⟨rfl, hc9⟩
        go_wp2
        go_ret
        exact ⟨rfl, hb2.trans (hc9.mono hb2.size)⟩
  | none =>
    simp only [wrgV]
    go_wp2_with fail
    refine (works32_ok _).mono ?_
    rintro e w2 ⟨rfl, hc2⟩
    have hb2 := hb1.trans (hc2.mono hz1)
    have hz2 := hb2.size
    by_cases n1 : (40 : Int) < ls.length
    · go_wp2_with fail
      refine (works32_ok _).mono ?_
      rintro e w9 ⟨rfl, hc9⟩
      go_wp2
      go_ret
      exact ⟨rfl, hb2.trans (hc9.mono hb2.size)⟩
    · by_cases n2 : ls.length = 0
      · have t1 : ((ls.length : Int) == 0) = true := by rw [n2]; rfl
        go_wp2_with fail
        refine (works32_ok _).mono ?_
        rintro e w9 ⟨rfl, hc9⟩
        go_wp2
        go_ret
        exact ⟨rfl, hb2.trans (hc9.mono hb2.size)⟩
      · have t1 : ((ls.length : Int) == 0) = false := by rw [beq_eq_false_iff_ne]; omega
        by_cases n3 : pl.length = 0
        · have t2 : ((pl.length : Int) == 0) = true := by rw [n3]; rfl
          go_wp2_with fail
          refine (works32_ok _).mono ?_
          rintro e w9 ⟨rfl, hc9⟩
          go_wp2
          go_ret
          exact ⟨rfl, hb2.trans (hc9.mono hb2.size)⟩
        · have t2 : ((pl.length : Int) == 0) = false := by rw [beq_eq_false_iff_ne]; omega
          by_cases n4 : (60 : Int) < pl.length
          · go_wp2_with fail
            refine (works32_ok _).mono ?_
            rintro e w9 ⟨rfl, hc9⟩
            go_wp2
            go_ret
            exact ⟨rfl, hb2.trans (hc9.mono hb2.size)⟩
          · have HSP := hide (rSound_ok _ _ _ pl w2 (HY.out w2 hb2) (by omega))
            go_wp2_with fail
            refine HSP.out.mono ?_
            cases hsp : soundB pl with
            | false =>
              rintro e w3 ⟨rfl, hc3⟩
              have hb3 := hb2.trans (hc3.mono hz2)
              go_wp2_with fail
              refine (works32_ok _).mono ?_
              rintro e w9 ⟨rfl, hc9⟩
              go_wp2
              go_ret
              exact ⟨rfl, hb3.trans (hc9.mono hb3.size)⟩
            | true =>
              rintro e w3 ⟨rfl, hc3⟩
              have hb3 := hb2.trans (hc3.mono hz2)
              have hz3 := hb3.size
              have h0 : 0 < ls.length := by omega
              have hkn : (0 : Int) < ls.length := by omega
              have HGO := hide (GOf_none _ _ ls w3 HR.out (HX.out w3 hb3) h0 (by omega))
              have HSPL := hide hsp
              clear hsp hc3 hb1 hb2 hc2 HWR HSP hz1 hz2
              go_wp2_with fail
              refine HGO.out.mono ?_
              rintro e w4 ⟨gv, qs, rfl, hgr, hqs, hc4⟩
              have hgr := hgr.down hz3
              have hb4 := hb3.trans (hc4.mono hz3)
              have hz4 := hb4.size
              have HRO := hide (ROf_ok _ _ _ pl w4 (HY.out w4 hb4) (by omega) (by omega) HSPL.out)
              clear hc4 HGO
              obtain ⟨gg, hge, hgg, hgl⟩ : ∃ gg, gv = .pointer (some ⟨gg, 0, none⟩) ∧ w.heap.size ≤ gg ∧ gg < w4.heap.size := by
                obtain ⟨g, s, e, h1, h2, _⟩ := hgr
                exact ⟨g, e, h1, h2.lt⟩
              subst hge
              have HLT4 := hide (fun p (hp : p ∈ qs) => (by
                obtain ⟨_, _, _, _, _, _, h4⟩ := hgr
                obtain ⟨g, e, _, h⟩ := h4.lt p hp
                exact ⟨g, e, h⟩ : ∃ g, p.1 = .pointer (some ⟨g, 0, none⟩) ∧ g < w4.heap.size))
              go_wp2_with fail
              refine HRO.out.mono ?_
              rintro e w5 ⟨rv, rfl, hr, hc5⟩
              have hgr := hgr.below hc5
              have hb5 := hb4.trans (hc5.mono hz4)
              have hz5 := hb5.size
              obtain ⟨gr, hre, hgrb, hgrl⟩ := hr.lt
              subst hre
              have hlt4 : ∀ p ∈ qs, ∃ g, p.1 = .pointer (some ⟨g, 0, none⟩) ∧ g < w5.heap.size := fun p hp => by
                obtain ⟨_, _, _, _, _, _, h4⟩ := hgr
                obtain ⟨g, e, _, h⟩ := h4.lt p hp
                exact ⟨g, e, h⟩
              have hne4 : ∀ p ∈ qs, p.1 ≠ .pointer (some ⟨gr, 0, none⟩) := fun p hp e => by
                obtain ⟨g, e2, h⟩ := HLT4.out p hp
                rw [e2] at e
                injection e with e
                injection e with e
                injection e with e
                omega
              have HNE := hide hne4
              have HLT := hide hlt4
              have hql : qs.length = ls.length := by rw [← hqs, List.length_map]
              have HQS := hide hqs
              have HALL := hide (right_rows HR.out hqs)
              have HCP := hide (GCopy_ok _ _ qs w5 hgr (by omega) HALL.out)
              clear hc5 HRO hne4 hlt4 hqs
              go_wp2_with fail
              refine HCP.out.mono ?_
              rintro e w6 ⟨cv, cr, rfl, hcp, hcq, hc6⟩
              rw [HQS.out] at hcq
              have HGL := hide ((hgr.glt).below hgr hc6)
              have hgr := hgr.below hc6
              have hr := hr.below hc6
              have hb6 := hb5.trans (hc6.mono hz5)
              have hz6 := hb6.size
              have HALLC := hide (right_rows HR.out hcq)
              have HCQL : Hid (cr.length = ls.length) := hide (by rw [← hcq, List.length_map])
              have HCQ := hide hcq
              obtain ⟨gc, hce⟩ : ∃ gc, cv = .pointer (some ⟨gc, 0, none⟩) := by
                obtain ⟨g, s, e, _⟩ := hcp
                exact ⟨g, e⟩
              subst hce
              have hcpn : ∀ p ∈ cr, ∃ g, p.1 = .pointer (some ⟨g, 0, none⟩) ∧ w5.heap.size ≤ g := fun p hp => by
                obtain ⟨_, _, _, _, _, _, h4⟩ := hcp
                obtain ⟨g, e, h, _⟩ := h4.lt p hp
                exact ⟨g, e, h⟩
              have HCPN := hide hcpn
              have HPL0 : Hid (0 < pl.length) := hide (by omega)
              clear hc6 HCP hcq hcpn
              obtain ⟨ab, off, v0, hA0, _, q02, q03, hv0⟩ := line_at hx.slb h0
              subst hA0
              obtain ⟨A0, c0, rfl, _, _, _⟩ := hv0.open_
              have hab := World.block_lt_of_cell? _ _ q02
              simp only [Nat.zero_mul, Nat.add_zero] at q02 hab
              have hrl := right_lines HR.out
              have hl0 := (hrl ls[0] (List.getElem_mem _)).2.2.2
              obtain ⟨n0, hn0⟩ : ∃ n0, head0 ls = n0 := ⟨_, rfl⟩
              rw [hl0, hn0] at q02
              have q2 := (hb6.cell (p := ⟨ab, off, none⟩) hab).trans q02
              obtain ⟨ls0, hls0, hsl0, hcl0⟩ := slc_lines hx
              have HSL := hide (fun W (h : Below w.heap.size w W) => (hsl0.flat_keep RSl.flat (Keep.below h) : Slc RSl (fun b => b < w.heap.size) (fun _ => False) W _ _))
              have HCL0 := hide (fun W (h : Below w.heap.size w W) p (hp : p ∈ ls0) => (((hcl0 p hp).mono (Keep.below h) (Keep.below h)).mono (Keep.lt _ _) (Keep.lt _ _) : Slc RCell (fun b => b < W.heap.size) (fun b => b < W.heap.size) W p.1 p.2.1))
              have hl0l : ls0.length = ls.length := by rw [← hls0, List.length_map]
              have HLS0 := hide hls0
              have HLK := hide (fun k (hk : k < qs.length) => (by
                have hm : qs[k].2 ∈ ls := by rw [← HQS.out]; exact List.mem_map_of_mem (List.getElem_mem _)
                rw [(hrl _ hm).2.2.2, hn0] : qs[k].2.1.length = n0))
              clear q02 q03 hv0 hrl hl0 hn0 hsl0 hcl0 hls0
              by_cases hin : 0 ≤ i ∧ i < ls.length
              · obtain ⟨hi0, hi1⟩ := hin
                obtain ⟨k, rfl⟩ := Int.eq_ofNat_of_zero_le hi0
                have hk : k < qs.length := by omega
                have hwk := HLK.out k hk
                have hRW := GRow_in _ _ qs k w6 hgr hk
                obtain ⟨gk, hgk, _, _⟩ : ∃ gk, qs[k].1 = .pointer (some ⟨gk, 0, none⟩) ∧ w.heap.size ≤ gk ∧ gk < w6.heap.size := by
                  obtain ⟨_, _, _, _, _, _, h4⟩ := hgr
                  exact h4.lt qs[k] (List.getElem_mem _)
                rw [hgk] at hRW
                have HRW1 := hide hRW
                clear hRW
                by_cases hf : pl.length = n0
                · have t5 : ((pl.length : Int) == n0) = true := by rw [hf]; simp
                  have HSET := hide (GSet2_in w5.heap.size _ _ _ _ pl false k qs w6 hgr HGL.out hk hr (Nat.le_trans hz4 (Nat.le_refl _)) HNE.out (by rw [hwk]; exact hf))
                  clear hf hwk
                  go_wp2_with fail
                  refine HRW1.out.mono ?_
                  rintro e w' ⟨rfl, rfl⟩
                  go_wp2_with fail
                  refine HSET.out.mono ?_
                  rintro e w7 ⟨rfl, hg7, hst7, G7, hG7, hgb7, hbr7⟩
                  have hbP := hb6.trans (hst7.below hz6)
                  have hcpP := hcp.gb hgb7 hbr7 hG7
                  have hrP := hr.step hst7 (by decide) (by decide) (by decide)
                  have hgP := hg7
                  clear hgb7 hbr7 hG7 hst7 hg7 hgr hcp hr HRW1 HSET HGL
                  go_wp2_with fail
                  refine (GSet_none _ _ w7).mono ?_
                  rintro e w' ⟨rfl, rfl⟩
                  go_upto_region 13 with fail
                  have hbW := hbP.alloc hbP.size (.cells #[] 38)
                  have hcW := (Below.refl w7.heap.size w7).alloc (Nat.le_refl _) (.cells #[] 38)
                  have hgW := hgP.below hcW
                  have hcpW := hcpP.below hcW
                  have hrW := hrP.below hcW
                  have hown0 : Own RSl 38 [] w.heap.size (w7.alloc (.cells #[] 38)) (.slice (some ⟨w7.heap.size, 0, none⟩) 0 0) [] := Own.lit (R := RSl) (l := []) (xs := []) (by simp) rfl hbP.size rfl (by simp [maxLen])
                  have hslW := HSL.out _ hbW
                  have hl0m : (ls0.map slB).length = ls.length := by rw [List.length_map]; omega
                  clear hcW hgP hcpP hrP hbP
                  go_wp2_with (at_builtin; refine wpList_appg rfl (.tmp 111) (.tmp 112) 22 rfl RSl 38 [] w.heap.size 32 _ Tryd.underlying22 line_info rfl (by decide) (by decide) _ _ rfl hown0 _ _ _ _ rfl hslW (fun _ h => False.elim h) (by simp only [List.length_nil, hl0m]; omega) hbW.size ?_; intro v9 w9 hv9 hst9 hgx9 ho9; rw [List.nil_append] at hv9; have hb9 := hbW.trans (hst9.below hbW.size); have hg9 := hgW.step hst9 (by decide) (by decide) (by decide) (by decide) (by decide); have hcp9 := hcpW.step hst9 (by decide) (by decide) (by decide) (by decide) (by decide); have hr9 := hrW.step hst9 (by decide) (by decide) (by decide); obtain ⟨G9, cap9, hv9e, _, _, hcap9, c0, c1, fz, ho9⟩ := ownl_at hv9 (i := k) (by omega); rw [hl0m] at hv9e hcap9; subst hv9e; rename_i hG9a hG9b; have f0 := fz (k * 2); have f1 := fz (k * 2 + 1); clear hst9 hgx9 hown0 hslW hbW hgW hcpW hrW)
                  obtain ⟨hput, hstp⟩ := ownl_put hv9 (i := k) (by rw [List.length_map]; omega) (a := .slice B pl.length cq) rfl false
                  have hbA := hb9.trans (hstp.below hb9.size)
                  have hgA := hg9.step hstp (by decide) (by decide) (by decide) (by decide) (by decide)
                  have hcpA := hcp9.step hstp (by decide) (by decide) (by decide) (by decide) (by decide)
                  have hrA := hr9.step hstp (by decide) (by decide) (by decide)
                  clear hb9 hg9 hcp9 hr9 hstp c0 c1 fz
                  generalize (w9.setCell ⟨G9, k * 2, none⟩ (.slice B pl.length cq)).setCell ⟨G9, k * 2 + 1, none⟩ (.bool false) = wA at *
                  have hkk : k < (qs.set k ((.pointer (some ⟨gr, 0, none⟩) : Value), pl, false)).length := by rw [List.length_set]; exact hk
                  have hRW2 := GRow_in _ _ (qs.set k ((.pointer (some ⟨gr, 0, none⟩) : Value), pl, false)) k wA hgA hkk
                  rw [List.getElem_set_self] at hRW2
                  have HRW2 := hide hRW2
                  clear hRW2
                  obtain ⟨jr, hjr⟩ := Option.isSome_iff_exists.1 rowT
                  have hpp := fun w => Lib.run_neq_ptr_same (P := Tryd.prog) (w := w) (tp := 33) ⟨gr, 0, none⟩ Tryd.underlying33 hjr
                  go_wp2_with fail
                  refine HRW2.out.mono ?_
                  rintro e w' ⟨rfl, rfl⟩
                  go_wp2_with fail
                  refine HRW2.out.mono ?_
                  rintro e w' ⟨rfl, rfl⟩
                  clear hpp hjr
                  go_wp2_with fail
                  refine (GoOn2_ok _ _ pl false true wA hrA).mono ?_
                  rintro e wB ⟨⟨re, rfl⟩, hwB⟩
                  have hwB2 := hwB gr rfl
                  clear hwB
                  subst hwB2
                  obtain ⟨gx, sx, hgx, hbx, hmk⟩ := hrA.mark (on := true)
                  injection hgx with hgx
                  injection hgx with hgx
                  injection hgx with hgx
                  subst hgx
                  have hstB : Step w.heap.size [83] wA (wA.setCell ⟨gr, 1, none⟩ (.bool true)) := (Step.refl w.heap.size [83] wA).setCell (p := ⟨gr, 1, none⟩) (Nat.le_trans hz4 hgrb) hbx.bears _
                  have hgB := hgA.mark (i := k) (g := gr) (on := true) hkk (by rw [List.getElem_set_self])
                  have hcpB := hcpA.far (on := .bool true) hbx (fun p hp e => by
                    obtain ⟨g, e2, h⟩ := HCPN.out p hp
                    rw [e2] at e
                    injection e with e
                    injection e with e
                    injection e with e
                    omega)
                  have hputB := hput.flat_step RSl.flat hstB (by decide)
                  have hbB := hbA.trans (hstB.below hbA.size)
                  rw [wantA, rowsA] at hgB
                  obtain ⟨G9', cap9', hv9e, _, _, _, c0, c1, fz, _⟩ := ownl_at hputB (i := k) (by simp only [List.length_set, List.length_map]; omega)
                  injection hv9e with e9 e9b e9c
                  injection e9 with e9
                  injection e9 with e9
                  subst e9
                  have f1 := fz (k * 2 + 1)
                  obtain ⟨bx, c1⟩ : ∃ bx, World.cell? _ ⟨G9, k * 2 + 1, none⟩ = some (.bool bx) := ⟨_, c1⟩
                  clear e9b e9c c0 fz hput hgA hcpA hrA hbx hbA HRW2
                  go_upto_region 22 with fail
                  obtain ⟨hput2, hstp2⟩ := ownl_mark hputB (i := k) (by simp only [List.length_set, List.length_map]; omega) true
                  have hbT := hbB.trans (hstp2.below hbB.size)
                  have hgT := hgB.step hstp2 (by decide) (by decide) (by decide) (by decide) (by decide)
                  have hcpT := (hcpB.step hstp2 (by decide) (by decide) (by decide) (by decide) (by decide)).down hz5
                  have hmkT := hmk.step hstp2 (by decide) (by decide) (by decide)
                  clear hbB hgB hcpB hmk hstp2 hputB c1 f1 hstB
                  generalize World.setCell _ ⟨G9, k * 2 + 1, none⟩ (.bool true) = wT at *
                  have HWL := hide (wantB ls0 k (.slice B pl.length cq) pl (by omega))
                  have HEQT : Hid ((ls0.set k ((.slice B pl.length cq : Value), (pl, true))).map Prod.snd = (qs.set k ((.pointer (some ⟨gr, 0, none⟩) : Value), pl, true)).map Prod.snd) := hide (by rw [List.map_set, List.map_set, HLS0.out, HQS.out])
                  rw [HWL.out] at hput2
                  have hwaT := lines_slc (hput2.slc.flat_any RSl.flat (fun b => b < wT.heap.size) |>.mono (So' := fun b => b < wT.heap.size) (Keep.lt _ _) (Keep.refl _ _)) (fun p hp => (by
                    rcases List.mem_or_eq_of_mem_set hp with hp | rfl
                    · exact HCL0.out wT hbT p hp
                    · exact HY.out wT hbT))
                  have hrT := hmkT
                  have HALLT : Hid (∀ p ∈ qs.set k ((.pointer (some ⟨gr, 0, none⟩) : Value), pl, true), p.2.1.length ≤ 100000 ∧ ∀ c ∈ p.2.1, c.2.length ≤ 16) := hide (fun p hp => by
                    rcases List.mem_or_eq_of_mem_set hp with hp | rfl
                    · exact HALL.out p hp
                    · exact ⟨by simp only; omega, sound_len HSPL.out⟩)
                  have hqlT : (qs.set k ((.pointer (some ⟨gr, 0, none⟩) : Value), pl, true)).length ≤ 100000 := by rw [List.length_set]; omega
                  clear hput2
                  have HLG := hide (GLines_ok _ _ _ _ hgT (by omega) HALLT.out)
                  go_wp2_with fail
                  refine HLG.out.mono ?_
                  rintro e wU ⟨s1, rfl, hs1, hcU⟩
                  have hbU := hbT.trans (hcU.mono hbT.size)
                  have hcpU := hcpT.below hcU
                  have hrU := hrT.below hcU
                  have hwaU := hwaT.lt_up2 hcU
                  rw [HEQT.out] at hwaU
                  obtain ⟨L, hL⟩ : ∃ L, L = List.map Prod.snd (qs.set k ((.pointer (some ⟨gr, 0, none⟩) : Value), pl, true)) := ⟨_, rfl⟩
                  rw [← hL] at hs1 hwaU
                  clear hL
                  obtain ⟨A1, c1, rfl, _, _, _⟩ := hs1.open_
                  have HS1 := hide (rSame32_eq _ _ _ _ _ _ _ wU hs1 hwaU)
                  clear hwaT hcpT hrT hcU HLG hwaU
                  go_wp2_with fail
                  refine HS1.out.mono ?_
                  rintro e wV ⟨rfl, q, rfl⟩
                  have hbV := below_drewN hbU q
                  have hcpV : GridP w.heap.size (wU.drewN q) (.pointer (some ⟨gc, 0, none⟩)) cr := hcpU.below (below_drewN (Below.refl _ _) q)
                  have hrV := hrU.drewN q
                  clear HS1 hs1 hcpU hrU
                  generalize wU.drewN q = wV at *
                  have HLC := hide (GLines_ok _ _ _ _ hcpV (by have := HCQL.out; omega) HALLC.out)
                  go_wp2_with fail
                  refine HLC.out.mono ?_
                  rintro e wX ⟨s2, rfl, hs2, hcX⟩
                  have hbX := hbV.trans (hcX.mono hbV.size)
                  have hrX := hrV.below hcX
                  rw [HCQ.out] at hs2
                  obtain ⟨A2, c2, rfl, _, _, _⟩ := hs2.open_
                  have HS2 := hide (rSame32_eq _ _ _ _ _ _ ls wX hs2 (HX.out _ hbX))
                  clear hcX HLC hs2 hrV
                  go_wp2_with fail
                  refine HS2.out.mono ?_
                  rintro e wY ⟨rfl, q, rfl⟩
                  have hbY := below_drewN hbX q
                  have hrY := hrX.drewN q
                  clear HS2 hrX
                  generalize wX.drewN q = wY at *
                  have HST := hide (GSet_out 0 _ (.pointer none) _ pl _ 0 wY (GRow_nil 0 wY) hrY HPL0.out)
                  go_wp2_with fail
                  refine (GWide_nil wY).mono ?_
                  rintro e w' ⟨rfl, rfl⟩
                  go_wp2_with fail
                  refine (GHigh_nil wY).mono ?_
                  rintro e w' ⟨rfl, rfl⟩
                  go_wp2_with fail
                  refine (GRow_nil 0 wY).mono ?_
                  rintro e w' ⟨rfl, rfl⟩
                  go_wp2_with fail
                  refine HST.out.mono ?_
                  rintro e w' ⟨rfl, rfl⟩
                  go_wp2_with fail
                  refine (GLines_nil wY).mono ?_
                  rintro e w' ⟨rfl, rfl⟩
                  go_wp2_with fail
                  refine (GCopy_nil wY).mono ?_
                  rintro e w' ⟨rfl, rfl⟩
                  go_wp2
                  go_ret
                  exact ⟨rfl, hbY⟩
                · have t5 : ((pl.length : Int) == n0) = false := by rw [beq_eq_false_iff_ne]; omega
                  have HSET := hide (GSet_in _ _ _ _ pl false k qs w6 hgr hk hr (Nat.le_trans hz4 (Nat.le_refl _)) HNE.out)
                  have HF := hide (show pl.length ≠ qs[k].2.1.length by rw [hwk]; exact hf)
                  clear hf hwk
                  go_wp2_with fail
                  refine HRW1.out.mono ?_
                  rintro e w' ⟨rfl, rfl⟩
                  go_wp2_with fail
                  refine HSET.out.mono ?_
                  rintro e w7 ⟨hA7, _⟩
                  obtain ⟨rfl, rfl⟩ := hA7 HF.out
                  have hbP := hb6
                  have hcpP := hcp
                  have hrP := hr
                  have hgP := hgr
                  clear hA7 hgr hcp hr HRW1 HSET HGL
                  go_wp2_with fail
                  refine (GSet_none _ _ w6).mono ?_
                  rintro e w' ⟨rfl, rfl⟩
                  go_upto_region 13 with fail
                  have hbW := hbP.alloc hbP.size (.cells #[] 38)
                  have hcW := (Below.refl w6.heap.size w6).alloc (Nat.le_refl _) (.cells #[] 38)
                  have hgW := hgP.below hcW
                  have hcpW := hcpP.below hcW
                  have hrW := hrP.below hcW
                  have hown0 : Own RSl 38 [] w.heap.size (w6.alloc (.cells #[] 38)) (.slice (some ⟨w6.heap.size, 0, none⟩) 0 0) [] := Own.lit (R := RSl) (l := []) (xs := []) (by simp) rfl hbP.size rfl (by simp [maxLen])
                  have hslW := HSL.out _ hbW
                  have hl0m : (ls0.map slB).length = ls.length := by rw [List.length_map]; omega
                  clear hcW hgP hcpP hrP hbP
                  go_wp2_with (at_builtin; refine wpList_appg rfl (.tmp 111) (.tmp 112) 22 rfl RSl 38 [] w.heap.size 32 _ Tryd.underlying22 line_info rfl (by decide) (by decide) _ _ rfl hown0 _ _ _ _ rfl hslW (fun _ h => False.elim h) (by simp only [List.length_nil, hl0m]; omega) hbW.size ?_; intro v9 w9 hv9 hst9 hgx9 ho9; rw [List.nil_append] at hv9; have hb9 := hbW.trans (hst9.below hbW.size); have hg9 := hgW.step hst9 (by decide) (by decide) (by decide) (by decide) (by decide); have hcp9 := hcpW.step hst9 (by decide) (by decide) (by decide) (by decide) (by decide); have hr9 := hrW.step hst9 (by decide) (by decide) (by decide); obtain ⟨G9, cap9, hv9e, _, _, hcap9, c0, c1, fz, ho9⟩ := ownl_at hv9 (i := k) (by omega); rw [hl0m] at hv9e hcap9; subst hv9e; rename_i hG9a hG9b; have f0 := fz (k * 2); have f1 := fz (k * 2 + 1); clear hst9 hgx9 hown0 hslW hbW hgW hcpW hrW)
                  have hRW2 := GRow_in _ _ qs k w9 hg9 hk
                  rw [hgk] at hRW2
                  have HRW2 := hide hRW2
                  have hrk : RowIs w.heap.size w9 qs[k].1 qs[k].2.1 qs[k].2.2 := by
                    obtain ⟨_, _, _, _, _, _, h4⟩ := hg9
                    exact h4.row qs[k] (List.getElem_mem _)
                  rw [hgk] at hrk
                  clear hRW2 c0 c1 fz f0 f1
                  go_wp2_with fail
                  refine HRW2.out.mono ?_
                  rintro e w' ⟨rfl, rfl⟩
                  go_wp2_with fail
                  refine (GoOn2_ok _ _ _ _ true w9 hrk).mono ?_
                  rintro e wB ⟨⟨re, rfl⟩, hwB⟩
                  have hwB2 := hwB gk rfl
                  clear hwB
                  subst hwB2
                  obtain ⟨gx, sx, hgx, hbx, _⟩ := hrk.mark (on := true)
                  injection hgx with hgx
                  injection hgx with hgx
                  injection hgx with hgx
                  subst hgx
                  obtain ⟨hgkl, hgk5⟩ : w.heap.size ≤ gk ∧ gk < w4.heap.size := by
                    obtain ⟨g, e, h⟩ := HLT4.out qs[k] (List.getElem_mem _)
                    rw [hgk] at e
                    injection e with e
                    injection e with e
                    injection e with e
                    exact ⟨by assumption, by omega⟩
                  have hstB : Step w.heap.size [83] w9 (w9.setCell ⟨gk, 1, none⟩ (.bool true)) := (Step.refl w.heap.size [83] w9).setCell (p := ⟨gk, 1, none⟩) hgkl hbx.bears _
                  have hgB := hg9.mark (i := k) (g := gk) (on := true) hk hgk
                  have hcpB := hcp9.far (on := .bool true) hbx (fun p hp e => by
                    obtain ⟨g, e2, h⟩ := HCPN.out p hp
                    rw [e2] at e
                    injection e with e
                    injection e with e
                    injection e with e
                    omega)
                  have hmk := hr9.far (on := .bool true) hbx (fun e => by
                    injection e with e
                    injection e with e
                    injection e with e
                    omega)
                  have hputB := hv9.flat_step RSl.flat hstB (by decide)
                  have hbB := hb9.trans (hstB.below hb9.size)
                  have hput := hv9
                  have hgA := hg9
                  have hcpA := hcp9
                  have hrA := hr9
                  have hbA := hb9
                  clear hv9 hg9 hcp9 hr9 hb9 hrk
                  obtain ⟨G9', cap9', hv9e, _, _, _, c0, c1, fz, _⟩ := ownl_at hputB (i := k) (by simp only [List.length_set, List.length_map]; omega)
                  injection hv9e with e9 e9b e9c
                  injection e9 with e9
                  injection e9 with e9
                  subst e9
                  have f1 := fz (k * 2 + 1)
                  obtain ⟨bx, c1⟩ : ∃ bx, World.cell? _ ⟨G9, k * 2 + 1, none⟩ = some (.bool bx) := ⟨_, c1⟩
                  clear e9b e9c c0 fz hput hgA hcpA hrA hbx hbA HRW2
                  go_upto_region 22 with fail
                  obtain ⟨hput2, hstp2⟩ := ownl_mark hputB (i := k) (by simp only [List.length_set, List.length_map]; omega) true
                  have hbT := hbB.trans (hstp2.below hbB.size)
                  have hgT := hgB.step hstp2 (by decide) (by decide) (by decide) (by decide) (by decide)
                  have hcpT := (hcpB.step hstp2 (by decide) (by decide) (by decide) (by decide) (by decide)).down hz5
                  have hmkT := hmk.step hstp2 (by decide) (by decide) (by decide)
                  clear hbB hgB hcpB hmk hstp2 hputB c1 f1 hstB
                  generalize World.setCell _ ⟨G9, k * 2 + 1, none⟩ (.bool true) = wT at *
                  have HWL := hide (wantC ls0 k (by omega))
                  have hlk2 : (ls0[k]'(by omega)).2 = qs[k].2 := snd_at HLS0.out HQS.out (by omega) hk
                  have HEQT : Hid ((ls0.set k ((ls0[k]'(by omega)).1, ((ls0[k]'(by omega)).2.1, true))).map Prod.snd = (qs.set k (qs[k].1, qs[k].2.1, true)).map Prod.snd) := hide (by rw [List.map_set, List.map_set, HLS0.out, HQS.out, hlk2])
                  rw [HWL.out] at hput2
                  have hwaT := lines_slc (hput2.slc.flat_any RSl.flat (fun b => b < wT.heap.size) |>.mono (So' := fun b => b < wT.heap.size) (Keep.lt _ _) (Keep.refl _ _)) (fun p hp => (by
                    rcases List.mem_or_eq_of_mem_set hp with hp | rfl
                    · exact HCL0.out wT hbT p hp
                    · exact HCL0.out wT hbT (ls0[k]'(by omega)) (List.getElem_mem _)))
                  have hrT := hmkT
                  have HALLT : Hid (∀ p ∈ qs.set k (qs[k].1, qs[k].2.1, true), p.2.1.length ≤ 100000 ∧ ∀ c ∈ p.2.1, c.2.length ≤ 16) := hide (fun p hp => by
                    rcases List.mem_or_eq_of_mem_set hp with hp | rfl
                    · exact HALL.out p hp
                    · exact HALL.out qs[k] (List.getElem_mem _))
                  have hqlT : (qs.set k (qs[k].1, qs[k].2.1, true)).length ≤ 100000 := by rw [List.length_set]; omega
                  clear hput2 hlk2
                  have HLG := hide (GLines_ok _ _ _ _ hgT (by omega) HALLT.out)
                  go_wp2_with fail
                  refine HLG.out.mono ?_
                  rintro e wU ⟨s1, rfl, hs1, hcU⟩
                  have hbU := hbT.trans (hcU.mono hbT.size)
                  have hcpU := hcpT.below hcU
                  have hrU := hrT.below hcU
                  have hwaU := hwaT.lt_up2 hcU
                  rw [HEQT.out] at hwaU
                  obtain ⟨L, hL⟩ : ∃ L, L = List.map Prod.snd (qs.set k (qs[k].1, qs[k].2.1, true)) := ⟨_, rfl⟩
                  rw [← hL] at hs1 hwaU
                  clear hL
                  obtain ⟨A1, c1, rfl, _, _, _⟩ := hs1.open_
                  have HS1 := hide (rSame32_eq _ _ _ _ _ _ _ wU hs1 hwaU)
                  clear hwaT hcpT hrT hcU HLG hwaU
                  go_wp2_with fail
                  refine HS1.out.mono ?_
                  rintro e wV ⟨rfl, q, rfl⟩
                  have hbV := below_drewN hbU q
                  have hcpV : GridP w.heap.size (wU.drewN q) (.pointer (some ⟨gc, 0, none⟩)) cr := hcpU.below (below_drewN (Below.refl _ _) q)
                  have hrV := hrU.drewN q
                  clear HS1 hs1 hcpU hrU
                  generalize wU.drewN q = wV at *
                  have HLC := hide (GLines_ok _ _ _ _ hcpV (by have := HCQL.out; omega) HALLC.out)
                  go_wp2_with fail
                  refine HLC.out.mono ?_
                  rintro e wX ⟨s2, rfl, hs2, hcX⟩
                  have hbX := hbV.trans (hcX.mono hbV.size)
                  have hrX := hrV.below hcX
                  rw [HCQ.out] at hs2
                  obtain ⟨A2, c2, rfl, _, _, _⟩ := hs2.open_
                  have HS2 := hide (rSame32_eq _ _ _ _ _ _ ls wX hs2 (HX.out _ hbX))
                  clear hcX HLC hs2 hrV
                  go_wp2_with fail
                  refine HS2.out.mono ?_
                  rintro e wY ⟨rfl, q, rfl⟩
                  have hbY := below_drewN hbX q
                  have hrY := hrX.drewN q
                  clear HS2 hrX
                  generalize wX.drewN q = wY at *
                  have HST := hide (GSet_out 0 _ (.pointer none) _ pl _ 0 wY (GRow_nil 0 wY) hrY HPL0.out)
                  go_wp2_with fail
                  refine (GWide_nil wY).mono ?_
                  rintro e w' ⟨rfl, rfl⟩
                  go_wp2_with fail
                  refine (GHigh_nil wY).mono ?_
                  rintro e w' ⟨rfl, rfl⟩
                  go_wp2_with fail
                  refine (GRow_nil 0 wY).mono ?_
                  rintro e w' ⟨rfl, rfl⟩
                  go_wp2_with fail
                  refine HST.out.mono ?_
                  rintro e w' ⟨rfl, rfl⟩
                  go_wp2_with fail
                  refine (GLines_nil wY).mono ?_
                  rintro e w' ⟨rfl, rfl⟩
                  go_wp2_with fail
                  refine (GCopy_nil wY).mono ?_
                  rintro e w' ⟨rfl, rfl⟩
                  go_wp2
                  go_ret
                  exact ⟨rfl, hbY⟩
              · have HROUT := hide (GRow_out _ _ qs i w6 hgr (by rw [hql]; exact hin))
                have HSET := hide (GSet_out w.heap.size _ (.pointer (some ⟨gg, 0, none⟩)) (.pointer (some ⟨gr, 0, none⟩)) pl false i w6 HROUT.out hr HPL0.out)
                go_upto_region 9 with fail
                go_cut [14] from 73 to 80 (fun s wx => s = .bool false ∧ w6 = wx)
                case first =>
                  by_cases hi0 : 0 ≤ i
                  · have hi1 : ¬ i < ls.length := fun h => hin ⟨hi0, h⟩
                    clear hin
                    go_wp2
                    go_meet
                    exact ⟨rfl, rfl⟩
                  · clear hin
                    go_wp2
                    go_meet
                    exact ⟨rfl, rfl⟩
                case rest =>
                  obtain ⟨rfl, rfl⟩ := hcut
                  clear hin
                  go_wp2_with fail
                  refine HROUT.out.mono ?_
                  rintro e w' ⟨rfl, rfl⟩
                  go_wp2_with fail
                  refine HSET.out.mono ?_
                  rintro e w' ⟨rfl, rfl⟩
                  have hbP := hb6
                  have hcpP := hcp
                  have hrP := hr
                  have hgP := hgr
                  clear hgr hcp hr HROUT HSET HGL
                  go_wp2_with fail
                  refine (GSet_none _ _ w6).mono ?_
                  rintro e w' ⟨rfl, rfl⟩
                  go_upto_region 13 with fail
                  have hbW := hbP.alloc hbP.size (.cells #[] 38)
                  have hcW := (Below.refl w6.heap.size w6).alloc (Nat.le_refl _) (.cells #[] 38)
                  have hgW := hgP.below hcW
                  have hcpW := hcpP.below hcW
                  have hrW := hrP.below hcW
                  have hown0 : Own RSl 38 [] w.heap.size (w6.alloc (.cells #[] 38)) (.slice (some ⟨w6.heap.size, 0, none⟩) 0 0) [] := Own.lit (R := RSl) (l := []) (xs := []) (by simp) rfl hbP.size rfl (by simp [maxLen])
                  have hslW := HSL.out _ hbW
                  have hl0m : (ls0.map slB).length = ls.length := by rw [List.length_map]; omega
                  clear hcW hgP hcpP hrP hbP
                  go_wp2_with (at_builtin; refine wpList_appg rfl (.tmp 111) (.tmp 112) 22 rfl RSl 38 [] w.heap.size 32 _ Tryd.underlying22 line_info rfl (by decide) (by decide) _ _ rfl hown0 _ _ _ _ rfl hslW (fun _ h => False.elim h) (by simp only [List.length_nil, hl0m]; omega) hbW.size ?_; intro v9 w9 hv9 hst9 hgx9 ho9; rw [List.nil_append] at hv9; have hb9 := hbW.trans (hst9.below hbW.size); have hg9 := hgW.step hst9 (by decide) (by decide) (by decide) (by decide) (by decide); have hcp9 := hcpW.step hst9 (by decide) (by decide) (by decide) (by decide) (by decide); have hr9 := hrW.step hst9 (by decide) (by decide) (by decide); obtain ⟨G9, cap9, hv9e, _, _, hcap9, c0, c1, fz, ho9⟩ := ownl_at hv9 (i := 0) (by omega); rw [hl0m] at hv9e hcap9; subst hv9e; rename_i hG9a hG9b; have f0 := fz (0 * 2); have f1 := fz (0 * 2 + 1); clear hst9 hgx9 hown0 hslW hbW hgW hcpW hrW)
                  have HEQT : Hid (ls0.map Prod.snd = qs.map Prod.snd) := hide (by rw [HLS0.out, HQS.out])
                  clear c0 c1 fz f0 f1
                  have hwaT := lines_slc (hv9.slc.flat_any RSl.flat (fun b => b < w9.heap.size) |>.mono (So' := fun b => b < w9.heap.size) (Keep.lt _ _) (Keep.refl _ _)) (HCL0.out w9 hb9)
                  have hrT := hr9
                  have hbT := hb9
                  have hcpT := hcp9.down hz5
                  have hgT := hg9
                  have HALLT := HALL
                  have hqlT : qs.length ≤ 100000 := by omega
                  clear hv9 hr9 hcp9 hg9
                  have HLG := hide (GLines_ok _ _ _ _ hgT (by omega) HALLT.out)
                  go_wp2_with fail
                  refine HLG.out.mono ?_
                  rintro e wU ⟨s1, rfl, hs1, hcU⟩
                  have hbU := hbT.trans (hcU.mono hbT.size)
                  have hcpU := hcpT.below hcU
                  have hrU := hrT.below hcU
                  have hwaU := hwaT.lt_up2 hcU
                  rw [HEQT.out] at hwaU
                  obtain ⟨L, hL⟩ : ∃ L, L = List.map Prod.snd (qs) := ⟨_, rfl⟩
                  rw [← hL] at hs1 hwaU
                  clear hL
                  obtain ⟨A1, c1, rfl, _, _, _⟩ := hs1.open_
                  have HS1 := hide (rSame32_eq _ _ _ _ _ _ _ wU hs1 hwaU)
                  clear hwaT hcpT hrT hcU HLG hwaU
                  go_wp2_with fail
                  refine HS1.out.mono ?_
                  rintro e wV ⟨rfl, q, rfl⟩
                  have hbV := below_drewN hbU q
                  have hcpV : GridP w.heap.size (wU.drewN q) (.pointer (some ⟨gc, 0, none⟩)) cr := hcpU.below (below_drewN (Below.refl _ _) q)
                  have hrV := hrU.drewN q
                  clear HS1 hs1 hcpU hrU
                  generalize wU.drewN q = wV at *
                  have HLC := hide (GLines_ok _ _ _ _ hcpV (by have := HCQL.out; omega) HALLC.out)
                  go_wp2_with fail
                  refine HLC.out.mono ?_
                  rintro e wX ⟨s2, rfl, hs2, hcX⟩
                  have hbX := hbV.trans (hcX.mono hbV.size)
                  have hrX := hrV.below hcX
                  rw [HCQ.out] at hs2
                  obtain ⟨A2, c2, rfl, _, _, _⟩ := hs2.open_
                  have HS2 := hide (rSame32_eq _ _ _ _ _ _ ls wX hs2 (HX.out _ hbX))
                  clear hcX HLC hs2 hrV
                  go_wp2_with fail
                  refine HS2.out.mono ?_
                  rintro e wY ⟨rfl, q, rfl⟩
                  have hbY := below_drewN hbX q
                  have hrY := hrX.drewN q
                  clear HS2 hrX
                  generalize wX.drewN q = wY at *
                  have HST := hide (GSet_out 0 _ (.pointer none) _ pl _ 0 wY (GRow_nil 0 wY) hrY HPL0.out)
                  go_wp2_with fail
                  refine (GWide_nil wY).mono ?_
                  rintro e w' ⟨rfl, rfl⟩
                  go_wp2_with fail
                  refine (GHigh_nil wY).mono ?_
                  rintro e w' ⟨rfl, rfl⟩
                  go_wp2_with fail
                  refine (GRow_nil 0 wY).mono ?_
                  rintro e w' ⟨rfl, rfl⟩
                  go_wp2_with fail
                  refine HST.out.mono ?_
                  rintro e w' ⟨rfl, rfl⟩
                  go_wp2_with fail
                  refine (GLines_nil wY).mono ?_
                  rintro e w' ⟨rfl, rfl⟩
                  go_wp2_with fail
                  refine (GCopy_nil wY).mono ?_
                  rintro e w' ⟨rfl, rfl⟩
                  go_wp2
                  go_ret
                  exact ⟨rfl, hbY⟩
end Go.Proofs.YtbkenfljknpjgaaDoor
