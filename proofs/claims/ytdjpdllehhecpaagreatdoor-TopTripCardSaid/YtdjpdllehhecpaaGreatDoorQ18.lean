import Derived.Test.YtdjpdllehhecpaaGreatDoorQ16
import Derived.Test.YtdjpdllehhecpaaGreatDoorQ03
import Derived.Deep.RegionHeld3
import Derived.RegionTactic
import Derived.ChangeAlike
import Derived.Deep.CutRange
import Derived.BigQuiet
open List renaming getElem?_toArray → zA, getElem?_cons_succ → zB, getElem?_cons_zero → zC, setIfInBounds_toArray → zD, set_cons_zero → zE, set_cons_succ → zF
namespace Go.Proofs.YtdjpdllehhecpaaGreatDoor
open Go.RowKit
set_option linter.unusedVariables false
set_option linter.unusedSimpArgs false
theorem below_drw {B : Nat} {a w : World} (h : Below B a w) : Below B a w.drew := ⟨h.os, h.tape, h.output, h.size, h.block⟩
end Go.Proofs.YtdjpdllehhecpaaGreatDoor
namespace Go.Proofs.YtdjpdllehhecpaaGreatDoor
open Go.RowKit
set_option linter.unusedVariables false
set_option linter.unusedSimpArgs false
set_option maxHeartbeats 2000000 in
theorem GLinesT_ok (base : Nat) (v : Value) (ps : List RowP) (w : World) (h : GridP base w v ps) (hn : ps.length ≤ 100000) (hall : ∀ p ∈ ps, p.2.1.length ≤ 100000 ∧ ∀ c ∈ p.2.1, c.2.length ≤ 16) :
    Calls Tryz.prog 28 #[v] w fun e w' => ∃ s, e = .returned s ∧ Slc RLine (Typed 0 [50] w') (Typed 0 [86, 21] w') w' s (ps.map Prod.snd) ∧ Below w.heap.size w w' := by
  have HH := hide (GHigh_ok base v ps w h)
  have HC := hide (fun (k : Nat) (hk : k < ps.length) W (hW : Below w.heap.size w W) => by
    have hr := h
    obtain ⟨g, s, e, h1, h2, h3, h4⟩ := hr
    exact Cells_ok base ps[k].1 ps[k].2.1 ps[k].2.2 W ((h4.row ps[k] (List.getElem_mem _)).below hW) (hall ps[k] (List.getElem_mem _)).1 (hall ps[k] (List.getElem_mem _)).2)
  have HWR := hide (fun (k : Nat) (hk : k < ps.length) W (hW : Below w.heap.size w W) => by
    have hr := h
    obtain ⟨g, s, e, h1, h2, h3, h4⟩ := hr
    exact Wrap_ok base ps[k].1 ps[k].2.1 ps[k].2.2 W ((h4.row ps[k] (List.getElem_mem _)).below hW))
  clear hall
  obtain ⟨g, s, rfl, h1, h2, h3, h4⟩ := h
  obtain ⟨A, c, rfl, _, _, _⟩ := h3.slc.open_
  have hgl := h2.lt
  have x00 := h2.cell 0
  simp only [zA, zB, zC] at x00
  rw [List.length_map] at x00
  go_enter Tryz.func28, Tryz.ntmps28
  go_wp2_with fail
  refine HH.out.mono ?_
  rintro e w1 ⟨rfl, rfl⟩
  go_wp2
  go_loopw [3, 7] (fun sv iv wr => ∃ k : Nat, k ≤ ps.length ∧ iv = .int .i64 k ∧ ∃ (qs : List (Value × LineV)), qs.map Prod.snd = (ps.map Prod.snd).take k ∧ Own RSl 50 [] w.heap.size wr sv (qs.map slB) ∧ (∀ q ∈ qs, Own2 RCell 86 [21] w.heap.size 0 wr q.1 q.2.1) ∧ Below w.heap.size w wr) (fun _ iv _ => ps.length - (intOf iv).toNat)
  case atStart => exact ⟨0, Nat.zero_le _, rfl, [], rfl, Own.nil_ _ _ _ _ _ (by simp), fun q hq => (by cases hq), Below.refl _ _⟩
  case round =>
    obtain ⟨k, hk, rfl, qs, hqs, hov, hcl, hbr⟩ := hrel
    have hzr := hbr.size
    by_cases hlt : k < ps.length
    · obtain ⟨G, cap, hA, _, hGl, hcap, x1, _⟩ := ownv_at h3 (i := k) (by simpa using hlt)
      injection hA with hA _ e3
      subst hA
      rw [List.getElem_map] at x1
      have q1 := (hbr.cell (p := ⟨G, k, none⟩) hGl).trans x1
      have q0 := (hbr.cell (p := ⟨g, 0, none⟩) hgl).trans x00
      obtain ⟨gr, hpe, _, _⟩ := h4.lt ps[k] (List.getElem_mem _)
      have hC := HC.out k hlt
      have hWp := HWR.out k hlt
      rw [hpe] at q1 hC hWp x1
      obtain ⟨pl, hpl⟩ : ∃ pl, ps[k].2 = pl := ⟨_, rfl⟩
      have htk : (ps.map Prod.snd).take (k + 1) = (ps.map Prod.snd).take k ++ [pl] := by rw [take_snoc' _ k (by simpa using hlt), List.getElem_map, hpl]
      obtain ⟨lk, wk⟩ := pl
      rw [hpl] at hC hWp
      have HCK := hide hC
      have HWK := hide hWp
      have hki : (k : Int) < ps.length := by omega
      have hql : qs.length = k := by
        have := congrArg List.length hqs
        rw [List.length_map, List.length_take, List.length_map] at this
        omega
      have HQS := hide hqs
      have HTK := hide htk
      have HCL := hide hcl
      have HX0 := hide x00
      have HX1 := hide x1
      clear hC hWp hqs htk hpe x1 hcl hpl x00
      go_upto_region 5 with fail
      refine wp_region_held_drew (S := fun w' => w'.cell? ⟨g, 0, none⟩ = some (.slice (some ⟨G, 0, none⟩) ps.length c) ∧ w'.cell? ⟨G, k, none⟩ = some (.pointer (some ⟨gr, 0, none⟩))) (by kernel_rfl) (by exact ⟨q0, q1⟩) (fun hHeld => ?_)
      refine wpAnyH_take (i := 0) (oi := ?_) (v := ?_) ?_ (by kernel_rfl) (by kernel_rfl) (by kernel_rfl) ?_ (Or.inl ⟨?_, ?_⟩) (by assumption) ?_
      rotate_left 2
      · (simp only [zA, zB, zC]; rfl)
      rotate_left 1
      · rfl
      · (intro w hSw; obtain ⟨q0, q1⟩ := hSw; go_simp; try with_reducible rfl)
      rotate_left 1
      · exact fun _ _ _ h => h
      try simp only [Act.put, zD, zE, zF]
      refine wpAnyH_take (i := 1) (oi := ?_) (v := ?_) ?_ (by kernel_rfl) (by kernel_rfl) (by kernel_rfl) ?_ (Or.inl ⟨?_, ?_⟩) (by assumption) ?_
      rotate_left 2
      · (simp only [zA, zB, zC]; rfl)
      rotate_left 1
      · rfl
      · (intro w hSw; obtain ⟨q0, q1⟩ := hSw; go_simp; try with_reducible rfl)
      rotate_left 1
      · exact fun _ _ _ h => h
      try simp only [Act.put, zD, zE, zF]
      refine wpAnyH_take (i := 2) (oi := ?_) (v := ?_) ?_ (by kernel_rfl) (by kernel_rfl) (by kernel_rfl) ?_ (Or.inl ⟨?_, ?_⟩) (by assumption) ?_
      rotate_left 2
      · (simp only [zA, zB, zC]; rfl)
      rotate_left 1
      · rfl
      · (intro w hSw; obtain ⟨q0, q1⟩ := hSw; go_simp; try with_reducible rfl)
      rotate_left 1
      · exact fun _ _ _ h => h
      try simp only [Act.put, zD, zE, zF]
      refine wpAnyH_take (i := 3) (oi := ?_) (v := ?_) ?_ (by kernel_rfl) (by kernel_rfl) (by kernel_rfl) ?_ (Or.inl ⟨?_, ?_⟩) (by assumption) ?_
      rotate_left 2
      · (simp only [zA, zB, zC]; rfl)
      rotate_left 1
      · rfl
      · (intro w hSw; obtain ⟨q0, q1⟩ := hSw; go_simp; try with_reducible rfl)
      rotate_left 1
      · exact fun _ _ _ h => h
      try simp only [Act.put, zD, zE, zF]
      refine wpAnyH_take (i := 4) (oi := ?_) (v := ?_) ?_ (by kernel_rfl) (by kernel_rfl) (by kernel_rfl) ?_ (Or.inl ⟨?_, ?_⟩) (by assumption) ?_
      rotate_left 2
      · (simp only [zA, zB, zC]; rfl)
      rotate_left 1
      · rfl
      · (intro w hSw; obtain ⟨q0, q1⟩ := hSw; go_simp; try with_reducible rfl)
      rotate_left 1
      · exact fun _ _ _ h => h
      try simp only [Act.put, zD, zE, zF]
      refine wpAnyH_take (i := 5) (oi := ?_) (v := ?_) ?_ (by kernel_rfl) (by kernel_rfl) (by kernel_rfl) ?_ (Or.inl ⟨?_, ?_⟩) (by assumption) ?_
      rotate_left 2
      · (simp only [zA, zB, zC]; rfl)
      rotate_left 1
      · rfl
      · (intro w hSw; obtain ⟨q0, q1⟩ := hSw; go_simp; try with_reducible rfl)
      rotate_left 1
      · exact fun _ _ _ h => h
      try simp only [Act.put, zD, zE, zF]
      refine wpAnyH_take (i := 6) (oi := ?_) (v := ?_) ?_ (by kernel_rfl) (by kernel_rfl) (by kernel_rfl) ?_ (Or.inl ⟨?_, ?_⟩) (by assumption) ?_
      rotate_left 2
      · (simp only [zA, zB, zC]; rfl)
      rotate_left 1
      · rfl
      · (intro w hSw; obtain ⟨q0, q1⟩ := hSw; go_simp; try with_reducible rfl)
      rotate_left 1
      · exact fun _ _ _ h => h
      try simp only [Act.put, zD, zE, zF]
      refine wpAnyH_take (i := 7) (oi := ?_) (v := ?_) ?_ (by kernel_rfl) (by kernel_rfl) (by kernel_rfl) ?_ (Or.inl ⟨?_, ?_⟩) (by assumption) ?_
      rotate_left 2
      · (simp only [zA, zB, zC]; rfl)
      rotate_left 1
      · rfl
      · (intro w hSw; obtain ⟨q0, q1⟩ := hSw; go_simp; try with_reducible rfl)
      rotate_left 1
      · exact fun _ _ _ h => h
      try simp only [Act.put, zD, zE, zF]
      refine wpAnyH_take (i := 9) (oi := ?_) (v := ?_) ?_ (by kernel_rfl) (by kernel_rfl) (by kernel_rfl) ?_ (Or.inl ⟨?_, ?_⟩) (by assumption) ?_
      rotate_left 2
      · (simp only [zA, zB, zC]; rfl)
      rotate_left 1
      · rfl
      · (intro w hSw; obtain ⟨q0, q1⟩ := hSw; go_simp; try with_reducible rfl)
      rotate_left 1
      · exact fun _ _ _ h => h
      try simp only [Act.put, zD, zE, zF]
      refine wpAnyH_take (i := 10) (oi := ?_) (v := ?_) ?_ (by kernel_rfl) (by kernel_rfl) (by kernel_rfl) ?_ (Or.inl ⟨?_, ?_⟩) (by assumption) ?_
      rotate_left 2
      · (simp only [zA, zB, zC]; rfl)
      rotate_left 1
      · rfl
      · (intro w hSw; obtain ⟨q0, q1⟩ := hSw; go_simp; try with_reducible rfl)
      rotate_left 1
      · exact fun _ _ _ h => h
      try simp only [Act.put, zD, zE, zF]
      refine wpAnyH_take (i := 11) (oi := ?_) (v := ?_) ?_ (by kernel_rfl) (by kernel_rfl) (by kernel_rfl) ?_ (Or.inl ⟨?_, ?_⟩) (by assumption) ?_
      rotate_left 2
      · (simp only [zA, zB, zC]; rfl)
      rotate_left 1
      · rfl
      · (intro w hSw; obtain ⟨q0, q1⟩ := hSw; go_simp; try with_reducible rfl)
      rotate_left 1
      · exact fun _ _ _ h => h
      try simp only [Act.put, zD, zE, zF]
      refine wpAnyH_take (i := 12) (oi := ?_) (v := ?_) ?_ (by kernel_rfl) (by kernel_rfl) (by kernel_rfl) ?_ (Or.inl ⟨?_, ?_⟩) (by assumption) ?_
      rotate_left 2
      · (simp only [zA, zB, zC]; rfl)
      rotate_left 1
      · rfl
      · (intro w hSw; obtain ⟨q0, q1⟩ := hSw; go_simp; try with_reducible rfl)
      rotate_left 1
      · exact fun _ _ _ h => h
      try simp only [Act.put, zD, zE, zF]
      refine wpAnyH_take (i := 13) (oi := ?_) (v := ?_) ?_ (by kernel_rfl) (by kernel_rfl) (by kernel_rfl) ?_ (Or.inl ⟨?_, ?_⟩) (by assumption) ?_
      rotate_left 2
      · (simp only [zA, zB, zC]; rfl)
      rotate_left 1
      · rfl
      · (intro w hSw; obtain ⟨q0, q1⟩ := hSw; go_simp; try with_reducible rfl)
      rotate_left 1
      · exact fun _ _ _ h => h
      try simp only [Act.put, zD, zE, zF]
      refine wpAnyH_take (i := 14) (oi := ?_) (v := ?_) ?_ (by kernel_rfl) (by kernel_rfl) (by kernel_rfl) ?_ (Or.inl ⟨?_, ?_⟩) (by assumption) ?_
      rotate_left 2
      · (simp only [zA, zB, zC]; rfl)
      rotate_left 1
      · rfl
      · (intro w hSw; obtain ⟨q0, q1⟩ := hSw; go_simp; try with_reducible rfl)
      rotate_left 1
      · exact fun _ _ _ h => h
      try simp only [Act.put, zD, zE, zF]
      refine wpAnyH_take (i := 15) (oi := ?_) (v := ?_) ?_ (by kernel_rfl) (by kernel_rfl) (by kernel_rfl) ?_ (Or.inl ⟨?_, ?_⟩) (by assumption) ?_
      rotate_left 2
      · (simp only [zA, zB, zC]; rfl)
      rotate_left 1
      · rfl
      · (intro w hSw; obtain ⟨q0, q1⟩ := hSw; go_simp; try with_reducible rfl)
      rotate_left 1
      · exact fun _ _ _ h => h
      try simp only [Act.put, zD, zE, zF]
      refine wpAnyH_ready (rs := [8]) (by kernel_rfl) (by simp) ?_
      refine AllReadyH.cons (o := ?_) ?_ (fun K hK => ?_) AllReadyH.nil
      rotate_left 1
      · (simp only [zA, zB, zC]; rfl)
      go_simp
      go_at_call 35; refine (HCK.out _ (below_drw hbr)).mono ?_; rintro e w5 ⟨s5, rfl, hs5, hc5⟩; have hb5 := (below_drw hbr).trans (hc5.mono hzr); have hz5 := hb5.size; have hov5 := (own_dr hov).below hc5; have hcl5 := hide (fun q hq => ((HCL.out q hq).dr).below hc5); have q0 := (hb5.cell (p := ⟨g, 0, none⟩) hgl).trans HX0.out; have q1 := (hb5.cell (p := ⟨G, k, none⟩) hGl).trans HX1.out; obtain ⟨A5, c5, rfl, _, _, _⟩ := hs5.slc.open_; clear hov HCL
      refine hK.out _ _ ?_ (fun hHeld => ?_)
      · exact ⟨q0, q1⟩
      clear hK K
      try simp only [Act.put, zD, zE, zF]
      refine wpAnyH_ready (rs := [16]) (by kernel_rfl) (by simp) ?_
      refine AllReadyH.cons (o := ?_) ?_ (fun K hK => ?_) AllReadyH.nil
      rotate_left 1
      · (simp only [zA, zB, zC]; rfl)
      go_simp
      go_at_call 52; refine (HWK.out _ hb5).mono ?_; rintro e w6 ⟨rfl, rfl⟩
      refine hK.out _ _ ?_ (fun hHeld => ?_)
      · exact ⟨q0, q1⟩
      clear hK K
      try simp only [Act.put, zD, zE, zF]
      refine wpAnyH_take (i := 17) (oi := ?_) (v := ?_) ?_ (by kernel_rfl) (by kernel_rfl) (by kernel_rfl) ?_ (Or.inl ⟨?_, ?_⟩) (by assumption) ?_
      rotate_left 2
      · (simp only [zA, zB, zC]; rfl)
      rotate_left 1
      · rfl
      · (intro w hSw; obtain ⟨q0, q1⟩ := hSw; go_simp; try with_reducible rfl)
      rotate_left 1
      · exact fun _ _ _ h => h
      try simp only [Act.put, zD, zE, zF]
      refine wpAnyH_ready (rs := [18]) (by kernel_rfl) (by simp) ?_
      refine AllReadyH.cons (o := ?_) ?_ (fun K hK => ?_) AllReadyH.nil
      rotate_left 1
      · (simp only [zA, zB, zC]; rfl)
      go_simp
      have hov6 := hov5.alloc (.cells #[.slice A5 lk.length c5, .bool wk] 50); have hs6 := hs5.alloc (.cells #[.slice A5 lk.length c5, .bool wk] 50); have hcl6 := hide (fun q hq => (hcl5.out q hq).alloc (.cells #[.slice A5 lk.length c5, .bool wk] 50)); have hb6 := hb5.alloc hz5 (.cells #[.slice A5 lk.length c5, .bool wk] 50); have hone := Slc.lit1 (R := RSl) (Si := fun _ => False) (Si' := fun _ => False) (w := w5) (x := ((.slice A5 lk.length c5 : Value), wk)) (u := [.slice A5 lk.length c5, .bool wk]) 50 ⟨[.slice A5 lk.length c5], [.bool wk], rfl, ⟨rfl, rfl⟩, rfl⟩ (fun _ _ h => h.elim); have q0 := (hb6.cell (p := ⟨g, 0, none⟩) hgl).trans HX0.out; have q1 := (hb6.cell (p := ⟨G, k, none⟩) hGl).trans HX1.out; clear hov5 hs5 hcl5
      refine hK.out _ _ ?_ (fun hHeld => ?_)
      · exact ⟨q0, q1⟩
      clear hK K
      try simp only [Act.put, zD, zE, zF]
      refine wpAnyH_ready (rs := [19]) (by kernel_rfl) (by simp) ?_
      refine AllReadyH.cons (o := ?_) ?_ (fun K hK => ?_) AllReadyH.nil
      rotate_left 1
      · (simp only [zA, zB, zC]; rfl)
      refine step_appg rfl (.tmp 10) (.tmp 28) 37 rfl RSl 50 [] w.heap.size 32 _ Tryz.underlying37 line_info rfl (by decide) (by decide) _ _ rfl hov6 _ (fun _ => False) _ _ rfl hone (fun _ h => False.elim h) (by simp; omega) hb6.size ?_; intro v7 w7 hv7 hst7 hg7 ho7; have hb9 := hide (hb6.trans (hst7.below hb6.size)); have hov9 := hide (show Own RSl 50 [] w.heap.size w7 v7 ((qs ++ [((.slice A5 lk.length c5 : Value), (lk, wk))]).map slB) from (by rw [List.map_append]; exact hv7)); have hcl9 := hide (show ∀ q ∈ qs ++ [((.slice A5 lk.length c5 : Value), (lk, wk))], Own2 RCell 86 [21] w.heap.size 0 w7 q.1 q.2.1 from (fun q hq => (by rcases List.mem_append.1 hq with hq | hq; exact (hcl6.out q hq).step hst7 (by decide) (by decide); rw [List.mem_singleton] at hq; subst hq; exact (hs6.down w.heap.size (Nat.zero_le _) hzr).step hst7 (by decide) (by decide)))); have q0 := (hb9.out.cell (p := ⟨g, 0, none⟩) hgl).trans HX0.out; have q1 := (hb9.out.cell (p := ⟨G, k, none⟩) hGl).trans HX1.out; clear hv7 hst7 hg7 ho7 hov6 hone hcl6 hs6 hb6
      refine hK.out _ _ ?_ (fun hHeld => ?_)
      · exact ⟨q0, q1⟩
      clear hK K
      try simp only [Act.put, zD, zE, zF]
      refine wpAnyH_take (i := 20) (oi := ?_) (v := ?_) ?_ (by kernel_rfl) (by kernel_rfl) (by kernel_rfl) ?_ (Or.inl ⟨?_, ?_⟩) (by assumption) ?_
      rotate_left 2
      · (simp only [zA, zB, zC]; rfl)
      rotate_left 1
      · rfl
      · (intro w hSw; obtain ⟨q0, q1⟩ := hSw; go_simp; try with_reducible rfl)
      rotate_left 1
      · exact fun _ _ _ h => h
      try simp only [Act.put, zD, zE, zF]
      refine wpAnyH_done (by kernel_rfl) ?_ _
      go_wp2
      go_roundw
      case rel => exact ⟨k + 1, by omega, by go_num, qs ++ [((.slice A5 lk.length c5 : Value), (lk, wk))], by rw [List.map_append, HQS.out, HTK.out]; rfl, hov9.out, hcl9.out, hb9.out⟩
      case measure => simp [intOf]; omega
    · obtain rfl : k = ps.length := by omega
      rw [List.take_of_length_le (by simp)] at hqs
      have HQS := hide hqs
      clear hqs
      go_wp2
      go_ret
      refine ⟨_, rfl, ?_, hbr⟩
      rw [← HQS.out]
      exact lines_slc ((hov.slc.flat_any RSl.flat (Typed 0 [86, 21] wr)).mono (Keep.weaken (fun b hb => Fresh.typed (by simp) b hb.2)) (Keep.refl _ _)) (fun q hq => (hcl q hq).slc.mono (Keep.weaken (fun b hb => Fresh.typed (by simp) b hb.2)) (Keep.weaken (Typed.more (Nat.le_refl _) (by simp))))
end Go.Proofs.YtdjpdllehhecpaaGreatDoor
namespace Go.Proofs.YtdjpdllehhecpaaGreatDoor
open Go.RowKit
set_option linter.unusedVariables false
set_option linter.unusedSimpArgs false
end Go.Proofs.YtdjpdllehhecpaaGreatDoor
