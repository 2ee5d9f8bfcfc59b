/-
  What fit's function that cuts a row in two returns elsewhere; what the document's returns.
-/
import Derived.Test.YthjddpflcgcpiaaDoorFit6
import Derived.BigQuiet
namespace Go.Proofs.YthjddpflcgcpiaaDoor
open Go.RowKit
set_option linter.unusedVariables false
set_option linter.unusedSimpArgs false

theorem Split_out (base : Nat) (v : Value) (l : List CellV) (wrap : Bool) (col : Int) (w : World) (h : RowIs base w v l wrap) (hc : col < 1 ∨ (l.length : Int) ≤ col) :
    Calls Tryd.prog 27 #[v, .int .i64 col] w fun e w' => e = .returned (.tuple #[.pointer none, .pointer none]) ∧ w = w' := by
  have HH := hide h
  obtain ⟨g0, s0, rfl, _, _, _⟩ := h
  by_cases h1 : col < 1
  · clear hc
    go_enter Tryd.func27, Tryd.ntmps27
    go_wp2
    go_ret2
    exact ⟨rfl, rfl⟩
  · have h2 : (l.length : Int) ≤ col := by omega
    clear hc
    go_enter Tryd.func27, Tryd.ntmps27
    go_wp2_with fail
    refine (Wide_ok base _ l wrap _ HH.out).mono ?_
    rintro e w0 ⟨rfl, rfl⟩
    go_wp2
    go_ret2
    exact ⟨rfl, rfl⟩

theorem own_cells0 (w : World) (base : Nat) (hb : base ≤ w.heap.size) : Own RCell 46 [21] base (w.alloc (.cells #[] 46)) (.slice (some ⟨w.heap.size, 0, none⟩) 0 0) [] :=
  Own.lit (xs := []) (by decide) rfl hb rfl (by simp [maxLen])

set_option maxHeartbeats 2000000 in
theorem rSplit_ok (So : Nat → Prop) (x : Value) (l : List CellV) (col : Nat) (w : World) (hx : Slc RCell So (fun b => b < w.heap.size) w x l) (h0 : 0 < col) (h1 : col < l.length) (h2 : l.length ≤ 100000) :
    Calls Tryd.prog 28 #[x, .int .i64 col] w fun e w' => ∃ a b, e = .returned (.tuple #[a, b]) ∧
      Slc RCell (fun b => b < w'.heap.size) (Typed w.heap.size [21] w') w' a ((splitO l col).take col) ∧ Slc RCell (fun b => b < w'.heap.size) (Typed w.heap.size [21] w') w' b ((splitO l col).drop col) ∧ Below w.heap.size w w' := by
  have hsp := isSp_iff l col h1
  have hso : splitO l col = if isSp l col then (l.set col (0, [])).set (col - 1) (0, []) else l := rfl
  have hln := splitO_len l col
  generalize splitO l col = sl at *
  have HSP := hide hsp
  have HSO := hide hso
  have HLN := hide hln
  clear hsp hso hln
  obtain ⟨A, c, rfl, hc1, hc2, hB⟩ := hx.open_
  have hown0 := own_cells0 w w.heap.size (Nat.le_refl _)
  have hx1 := hx.mono (Keep.alloc So w (.cells #[] 46)) (Keep.alloc _ w (.cells #[] 46))
  have fin : ∀ (g cap n : Nat) (w2 : World), l.length ≤ cap → cap ≤ maxLen → Own RCell 46 [21] w.heap.size w2 (.slice (some ⟨g, 0, none⟩) l.length cap) sl → Below w.heap.size w w2 →
      ∃ a b, Ending.returned (Value.tuple #[.slice (some ⟨g, 0, none⟩) col cap, .slice (some ⟨g, col * 2, none⟩) (l.length - col) (cap - col)]) = .returned (.tuple #[a, b]) ∧
      Slc RCell (fun b => b < (w2.drewN n).heap.size) (Typed w.heap.size [21] (w2.drewN n)) (w2.drewN n) a (sl.take col) ∧ Slc RCell (fun b => b < (w2.drewN n).heap.size) (Typed w.heap.size [21] (w2.drewN n)) (w2.drewN n) b (sl.drop col) ∧ Below w.heap.size w (w2.drewN n) := by
    intro g cap n w2 hc hm hown hb
    have hs := (hown.drewN n).slc
    rw [← HLN.out] at hs hc h1 ⊢
    have ha := hs.front (k := col) (by omega)
    have hd := hs.cut (k := col) (by omega)
    rw [if_neg (by omega)] at hd
    have esz : RCell.sz = 2 := rfl
    simp only [Option.map_some, add_lit0, esz] at hd
    exact ⟨_, _, rfl, ha.mono (Keep.weaken fun b h => h.1) (Keep.refl _ _), hd.mono (Keep.weaken fun b h => h.1) (Keep.refl _ _), below_drewN hb n⟩
  have FIN := hide fin
  clear fin
  go_enter Tryd.func28, Tryd.ntmps28
  go_upto_region 2 with (at_builtin; refine wpList_appg rfl (.tmp 7) (.tmp 8) 22 rfl RCell 46 [21] w.heap.size 32 _ Tryd.underlying22 cell_info rfl (by decide) (by decide) _ _ rfl hown0 _ _ _ _ rfl hx1 (fun b h => .inl h) (by simp; omega) (by simp) ?_; intro v2 w2 hv2 hst2 hg2 hob2; rw [List.nil_append] at hv2)
  have hb2 : Below w.heap.size w w2 := ((Below.refl _ w).alloc (Nat.le_refl _) _).trans (hst2.below (by simp))
  have hz2 := hb2.size
  obtain ⟨g, cap, xs, rest, rfl, hgb, hblk, hxl, hels, hsz, hcap, hcm⟩ := own_open hv2 (by omega)
  clear hblk hxl hels hsz hob2 hg2 hst2
  have hx2 := hx.mono (Keep.below (S := So) hb2) (Keep.below (S := fun b => b < w.heap.size) hb2)
  obtain ⟨ab, off, sv, rfl, _, q0, q1, _, _⟩ := cell_at hx2.slb (k := col) h1
  have hcl : col ≤ l.length := by omega
  have hcc : ¬ cap = col := by omega
  have hcp : col ≤ cap := by omega
  by_cases hk : l[col].1 = 3
  · have hk2 : (l[col].1 == 3) = true := by simpa using hk
    have hsp := HSP.out.2 hk
    have hE := HSO.out
    rw [if_pos hsp] at hE
    have HE := hide hE
    clear hE hk hsp
    obtain ⟨gl, hgb', f0, f1, ⟨a0, p0⟩, ⟨a1, p1⟩, ⟨cs0, hbk⟩, hfin, hgr, hst⟩ := own_put hv2 rfl (k := col) h1 (0, []) (.slice none 0 0) (by decide) Slc.nil_
    obtain ⟨gl', _, f2, f3, ⟨a2, p2⟩, ⟨a3, p3⟩, ⟨cs1, hbk1⟩, hfin2, hgr2, hst2⟩ := own_put hfin (by simp) (k := col - 1) (by simp; omega) (0, []) (.slice none 0 0) (by decide) Slc.nil_
    have HO := hide hfin2
    have HB := hide ((hb2.trans (hst.below hz2)).trans (hst2.below (by simp; omega)))
    clear hfin hfin2 hgr hgr2 hst hst2
    go_wp2
    go_quiet (fail)
    go_wp2
    go_ret2
    exact FIN.out g cap _ _ hcap hcm (by rw [HE.out]; exact HO.out) HB.out
  · have hk2 : (l[col].1 == 3) = false := by simpa using hk
    have hsp : ¬ isSp l col := fun h => hk (HSP.out.1 h)
    have hE := HSO.out
    rw [if_neg hsp] at hE
    have HE := hide hE
    clear hE hk hsp
    go_wp2
    go_quiet (fail)
    go_wp2
    go_ret2
    exact FIN.out g cap _ _ hcap hcm (by rw [HE.out]; exact hv2) hb2
end Go.Proofs.YthjddpflcgcpiaaDoor
