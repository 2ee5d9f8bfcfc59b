/-
  What package diff's own and row return: cells of their own memory; the changes of a row. Each function once.
-/
import Derived.Test.YtcidioomhdkbnaaDif0
import Derived.Test.YtcidioomhdkbnaaClone
import Derived.Test.YtcidioomhdkbnaaCell7
import Derived.Test.YtcidioomhdkbnaaMem5
import Derived.Deep.RegionHeld3
import Derived.RegionTactic
import Derived.Deep.CutRange
import Derived.BigQuiet
namespace Go.Proofs.Ytcidioomhdkbnaa
open Go.RowKit
set_option linter.unusedVariables false
set_option linter.unusedSimpArgs false

/-- Rows of the call's own that lead to memory of the call's own alone, as data of a greater row. -/
theorem Own2.weak {α : Type} {R : Rep α} {e : TypeId} {T T' : List TypeId} {base b0 : Nat} {w : World} {v : Value} {l : List α} (h : Own2 R e T base 0 w v l) (he : e ∈ T') (hT : ∀ t ∈ T, t ∈ T') : Slc R (Typed b0 T' w) (Typed b0 T' w) w v l :=
  h.slc.mono (Keep.weaken fun b hb => Fresh.typed (fun t ht => by simp at ht; subst ht; exact he) b hb.2) (Keep.weaken fun b hb => by
    rcases hb with hb | ⟨cs, t, fz, hh, ht⟩
    · exact absurd hb (Nat.not_lt_zero b)
    · exact .inr ⟨cs, t, fz, hh, hT t ht⟩)

/-- append of rows of the call's own, as one step. -/
theorem els_cellT {S : Nat → Prop} {w : World} {k : Int} {v : Value} {t : List Int} (hw : (Lit.int .i64 k).wf = true) (hv : Slc (Rep.int .i32) S S w v t) : Els RCell S w [(k, t)] [.int .i64 k, v] :=
  Els.single (R := RCell) ⟨_, _, rfl, ⟨rfl, hw⟩, _, rfl, hv⟩
theorem own_text {base b0 : Nat} {w : World} {v : Value} {t : List Int} (h : Own (Rep.int .i32) 21 [] base w v t) : Slc (Rep.int .i32) (Typed b0 [21] w) (Typed b0 [21] w) w v t :=
  (h.islc.mono (So' := Typed b0 [21] w) (Si' := fun _ => False) (Keep.weaken fun b hb => Fresh.typed (fun _ h => h) b hb.2) (Keep.refl _ _)).ints_any _

set_option maxHeartbeats 1000000 in
theorem own46_ok (So Si : Nat → Prop) (x : Value) (l : List CellV) (w : World) (hx : Slc RCell So Si w x l) (hlen : l.length ≤ 1000000) (htx : ∀ c ∈ l, c.2.length * 4 ≤ 140737488355328) :
    Calls Try.prog 25 #[x] w fun e w' => ∃ s, e = .returned s ∧ Own2 RCell 50 [21] w.heap.size 0 w' s l ∧ Below w.heap.size w w' := by
  have HTX := hide htx
  have hx0 := hx
  obtain ⟨A, c, rfl, hc1, hc2, hB⟩ := hx.open_
  clear htx
  go_enter Try.func25, Try.ntmps25
  go_wp2
  go_loopw [3, 8] (fun out i wr => ∃ k : Nat, k ≤ l.length ∧ i = .int .i64 k ∧ Own2 RCell 50 [21] w.heap.size 0 wr out (l.take k) ∧ Below w.heap.size w wr) (fun _ i _ => l.length - (intOf i).toNat)
  case atStart => exact ⟨0, Nat.zero_le _, rfl, Own2.nil_ _ _ _ _ _ _ (Nat.zero_le _) (by decide), Below.refl _ _⟩
  case round =>
    obtain ⟨k, hk, rfl, hout, hbel⟩ := hrel
    have hsz := hbel.size
    by_cases hlt : k < l.length
    · have hxk := hx0.mono (Keep.below (S := So) hbel) (Keep.below (S := Si) hbel)
      obtain ⟨ab, off, v2, rfl, _, q0, q1, hw, hv⟩ := cell_at hxk.slb hlt
      obtain ⟨A2, c2, rfl, hd1, hd2, _⟩ := hv.open_
      have hln := HTX.out l[k] (List.getElem_mem _)
      have hsn := take_snoc' l k hlt
      have HSN := hide hsn
      have HLN := hide hln
      have htl : (l.take k).length ≤ k := List.length_take_le _ _
      clear hsn hln
      go_upto_region 5 with fail
      have hblk := (Blk.new wr 50 #[.int .i64 l[k].1, .slice A2 l[k].2.length c2])
      have hvd := (hv.ints_keep (Keep.alloc Si wr (.cells #[.int .i64 l[k].1, .slice A2 l[k].2.length c2] 50))).ints_keep (Keep.drewN Si _ 1)
      have hout2 := (hout.alloc (.cells #[.int .i64 l[k].1, .slice A2 l[k].2.length c2] 50)).dr
      have hb2 := (hbel.alloc hsz (.cells #[.int .i64 l[k].1, .slice A2 l[k].2.length c2] 50))
      have x0 := hblk.cell 0
      have x1 := hblk.cell 1
      have hlb := hblk.lt
      have HOL := hide (fun k hk => (hout.lt_ k hk).2)
      simp only [List.getElem?_toArray, List.getElem?_cons_succ, List.getElem?_cons_zero] at x0 x1
      refine wp_region_held_drew (S := fun w' => w'.cell? ⟨wr.heap.size, 0, none⟩ = some (.int .i64 l[k].1) ∧ w'.cell? ⟨wr.heap.size, 1, none⟩ = some (.slice A2 l[k].2.length c2)) (by kernel_rfl) (by go_keep) (fun hHeld => ?_)
      refine wpAnyH_take (i := 0) (oi := ?_) (v := ?_) ?_ (by kernel_rfl) (by kernel_rfl) (by kernel_rfl) ?_ (Or.inl ⟨?_, ?_⟩) (by assumption) ?_
      rotate_left 2
      · (simp only [List.getElem?_toArray, List.getElem?_cons_succ, List.getElem?_cons_zero]; rfl)
      rotate_left 1
      · rfl
      · (intro w hSw; (try dsimp only at hSw); go_simp; try with_reducible rfl)
      rotate_left 1
      · exact fun _ _ _ h => h
      try simp only [Act.put, List.setIfInBounds_toArray, List.set_cons_zero, List.set_cons_succ]
      refine wpAnyH_take (i := 1) (oi := ?_) (v := ?_) ?_ (by kernel_rfl) (by kernel_rfl) (by kernel_rfl) ?_ (Or.inl ⟨?_, ?_⟩) (by assumption) ?_
      rotate_left 2
      · (simp only [List.getElem?_toArray, List.getElem?_cons_succ, List.getElem?_cons_zero]; rfl)
      rotate_left 1
      · rfl
      · (intro w hSw; (try dsimp only at hSw); go_simp; try with_reducible rfl)
      rotate_left 1
      · exact fun _ _ _ h => h
      try simp only [Act.put, List.setIfInBounds_toArray, List.set_cons_zero, List.set_cons_succ]
      refine wpAnyH_take (i := 2) (oi := ?_) (v := ?_) ?_ (by kernel_rfl) (by kernel_rfl) (by kernel_rfl) ?_ (Or.inl ⟨?_, ?_⟩) (by assumption) ?_
      rotate_left 2
      · (simp only [List.getElem?_toArray, List.getElem?_cons_succ, List.getElem?_cons_zero]; rfl)
      rotate_left 1
      · rfl
      · (intro w hSw; (try dsimp only at hSw); go_simp; try with_reducible rfl)
      rotate_left 1
      · exact fun _ _ _ h => h
      try simp only [Act.put, List.setIfInBounds_toArray, List.set_cons_zero, List.set_cons_succ]
      refine wpAnyH_take (i := 3) (oi := ?_) (v := ?_) ?_ (by kernel_rfl) (by kernel_rfl) (by kernel_rfl) ?_ (Or.inl ⟨?_, ?_⟩) (by assumption) ?_
      rotate_left 2
      · (simp only [List.getElem?_toArray, List.getElem?_cons_succ, List.getElem?_cons_zero]; rfl)
      rotate_left 1
      · rfl
      · (intro w hSw; (try dsimp only at hSw); go_simp; try with_reducible rfl)
      rotate_left 1
      · exact fun _ _ _ h => h
      try simp only [Act.put, List.setIfInBounds_toArray, List.set_cons_zero, List.set_cons_succ]
      refine wpAnyH_take (i := 4) (oi := ?_) (v := ?_) ?_ (by kernel_rfl) (by kernel_rfl) (by kernel_rfl) ?_ (Or.inl ⟨?_, ?_⟩) (by assumption) ?_
      rotate_left 2
      · (simp only [List.getElem?_toArray, List.getElem?_cons_succ, List.getElem?_cons_zero]; rfl)
      rotate_left 1
      · rfl
      · (intro w hSw; (try dsimp only at hSw); go_simp; try with_reducible rfl)
      rotate_left 1
      · exact fun _ _ _ h => h
      try simp only [Act.put, List.setIfInBounds_toArray, List.set_cons_zero, List.set_cons_succ]
      refine wpAnyH_ready (rs := [5]) (by kernel_rfl) (by simp) ?_
      refine AllReadyH.cons (o := ?_) ?_ (fun K hK => ?_) AllReadyH.nil
      rotate_left 1
      · (simp only [List.getElem?_toArray, List.getElem?_cons_succ, List.getElem?_cons_zero]; rfl)
      go_simp
      go_at_call 33; refine (Clone_ok _ _ _ l[k].2 _ hvd HLN.out).mono ?_; rintro e w3 ⟨v3, rfl, hv3, hb3⟩; obtain ⟨A3, c3, rfl, _, _, _⟩ := hv3.islc.open_; have x0 := (hb3.cell (p := ⟨wr.heap.size, 0, none⟩) (Nat.lt_of_lt_of_le hlb (Nat.le_refl _))).trans x0; have x1 := (hb3.cell (p := ⟨wr.heap.size, 1, none⟩) (Nat.lt_of_lt_of_le hlb (Nat.le_refl _))).trans x1; have hout3 := hout2.below hb3; have hbw3 := (below_drewN hb2 1).trans (hb3.mono hb2.size); have hz3 := hbw3.size; have hlb3 := Nat.lt_of_lt_of_le hlb hb3.size
      refine hK.out _ _ ?_ (fun hHeld => ?_)
      · ((try dsimp only); go_keep)
      clear hK K
      try simp only [Act.put, List.setIfInBounds_toArray, List.set_cons_zero, List.set_cons_succ]
      refine wpAnyH_take (i := 6) (oi := ?_) (v := ?_) ?_ (by kernel_rfl) (by kernel_rfl) (by kernel_rfl) ?_ (Or.inl ⟨?_, ?_⟩) (by assumption) ?_
      rotate_left 2
      · (simp only [List.getElem?_toArray, List.getElem?_cons_succ, List.getElem?_cons_zero]; rfl)
      rotate_left 1
      · rfl
      · (intro w hSw; (try dsimp only at hSw); go_simp; try with_reducible rfl)
      rotate_left 1
      · exact fun _ _ _ h => h
      try simp only [Act.put, List.setIfInBounds_toArray, List.set_cons_zero, List.set_cons_succ]
      refine wpAnyH_ready (rs := [7]) (by kernel_rfl) (by simp) ?_
      refine AllReadyH.cons (o := ?_) ?_ (fun K hK => ?_) AllReadyH.nil
      rotate_left 1
      · (simp only [List.getElem?_toArray, List.getElem?_cons_succ, List.getElem?_cons_zero]; rfl)
      go_simp
      have hone : Own2 RCell 50 [21] w3.heap.size 0 (w3.alloc (.cells #[.int .i64 l[k].1, .slice A3 l[k].2.length c3] 50)) (.slice (some ⟨w3.heap.size, 0, none⟩) 1 1) [l[k]] := Own2.lit (Nat.zero_le _) (by decide) (els_cellT hw (own_text hv3)) (Nat.le_refl _) rfl (by simp [maxLen]); have hout4 := hout3.alloc (.cells #[.int .i64 l[k].1, .slice A3 l[k].2.length c3] 50); have hb4 := hbw3.alloc hz3 (.cells #[.int .i64 l[k].1, .slice A3 l[k].2.length c3] 50); have x0 := (World.cell?_alloc_lt w3 (.cells #[.int .i64 l[k].1, .slice A3 l[k].2.length c3] 50) ⟨wr.heap.size, 0, none⟩ hlb3).trans x0; have x1 := (World.cell?_alloc_lt w3 (.cells #[.int .i64 l[k].1, .slice A3 l[k].2.length c3] 50) ⟨wr.heap.size, 1, none⟩ hlb3).trans x1
      refine hK.out _ _ ?_ (fun hHeld => ?_)
      · ((try dsimp only); go_keep)
      clear hK K
      try simp only [Act.put, List.setIfInBounds_toArray, List.set_cons_zero, List.set_cons_succ]
      refine wpAnyH_ready (rs := [8]) (by kernel_rfl) (by simp) ?_
      refine AllReadyH.cons (o := ?_) ?_ (fun K hK => ?_) AllReadyH.nil
      rotate_left 1
      · (simp only [List.getElem?_toArray, List.getElem?_cons_succ, List.getElem?_cons_zero]; rfl)
      refine step_app2 rfl (.tmp 12) (.tmp 19) 36 rfl RCell 50 [21] w.heap.size 0 32 _ Try.underlying36 cell_info rfl (by decide) (by decide) _ _ rfl hout4 _ _ _ _ _ rfl hone (by simp) (by simp; omega) (by simp; omega) ?_; intro v5 w5 hv5 hst5 hg5; have x0 := gb_cell hg5 HOL.out (Nat.le_refl _) x0; have x1 := gb_cell hg5 HOL.out (Nat.le_refl _) x1; have hb5 := hb4.trans (hst5.below hb4.size)
      refine hK.out _ _ ?_ (fun hHeld => ?_)
      · ((try dsimp only); go_keep)
      clear hK K
      try simp only [Act.put, List.setIfInBounds_toArray, List.set_cons_zero, List.set_cons_succ]
      refine wpAnyH_take (i := 9) (oi := ?_) (v := ?_) ?_ (by kernel_rfl) (by kernel_rfl) (by kernel_rfl) ?_ (Or.inl ⟨?_, ?_⟩) (by assumption) ?_
      rotate_left 2
      · (simp only [List.getElem?_toArray, List.getElem?_cons_succ, List.getElem?_cons_zero]; rfl)
      rotate_left 1
      · rfl
      · (intro w hSw; (try dsimp only at hSw); go_simp; try with_reducible rfl)
      rotate_left 1
      · exact fun _ _ _ h => h
      try simp only [Act.put, List.setIfInBounds_toArray, List.set_cons_zero, List.set_cons_succ]
      refine wpAnyH_done (by kernel_rfl) ?_ _
      go_wp2
      go_roundw
      case rel => exact ⟨k + 1, by omega, by go_num, by rw [HSN.out]; exact hv5, hb5⟩
      case measure => simp [intOf]; omega
    · have e : l.take k = l := List.take_of_length_le (by omega)
      rw [e] at hout
      go_wp2
      go_ret
      exact ⟨_, rfl, hout, hbel⟩

def RChange : Rep ChangeV := Rep.pair (Rep.int .i64) (Rep.pair (Rep.int .i64) (Rep.slice RCell))
theorem change_info : (Try.prog.info? 38).map (fun i => (i.zero, i.size, i.bytes)) = some (some (.agg #[.int .i64 0, .int .i64 0, .slice none 0 0]), RChange.sz, 40) := by kernel_rfl
theorem els_change {S : Nat → Prop} {w : World} {r c : Int} {v : Value} {t : List CellV} (hr : (Lit.int .i64 r).wf = true) (hc : (Lit.int .i64 c).wf = true) (hv : Slc RCell S S w v t) : Els RChange S w [(r, c, t)] [.int .i64 r, .int .i64 c, v] :=
  Els.single (R := RChange) ⟨_, _, rfl, ⟨rfl, hr⟩, _, _, rfl, ⟨rfl, hc⟩, _, rfl, hv⟩
theorem change_at {So Si : Nat → Prop} {w : World} {A : Option Addr} {l : List ChangeV} (h : SlB RChange So Si w A l) {k : Nat} (hk : k < l.length) :
    ∃ b off v, A = some ⟨b, off, none⟩ ∧ So b ∧ w.cell? ⟨b, off + k * 3, none⟩ = some (.int .i64 l[k].1) ∧ w.cell? ⟨b, off + k * 3 + 1, none⟩ = some (.int .i64 l[k].2.1) ∧ w.cell? ⟨b, off + k * 3 + 2, none⟩ = some v ∧ (Lit.int .i64 l[k].1).wf = true ∧ (Lit.int .i64 l[k].2.1).wf = true ∧ Slc RCell Si Si w v l[k].2.2 := by
  obtain ⟨b, off, u, rfl, hs, hu, hc⟩ := h.at_ (k := k) (x := l[k]) (List.getElem?_eq_getElem hk) (by decide)
  obtain ⟨v1, v2, rfl, ⟨rfl, hw⟩, v3, v4, rfl, ⟨rfl, hw2⟩, v, rfl, hv⟩ := hu
  have h0 := hc 0 (by decide)
  have h1 := hc 1 (by decide)
  have h2 := hc 2 (by decide)
  have e : RChange.sz = 3 := rfl
  rw [e] at h0 h1 h2
  simp only [← Nat.add_assoc, Nat.add_zero] at h0 h1 h2
  exact ⟨b, off, v, rfl, hs, h0, h1, h2, hw, hw2, hv⟩
/-- One element of a slice, as a slice. -/
theorem slc_one {α : Type} {R : Rep α} {So Si : Nat → Prop} {w : World} {b off n c k : Nat} {l : List α} (h : Slc R So Si w (.slice (some ⟨b, off, none⟩) n c) l) (hn : l.length = n) (hk : k < l.length) (hc : n ≤ c) (o : Nat) (ho : o = off + k * R.sz) (m : Nat) (hm : m = c - k) : Slc R So Si w (.slice (some ⟨b, o, none⟩) 1 m) [l[k]] := by
  subst hn; subst ho; subst hm
  have h1 := h.cut (k := k) (by omega)
  rw [if_neg (by omega)] at h1
  have e1 : (l.drop k).length = l.length - k := List.length_drop
  rw [← e1] at h1
  have h2 := h1.front (k := 1) (by omega)
  have e2 : (l.drop k).take 1 = [l[k]] := by rw [List.drop_eq_getElem_cons hk]; rfl
  rw [e2] at h2
  have e3 : (some (⟨b, off, none⟩ : Addr)).map (·.add (k * R.sz)) = some ⟨b, off + k * R.sz, none⟩ := by
    simp [Addr.add_lit]
  rw [e3] at h2
  exact h2
theorem slc_mid {α : Type} {R : Rep α} {So Si : Nat → Prop} {w : World} {b off n c f t : Nat} {l : List α} (h : Slc R So Si w (.slice (some ⟨b, off, none⟩) n c) l) (hn : l.length = n) (hf : f < t) (ht : t ≤ l.length) (hc : n ≤ c) (o : Nat) (ho : o = off + f * R.sz) (m j : Nat) (hm : m = c - f) (hj : j = t - f) : Slc R So Si w (.slice (some ⟨b, o, none⟩) j m) ((l.take t).drop f) := by
  subst hn; subst ho; subst hm; subst hj
  have h1 := h.cut (k := f) (by omega)
  rw [if_neg (by omega)] at h1
  have e1 : (l.drop f).length = l.length - f := List.length_drop
  rw [← e1] at h1
  have h2 := h1.front (k := t - f) (by omega)
  have e2 : (l.drop f).take (t - f) = (l.take t).drop f := by rw [List.drop_take]
  rw [e2] at h2
  have e3 : (some (⟨b, off, none⟩ : Addr)).map (·.add (f * R.sz)) = some ⟨b, off + f * R.sz, none⟩ := by
    simp [Addr.add_lit]
  rw [e3] at h2
  exact h2
theorem below_dr2 {w w' : World} (h : Below w.drew.heap.size w.drew w') : Below w.heap.size w w' := ⟨h.os, h.tape, h.output, h.size, h.block⟩
theorem st_len (n : Nat) (a b : List CellV) : ∀ i, (stD n a b i).1.length ≤ i
  | 0 => Nat.le_refl _
  | i + 1 => by
    have ih := st_len n a b i
    show (stepD n a b i (stD n a b i)).1.length ≤ i + 1
    unfold stepD
    split
    · simp only; omega
    · split
      · rw [List.length_append, List.length_singleton]; omega
      · omega
theorem cAt_at (l : List CellV) {k : Nat} (h : k < l.length) : cAt l k = l[k] := by unfold cAt; rw [List.getD_eq_getElem?_getD, List.getElem?_eq_getElem h]; rfl

set_option maxHeartbeats 2000000 in
theorem row46_ok (So Si To Ti : Nat → Prop) (x y : Value) (n : Nat) (a b : List CellV) (w : World) (hx : Slc RCell So Si w x a) (hy : Slc RCell To Ti w y b) (hab : a.length = b.length) (hn : n ≤ 100000) (hla : a.length ≤ 100000) (htx : ∀ c ∈ b, c.2.length * 4 ≤ 140737488355328) :
    Calls Try.prog 20 #[.int .i64 n, x, y] w fun e w' => ∃ s, e = .returned s ∧ Own2 RChange 38 [50, 21] w.heap.size 0 w' s (rowD n a b) ∧ Below w.heap.size w w' := by
  have HX := hide (fun W (hW : Below w.heap.size w W) => hx.mono (Keep.below (S := So) hW) (Keep.below (S := Si) hW))
  have HY := hide (fun W (hW : Below w.heap.size w W) => hy.mono (Keep.below (S := To) hW) (Keep.below (S := Ti) hW))
  obtain ⟨A, c, rfl, hc1, hc2, hBx⟩ := hx.open_
  obtain ⟨B, d, rfl, hd1, hd2, hBy⟩ := hy.open_
  have HTX := hide htx
  have HAB := hide hab
  clear htx hab
  go_enter Try.func20, Try.ntmps20
  go_wp2
  go_loopw [7, 8, 9] (fun ov fv iv wr => ∃ (i : Nat) (out : List ChangeV) (f : Int), i ≤ a.length + 1 ∧ fv = .int .i64 f ∧ iv = .int .i64 i ∧ stD n a b i = (out, f) ∧ Own2 RChange 38 [50, 21] w.heap.size 0 wr ov out ∧ Below w.heap.size w wr) (fun _ _ iv _ => a.length + 1 - (intOf iv).toNat)
  case atStart => exact ⟨0, [], -1, Nat.zero_le _, rfl, rfl, rfl, Own2.nil_ _ _ _ _ _ _ (Nat.zero_le _) (by decide), Below.refl _ _⟩
  case round =>
    obtain ⟨i, out, f, hi, rfl, rfl, hst, hout, hbel⟩ := hrel
    have HST := hide hst
    have hinv := inv_st (n := n) HAB.out i hi
    rw [hst] at hinv
    have HINV := hide hinv
    clear hst hinv
    have hsz := hbel.size
    by_cases hle : i ≤ a.length
    · have hlei : (i : Int) ≤ a.length := by omega
      obtain ⟨sm, hsm⟩ : ∃ sm, sm = !(decide (i < a.length ∧ apB a b i = true)) := ⟨_, rfl⟩
      have HSM := hide hsm
      clear hsm
      go_upto_region 6 with fail
      go_cut [10] from 11 to 58 (fun s wx => s = .bool sm ∧ Below wr.heap.size wr wx)
      case first =>
        by_cases hlt : i < a.length
        · have hxr := HX.out _ hbel
          have hyr := HY.out _ hbel
          have hltb : i < b.length := by have := HAB.out; omega
          obtain ⟨ab, off, v2, rfl, _, _, _, _, _⟩ := cell_at hxr.slb hlt
          obtain ⟨bb, bo, v3, rfl, _, _, _, _, _⟩ := cell_at hyr.slb hltb
          have hne : ((i : Int) == a.length) = false := by rw [beq_eq_false_iff_ne]; omega
          have hsum : IntKind.i64.wrap ((i : Int) + 1) = (i : Int) + 1 := IntWalk.i64_in _ (by omega)
          have hs0 : (0 : Int) ≤ (i : Int) + 1 := by omega
          have hs1 : ((i : Int) + 1).toNat = i + 1 := by omega
          have hs2 : (i : Int) + 1 ≤ c := by omega
          have hs3 : (i : Int) + 1 ≤ d := by omega
          have hs4 : i + 1 - i = 1 := by omega
          have hs5 : c ≠ i := by omega
          have hs6 : d ≠ i := by omega
          have hsx : Slc RCell So Si wr.drew (.slice (some ⟨ab, off + i * 2, none⟩) 1 (c - i)) [a[i]] := slc_one (hxr.mono (Keep.drewN So wr 1) (Keep.drewN Si wr 1)) rfl hlt hc1 _ rfl _ rfl
          have hsy : Slc RCell To Ti wr.drew (.slice (some ⟨bb, bo + i * 2, none⟩) 1 (d - i)) [b[i]] := slc_one (hyr.mono (Keep.drewN To wr 1) (Keep.drewN Ti wr 1)) rfl hltb hd1 _ rfl _ rfl
          refine wp_region_held_drew (S := fun w' => True) (by kernel_rfl) trivial (fun hHeld => ?_)
          refine wpAnyH_take (i := 0) (oi := ?_) (v := ?_) ?_ (by kernel_rfl) (by kernel_rfl) (by kernel_rfl) ?_ (Or.inl ⟨?_, ?_⟩) (by assumption) ?_
          rotate_left 2
          · (simp only [List.getElem?_toArray, List.getElem?_cons_succ, List.getElem?_cons_zero]; rfl)
          rotate_left 1
          · rfl
          · (intro w hSw; (try dsimp only at hSw); go_simp; try with_reducible rfl)
          rotate_left 1
          · exact fun _ _ _ h => h
          try simp only [Act.put, List.setIfInBounds_toArray, List.set_cons_zero, List.set_cons_succ]
          refine wpAnyH_take (i := 1) (oi := ?_) (v := ?_) ?_ (by kernel_rfl) (by kernel_rfl) (by kernel_rfl) ?_ (Or.inl ⟨?_, ?_⟩) (by assumption) ?_
          rotate_left 2
          · (simp only [List.getElem?_toArray, List.getElem?_cons_succ, List.getElem?_cons_zero]; rfl)
          rotate_left 1
          · rfl
          · (intro w hSw; (try dsimp only at hSw); go_simp; try with_reducible rfl)
          rotate_left 1
          · exact fun _ _ _ h => h
          try simp only [Act.put, List.setIfInBounds_toArray, List.set_cons_zero, List.set_cons_succ]
          refine wpAnyH_take (i := 2) (oi := ?_) (v := ?_) ?_ (by kernel_rfl) (by kernel_rfl) (by kernel_rfl) ?_ (Or.inl ⟨?_, ?_⟩) (by assumption) ?_
          rotate_left 2
          · (simp only [List.getElem?_toArray, List.getElem?_cons_succ, List.getElem?_cons_zero]; rfl)
          rotate_left 1
          · rfl
          · (intro w hSw; (try dsimp only at hSw); go_simp; try with_reducible rfl)
          rotate_left 1
          · exact fun _ _ _ h => h
          try simp only [Act.put, List.setIfInBounds_toArray, List.set_cons_zero, List.set_cons_succ]
          refine wpAnyH_take (i := 3) (oi := ?_) (v := ?_) ?_ (by kernel_rfl) (by kernel_rfl) (by kernel_rfl) ?_ (Or.inl ⟨?_, ?_⟩) (by assumption) ?_
          rotate_left 2
          · (simp only [List.getElem?_toArray, List.getElem?_cons_succ, List.getElem?_cons_zero]; rfl)
          rotate_left 1
          · rfl
          · (intro w hSw; (try dsimp only at hSw); go_simp; try with_reducible rfl)
          rotate_left 1
          · exact fun _ _ _ h => h
          try simp only [Act.put, List.setIfInBounds_toArray, List.set_cons_zero, List.set_cons_succ]
          refine wpAnyH_take (i := 4) (oi := ?_) (v := ?_) ?_ (by kernel_rfl) (by kernel_rfl) (by kernel_rfl) ?_ (Or.inl ⟨?_, ?_⟩) (by assumption) ?_
          rotate_left 2
          · (simp only [List.getElem?_toArray, List.getElem?_cons_succ, List.getElem?_cons_zero]; rfl)
          rotate_left 1
          · rfl
          · (intro w hSw; (try dsimp only at hSw); go_simp; try with_reducible rfl)
          rotate_left 1
          · exact fun _ _ _ h => h
          try simp only [Act.put, List.setIfInBounds_toArray, List.set_cons_zero, List.set_cons_succ]
          refine wpAnyH_take (i := 5) (oi := ?_) (v := ?_) ?_ (by kernel_rfl) (by kernel_rfl) (by kernel_rfl) ?_ (Or.inl ⟨?_, ?_⟩) (by assumption) ?_
          rotate_left 2
          · (simp only [List.getElem?_toArray, List.getElem?_cons_succ, List.getElem?_cons_zero]; rfl)
          rotate_left 1
          · rfl
          · (intro w hSw; (try dsimp only at hSw); go_simp; try with_reducible rfl)
          rotate_left 1
          · exact fun _ _ _ h => h
          try simp only [Act.put, List.setIfInBounds_toArray, List.set_cons_zero, List.set_cons_succ]
          refine wpAnyH_take (i := 6) (oi := ?_) (v := ?_) ?_ (by kernel_rfl) (by kernel_rfl) (by kernel_rfl) ?_ (Or.inl ⟨?_, ?_⟩) (by assumption) ?_
          rotate_left 2
          · (simp only [List.getElem?_toArray, List.getElem?_cons_succ, List.getElem?_cons_zero]; rfl)
          rotate_left 1
          · rfl
          · (intro w hSw; (try dsimp only at hSw); go_simp; try with_reducible rfl)
          rotate_left 1
          · exact fun _ _ _ h => h
          try simp only [Act.put, List.setIfInBounds_toArray, List.set_cons_zero, List.set_cons_succ]
          refine wpAnyH_take (i := 7) (oi := ?_) (v := ?_) ?_ (by kernel_rfl) (by kernel_rfl) (by kernel_rfl) ?_ (Or.inl ⟨?_, ?_⟩) (by assumption) ?_
          rotate_left 2
          · (simp only [List.getElem?_toArray, List.getElem?_cons_succ, List.getElem?_cons_zero]; rfl)
          rotate_left 1
          · rfl
          · (intro w hSw; (try dsimp only at hSw); go_simp; try with_reducible rfl)
          rotate_left 1
          · exact fun _ _ _ h => h
          try simp only [Act.put, List.setIfInBounds_toArray, List.set_cons_zero, List.set_cons_succ]
          refine wpAnyH_take (i := 8) (oi := ?_) (v := ?_) ?_ (by kernel_rfl) (by kernel_rfl) (by kernel_rfl) ?_ (Or.inl ⟨?_, ?_⟩) (by assumption) ?_
          rotate_left 2
          · (simp only [List.getElem?_toArray, List.getElem?_cons_succ, List.getElem?_cons_zero]; rfl)
          rotate_left 1
          · rfl
          · (intro w hSw; (try dsimp only at hSw); go_simp; try with_reducible rfl)
          rotate_left 1
          · exact fun _ _ _ h => h
          try simp only [Act.put, List.setIfInBounds_toArray, List.set_cons_zero, List.set_cons_succ]
          refine wpAnyH_take (i := 9) (oi := ?_) (v := ?_) ?_ (by kernel_rfl) (by kernel_rfl) (by kernel_rfl) ?_ (Or.inl ⟨?_, ?_⟩) (by assumption) ?_
          rotate_left 2
          · (simp only [List.getElem?_toArray, List.getElem?_cons_succ, List.getElem?_cons_zero]; rfl)
          rotate_left 1
          · rfl
          · (intro w hSw; (try dsimp only at hSw); go_simp; try with_reducible rfl)
          rotate_left 1
          · exact fun _ _ _ h => h
          try simp only [Act.put, List.setIfInBounds_toArray, List.set_cons_zero, List.set_cons_succ]
          refine wpAnyH_take (i := 10) (oi := ?_) (v := ?_) ?_ (by kernel_rfl) (by kernel_rfl) (by kernel_rfl) ?_ (Or.inl ⟨?_, ?_⟩) (by assumption) ?_
          rotate_left 2
          · (simp only [List.getElem?_toArray, List.getElem?_cons_succ, List.getElem?_cons_zero]; rfl)
          rotate_left 1
          · rfl
          · (intro w hSw; (try dsimp only at hSw); go_simp; try with_reducible rfl)
          rotate_left 1
          · exact fun _ _ _ h => h
          try simp only [Act.put, List.setIfInBounds_toArray, List.set_cons_zero, List.set_cons_succ]
          refine wpAnyH_take (i := 11) (oi := ?_) (v := ?_) ?_ (by kernel_rfl) (by kernel_rfl) (by kernel_rfl) ?_ (Or.inl ⟨?_, ?_⟩) (by assumption) ?_
          rotate_left 2
          · (simp only [List.getElem?_toArray, List.getElem?_cons_succ, List.getElem?_cons_zero]; rfl)
          rotate_left 1
          · rfl
          · (intro w hSw; (try dsimp only at hSw); go_simp; try with_reducible rfl)
          rotate_left 1
          · exact fun _ _ _ h => h
          try simp only [Act.put, List.setIfInBounds_toArray, List.set_cons_zero, List.set_cons_succ]
          refine wpAnyH_take (i := 12) (oi := ?_) (v := ?_) ?_ (by kernel_rfl) (by kernel_rfl) (by kernel_rfl) ?_ (Or.inl ⟨?_, ?_⟩) (by assumption) ?_
          rotate_left 2
          · (simp only [List.getElem?_toArray, List.getElem?_cons_succ, List.getElem?_cons_zero]; rfl)
          rotate_left 1
          · rfl
          · (intro w hSw; (try dsimp only at hSw); go_simp; try with_reducible rfl)
          rotate_left 1
          · exact fun _ _ _ h => h
          try simp only [Act.put, List.setIfInBounds_toArray, List.set_cons_zero, List.set_cons_succ]
          refine wpAnyH_take (i := 13) (oi := ?_) (v := ?_) ?_ (by kernel_rfl) (by kernel_rfl) (by kernel_rfl) ?_ (Or.inl ⟨?_, ?_⟩) (by assumption) ?_
          rotate_left 2
          · (simp only [List.getElem?_toArray, List.getElem?_cons_succ, List.getElem?_cons_zero]; rfl)
          rotate_left 1
          · rfl
          · (intro w hSw; (try dsimp only at hSw); go_simp; try with_reducible rfl)
          rotate_left 1
          · exact fun _ _ _ h => h
          try simp only [Act.put, List.setIfInBounds_toArray, List.set_cons_zero, List.set_cons_succ]
          refine wpAnyH_take (i := 14) (oi := ?_) (v := ?_) ?_ (by kernel_rfl) (by kernel_rfl) (by kernel_rfl) ?_ (Or.inl ⟨?_, ?_⟩) (by assumption) ?_
          rotate_left 2
          · (simp only [List.getElem?_toArray, List.getElem?_cons_succ, List.getElem?_cons_zero]; rfl)
          rotate_left 1
          · rfl
          · (intro w hSw; (try dsimp only at hSw); go_simp; try with_reducible rfl)
          rotate_left 1
          · exact fun _ _ _ h => h
          try simp only [Act.put, List.setIfInBounds_toArray, List.set_cons_zero, List.set_cons_succ]
          refine wpAnyH_ready (rs := [15]) (by kernel_rfl) (by simp) ?_
          refine AllReadyH.cons (o := ?_) ?_ (fun K hK => ?_) AllReadyH.nil
          rotate_left 1
          · (simp only [List.getElem?_toArray, List.getElem?_cons_succ, List.getElem?_cons_zero]; rfl)
          go_simp
          go_at_call 29; refine (SameCells_ok _ _ _ _ _ _ [a[i]] [b[i]] _ hsx hsy).mono ?_; rintro e w7 ⟨rfl, hb7⟩
          refine hK.out _ _ ?_ (fun hHeld => ?_)
          · trivial
          clear hK K
          try simp only [Act.put, List.setIfInBounds_toArray, List.set_cons_zero, List.set_cons_succ]
          refine wpAnyH_take (i := 16) (oi := ?_) (v := ?_) ?_ (by kernel_rfl) (by kernel_rfl) (by kernel_rfl) ?_ (Or.inl ⟨?_, ?_⟩) (by assumption) ?_
          rotate_left 2
          · (simp only [List.getElem?_toArray, List.getElem?_cons_succ, List.getElem?_cons_zero]; rfl)
          rotate_left 1
          · rfl
          · (intro w hSw; (try dsimp only at hSw); go_simp; try with_reducible rfl)
          rotate_left 1
          · exact fun _ _ _ h => h
          try simp only [Act.put, List.setIfInBounds_toArray, List.set_cons_zero, List.set_cons_succ]
          refine wpAnyH_take (i := 17) (oi := ?_) (v := ?_) ?_ (by kernel_rfl) (by kernel_rfl) (by kernel_rfl) ?_ (Or.inl ⟨?_, ?_⟩) (by assumption) ?_
          rotate_left 2
          · (simp only [List.getElem?_toArray, List.getElem?_cons_succ, List.getElem?_cons_zero]; rfl)
          rotate_left 1
          · rfl
          · (intro w hSw; (try dsimp only at hSw); go_simp; try with_reducible rfl)
          rotate_left 1
          · exact fun _ _ _ h => h
          try simp only [Act.put, List.setIfInBounds_toArray, List.set_cons_zero, List.set_cons_succ]
          refine wpAnyH_done (by kernel_rfl) ?_ _
          go_wp2
          go_meet
          exact ⟨bool_eq (by rw [HSM.out]; unfold apB; rw [cAt_at a hlt, cAt_at b hltb]; simp [hlt]), below_dr2 hb7⟩
        · obtain rfl : i = a.length := by omega
          have hse : sm = true := by rw [HSM.out]; simp
          have HSE := hide hse
          clear hse
          refine wp_region_held_drew (S := fun w' => True) (by kernel_rfl) trivial (fun hHeld => ?_)
          refine wpAnyH_take (i := 0) (oi := ?_) (v := ?_) ?_ (by kernel_rfl) (by kernel_rfl) (by kernel_rfl) ?_ (Or.inl ⟨?_, ?_⟩) (by assumption) ?_
          rotate_left 2
          · (simp only [List.getElem?_toArray, List.getElem?_cons_succ, List.getElem?_cons_zero]; rfl)
          rotate_left 1
          · rfl
          · (intro w hSw; (try dsimp only at hSw); go_simp; try with_reducible rfl)
          rotate_left 1
          · exact fun _ _ _ h => h
          try simp only [Act.put, List.setIfInBounds_toArray, List.set_cons_zero, List.set_cons_succ]
          refine wpAnyH_take (i := 1) (oi := ?_) (v := ?_) ?_ (by kernel_rfl) (by kernel_rfl) (by kernel_rfl) ?_ (Or.inl ⟨?_, ?_⟩) (by assumption) ?_
          rotate_left 2
          · (simp only [List.getElem?_toArray, List.getElem?_cons_succ, List.getElem?_cons_zero]; rfl)
          rotate_left 1
          · rfl
          · (intro w hSw; (try dsimp only at hSw); go_simp; try with_reducible rfl)
          rotate_left 1
          · exact fun _ _ _ h => h
          try simp only [Act.put, List.setIfInBounds_toArray, List.set_cons_zero, List.set_cons_succ]
          refine wpAnyH_take (i := 2) (oi := ?_) (v := ?_) ?_ (by kernel_rfl) (by kernel_rfl) (by kernel_rfl) ?_ (Or.inl ⟨?_, ?_⟩) (by assumption) ?_
          rotate_left 2
          · (simp only [List.getElem?_toArray, List.getElem?_cons_succ, List.getElem?_cons_zero]; rfl)
          rotate_left 1
          · rfl
          · (intro w hSw; (try dsimp only at hSw); go_simp; try with_reducible rfl)
          rotate_left 1
          · exact fun _ _ _ h => h
          try simp only [Act.put, List.setIfInBounds_toArray, List.set_cons_zero, List.set_cons_succ]
          refine wpAnyH_take (i := 3) (oi := ?_) (v := ?_) ?_ (by kernel_rfl) (by kernel_rfl) (by kernel_rfl) ?_ (Or.inl ⟨?_, ?_⟩) (by assumption) ?_
          rotate_left 2
          · (simp only [List.getElem?_toArray, List.getElem?_cons_succ, List.getElem?_cons_zero]; rfl)
          rotate_left 1
          · rfl
          · (intro w hSw; (try dsimp only at hSw); go_simp; try with_reducible rfl)
          rotate_left 1
          · exact fun _ _ _ h => h
          try simp only [Act.put, List.setIfInBounds_toArray, List.set_cons_zero, List.set_cons_succ]
          refine wpAnyH_take (i := 4) (oi := ?_) (v := ?_) ?_ (by kernel_rfl) (by kernel_rfl) (by kernel_rfl) ?_ (Or.inl ⟨?_, ?_⟩) (by assumption) ?_
          rotate_left 2
          · (simp only [List.getElem?_toArray, List.getElem?_cons_succ, List.getElem?_cons_zero]; rfl)
          rotate_left 1
          · rfl
          · (intro w hSw; (try dsimp only at hSw); go_simp; try with_reducible rfl)
          rotate_left 1
          · exact fun _ _ _ h => h
          try simp only [Act.put, List.setIfInBounds_toArray, List.set_cons_zero, List.set_cons_succ]
          refine wpAnyH_take (i := 5) (oi := ?_) (v := ?_) ?_ (by kernel_rfl) (by kernel_rfl) (by kernel_rfl) ?_ (Or.inr ⟨?_, ?_⟩) (by assumption) ?_
          rotate_left 2
          · (simp only [List.getElem?_toArray, List.getElem?_cons_succ, List.getElem?_cons_zero]; rfl)
          rotate_left 1
          · rfl
          · rfl
          rotate_left 1
          · exact fun _ _ _ h => h
          try simp only [Act.put, List.setIfInBounds_toArray, List.set_cons_zero, List.set_cons_succ]
          refine wpAnyH_take (i := 6) (oi := ?_) (v := ?_) ?_ (by kernel_rfl) (by kernel_rfl) (by kernel_rfl) ?_ (Or.inr ⟨?_, ?_⟩) (by assumption) ?_
          rotate_left 2
          · (simp only [List.getElem?_toArray, List.getElem?_cons_succ, List.getElem?_cons_zero]; rfl)
          rotate_left 1
          · rfl
          · rfl
          rotate_left 1
          · exact fun _ _ _ h => h
          try simp only [Act.put, List.setIfInBounds_toArray, List.set_cons_zero, List.set_cons_succ]
          refine wpAnyH_take (i := 7) (oi := ?_) (v := ?_) ?_ (by kernel_rfl) (by kernel_rfl) (by kernel_rfl) ?_ (Or.inr ⟨?_, ?_⟩) (by assumption) ?_
          rotate_left 2
          · (simp only [List.getElem?_toArray, List.getElem?_cons_succ, List.getElem?_cons_zero]; rfl)
          rotate_left 1
          · rfl
          · rfl
          rotate_left 1
          · exact fun _ _ _ h => h
          try simp only [Act.put, List.setIfInBounds_toArray, List.set_cons_zero, List.set_cons_succ]
          refine wpAnyH_take (i := 8) (oi := ?_) (v := ?_) ?_ (by kernel_rfl) (by kernel_rfl) (by kernel_rfl) ?_ (Or.inr ⟨?_, ?_⟩) (by assumption) ?_
          rotate_left 2
          · (simp only [List.getElem?_toArray, List.getElem?_cons_succ, List.getElem?_cons_zero]; rfl)
          rotate_left 1
          · rfl
          · rfl
          rotate_left 1
          · exact fun _ _ _ h => h
          try simp only [Act.put, List.setIfInBounds_toArray, List.set_cons_zero, List.set_cons_succ]
          refine wpAnyH_take (i := 9) (oi := ?_) (v := ?_) ?_ (by kernel_rfl) (by kernel_rfl) (by kernel_rfl) ?_ (Or.inr ⟨?_, ?_⟩) (by assumption) ?_
          rotate_left 2
          · (simp only [List.getElem?_toArray, List.getElem?_cons_succ, List.getElem?_cons_zero]; rfl)
          rotate_left 1
          · rfl
          · rfl
          rotate_left 1
          · exact fun _ _ _ h => h
          try simp only [Act.put, List.setIfInBounds_toArray, List.set_cons_zero, List.set_cons_succ]
          refine wpAnyH_take (i := 10) (oi := ?_) (v := ?_) ?_ (by kernel_rfl) (by kernel_rfl) (by kernel_rfl) ?_ (Or.inr ⟨?_, ?_⟩) (by assumption) ?_
          rotate_left 2
          · (simp only [List.getElem?_toArray, List.getElem?_cons_succ, List.getElem?_cons_zero]; rfl)
          rotate_left 1
          · rfl
          · rfl
          rotate_left 1
          · exact fun _ _ _ h => h
          try simp only [Act.put, List.setIfInBounds_toArray, List.set_cons_zero, List.set_cons_succ]
          refine wpAnyH_take (i := 11) (oi := ?_) (v := ?_) ?_ (by kernel_rfl) (by kernel_rfl) (by kernel_rfl) ?_ (Or.inr ⟨?_, ?_⟩) (by assumption) ?_
          rotate_left 2
          · (simp only [List.getElem?_toArray, List.getElem?_cons_succ, List.getElem?_cons_zero]; rfl)
          rotate_left 1
          · rfl
          · rfl
          rotate_left 1
          · exact fun _ _ _ h => h
          try simp only [Act.put, List.setIfInBounds_toArray, List.set_cons_zero, List.set_cons_succ]
          refine wpAnyH_take (i := 12) (oi := ?_) (v := ?_) ?_ (by kernel_rfl) (by kernel_rfl) (by kernel_rfl) ?_ (Or.inr ⟨?_, ?_⟩) (by assumption) ?_
          rotate_left 2
          · (simp only [List.getElem?_toArray, List.getElem?_cons_succ, List.getElem?_cons_zero]; rfl)
          rotate_left 1
          · rfl
          · rfl
          rotate_left 1
          · exact fun _ _ _ h => h
          try simp only [Act.put, List.setIfInBounds_toArray, List.set_cons_zero, List.set_cons_succ]
          refine wpAnyH_take (i := 13) (oi := ?_) (v := ?_) ?_ (by kernel_rfl) (by kernel_rfl) (by kernel_rfl) ?_ (Or.inr ⟨?_, ?_⟩) (by assumption) ?_
          rotate_left 2
          · (simp only [List.getElem?_toArray, List.getElem?_cons_succ, List.getElem?_cons_zero]; rfl)
          rotate_left 1
          · rfl
          · rfl
          rotate_left 1
          · exact fun _ _ _ h => h
          try simp only [Act.put, List.setIfInBounds_toArray, List.set_cons_zero, List.set_cons_succ]
          refine wpAnyH_take (i := 14) (oi := ?_) (v := ?_) ?_ (by kernel_rfl) (by kernel_rfl) (by kernel_rfl) ?_ (Or.inr ⟨?_, ?_⟩) (by assumption) ?_
          rotate_left 2
          · (simp only [List.getElem?_toArray, List.getElem?_cons_succ, List.getElem?_cons_zero]; rfl)
          rotate_left 1
          · rfl
          · rfl
          rotate_left 1
          · exact fun _ _ _ h => h
          try simp only [Act.put, List.setIfInBounds_toArray, List.set_cons_zero, List.set_cons_succ]
          refine wpAnyH_take (i := 15) (oi := ?_) (v := ?_) ?_ (by kernel_rfl) (by kernel_rfl) (by kernel_rfl) ?_ (Or.inr ⟨?_, ?_⟩) (by assumption) ?_
          rotate_left 2
          · (simp only [List.getElem?_toArray, List.getElem?_cons_succ, List.getElem?_cons_zero]; rfl)
          rotate_left 1
          · rfl
          · rfl
          rotate_left 1
          · exact fun _ _ _ h => h
          try simp only [Act.put, List.setIfInBounds_toArray, List.set_cons_zero, List.set_cons_succ]
          refine wpAnyH_take (i := 16) (oi := ?_) (v := ?_) ?_ (by kernel_rfl) (by kernel_rfl) (by kernel_rfl) ?_ (Or.inl ⟨?_, ?_⟩) (by assumption) ?_
          rotate_left 2
          · (simp only [List.getElem?_toArray, List.getElem?_cons_succ, List.getElem?_cons_zero]; rfl)
          rotate_left 1
          · rfl
          · (intro w hSw; (try dsimp only at hSw); go_simp; try with_reducible rfl)
          rotate_left 1
          · exact fun _ _ _ h => h
          try simp only [Act.put, List.setIfInBounds_toArray, List.set_cons_zero, List.set_cons_succ]
          refine wpAnyH_take (i := 17) (oi := ?_) (v := ?_) ?_ (by kernel_rfl) (by kernel_rfl) (by kernel_rfl) ?_ (Or.inl ⟨?_, ?_⟩) (by assumption) ?_
          rotate_left 2
          · (simp only [List.getElem?_toArray, List.getElem?_cons_succ, List.getElem?_cons_zero]; rfl)
          rotate_left 1
          · rfl
          · (intro w hSw; (try dsimp only at hSw); go_simp; try with_reducible rfl)
          rotate_left 1
          · exact fun _ _ _ h => h
          try simp only [Act.put, List.setIfInBounds_toArray, List.set_cons_zero, List.set_cons_succ]
          refine wpAnyH_done (by kernel_rfl) ?_ _
          go_wp2
          go_meet
          exact ⟨by rw [HSE.out], below_drewN (Below.refl _ _) _⟩
      case rest =>
      obtain ⟨rfl, hb1⟩ := hcut
      have hout1 := hout.below hb1
      have hbel1 := hbel.trans (hb1.mono hsz)
      have hz1 := hbel1.size
      clear hout hbel hb1
      have hstep : stD n a b (i + 1) = stepD n a b i (out, f) := by rw [← HST.out]; rfl
      cases sm with
      | false =>
        have hd : i < a.length ∧ apB a b i = true := by
          have := HSM.out
          refine of_decide_eq_true ?_
          cases hx : decide (i < a.length ∧ apB a b i = true) with
          | true => rfl
          | false => rw [hx] at this; cases this
        by_cases hf : f < 0
        · have hnew : stD n a b (i + 1) = (out, (i : Int)) := by rw [hstep]; unfold stepD; rw [if_pos ⟨hd, hf⟩]
          have HNEW := hide hnew
          clear hnew hstep hd
          go_wp2
          go_roundw
          case rel => exact ⟨i + 1, out, i, by omega, rfl, by go_num, HNEW.out, hout1, hbel1⟩
          case measure => simp [intOf]; omega
        · have hnew : stD n a b (i + 1) = (out, f) := by rw [hstep]; unfold stepD; rw [if_neg (fun e => hf e.2), if_neg (fun e => e.1 hd)]
          have HNEW := hide hnew
          clear hnew hstep hd
          go_wp2
          go_roundw
          case rel => exact ⟨i + 1, out, f, by omega, rfl, by go_num, HNEW.out, hout1, hbel1⟩
          case measure => simp [intOf]; omega
      | true =>
        have hd : ¬ (i < a.length ∧ apB a b i = true) := by
          have := HSM.out
          intro e
          rw [decide_eq_true e] at this
          cases this
        by_cases hf : 0 ≤ f
        · have hinv := HINV.out.open_ hf
          obtain ⟨g, rfl⟩ := Int.eq_ofNat_of_zero_le hf
          simp only [Int.toNat_natCast] at hinv
          have hg1 := hinv.1
          have hnew : stD n a b (i + 1) = (out ++ [((n : Int), (g : Int), (b.take i).drop g)], -1) := by rw [hstep]; unfold stepD; rw [if_neg (fun e => hd e.1), if_pos ⟨hd, hf⟩]; rfl
          have hib : i ≤ b.length := by have := HAB.out; omega
          have hgb : g < b.length := by omega
          have hyr := HY.out _ hbel1
          obtain ⟨bb, bo, v3, rfl, _, _, _, _, _⟩ := cell_at hyr.slb hgb
          have hys := slc_mid hyr rfl hg1 hib hd1 (bo + g * 2) rfl (d - g) (i - g) rfl rfl
          obtain ⟨bl, hbl⟩ : ∃ bl, (b.take i).drop g = bl := ⟨_, rfl⟩
          have hbt : ∀ c ∈ bl, c.2.length * 4 ≤ 140737488355328 := by
            rw [← hbl]; exact fun c hc => HTX.out c (List.mem_of_mem_take (List.mem_of_mem_drop hc))
          have hbn : bl.length = i - g := by rw [← hbl, List.length_drop, List.length_take, Nat.min_eq_left hib]
          rw [hbl] at hnew hys
          have hol := st_len n a b i
          rw [HST.out] at hol
          simp only at hol
          have hgi : (g : Int) ≤ i := by omega
          have hid : (i : Int) ≤ d := by omega
          have hdg : d ≠ g := by omega
          have hnw : (Lit.int .i64 (n : Int)).wf = true := wf_i64 (by omega) (by omega)
          have hgw : (Lit.int .i64 (g : Int)).wf = true := wf_i64 (by omega) (by omega)
          have hown := own46_ok _ _ _ bl _ hys (by omega) hbt
          have HNEW := hide hnew
          have HOWN := hide hown
          have HBN := hide hbn
          have HOL := hide hol
          clear hnew hstep hd hinv hbl hbt hbn hol hyr hys hown
          go_wp2_with fail
          refine HOWN.out.mono ?_
          rintro e w3 ⟨s3, rfl, hs3, hb3⟩
          have hb3' := hbel1.trans (hb3.mono hz1)
          have hz3 := hb3'.size
          have hout3 := hout1.below hb3
          obtain ⟨A3, c3, rfl, _, _, _⟩ := hs3.slc.open_
          have hone : Own2 RChange 38 [50, 21] w3.heap.size 0 (w3.alloc (.cells #[.int .i64 n, .int .i64 g, .slice A3 bl.length c3] 38)) (.slice (some ⟨w3.heap.size, 0, none⟩) 1 1) [((n : Int), (g : Int), bl)] :=
            Own2.lit (Nat.zero_le _) (by decide) (els_change hnw hgw (hs3.weak (by decide) (by decide))) (Nat.le_refl _) rfl (by simp [maxLen])
          have hout4 := hout3.alloc (.cells #[.int .i64 n, .int .i64 g, .slice A3 bl.length c3] 38)
          have hb4 := hb3'.alloc hz3 (.cells #[.int .i64 n, .int .i64 g, .slice A3 bl.length c3] 38)
          go_wp2_with (at_builtin; refine wpList_app2 rfl (.tmp 48) (.tmp 57) 30 rfl RChange 38 [50, 21] w.heap.size 0 40 _ Try.underlying30 change_info rfl (by decide) (by decide) _ _ rfl hout4 _ _ _ _ _ rfl hone (by simp) (by have := HOL.out; simp; omega) hb4.size ?_; intro v5 w5 hv5 hst5)
          go_roundw
          case rel => exact ⟨i + 1, _, -1, by omega, rfl, by go_num, HNEW.out, hv5, hb4.trans (hst5.below hb4.size)⟩
          case measure => simp [intOf]; omega
        · have hnew : stD n a b (i + 1) = (out, f) := by rw [hstep]; unfold stepD; rw [if_neg (fun e => hd e.1), if_neg (fun e => hf e.2)]
          have HNEW := hide hnew
          clear hnew hstep hd
          go_wp2
          go_roundw
          case rel => exact ⟨i + 1, out, f, by omega, rfl, by go_num, HNEW.out, hout1, hbel1⟩
          case measure => simp [intOf]; omega
    · obtain rfl : i = a.length + 1 := by omega
      have hre : rowD n a b = out := by unfold rowD; rw [HST.out]
      have HRE := hide hre
      have hln : ¬ ((a.length + 1 : Nat) : Int) ≤ a.length := by omega
      clear hre
      go_wp2
      go_ret
      rw [HRE.out]
      exact ⟨_, rfl, hout, hbel⟩
end Go.Proofs.Ytcidioomhdkbnaa
