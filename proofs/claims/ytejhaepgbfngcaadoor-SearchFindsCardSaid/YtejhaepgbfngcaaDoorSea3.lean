/-
  Package search: all places where a text stands, and the next one. Each function once.
-/
import Derived.Test.YtejhaepgbfngcaaDoorSea2
namespace Go.Proofs.YtejhaepgbfngcaaDoor
open Go.RowKit
set_option linter.unusedVariables false
set_option linter.unusedSimpArgs false

abbrev HitV : Type := Int × Int × Int
def RHit : Rep HitV := Rep.flat 3 (fun x => [.int .i64 x.1, .int .i64 x.2.1, .int .i64 x.2.2]) (fun _ => rfl) (fun _ => by simp [Value.oneCell'])
theorem RHit.flat : Flat RHit := Flat.flat _ _ _ _
theorem hit_info : (Tryd.prog.info? 47).map (fun i => (i.zero, i.size, i.bytes)) = some (some (.agg #[.int .i64 0, .int .i64 0, .int .i64 0]), RHit.sz, 24) := by kernel_rfl
theorem hit_at {So Si : Nat → Prop} {w : World} {A : Option Addr} {l : List HitV} (h : SlB RHit So Si w A l) {k : Nat} (hk : k < l.length) :
    ∃ g off, A = some ⟨g, off, none⟩ ∧ So g ∧ w.cell? ⟨g, off + k * 3, none⟩ = some (.int .i64 l[k].1) ∧ w.cell? ⟨g, off + k * 3 + 1, none⟩ = some (.int .i64 l[k].2.1) ∧ w.cell? ⟨g, off + k * 3 + 2, none⟩ = some (.int .i64 l[k].2.2) := by
  obtain ⟨g, off, u, rfl, hs, hu, hc⟩ := h.at_ (k := k) (x := l[k]) (List.getElem?_eq_getElem hk) (by decide)
  have hu : u = [.int .i64 l[k].1, .int .i64 l[k].2.1, .int .i64 l[k].2.2] := hu
  subst hu
  have h0 := hc 0 (by decide)
  have h1 := hc 1 (by decide)
  have h2 := hc 2 (by decide)
  have e : RHit.sz = 3 := rfl
  rw [e] at h0 h1 h2
  simp only [← Nat.add_assoc, Nat.add_zero] at h0 h1 h2
  exact ⟨g, off, rfl, hs, h0, h1, h2⟩
theorem hitsU_len (l : List PieceV) (t : List Int) : ∀ k, (hitsU l t k).length ≤ k
  | 0 => by simp [hitsU]
  | k + 1 => by
    have ih := hitsU_len l t k
    rw [hitsU_snoc, List.length_append]
    unfold hitAt
    split <;> simp <;> omega

def allF (v : ViewV) (t : List Int) : List HitV := if t.length = 0 ∨ rightV v = false then [] else hitsU (piecesU v.lines v.lines.length) t (piecesU v.lines v.lines.length).length

set_option maxHeartbeats 4000000 in
theorem All_ok (b : Nat → Addr) (So To : Nat → Prop) (x y : Value) (wd hi r c : Int) (p au : Bool) (ls : List LineV) (t : List Int) (w : World) (hV : VarsA b w) (hx : Slc RLine So (fun b => b < w.heap.size) w x ls) (hy : Slc (Rep.int .i32) (fun b => b < w.heap.size) (fun b => b < w.heap.size) w y t) (hlen : ∀ l ∈ ls, l.1.length ≤ 2000) (hll : ls.length ≤ 2000) :
    Calls Tryd.prog 19 #[.agg #[.int .i64 wd, .int .i64 hi, x, .int .i64 r, .int .i64 c, .bool p, .bool au], y] w fun e w' => ∃ s, e = .returned s ∧ Own RHit 47 [] w.heap.size w' s (allF ⟨wd, hi, ls, r, c, p, au⟩ t) ∧ Below w.heap.size w w' := by
  obtain ⟨A, cp, rfl, hc1, hc2, _⟩ := hx.open_
  obtain ⟨B, d, rfl, hd1, hd2, _⟩ := hy.open_
  have hb0 := (Below.refl w.heap.size w).alloc (Nat.le_refl _) (.cells #[.int .i64 wd, .int .i64 hi, .slice A ls.length cp, .int .i64 r, .int .i64 c, .bool p, .bool au] 40)
  have hz0 := hb0.size
  have bv := Blk.new w 40 #[.int .i64 wd, .int .i64 hi, .slice A ls.length cp, .int .i64 r, .int .i64 c, .bool p, .bool au]
  have hSo := ASound_ok b So _ wd hi r c p au ls _ (hV.below hb0) ((hx.mono (Keep.below (S := So) hb0) (Keep.below (S := fun b => b < w.heap.size) hb0)).mono (Keep.refl _ _) (Keep.weaken fun b hb => by omega)) (fun l hl => by have := hlen l hl; omega) (by omega)
  have HSO := hide hSo
  have HPC := hide (fun W (h : Below w.heap.size w W) => pieces_ok So _ wd hi r c p au ls W ((hx.mono (Keep.below (S := So) h) (Keep.below (S := fun b => b < w.heap.size) h)).mono (Keep.refl _ _) (Keep.weaken fun b hb => by have := h.size; omega)) hlen hll)
  have HPL := hide (piecesU_len hlen ls.length (Nat.le_refl _))
  have hpb : (piecesU ls ls.length).length ≤ 4002000 := Nat.le_trans HPL.out (Nat.le_trans (Nat.mul_le_mul_right 2001 hll) (by decide))
  clear hSo hlen
  by_cases ht : t.length = 0
  · have haf : allF ⟨wd, hi, ls, r, c, p, au⟩ t = [] := by unfold allF; rw [if_pos (.inl ht)]
    have e0 : ((t.length : Int) == 0) = true := by simp [ht]
    rw [haf]
    clear haf ht
    go_enter Tryd.func19, Tryd.ntmps19
    go_wp2
    go_ret
    exact ⟨_, rfl, Own.nil_ _ _ _ _ _ (by decide), hb0⟩
  · have e0 : ((t.length : Int) == 0) = false := by rw [beq_eq_false_iff_ne]; omega
    cases hr : rightV ⟨wd, hi, ls, r, c, p, au⟩ with
    | false =>
      have haf : allF ⟨wd, hi, ls, r, c, p, au⟩ t = [] := by unfold allF; rw [if_pos (.inr hr)]
      rw [haf]
      rw [hr] at HSO
      clear haf ht hr
      go_enter Tryd.func19, Tryd.ntmps19
      go_wp2_with fail
      refine HSO.out.mono ?_
      rintro e w1 ⟨rfl, hc1⟩
      go_wp2
      go_ret
      exact ⟨_, rfl, Own.nil_ _ _ _ _ _ (by decide), hb0.trans (hc1.mono hz0)⟩
    | true =>
      have haf : allF ⟨wd, hi, ls, r, c, p, au⟩ t = hitsU (piecesU ls ls.length) t (piecesU ls ls.length).length := by unfold allF; rw [if_neg (by rintro (h | h); exact ht h; rw [hr] at h; cases h)]
      rw [haf]
      rw [hr] at HSO
      clear haf ht hr
      generalize piecesU ls ls.length = P at *
      go_enter Tryd.func19, Tryd.ntmps19
      go_wp2_with fail
      refine HSO.out.mono ?_
      rintro e w1 ⟨rfl, hc1⟩
      have hb1 := hb0.trans (hc1.mono hz0)
      have bv1 := bv.same hc1
      have y0 := bv1.cell 0
      have y1 := bv1.cell 1
      have y2 := bv1.cell 2
      have y3 := bv1.cell 3
      have y4 := bv1.cell 4
      have y5 := bv1.cell 5
      have y6 := bv1.cell 6
      simp only [List.getElem?_toArray, List.getElem?_cons_succ, List.getElem?_cons_zero] at y0 y1 y2 y3 y4 y5 y6
      go_wp2_with fail
      refine (HPC.out _ hb1).mono ?_
      rintro e w2 ⟨s2, rfl, hp2, hc2⟩
      have hb2 := hb1.trans (hc2.mono hb1.size)
      have hps := hp2.slc.mono (So' := fun b => b < w2.heap.size) (Si' := fun b => b < w2.heap.size) (Keep.weaken fun b h => h.1) (Keep.lt _ _)
      have hys := hy.mono (So' := fun b => b < w2.heap.size) (Si' := fun b => b < w2.heap.size) (fun q u hs hc => ⟨Nat.lt_of_lt_of_le hs hb2.size, (hb2.cell hs).trans hc⟩) (fun q u hs hc => ⟨Nat.lt_of_lt_of_le hs hb2.size, (hb2.cell hs).trans hc⟩)
      obtain ⟨A2, c2, rfl, hc21, hc22, _⟩ := hps.open_
      clear y0 y1 y2 y3 y4 y5 y6 bv bv1 hp2
      go_wp2
      go_loopw [5, 22] (fun out i wr => ∃ k : Nat, k ≤ P.length ∧ i = .int .i64 k ∧ Own RHit 47 [] w2.heap.size wr out (hitsU P t k) ∧ Below w2.heap.size w2 wr) (fun _ i _ => P.length - (intOf i).toNat)
      case atStart => exact ⟨0, Nat.zero_le _, rfl, by simpa [hitsU] using Own.nil_ RHit 47 [] w2.heap.size w2 (by decide), Below.refl _ _⟩
      case round =>
        obtain ⟨k, hk, rfl, hout, hbr⟩ := hrel
        have hzr := hbr.size
        by_cases hlt : k < P.length
        · have hki : (k : Int) < P.length := by omega
          have hpr := hps.mono (Keep.below (S := fun b => b < w2.heap.size) hbr) (Keep.below (S := fun b => b < w2.heap.size) hbr)
          obtain ⟨ab, off, v2, rfl, _, q0, q1, q2, hv⟩ := piece_at hpr.slb hlt
          obtain ⟨A3, c3, rfl, _, _, _⟩ := hv.open_
          have hba := hbr.alloc hzr (.cells #[.int .i64 P[k].1, .int .i64 P[k].2.1, .slice A3 P[k].2.2.length c3] 87)
          have hzb := hba.size
          have hbl := Blk.new wr 87 #[.int .i64 P[k].1, .int .i64 P[k].2.1, .slice A3 P[k].2.2.length c3]
          have hoa := hout.alloc (.cells #[.int .i64 P[k].1, .int .i64 P[k].2.1, .slice A3 P[k].2.2.length c3] 87)
          have hcut := hps.cut (k := k) (by omega)
          rw [if_neg (by omega)] at hcut
          have esz : RPiece.sz = 3 := rfl
          simp only [Option.map_some, Addr.add_lit, esz] at hcut
          have hne : ¬ c2 = k := by omega
          have hlt2 := fun (b : Nat) (h : b < w2.heap.size) => Nat.lt_of_lt_of_le h hzb
          have hcu2 := (hcut.mono (Keep.below (S := fun b => b < w2.heap.size) hba) (Keep.below (S := fun b => b < w2.heap.size) hba)).mono (Keep.weaken hlt2) (Keep.weaken hlt2)
          have hyu2 := (hys.mono (Keep.below (S := fun b => b < w2.heap.size) hba) (Keep.below (S := fun b => b < w2.heap.size) hba)).mono (Keep.weaken hlt2) (Keep.weaken hlt2)
          have hdl : (P.drop k).length ≤ 1000000000 := by rw [List.length_drop]; omega
          have hcn := count_ok _ _ (P.drop k) t _ hcu2 hyu2 hdl
          have hsn : hitsU P t (k + 1) = hitsU P t k ++ if 0 < cntP (P.drop k) t 0 then [(P[k].1, P[k].2.1, (cntP (P.drop k) t 0 : Int))] else [] := by
            rw [hitsU_snoc]
            unfold hitAt
            rw [List.getD_eq_getElem?_getD, List.getElem?_eq_getElem hlt]
            rfl
          have hhl := hitsU_len P t k
          have HCN := hide hcn
          have HSN := hide hsn
          clear hcn hsn hpr hcut hcu2 hyu2 hv hdl
          generalize cntP (P.drop k) t 0 = n at *
          go_wp2_with fail
          refine HCN.out.mono ?_
          rintro e w5 ⟨rfl, hb5⟩
          have hb5' := hba.trans (hb5.mono hzb)
          have hbl5 := hbl.same hb5
          have y0 := hbl5.cell 0
          have y1 := hbl5.cell 1
          have y2 := hbl5.cell 2
          simp only [List.getElem?_toArray, List.getElem?_cons_succ, List.getElem?_cons_zero] at y0 y1 y2
          have ho5 := hoa.below hb5
          have hz5 := hb5'.size
          by_cases hn0 : 0 < n
          · have hni : (0 : Int) < n := by omega
            have HS2 : Hid (hitsU P t (k + 1) = hitsU P t k ++ [(P[k].1, P[k].2.1, (n : Int))]) := hide (by rw [HSN.out, if_pos hn0])
            clear HSN hn0
            have ho6 := ho5.alloc (.cells #[.int .i64 P[k].1, .int .i64 P[k].2.1, .int .i64 n] 47)
            have hb6 := hb5'.alloc hz5 (.cells #[.int .i64 P[k].1, .int .i64 P[k].2.1, .int .i64 n] 47)
            go_wp2_with (at_builtin; refine wpList_appg rfl (.tmp 34) (.tmp 41) 44 rfl RHit 47 [] w2.heap.size 24 _ Tryd.underlying44 hit_info rfl (by decide) (by decide) _ _ rfl ho6 _ _ _ _ rfl (Slc.one_flat 47 w5 w5.heap.size rfl (P[k].1, P[k].2.1, (n : Int)) #[.int .i64 P[k].1, .int .i64 P[k].2.1, .int .i64 n] rfl) (fun _ h => h.elim) (by simp only [List.length_singleton]; omega) (by simp; omega) ?_; intro v8 w8 hv8 hst8 hg8 hob8)
            go_roundw
            case rel => exact ⟨k + 1, by omega, by go_num, by rw [HS2.out]; exact hv8, hb6.trans (hst8.below (by simp; omega))⟩
            case measure => simp [intOf]; omega
          · have hni : ¬ (0 : Int) < n := by omega
            have HS2 : Hid (hitsU P t (k + 1) = hitsU P t k) := hide (by rw [HSN.out, if_neg hn0, List.append_nil])
            clear HSN hn0
            go_wp2
            go_roundw
            case rel => exact ⟨k + 1, by omega, by go_num, by rw [HS2.out]; exact ho5, hb5'⟩
            case measure => simp [intOf]; omega
        · obtain rfl : k = P.length := by omega
          go_wp2
          go_ret
          exact ⟨_, rfl, hout.flat_base RHit.flat hb2.size (by decide), hb2.trans (hbr.mono hb2.size)⟩

/-- The first of them from a place on. -/
def fromB (r c : Int) (h : HitV) : Bool := decide (r < h.1 ∨ h.1 = r ∧ c ≤ h.2.1)
def nextH (hs : List HitV) (r c : Int) : HitV × Bool := match hs.find? (fromB r c) with
  | some h => (h, true)
  | none => ((0, 0, 0), false)
theorem find_at {α : Type} (p : α → Bool) (l : List α) (k : Nat) (hk : k < l.length) (hp : ∀ j (h : j < l.length), j < k → p l[j] = false) (h : p l[k] = true) : l.find? p = some l[k] := by
  rw [List.find?_eq_some_iff_getElem]
  exact ⟨h, k, hk, rfl, fun j hj => by simp [hp j (by omega) hj]⟩
theorem find_none {α : Type} (p : α → Bool) (l : List α) (hp : ∀ j (h : j < l.length), p l[j] = false) : l.find? p = none := by
  rw [List.find?_eq_none]
  intro x hx
  obtain ⟨j, hj, rfl⟩ := List.getElem_of_mem hx
  simp [hp j hj]

set_option maxHeartbeats 4000000 in
theorem Next_ok (b : Nat → Addr) (So To : Nat → Prop) (x y : Value) (wd hi r c : Int) (p au : Bool) (ls : List LineV) (t : List Int) (rr cc : Int) (w : World) (hV : VarsA b w) (hx : Slc RLine So (fun b => b < w.heap.size) w x ls) (hy : Slc (Rep.int .i32) (fun b => b < w.heap.size) (fun b => b < w.heap.size) w y t) (hlen : ∀ l ∈ ls, l.1.length ≤ 2000) (hll : ls.length ≤ 2000) :
    Calls Tryd.prog 20 #[.agg #[.int .i64 wd, .int .i64 hi, x, .int .i64 r, .int .i64 c, .bool p, .bool au], .int .i64 rr, .int .i64 cc, y] w fun e w' => e = .returned (.tuple #[.agg #[.int .i64 (nextH (allF ⟨wd, hi, ls, r, c, p, au⟩ t) rr cc).1.1, .int .i64 (nextH (allF ⟨wd, hi, ls, r, c, p, au⟩ t) rr cc).1.2.1, .int .i64 (nextH (allF ⟨wd, hi, ls, r, c, p, au⟩ t) rr cc).1.2.2], .bool (nextH (allF ⟨wd, hi, ls, r, c, p, au⟩ t) rr cc).2]) ∧ Below w.heap.size w w' := by
  obtain ⟨A, cp, rfl, hc1, hc2, _⟩ := hx.open_
  obtain ⟨B, d, rfl, hd1, hd2, _⟩ := hy.open_
  obtain ⟨W0, hW0⟩ : ∃ W0, W0 = (w.alloc (.cells #[.int .i64 wd, .int .i64 hi, .slice A ls.length cp, .int .i64 r, .int .i64 c, .bool p, .bool au] 40)).alloc (.cells #[.int .i64 0, .int .i64 0, .int .i64 0] 47) := ⟨_, rfl⟩
  have hb0 : Below w.heap.size w W0 := by rw [hW0]; exact ((Below.refl _ w).alloc (Nat.le_refl _) _).alloc (by simp) _
  have hz0 := hb0.size
  have hlt0 := fun (b : Nat) (h : b < w.heap.size) => Nat.lt_of_lt_of_le h hz0
  have bh : Blk W0 (w.heap.size + 1) 47 #[.int .i64 0, .int .i64 0, .int .i64 0] := by
    rw [hW0]
    have := Blk.new (w.alloc (.cells #[.int .i64 wd, .int .i64 hi, .slice A ls.length cp, .int .i64 r, .int .i64 c, .bool p, .bool au] 40)) 47 #[.int .i64 0, .int .i64 0, .int .i64 0]
    simpa using this
  have hA := All_ok b So To _ _ wd hi r c p au ls t W0 (hV.below hb0) ((hx.mono (Keep.below (S := So) hb0) (Keep.below (S := fun b => b < w.heap.size) hb0)).mono (Keep.refl _ _) (Keep.weaken hlt0)) ((hy.mono (Keep.below (S := fun b => b < w.heap.size) hb0) (Keep.below (S := fun b => b < w.heap.size) hb0)).mono (Keep.weaken hlt0) (Keep.weaken hlt0)) hlen hll
  generalize allF ⟨wd, hi, ls, r, c, p, au⟩ t = hs at *
  have HA := hide hA
  have HBH := hide bh
  obtain ⟨res, hres⟩ : ∃ res, res = nextH hs rr cc := ⟨_, rfl⟩
  rw [← hres]
  have HRES := hide hres
  clear hA bh hlen hres
  subst hW0
  go_enter Tryd.func20, Tryd.ntmps20
  go_wp2_with fail
  refine HA.out.mono ?_
  rintro e w1 ⟨s1, rfl, hv1, hc1⟩
  have hb1 := hb0.trans (hc1.mono hz0)
  have bh1 := HBH.out.same hc1
  have hsl := hv1.slc.mono (Keep.lt _ _) (Keep.lt _ _)
  obtain ⟨A1, c1, rfl, hc11, hc12, _⟩ := hsl.open_
  clear HA HBH hv1
  go_wp2
  go_loopw [16] (fun i wr => ∃ k : Nat, k ≤ hs.length ∧ i = .int .i64 k ∧ (∀ j (h : j < hs.length), j < k → fromB rr cc hs[j] = false) ∧ Below w1.heap.size w1 wr) (fun i _ => hs.length - (intOf i).toNat)
  case atStart => exact ⟨0, Nat.zero_le _, rfl, fun j _ h => absurd h (Nat.not_lt_zero j), Below.refl _ _⟩
  case round =>
    obtain ⟨k, hk, rfl, hpre, hbr⟩ := hrel
    have HP := hide hpre
    have hzr := hbr.size
    have bhr := bh1.same hbr
    clear hpre
    by_cases hlt : k < hs.length
    · have hki : (k : Int) < hs.length := by omega
      have hpr := hsl.mono (Keep.below (S := fun b => b < w1.heap.size) hbr) (Keep.below (S := fun b => b < w1.heap.size) hbr)
      obtain ⟨ab, off, rfl, _, q0, q1, q2⟩ := hit_at hpr.slb hlt
      have hba := hbr.alloc hzr (.cells #[.int .i64 hs[k].1, .int .i64 hs[k].2.1, .int .i64 hs[k].2.2] 47)
      have hyes : fromB rr cc hs[k] = true → res = (hs[k], true) := fun h => by
        rw [HRES.out]
        unfold nextH
        rw [find_at _ hs k hlt HP.out h]
      have HY := hide hyes
      have bha := bhr.alloc (.cells #[.int .i64 hs[k].1, .int .i64 hs[k].2.1, .int .i64 hs[k].2.2] 47)
      have f0 := bha.frozen 0
      have f1 := bha.frozen 1
      have f2 := bha.frozen 2
      have z0 := bha.cell 0
      have z1 := bha.cell 1
      have z2 := bha.cell 2
      simp only [List.getElem?_toArray, List.getElem?_cons_succ, List.getElem?_cons_zero] at z0 z1 z2
      obtain ⟨⟨h1, h2, h3⟩, hh⟩ : ∃ h, hs[k] = h := ⟨_, rfl⟩
      rw [hh] at q0 q1 q2 hba bha f0 f1 f2 z0 z1 z2 HY
      simp only at q0 q1 q2 hba bha f0 f1 f2 z0 z1 z2
      have HH := hide hh
      clear hyes hpr hh
      have ha := (bha.set_ 0 (.int .i64 h1)).set_ 1 (.int .i64 h2)
      have hb9 := ha.set_ 2 (.int .i64 h3)
      have x0 := hb9.cell 0
      have x1 := hb9.cell 1
      have x2 := hb9.cell 2
      simp only [List.getElem?_toArray, List.getElem?_cons_succ, List.getElem?_cons_zero, List.setIfInBounds_toArray, List.set_cons_zero, List.set_cons_succ] at x0 x1 x2
      have hbe := ((hb1.trans (hba.mono hb1.size)).setCell (p := ⟨w.heap.size + 1, 0, none⟩) (by simp) (.int .i64 h1)).setCell (p := ⟨w.heap.size + 1, 1, none⟩) (by simp) (.int .i64 h2) |>.setCell (p := ⟨w.heap.size + 1, 2, none⟩) (by simp) (.int .i64 h3)
      have HX := hide (⟨x0, x1, x2⟩ : _ ∧ _ ∧ _)
      have HBE := hide hbe
      clear x0 x1 x2 ha hb9 hbe bha
      by_cases g1 : rr < h1
      · have HR : Hid (res = ((h1, h2, h3), true)) := hide (HY.out (decide_eq_true (.inl g1)))
        go_wp2
        obtain ⟨x0, x1, x2⟩ := HX.out
        have hR := HR.out
        subst hR
        exact bodyPost_ret (v := .tuple #[.agg #[.int .i64 h1, .int .i64 h2, .int .i64 h3], .bool true]) (by simp [results, Tryd.results20, go_sem, x0, x1, x2]) rfl ⟨rfl, HBE.out⟩
      · have g1' : ¬ rr < h1 := g1
        by_cases g2 : h1 = rr
        · have e2 : (h1 == rr) = true := by simpa using g2
          by_cases g3 : cc ≤ h2
          · have HR : Hid (res = ((h1, h2, h3), true)) := hide (HY.out (decide_eq_true (.inr ⟨g2, g3⟩)))
            clear g2
            go_wp2
            obtain ⟨x0, x1, x2⟩ := HX.out
            have hR := HR.out
            subst hR
            exact bodyPost_ret (v := .tuple #[.agg #[.int .i64 h1, .int .i64 h2, .int .i64 h3], .bool true]) (by simp [results, Tryd.results20, go_sem, x0, x1, x2]) rfl ⟨rfl, HBE.out⟩
          · have HN : Hid (fromB rr cc hs[k] = false) := hide (by rw [HH.out]; unfold fromB; exact decide_eq_false (by simp only; omega))
            clear g2
            go_wp2
            go_roundw
            case rel => exact ⟨k + 1, by omega, by go_num, fun j hj hjk => (by
              by_cases e : j = k
              · subst e; exact HN.out
              · exact HP.out j hj (by omega)), hba⟩
            case measure => simp [intOf]; omega
        · have e2 : (h1 == rr) = false := by simpa using g2
          have HN : Hid (fromB rr cc hs[k] = false) := hide (by rw [HH.out]; unfold fromB; exact decide_eq_false (by simp only; omega))
          clear g2
          go_wp2
          go_roundw
          case rel => exact ⟨k + 1, by omega, by go_num, fun j hj hjk => (by
            by_cases e : j = k
            · subst e; exact HN.out
            · exact HP.out j hj (by omega)), hba⟩
          case measure => simp [intOf]; omega
    · obtain rfl : k = hs.length := by omega
      have HR : Hid (res = ((0, 0, 0), false)) := hide (by rw [HRES.out]; unfold nextH; rw [find_none _ _ (fun j hj => HP.out j hj hj)])
      have z0 := bhr.cell 0
      have z1 := bhr.cell 1
      have z2 := bhr.cell 2
      have f0 := bhr.frozen 0
      have f1 := bhr.frozen 1
      have f2 := bhr.frozen 2
      simp only [List.getElem?_toArray, List.getElem?_cons_succ, List.getElem?_cons_zero] at z0 z1 z2
      have hb9 := ((bhr.set_ 0 (.int .i64 0)).set_ 1 (.int .i64 0)).set_ 2 (.int .i64 0)
      have x0 := hb9.cell 0
      have x1 := hb9.cell 1
      have x2 := hb9.cell 2
      simp only [List.getElem?_toArray, List.getElem?_cons_succ, List.getElem?_cons_zero, List.setIfInBounds_toArray, List.set_cons_zero, List.set_cons_succ] at x0 x1 x2
      have hbe := ((hb1.trans (hbr.mono hb1.size)).setCell (p := ⟨w.heap.size + 1, 0, none⟩) (by simp) (.int .i64 0)).setCell (p := ⟨w.heap.size + 1, 1, none⟩) (by simp) (.int .i64 0) |>.setCell (p := ⟨w.heap.size + 1, 2, none⟩) (by simp) (.int .i64 0)
      have HX := hide (⟨x0, x1, x2⟩ : _ ∧ _ ∧ _)
      have HBE := hide hbe
      clear x0 x1 x2 hb9 hbe
      go_wp2
      obtain ⟨x0, x1, x2⟩ := HX.out
      have hR := HR.out
      subst hR
      exact bodyPost_ret (v := .tuple #[.agg #[.int .i64 0, .int .i64 0, .int .i64 0], .bool false]) (by simp [results, Tryd.results20, go_sem, x0, x1, x2]) rfl ⟨rfl, HBE.out⟩
end Go.Proofs.YtejhaepgbfngcaaDoor
