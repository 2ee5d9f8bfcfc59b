/-
  The four laws on the decoder: each walk returns true and leaves the memory that was there as it was.
-/
import Derived.Test.YtfcjkmiaibakiaaDec
import Derived.Test.YtfcjkmiaibakiaaRef3s
import Derived.Test.YtfcjkmiaibakiaaUtf2
import Derived.Test.YtfcjkmiaibakiaaMem2
namespace Go.Proofs.Ytfcjkmiaibakiaa
open Go.RowKit
set_option linter.unusedVariables false

theorem holds_new (w : World) : Holds (w.alloc (.cells #[.int .i64 0, .int .i64 0, .int .u8 0, .int .u8 0, .int .i64 0] 38)) w.heap.size [] :=
  ⟨Blk.new _ _ _, pre_nil, bytes_nil⟩
theorem Holds.same {w w' : World} {g : Nat} {h : List Int} (hh : Holds w g h) (hb : Below w.heap.size w w') : Holds w' g h := ⟨hh.at_.same hb, hh.pre, hh.bytes⟩
theorem Holds.alloc {w : World} {g : Nat} {h : List Int} (hh : Holds w g h) (o : Obj) : Holds (w.alloc o) g h := ⟨hh.at_.alloc o, hh.pre, hh.bytes⟩
theorem Holds.drewN {w : World} {g : Nat} {h : List Int} (hh : Holds w g h) (n : Nat) : Holds (w.drewN n) g h := ⟨hh.at_.drewN n, hh.pre, hh.bytes⟩
theorem Holds.step {w w' : World} {g base : Nat} {es : List TypeId} {h : List Int} (hh : Holds w g h) (hb : Step base es w w') (he : 38 ∉ es) : Holds w' g h := ⟨hh.at_.step hb he, hh.pre, hh.bytes⟩
theorem Holds.other {w w' : World} {g g' : Nat} {h : List Int} (hh : Holds w g h) (hb : w.grownBy w' (some g')) (hg : g ≠ g') : Holds w' g h := ⟨hh.at_.grown hb (by simpa using hg), hh.pre, hh.bytes⟩
/-- What turned is one of the call's own blocks. -/
theorem below_gb {B g : Nat} {w w1 w2 : World} (h : Below B w w1) (hg : w1.grownBy w2 (some g)) (hB : B ≤ g) (hs : B ≤ w1.heap.size) : Below B w w2 :=
  h.grown hg hs (fun k hk => by injection hk with hk; omega)

set_option maxHeartbeats 1000000 in
theorem works03_ok (w : World) :
    Calls Try.prog 27 #[] w fun e w' => e = .returned (.bool true) ∧ Below w.heap.size w w' := by
  have h0 := holds_new w
  have hf : feedF [] [226, 130] = ([], [226, 130]) := by decide
  have hs : refStepF [226, 130] 65 = ([65533, 65], []) := by decide
  have HF := hide hf
  have HS := hide hs
  clear hf hs
  go_enter Try.func27, Try.ntmps27
  go_wp2_with fail
  have ho : Own (Rep.int .u8) 5 [] (w.heap.size + 1) ((w.alloc (.cells #[.int .i64 0, .int .i64 0, .int .u8 0, .int .u8 0, .int .i64 0] 38)).alloc (.cells #[.int .u8 226, .int .u8 130] 5)) (.slice (some ⟨w.heap.size + 1, 0, none⟩) 2 2) [226, 130] :=
    own_u8 _ [226, 130] (by decide) _ _ 2 (Nat.le_refl _) (by simp) rfl (by simp [maxLen])
  refine (Feed_ok w.heap.size [] [226, 130] _ _ _ _ (h0.alloc _) ho.islc (fun b hb => by have := hb.2.1; omega) (by simp)).mono ?_
  rw [HF.out]
  rintro e w1 ⟨v1, rfl, hv1, hh1, hg1⟩
  have hb1 : Below w.heap.size w w1 := below_gb (((Below.refl _ w).alloc (Nat.le_refl _) _).alloc (by simp) _) hg1 (Nat.le_refl _) (by simp <;> omega)
  obtain ⟨A1, c1, rfl, _, _, _⟩ := hv1.slc.open_
  go_wp2_with fail
  refine (StepH_ok _ _ 65 _ hh1 (by omega) (by omega)).mono ?_
  rw [HS.out]
  rintro e w2 ⟨v2, rfl, hv2, hh2, hg2⟩
  have hb2 : Below w.heap.size w w2 := below_gb hb1 hg2 (Nat.le_refl _) hb1.size
  obtain ⟨A2, c2, rfl, q1, q2, q3⟩ := hv2.slc.open_
  go_wp2_with fail
  have ho2 := own_i32 w2 [65533, 65] (by decide) w2.heap.size w2.heap.size 2 (Nat.le_refl _) rfl rfl (by simp [maxLen])
  refine (Same_ok _ _ _ _ _ _ _ _ _ ((hv2.alloc _).islc) ho2.islc).mono ?_
  rintro e w3 ⟨rfl, n, rfl⟩
  go_wp2_with fail
  refine (HeldH_ok _ [] _ ?_).mono ?_
  · exact (hh2.alloc _).drewN _
  rintro e w4 ⟨rfl, rfl⟩
  go_wp2
  go_ret
  exact ⟨rfl, below_drewN (hb2.alloc hb2.size _) _⟩

set_option maxHeartbeats 1000000 in
theorem walk_UtfdecSteps (p : Value) (l : List Int) (w : World) (hp : Slc (Rep.int .u8) (fun b => b < w.heap.size) (fun b => b < w.heap.size) w p l) :
    Calls Try.prog 7 #[p] w fun e w' => e = .returned (.bool true) ∧ Below w.heap.size w w' := by
  have hbl : Bytes l := fun n hn => u8_wf (hp.ints_wf n hn)
  obtain ⟨A, c, rfl, hc1, hc2, hB⟩ := hp.open_
  by_cases hlen : l.length ≤ 3000
  · go_enter Try.func7, Try.ntmps7
    go_wp2_with fail
    refine (works03_ok _).mono ?_
    rintro e w1 ⟨rfl, hb1⟩
    have hsz1 := hb1.size
    have hg0 := holds_new w1
    go_wp2
    go_loopw [4, 5] (fun hv i wr => ∃ k : Nat, k ≤ l.length ∧ i = .int .i64 k ∧ Holds wr w1.heap.size (feedF [] (l.take k)).2 ∧
        Slc (Rep.int .u8) (Typed w.heap.size [5] wr) (fun _ => False) wr hv (feedF [] (l.take k)).2 ∧ Below w.heap.size w wr)
      (fun _ i _ => l.length - (intOf i).toNat)
    case atStart => exact ⟨0, Nat.zero_le _, rfl, hg0, Slc.nil_, hb1.alloc hsz1 _⟩
    case round =>
      obtain ⟨k, hk, rfl, hhk, hhv, hbel⟩ := hrel
      have hBk := hB.ints_keep (So' := fun b => b < w.heap.size) (fun a u hs hc => ⟨hs, (hbel.cell hs).trans hc⟩)
      have hsz := hbel.size
      have hpl := pre_length hhk.pre hhk.bytes
      by_cases hlt : k < l.length
      · obtain ⟨ab, off, rfl, hab, hck, hwk⟩ := ints_at hBk hlt
        obtain ⟨hw0, hw1⟩ := u8_wf hwk
        have hsn := feedF_snoc (l.take k) [] l[k]
        rw [← take_snoc' l k hlt] at hsn
        have Hsn := hide hsn
        clear hsn
        go_wp2_with fail
        refine (rStep_ok _ _ _ _ _ _ hhv hw0 hw1 (by omega)).mono ?_
        rintro e w2 ⟨v1, v2, rfl, hv1, hv2, hb2⟩
        have hh2 := hhk.same hb2
        have hck2 : w2.cell? ⟨ab, off + k, none⟩ = some (.int .u8 l[k]) := by rw [(hb2.cell (p := ⟨ab, off + k, none⟩) (by simp only; omega))]; exact hck
        have hsz2 := hb2.size
        obtain ⟨A2, c2, rfl, _, _, _⟩ := hv2.slc.open_
        go_wp2_with fail
        refine (StepH_ok _ _ _ _ hh2 hw0 hw1).mono ?_
        rintro e w3 ⟨v3, rfl, hv3, hh3, hg3⟩
        have hv1' := hv1.ints_gb hg3 hh2.at_ (by decide)
        have hv2' := hv2.ints_gb hg3 hh2.at_ (by decide)
        have hsz3 := hg3.size
        have hbel3 := below_gb (hbel.trans (hb2.mono hsz)) hg3 hsz1 (by omega)
        go_wp2_with fail
        refine (Same_ok _ _ _ _ _ _ _ _ _ hv3.islc hv1'.islc).mono ?_
        rintro e w4 ⟨rfl, n, rfl⟩
        go_wp2_with fail
        refine (HeldH_ok _ _ _ (hh3.drewN n)).mono ?_
        rintro e w4 ⟨rfl, rfl⟩
        go_wp2
        go_roundw
        case rel =>
          refine ⟨k + 1, by omega, by go_num, ?_, ?_, below_drewN hbel3 _⟩
          · rw [Hsn.out]; exact hh3.drewN n
          · rw [Hsn.out]
            exact ((hv2'.drewN n).islc).mono (Si' := fun _ => False) (Keep.weaken fun b hb => Fresh.typed (by simp) b hb.2) (fun _ _ h _ => h.elim)
        case measure => simp [intOf]; omega
      · have e : l.take k = l := List.take_of_length_le (by omega)
        rw [e] at hhk hhv
        go_wp2_with fail
        refine (FlushH_ok _ _ _ hhk).mono ?_
        rintro e w2 ⟨v2, rfl, hv2, hh2, hg2⟩
        have hsz2 := hg2.size
        have hbel2 := below_gb hbel hg2 hsz1 hsz
        have hhv2 := hhv.ints_keep (So' := fun _ => True) (w' := w2) (by
          intro p u hs hc
          refine ⟨trivial, ?_⟩
          have hlt := World.block_lt_of_cell? _ p hc
          refine (World.cell?_of_block (hg2.block p.block hlt ?_)).trans hc
          intro e
          injection e with e
          rcases hs with hs | ⟨cs, t, fz, hh, ht⟩
          · omega
          · have := hhk.at_
            unfold DecAt Blk at this
            rw [e, this] at hh
            injection hh with hh
            injection hh with _ e2
            subst e2
            simp at ht)
        go_wp2_with fail
        refine (rFlush_ok _ _ _ _ _ hhv2).mono ?_
        rintro e w3 ⟨v3, rfl, hv3, hb3⟩
        have hv2' := hv2.below hb3
        have hh3 := hh2.same hb3
        have hbel3 := hbel2.trans (hb3.mono (by omega))
        go_wp2_with fail
        refine (Same_ok _ _ _ _ _ _ _ _ _ hv2'.islc hv3.islc).mono ?_
        rintro e w4 ⟨rfl, n, rfl⟩
        go_wp2_with fail
        refine (HeldH_ok _ _ _ (hh3.drewN n)).mono ?_
        rintro e w4 ⟨rfl, rfl⟩
        go_wp2_with fail
        refine (FlushH_ok _ _ _ (hh3.drewN n)).mono ?_
        rintro e w5 ⟨v5, rfl, hv5, hh5, hg5⟩
        obtain ⟨A5, c5, rfl, _, _, _⟩ := hv5.slc.open_
        go_wp2
        go_ret
        exact ⟨rfl, below_gb (below_drewN hbel3 n) hg5 hsz1 (by have := hbel3.size; simpa using this)⟩
  · go_enter Try.func7, Try.ntmps7
    go_wp2_with fail
    refine (works03_ok _).mono ?_
    rintro e w1 ⟨rfl, hb1⟩
    go_wp2_with fail
    refine (works03_ok _).mono ?_
    rintro e w2 ⟨rfl, hb2⟩
    go_wp2
    go_ret
    exact ⟨rfl, hb1.trans (hb2.mono hb1.size)⟩

set_option maxHeartbeats 1000000 in
theorem walk_UtfdecForms (p : Value) (l : List Int) (w : World) (hp : Slc (Rep.int .i32) (fun b => b < w.heap.size) (fun b => b < w.heap.size) w p l) :
    Calls Try.prog 8 #[p] w fun e w' => e = .returned (.bool true) ∧ Below w.heap.size w w' := by
  obtain ⟨A, c, rfl, hc1, hc2, hB⟩ := hp.open_
  by_cases hlen : l.length ≤ 500
  · go_enter Try.func8, Try.ntmps8
    go_wp2_with fail
    refine (works03_ok _).mono ?_
    rintro e w1 ⟨rfl, hb1⟩
    have hsz1 := hb1.size
    have hg0 := holds_new w1
    go_wp2
    go_loopw [4] (fun i wr => ∃ k : Nat, k ≤ l.length ∧ i = .int .i64 k ∧ Holds wr w1.heap.size [] ∧ Below w.heap.size w wr ∧ w1.heap.size < wr.heap.size)
      (fun i _ => l.length - (intOf i).toNat)
    case atStart => exact ⟨0, Nat.zero_le _, rfl, hg0, hb1.alloc hsz1 _, by simp⟩
    case round =>
      obtain ⟨wo, rfl⟩ : ∃ wo : World, wo = wr := ⟨wr, rfl⟩
      obtain ⟨k, hk, rfl, hhk, hbel, hszk⟩ := hrel
      have hBk := hB.ints_keep (So' := fun b => b < w.heap.size) (fun a u hs hc => ⟨hs, (hbel.cell hs).trans hc⟩)
      have hsz := hbel.size
      by_cases hlt : k < l.length
      · obtain ⟨ab, off, rfl, hab, hck, hwk⟩ := ints_at hBk hlt
        have hr := i32_wf hwk
        have hst := form_step_any l[k]
        have hl4 := form_len4 l[k]
        have hForm := rForm_ok l[k] hr.1 hr.2
        generalize hfg : formF l[k] = f at *
        generalize hrg : l[k] = r at *
        have HST := hide hst
        clear hfg hrg hst
        go_wp2_with fail
        refine (hForm _).mono ?_
        rintro e w2 ⟨v2, rfl, hv2, hb2⟩
        have hsz2 := hb2.size
        have hh2 := hhk.same hb2
        have hbel2 := hbel.trans (hb2.mono hsz)
        obtain ⟨A2, c2, rfl, hd1, hd2, _⟩ := hv2.slc.open_
        go_wp2
        go_loopw [6] (fun j wx => ∃ m : Nat, m ≤ f.length ∧ j = .int .i64 m ∧ Holds wx w1.heap.size (if m < f.length then f.take m else []) ∧ Below w.heap.size w wx ∧ w2.heap.size ≤ wx.heap.size ∧
            Own (Rep.int .u8) 5 [] wo.heap.size wx (.slice A2 f.length c2) f)
          (fun j _ => f.length - (intOf j).toNat)
        case atStart => exact ⟨0, Nat.zero_le _, rfl, by simpa using hh2, hbel2, Nat.le_refl _, hv2⟩
        case round =>
          obtain ⟨m, hm, rfl, hhm, hbm, hszm, hom⟩ := hrel
          by_cases hmt : m < f.length
          · rw [if_pos hmt] at hhm
            have hBm := hom.slc.slb
            obtain ⟨fb, fo, rfl, _, hcf, hwf⟩ := ints_at hBm hmt
            obtain ⟨hf0, hf1⟩ := u8_wf hwf
            have hckm : wr.cell? ⟨ab, off + k, none⟩ = some (.int .i32 r) := by
              have h1 := (hbm.cell (p := ⟨ab, off + k, none⟩) hab)
              have h2 := (hbel.cell (p := ⟨ab, off + k, none⟩) hab)
              rw [h1, ← h2]; exact hck
            have habx : ab < wr.heap.size := by omega
            have hstm := HST.out m hmt
            by_cases hlast : m + 1 < f.length
            · rw [if_pos hlast] at hstm
              have HSTM := hide hstm
              clear hstm
              go_wp2_with fail
              refine (StepH_ok _ _ _ _ hhm hf0 hf1).mono ?_
              rw [HSTM.out]
              rintro e w3 ⟨v3, rfl, hv3, hh3, hg3⟩
              have hom3 := hom.ints_gb hg3 hhm.at_ (by decide)
              have hsz3 := hg3.size
              obtain ⟨A3, c3, rfl, _, _, _⟩ := hv3.slc.open_
              go_wp2
              go_roundw
              case rel => exact ⟨m + 1, by omega, by go_num, by rw [if_pos hlast]; exact hh3, below_gb hbm hg3 hsz1 (by omega), by omega, hom3⟩
              case measure => simp [intOf]; omega
            · rw [if_neg hlast] at hstm
              have HSTM := hide hstm
              have hml : ((m : Int) + 1 == f.length) = true := by simp; omega
              clear hstm
              go_wp2_with fail
              refine (StepH_ok _ _ _ _ hhm hf0 hf1).mono ?_
              rw [HSTM.out]
              rintro e w3 ⟨v3, rfl, hv3, hh3, hg3⟩
              have hom3 := hom.ints_gb hg3 hhm.at_ (by decide)
              have hsz3 := hg3.size
              have hck3 : w3.cell? ⟨ab, off + k, none⟩ = some (.int .i32 r) := by
                rw [World.cell?_of_block (hg3.block ab habx (by intro e; injection e with e; omega))]; exact hckm
              have ho4 := own_i32 w3 [r] (by intro n hn; simp at hn; subst hn; exact hwk) w3.heap.size w3.heap.size 1 (Nat.le_refl _) rfl rfl (by simp [maxLen])
              have hbel3 := below_gb hbm hg3 hsz1 (by omega)
              obtain ⟨A3, c3, rfl, _, _, _⟩ := hv3.slc.open_
              go_wp2_with fail
              refine (Same_ok _ _ _ _ _ _ _ _ _ ((hv3.alloc _).islc) ho4.islc).mono ?_
              rintro e w4 ⟨rfl, n, rfl⟩
              go_wp2
              go_roundw
              case rel => exact ⟨m + 1, by omega, by go_num, by rw [if_neg hlast]; exact (hh3.alloc _).drewN n, below_drewN (hbel3.alloc hbel3.size _) n, by simp; omega, (hom3.alloc _).drewN n⟩
              case measure => simp [intOf]; omega
          · rw [if_neg hmt] at hhm
            go_wp2
            go_roundw
            case rel => exact ⟨k + 1, by omega, by go_num, hhm, hbm, by omega⟩
            case measure => simp [intOf]; omega
      · go_wp2_with fail
        refine (HeldH_ok _ _ _ hhk).mono ?_
        rintro e w2 ⟨rfl, rfl⟩
        go_wp2
        go_ret
        exact ⟨rfl, hbel⟩
  · go_enter Try.func8, Try.ntmps8
    go_wp2_with fail
    refine (works03_ok _).mono ?_
    rintro e w1 ⟨rfl, hb1⟩
    go_wp2_with fail
    refine (works03_ok _).mono ?_
    rintro e w2 ⟨rfl, hb2⟩
    go_wp2
    go_ret
    exact ⟨rfl, hb1.trans (hb2.mono hb1.size)⟩
end Go.Proofs.Ytfcjkmiaibakiaa
