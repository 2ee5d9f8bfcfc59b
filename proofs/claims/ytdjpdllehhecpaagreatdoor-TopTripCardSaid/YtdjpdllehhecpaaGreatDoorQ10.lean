import Derived.Test.YtdjpdllehhecpaaGreatDoorQ05
import Derived.Deep.OwnRows
import Derived.Test.YtdjpdllehhecpaaGreatDoorChecked
import Derived.Test.YtdjpdllehhecpaaGreatDoorQ03
import Derived.Test.YtdjpdllehhecpaaGreatDoorQ02
import Derived.Test.YtdjpdllehhecpaaGreatDoorQ00
open List renaming getElem?_toArray → zA, getElem?_cons_succ → zB, getElem?_cons_zero → zC, setIfInBounds_toArray → zD, set_cons_zero → zE, set_cons_succ → zF
namespace Go.Proofs.YtdjpdllehhecpaaGreatDoor
open Go.RowKit
set_option linter.unusedVariables false
set_option linter.unusedSimpArgs false
theorem Own.of_blk {k : IntKind} {e : TypeId} {T : List TypeId} {base g n : Nat} {w : World} {l : List Int} (hT : e ∉ T) (h : Blk w g e (l.map (Value.int k)).toArray) (hw : ∀ m ∈ l, (Lit.int k m).wf = true) (hb : base ≤ g) (hn : l.length = n) (hm : n ≤ maxLen) : Own (Rep.int k) e T base w (.slice (some ⟨g, 0, none⟩) n n) l := by
  subst hn
  exact ⟨hT, l.map (Value.int k), ⟨by simp [Rep.int], .inr ⟨g, l.length, _, rfl, hb, h, Nat.le_refl _, hm, by simp [Rep.int], by simp [Rep.int, List.take_of_length_le]⟩⟩, els_ints _ _ _ _ hw⟩
theorem i32_mask (b : Int) (h0 : 0 ≤ b) (h1 : b ≤ 1114111) : bits .and .i32 b 63 = b % 64 := by
  obtain ⟨n, rfl⟩ := Int.eq_ofNat_of_zero_le h0
  have hn : (BitVec.ofInt 32 (n : Int)).toNat = n := by rw [BitVec.ofInt_natCast, BitVec.toNat_ofNat]; exact Nat.mod_eq_of_lt (by omega)
  have hm : (BitVec.ofInt 32 63).toNat = 63 := by decide
  show IntKind.i32.wrap ((BitVec.ofInt 32 (n : Int) &&& BitVec.ofInt 32 63).toNat : Int) = _
  rw [BitVec.toNat_and, hn, hm, show (63 : Nat) = 2 ^ 6 - 1 from rfl, Nat.and_two_pow_sub_one_eq_mod, IntKind.wrap_i32]
  omega
theorem u8_or128 (b : Int) (h0 : 0 ≤ b) (h1 : b < 64) : bits .or .u8 128 b = 128 + b := by
  obtain ⟨n, rfl⟩ := Int.eq_ofNat_of_zero_le h0
  have h : ∀ n : Fin 64, bits .or .u8 128 ((n.val : Nat) : Int) = 128 + ((n.val : Nat) : Int) := by decide
  exact h ⟨n, by omega⟩
theorem u8_or0 (b : Int) (h0 : 0 ≤ b) (h1 : b < 128) : bits .or .u8 0 b = b := by
  obtain ⟨n, rfl⟩ := Int.eq_ofNat_of_zero_le h0
  have h : ∀ n : Fin 128, bits .or .u8 0 ((n.val : Nat) : Int) = ((n.val : Nat) : Int) := by decide
  exact h ⟨n, by omega⟩
theorem sValid_ok (r : Int) (h0 : -2147483648 ≤ r) (h1 : r ≤ 2147483647) (w : World) :
    Calls Tryz.prog 53 #[.int .i32 r] w fun e w' => e = .returned (.bool (validB r)) ∧ w = w' := by
  go_enter Tryz.func53, Tryz.ntmps53
  go_wp2
  all_goals go_ret
  all_goals (refine ⟨ret_1 (bool_eq ?_), rfl⟩; go_tidy; unfold validB; rw [Bool.eq_iff_iff]; simp; omega)
theorem sSize_ok (r : Int) (h0 : -2147483648 ≤ r) (h1 : r ≤ 2147483647) (w : World) :
    Calls Tryz.prog 83 #[.int .i32 r] w fun e w' => e = .returned (.int .i64 (sizeF r)) ∧ w = w' := by
  go_enter Tryz.func83, Tryz.ntmps83
  go_wp2_with (refine (sValid_ok _ (by omega) (by omega) _).mono ?_; rintro e w' ⟨rfl, rfl⟩)
  all_goals go_ret
  all_goals (refine ⟨ret_1 (int_eq ?_), rfl⟩; go_tidy; unfold sizeF; simp_all; try omega)
theorem lead_ok (n k : Int) (h : (n = 1 ∧ k = 0) ∨ (n = 2 ∧ k = 192) ∨ (n = 3 ∧ k = 224) ∨ (n = 4 ∧ k = 240)) (w : World) :
    Calls Tryz.prog 84 #[.int .i64 n] w fun e w' => e = .returned (.int .u8 k) ∧ w = w' := by
  rcases h with ⟨rfl, rfl⟩ | ⟨rfl, rfl⟩ | ⟨rfl, rfl⟩ | ⟨rfl, rfl⟩
  all_goals
    go_enter Tryz.func84, Tryz.ntmps84
    go_wp2
    go_ret
    exact ⟨rfl, rfl⟩
set_option maxHeartbeats 1000000 in
theorem sForm_ok (r : Int) (h0 : -2147483648 ≤ r) (h1 : r ≤ 2147483647) (w : World) :
    Calls Tryz.prog 54 #[.int .i32 r] w fun e w' =>
      ∃ v, e = .returned v ∧ Own (Rep.int .u8) 5 [] w.heap.size w' v (formF r) ∧ Below w.heap.size w w' := by
  have hS := sSize_ok r h0 h1 w
  by_cases hv : validB r = true
  · have h := (validB_iff r).1 hv
    have ow : ∀ (l : List Int) (n : Nat), (∀ m ∈ l, 0 ≤ m ∧ m ≤ 255) → l.length = n → n ≤ 4 → Own (Rep.int .u8) 5 [] w.heap.size (w.alloc (.cells (l.map (Value.int .u8)).toArray 5)) (.slice (some ⟨w.heap.size, 0, none⟩) n n) l :=
      fun l n hl hn h4 => Own.lit (by simp) (els_ints _ _ _ _ fun m hm => wf_u8 (hl m hm).1 (hl m hm).2) (Nat.le_refl _) hn (by simp only [maxLen]; omega)
    have hr0 : 0 ≤ r := by omega
    have hr1 : r ≤ 1114111 := by omega
    have hfb := formF_bytes r
    have hc : r ≤ 127 ∨ (127 < r ∧ r ≤ 2047) ∨ (2047 < r ∧ r ≤ 65535) ∨ 65535 < r := by omega
    rcases hc with hc | hc | hc | hc
    · have hz : sizeF r = 1 := by unfold sizeF; rw [if_pos hv]; omega
      have hf : formF r = [r] := by unfold formF; simp only [if_pos hv]; rw [if_pos (by omega)]
      rw [hz] at hS
      rw [hf] at hfb
      have hmk : ∀ w : World, (Instr.makeSlice 22 (.int .i64 1) (.int .i64 1)).run Tryz.prog w = .ok (.slice (some ⟨w.heap.size, 0, none⟩) 1 1) (w.alloc (.cells #[.int .u8 0] 5)) := fun w => by
        have e := run_make_row' (P := Tryz.prog) 22 5 (.int .u8 0) 1 Tryz.underlying22 u8_info rfl .i64 .i64 1 (by decide) (by decide) w
        rw [show madeCells #[Value.int .u8 0] 1 = #[Value.int .u8 0] from by kernel_rfl] at e
        exact e
      have HF := hide hf
      have HS := hide hS
      have HFB := hide hfb
      clear hS hf hfb hz hv
      go_enter Tryz.func54, Tryz.ntmps54
      set_option maxRecDepth 10000 in go_wp2_with (go_at_call 83; refine HS.out.mono ?_; rintro e w' ⟨rfl, rfl⟩)
      go_loopw [0, 5] (fun rv i wr => ((rv = .int .i32 r ∧ i = .int .i64 0 ∧ Blk wr w.heap.size 5 #[.int .u8 (0)])) ∧ Below w.heap.size w wr) (fun _ i _ => (intOf i).toNat)
      case atStart => exact ⟨⟨rfl, rfl, Blk.new _ _ _⟩, (Below.refl _ _).alloc (Nat.le_refl _) _⟩
      case round =>
        obtain ⟨⟨rfl, rfl, hb⟩, hbel⟩ := hrel
        have c0 := hb.cell 0
        simp only [zA, zB, zC] at c0
        have z0 := hb.frozen 0
        have hlt := hb.lt
        have b3 := u8_or0 r (by omega) (by omega)
        go_wp2_with (go_at_call 84; refine (lead_ok 1 0 (by omega) _).mono ?_; rintro e w' ⟨rfl, rfl⟩)
        go_ret
        have HFB2 := HFB.out
        refine ⟨_, rfl, ?_, hbel.setCell (Nat.le_refl _) _⟩
        rw [HF.out]
        exact Own.of_blk (by simp) (hb.set_ 0 _) (fun m hm => wf_u8 (HFB2 m hm).1 (HFB2 m hm).2) (Nat.le_refl _) rfl (by simp [maxLen])
    · have hz : sizeF r = 2 := by unfold sizeF; rw [if_pos hv]; omega
      have hf : formF r = [192 + r / 64, 128 + r % 64] := by unfold formF; simp only [if_pos hv]; rw [if_neg (by omega), if_pos (by omega)]
      rw [hz] at hS
      rw [hf] at hfb
      have hmk : ∀ w : World, (Instr.makeSlice 22 (.int .i64 2) (.int .i64 2)).run Tryz.prog w = .ok (.slice (some ⟨w.heap.size, 0, none⟩) 2 2) (w.alloc (.cells #[.int .u8 0, .int .u8 0] 5)) := fun w => by
        have e := run_make_row' (P := Tryz.prog) 22 5 (.int .u8 0) 1 Tryz.underlying22 u8_info rfl .i64 .i64 2 (by decide) (by decide) w
        rw [show madeCells #[Value.int .u8 0] 2 = #[Value.int .u8 0, Value.int .u8 0] from by kernel_rfl] at e
        exact e
      have HF := hide hf
      have HS := hide hS
      have HFB := hide hfb
      clear hS hf hfb hz hv
      go_enter Tryz.func54, Tryz.ntmps54
      set_option maxRecDepth 10000 in go_wp2_with (go_at_call 83; refine HS.out.mono ?_; rintro e w' ⟨rfl, rfl⟩)
      go_loopw [0, 5] (fun rv i wr => ((rv = .int .i32 r ∧ i = .int .i64 1 ∧ Blk wr w.heap.size 5 #[.int .u8 (0), .int .u8 (0)]) ∨ (rv = .int .i32 (r / 64) ∧ i = .int .i64 0 ∧ Blk wr w.heap.size 5 #[.int .u8 (0), .int .u8 (128 + r % 64)])) ∧ Below w.heap.size w wr) (fun _ i _ => (intOf i).toNat)
      case atStart => exact ⟨.inl ⟨rfl, rfl, Blk.new _ _ _⟩, (Below.refl _ _).alloc (Nat.le_refl _) _⟩
      case round =>
        obtain ⟨(⟨rfl, rfl, hb⟩ | ⟨rfl, rfl, hb⟩), hbel⟩ := hrel
        · skip
          have c0 := hb.cell 0
          have c1 := hb.cell 1
          simp only [zA, zB, zC] at c0 c1
          have z1 := hb.frozen 1
          have hlt := hb.lt
          have b0 : bits .and .i32 (r) 63 = r % 64 := i32_mask _ (by omega) (by omega)
          have b1 : IntKind.u8.wrap (r % 64) = r % 64 := by rw [IntKind.wrap_u8]; omega
          have b2 : bits .or .u8 128 (r % 64) = 128 + r % 64 := u8_or128 _ (by omega) (by omega)
          go_wp2
          go_roundw
          case rel => exact ⟨.inr (⟨rfl, rfl, hb.set_ 1 _⟩), hbel.setCell (Nat.le_refl _) _⟩
          case measure => simp [intOf]
        · skip
          have c0 := hb.cell 0
          have c1 := hb.cell 1
          simp only [zA, zB, zC] at c0 c1
          have z0 := hb.frozen 0
          have hlt := hb.lt
          go_wp2_with (go_at_call 84; refine (lead_ok 2 192 (by omega) _).mono ?_; rintro e w' ⟨rfl, rfl⟩)
          go_ret
          have HFB2 := HFB.out
          refine ⟨_, rfl, ?_, hbel.setCell (Nat.le_refl _) _⟩
          rw [HF.out]
          exact Own.of_blk (by simp) (hb.set_ 0 _) (fun m hm => wf_u8 (HFB2 m hm).1 (HFB2 m hm).2) (Nat.le_refl _) rfl (by simp [maxLen])
    · have hz : sizeF r = 3 := by unfold sizeF; rw [if_pos hv]; omega
      have hf : formF r = [224 + r / 4096, 128 + r / 64 % 64, 128 + r % 64] := by unfold formF; simp only [if_pos hv]; rw [if_neg (by omega), if_neg (by omega), if_pos (by omega)]
      rw [hz] at hS
      rw [hf] at hfb
      have hmk : ∀ w : World, (Instr.makeSlice 22 (.int .i64 3) (.int .i64 3)).run Tryz.prog w = .ok (.slice (some ⟨w.heap.size, 0, none⟩) 3 3) (w.alloc (.cells #[.int .u8 0, .int .u8 0, .int .u8 0] 5)) := fun w => by
        have e := run_make_row' (P := Tryz.prog) 22 5 (.int .u8 0) 1 Tryz.underlying22 u8_info rfl .i64 .i64 3 (by decide) (by decide) w
        rw [show madeCells #[Value.int .u8 0] 3 = #[Value.int .u8 0, Value.int .u8 0, Value.int .u8 0] from by kernel_rfl] at e
        exact e
      have HF := hide hf
      have HS := hide hS
      have HFB := hide hfb
      clear hS hf hfb hz hv
      go_enter Tryz.func54, Tryz.ntmps54
      set_option maxRecDepth 10000 in go_wp2_with (go_at_call 83; refine HS.out.mono ?_; rintro e w' ⟨rfl, rfl⟩)
      go_loopw [0, 5] (fun rv i wr => ((rv = .int .i32 r ∧ i = .int .i64 2 ∧ Blk wr w.heap.size 5 #[.int .u8 (0), .int .u8 (0), .int .u8 (0)]) ∨ (rv = .int .i32 (r / 64) ∧ i = .int .i64 1 ∧ Blk wr w.heap.size 5 #[.int .u8 (0), .int .u8 (0), .int .u8 (128 + r % 64)]) ∨ (rv = .int .i32 ((r / 64) / 64) ∧ i = .int .i64 0 ∧ Blk wr w.heap.size 5 #[.int .u8 (0), .int .u8 (128 + (r / 64) % 64), .int .u8 (128 + r % 64)])) ∧ Below w.heap.size w wr) (fun _ i _ => (intOf i).toNat)
      case atStart => exact ⟨.inl ⟨rfl, rfl, Blk.new _ _ _⟩, (Below.refl _ _).alloc (Nat.le_refl _) _⟩
      case round =>
        obtain ⟨(⟨rfl, rfl, hb⟩ | ⟨rfl, rfl, hb⟩ | ⟨rfl, rfl, hb⟩), hbel⟩ := hrel
        · skip
          have c0 := hb.cell 0
          have c1 := hb.cell 1
          have c2 := hb.cell 2
          simp only [zA, zB, zC] at c0 c1 c2
          have z2 := hb.frozen 2
          have hlt := hb.lt
          have b0 : bits .and .i32 (r) 63 = r % 64 := i32_mask _ (by omega) (by omega)
          have b1 : IntKind.u8.wrap (r % 64) = r % 64 := by rw [IntKind.wrap_u8]; omega
          have b2 : bits .or .u8 128 (r % 64) = 128 + r % 64 := u8_or128 _ (by omega) (by omega)
          go_wp2
          go_roundw
          case rel => exact ⟨.inr (.inl ⟨rfl, rfl, hb.set_ 2 _⟩), hbel.setCell (Nat.le_refl _) _⟩
          case measure => simp [intOf]
        · skip
          have c0 := hb.cell 0
          have c1 := hb.cell 1
          have c2 := hb.cell 2
          simp only [zA, zB, zC] at c0 c1 c2
          have z1 := hb.frozen 1
          have hlt := hb.lt
          have b0 : bits .and .i32 ((r / 64)) 63 = (r / 64) % 64 := i32_mask _ (by omega) (by omega)
          have b1 : IntKind.u8.wrap ((r / 64) % 64) = (r / 64) % 64 := by rw [IntKind.wrap_u8]; omega
          have b2 : bits .or .u8 128 ((r / 64) % 64) = 128 + (r / 64) % 64 := u8_or128 _ (by omega) (by omega)
          go_wp2
          go_roundw
          case rel => exact ⟨.inr (.inr (⟨rfl, rfl, hb.set_ 1 _⟩)), hbel.setCell (Nat.le_refl _) _⟩
          case measure => simp [intOf]
        · skip
          have c0 := hb.cell 0
          have c1 := hb.cell 1
          have c2 := hb.cell 2
          simp only [zA, zB, zC] at c0 c1 c2
          have z0 := hb.frozen 0
          have hlt := hb.lt
          go_wp2_with (go_at_call 84; refine (lead_ok 3 224 (by omega) _).mono ?_; rintro e w' ⟨rfl, rfl⟩)
          go_ret
          have HFB2 := HFB.out
          refine ⟨_, rfl, ?_, hbel.setCell (Nat.le_refl _) _⟩
          rw [HF.out]
          rw [show r / 4096 = r / 64 / 64 by omega] at HFB2 ⊢
          exact Own.of_blk (by simp) (hb.set_ 0 _) (fun m hm => wf_u8 (HFB2 m hm).1 (HFB2 m hm).2) (Nat.le_refl _) rfl (by simp [maxLen])
    · have hz : sizeF r = 4 := by unfold sizeF; rw [if_pos hv]; omega
      have hf : formF r = [240 + r / 262144, 128 + r / 4096 % 64, 128 + r / 64 % 64, 128 + r % 64] := by unfold formF; simp only [if_pos hv]; rw [if_neg (by omega), if_neg (by omega), if_neg (by omega)]
      rw [hz] at hS
      rw [hf] at hfb
      have hmk : ∀ w : World, (Instr.makeSlice 22 (.int .i64 4) (.int .i64 4)).run Tryz.prog w = .ok (.slice (some ⟨w.heap.size, 0, none⟩) 4 4) (w.alloc (.cells #[.int .u8 0, .int .u8 0, .int .u8 0, .int .u8 0] 5)) := fun w => by
        have e := run_make_row' (P := Tryz.prog) 22 5 (.int .u8 0) 1 Tryz.underlying22 u8_info rfl .i64 .i64 4 (by decide) (by decide) w
        rw [show madeCells #[Value.int .u8 0] 4 = #[Value.int .u8 0, Value.int .u8 0, Value.int .u8 0, Value.int .u8 0] from by kernel_rfl] at e
        exact e
      have HF := hide hf
      have HS := hide hS
      have HFB := hide hfb
      clear hS hf hfb hz hv
      go_enter Tryz.func54, Tryz.ntmps54
      set_option maxRecDepth 10000 in go_wp2_with (go_at_call 83; refine HS.out.mono ?_; rintro e w' ⟨rfl, rfl⟩)
      go_loopw [0, 5] (fun rv i wr => ((rv = .int .i32 r ∧ i = .int .i64 3 ∧ Blk wr w.heap.size 5 #[.int .u8 (0), .int .u8 (0), .int .u8 (0), .int .u8 (0)]) ∨ (rv = .int .i32 (r / 64) ∧ i = .int .i64 2 ∧ Blk wr w.heap.size 5 #[.int .u8 (0), .int .u8 (0), .int .u8 (0), .int .u8 (128 + r % 64)]) ∨ (rv = .int .i32 ((r / 64) / 64) ∧ i = .int .i64 1 ∧ Blk wr w.heap.size 5 #[.int .u8 (0), .int .u8 (0), .int .u8 (128 + (r / 64) % 64), .int .u8 (128 + r % 64)]) ∨ (rv = .int .i32 (((r / 64) / 64) / 64) ∧ i = .int .i64 0 ∧ Blk wr w.heap.size 5 #[.int .u8 (0), .int .u8 (128 + ((r / 64) / 64) % 64), .int .u8 (128 + (r / 64) % 64), .int .u8 (128 + r % 64)])) ∧ Below w.heap.size w wr) (fun _ i _ => (intOf i).toNat)
      case atStart => exact ⟨.inl ⟨rfl, rfl, Blk.new _ _ _⟩, (Below.refl _ _).alloc (Nat.le_refl _) _⟩
      case round =>
        obtain ⟨(⟨rfl, rfl, hb⟩ | ⟨rfl, rfl, hb⟩ | ⟨rfl, rfl, hb⟩ | ⟨rfl, rfl, hb⟩), hbel⟩ := hrel
        · skip
          have c0 := hb.cell 0
          have c1 := hb.cell 1
          have c2 := hb.cell 2
          have c3 := hb.cell 3
          simp only [zA, zB, zC] at c0 c1 c2 c3
          have z3 := hb.frozen 3
          have hlt := hb.lt
          have b0 : bits .and .i32 (r) 63 = r % 64 := i32_mask _ (by omega) (by omega)
          have b1 : IntKind.u8.wrap (r % 64) = r % 64 := by rw [IntKind.wrap_u8]; omega
          have b2 : bits .or .u8 128 (r % 64) = 128 + r % 64 := u8_or128 _ (by omega) (by omega)
          go_wp2
          go_roundw
          case rel => exact ⟨.inr (.inl ⟨rfl, rfl, hb.set_ 3 _⟩), hbel.setCell (Nat.le_refl _) _⟩
          case measure => simp [intOf]
        · skip
          have c0 := hb.cell 0
          have c1 := hb.cell 1
          have c2 := hb.cell 2
          have c3 := hb.cell 3
          simp only [zA, zB, zC] at c0 c1 c2 c3
          have z2 := hb.frozen 2
          have hlt := hb.lt
          have b0 : bits .and .i32 ((r / 64)) 63 = (r / 64) % 64 := i32_mask _ (by omega) (by omega)
          have b1 : IntKind.u8.wrap ((r / 64) % 64) = (r / 64) % 64 := by rw [IntKind.wrap_u8]; omega
          have b2 : bits .or .u8 128 ((r / 64) % 64) = 128 + (r / 64) % 64 := u8_or128 _ (by omega) (by omega)
          go_wp2
          go_roundw
          case rel => exact ⟨.inr (.inr (.inl ⟨rfl, rfl, hb.set_ 2 _⟩)), hbel.setCell (Nat.le_refl _) _⟩
          case measure => simp [intOf]
        · skip
          have c0 := hb.cell 0
          have c1 := hb.cell 1
          have c2 := hb.cell 2
          have c3 := hb.cell 3
          simp only [zA, zB, zC] at c0 c1 c2 c3
          have z1 := hb.frozen 1
          have hlt := hb.lt
          have b0 : bits .and .i32 (((r / 64) / 64)) 63 = ((r / 64) / 64) % 64 := i32_mask _ (by omega) (by omega)
          have b1 : IntKind.u8.wrap (((r / 64) / 64) % 64) = ((r / 64) / 64) % 64 := by rw [IntKind.wrap_u8]; omega
          have b2 : bits .or .u8 128 (((r / 64) / 64) % 64) = 128 + ((r / 64) / 64) % 64 := u8_or128 _ (by omega) (by omega)
          go_wp2
          go_roundw
          case rel => exact ⟨.inr (.inr (.inr (⟨rfl, rfl, hb.set_ 1 _⟩))), hbel.setCell (Nat.le_refl _) _⟩
          case measure => simp [intOf]
        · skip
          have c0 := hb.cell 0
          have c1 := hb.cell 1
          have c2 := hb.cell 2
          have c3 := hb.cell 3
          simp only [zA, zB, zC] at c0 c1 c2 c3
          have z0 := hb.frozen 0
          have hlt := hb.lt
          go_wp2_with (go_at_call 84; refine (lead_ok 4 240 (by omega) _).mono ?_; rintro e w' ⟨rfl, rfl⟩)
          go_ret
          have HFB2 := HFB.out
          refine ⟨_, rfl, ?_, hbel.setCell (Nat.le_refl _) _⟩
          rw [HF.out]
          rw [show r / 262144 = r / 64 / 64 / 64 by omega, show r / 4096 = r / 64 / 64 by omega] at HFB2 ⊢
          exact Own.of_blk (by simp) (hb.set_ 0 _) (fun m hm => wf_u8 (HFB2 m hm).1 (HFB2 m hm).2) (Nat.le_refl _) rfl (by simp [maxLen])
  · have hz : sizeF r = 0 := by unfold sizeF; rw [if_neg hv]
    have hf : formF r = [] := by unfold formF; rw [if_neg hv]
    rw [hz] at hS
    have HF := hide hf
    have HS := hide hS
    clear hS hf hz hv
    go_enter Tryz.func54, Tryz.ntmps54
    go_wp2_with (refine HS.out.mono ?_; rintro e w' ⟨rfl, rfl⟩)
    go_ret
    refine ⟨_, rfl, ?_, Below.refl _ _⟩
    rw [HF.out]
    exact Own.nil_ _ _ _ _ _ (by simp)
end Go.Proofs.YtdjpdllehhecpaaGreatDoor
namespace Go.Proofs.YtdjpdllehhecpaaGreatDoor
open Go.RowKit
set_option linter.unusedVariables false
set_option linter.unusedSimpArgs false
theorem drew2 (w : World) (n m : Nat) : ∃ k, (w.drewN n).drewN m = w.drewN k := ⟨n + m, World.drewN_drewN ..⟩
set_option maxHeartbeats 1000000 in
theorem Same_ok (So Si To Ti : Nat → Prop) (x y : Value) (l m : List Int) (w : World) (hx : Slc (Rep.int .i32) So Si w x l) (hy : Slc (Rep.int .i32) To Ti w y m) :
    Calls Tryz.prog 13 #[x, y] w fun e w' => e = .returned (.bool (decide (l = m))) ∧ ∃ n, w' = w.drewN n := by
  obtain ⟨A, c, rfl, hl1, hl2, hx⟩ := hx.open_
  obtain ⟨B, d, rfl, hm1, hm2, hy⟩ := hy.open_
  by_cases hlen : l.length = m.length
  · have hd : ((l.length : Int) != m.length) = false := by simp [hlen]
    have Hlen := hide hlen
    clear hlen
    go_enter Tryz.func13, Tryz.ntmps13
    go_wp2
    go_loopw [5] (fun i wr => ∃ k : Nat, k ≤ l.length ∧ i = .int .i64 k ∧ (∀ j, j < k → l[j]? = m[j]?) ∧ ∃ n, wr = w.drewN n) (fun i _ => l.length - (intOf i).toNat)
    case atStart => exact ⟨0, Nat.zero_le _, rfl, by simp, 0, rfl⟩
    case round =>
      obtain ⟨k, hk, rfl, hpre, n, rfl⟩ := hrel
      have HP := hide hpre
      clear hpre
      by_cases hlt : k < l.length
      · have hltm : k < m.length := by have := Hlen.out; omega
        obtain ⟨b1, o1, rfl, _, hcx, _⟩ := ints_at hx hlt
        obtain ⟨b2, o2, rfl, _, hcy, _⟩ := ints_at hy hltm
        by_cases heq : l[k] = m[k]
        · have hb : (l[k] != m[k]) = false := by simp [heq]
          have HEQ := hide heq
          clear heq
          go_wp2
          go_quiet (fail)
          go_wp2
          go_roundw
          case rel =>
            refine ⟨k + 1, by omega, by go_num, fun j hj => ?_, _, rfl⟩
            by_cases e : j = k
            · subst e; rw [List.getElem?_eq_getElem hlt, List.getElem?_eq_getElem hltm, HEQ.out]
            · exact HP.out j (by omega)
          case measure => simp [intOf]; omega
        · have hb : (l[k] != m[k]) = true := by simp [heq]
          have HEQ := hide heq
          clear heq
          go_wp2
          go_quiet (fail)
          go_wp2
          go_ret
          exact ⟨ret_1 (bool_eq (by rw [decide_eq_false]; intro e; subst e; exact HEQ.out rfl)), drew2 _ _ _⟩
      · go_wp2
        go_ret
        refine ⟨ret_1 (bool_eq ?_), _, rfl⟩
        symm
        rw [decide_eq_true_eq]
        apply List.ext_getElem?
        intro j
        by_cases hj : j < l.length
        · exact HP.out j (by omega)
        · rw [List.getElem?_eq_none (by omega), List.getElem?_eq_none (by have := Hlen.out; omega)]
  · have hd : ((l.length : Int) != m.length) = true := by simp; omega
    have Hlen := hide hlen
    clear hlen
    go_enter Tryz.func13, Tryz.ntmps13
    go_wp2
    go_ret
    exact ⟨ret_1 (bool_eq (by rw [decide_eq_false]; intro e; exact Hlen.out (by rw [e]))), 0, rfl⟩
abbrev CellV : Type := Int × List Int
def RCell : Rep CellV := Rep.pair (Rep.int .i64) (Rep.slice (Rep.int .i32))
theorem cell_info : (Tryz.prog.info? 86).map (fun i => (i.zero, i.size, i.bytes)) = some (some (.agg #[.int .i64 0, .slice none 0 0]), RCell.sz, 32) := by kernel_rfl
theorem cell_at {So Si : Nat → Prop} {w : World} {A : Option Addr} {l : List CellV} (h : SlB RCell So Si w A l) {k : Nat} (hk : k < l.length) :
    ∃ b off v, A = some ⟨b, off, none⟩ ∧ So b ∧ w.cell? ⟨b, off + k * 2, none⟩ = some (.int .i64 l[k].1) ∧ w.cell? ⟨b, off + k * 2 + 1, none⟩ = some v ∧ (Lit.int .i64 l[k].1).wf = true ∧ Slc (Rep.int .i32) Si Si w v l[k].2 := by
  obtain ⟨b, off, u, rfl, hs, hu, hc⟩ := h.at_ (k := k) (x := l[k]) (List.getElem?_eq_getElem hk) (by decide)
  obtain ⟨v1, v2, rfl, ⟨rfl, hw⟩, v, rfl, hv⟩ := hu
  have h0 := hc 0 (by decide)
  have h1 := hc 1 (by decide)
  have e : RCell.sz = 2 := rfl
  rw [e] at h0 h1
  simp only [← Nat.add_assoc, Nat.add_zero] at h0 h1
  exact ⟨b, off, v, rfl, hs, h0, h1, hw, hv⟩
def rightB (c : CellV) : Bool :=
  if c.1 = 0 ∨ c.1 = 3 then decide (c.2.length = 0) else if c.1 = 1 ∨ c.1 = 2 then decide (0 < c.2.length ∧ c.2.length ≤ 16) && c.2.all validB else false
def soundG : Bool → List CellV → Bool
  | lead, [] => !lead
  | lead, c :: l => rightB c && (lead == decide (c.1 = 3)) && soundG (decide (c.1 = 2)) l
def soundB (l : List CellV) : Bool := soundG false l
theorem notValid_ok (r : Int) (h0 : -2147483648 ≤ r) (h1 : r ≤ 2147483647) (w : World) :
    Calls Tryz.prog 89 #[.int .i32 r] w fun e w' => e = .returned (.bool (!validB r)) ∧ w = w' := by
  go_enter Tryz.func89, Tryz.ntmps89
  go_wp2_with (refine (sValid_ok _ h0 h1 _).mono ?_; rintro e w' ⟨rfl, rfl⟩)
  go_ret
  exact ⟨rfl, rfl⟩
set_option maxHeartbeats 1000000 in
theorem IndexFunc_ok (So Si : Nat → Prop) (x : Value) (l : List Int) (w : World) (hx : Slc (Rep.int .i32) So Si w x l) :
    Calls Tryz.prog 125 #[x, .func (.func 89) #[] #[]] w fun e w' => ∃ n : Int, e = .returned (.int .i64 n) ∧ w = w' ∧ decide (0 ≤ n) = !(l.all validB) := by
  obtain ⟨A1, c1, rfl, hd1, hd2, hB1⟩ := hx.open_
  go_enter Tryz.func125, Tryz.ntmps125
  go_wp2
  go_loopw [8] (fun i wr => ∃ k : Nat, k ≤ l.length ∧ i = .int .i64 k ∧ (∀ r ∈ l.take k, validB r = true) ∧ wr = w) (fun i _ => l.length - (intOf i).toNat)
  case atStart => exact ⟨0, Nat.zero_le _, rfl, by simp, rfl⟩
  case round =>
    obtain ⟨k, hk, rfl, hall, rfl⟩ := hrel
    have HALL := hide hall
    clear hall
    by_cases hlt : k < l.length
    · obtain ⟨ab, off, rfl, _, hck, hwk⟩ := ints_at hB1 hlt
      obtain ⟨hw0, hw1⟩ := i32_wf hwk
      have hR := fun w => notValid_ok l[k] hw0 hw1 w
      have hvs : validB l[k] = true → ∀ r ∈ l.take (k + 1), validB r = true := by
        intro h r hr
        rw [take_snoc' l k hlt] at hr
        rcases List.mem_append.1 hr with hr | hr
        · exact HALL.out r hr
        · simp at hr; subst hr; exact h
      have hin : validB l[k] = false → l.all validB = false := fun h => by
        rw [List.all_eq_false]; exact ⟨_, List.getElem_mem hlt, by simp [h]⟩
      rcases Bool.eq_false_or_eq_true (validB l[k]) with hv | hv
      · have hvv := hvs hv
        have HVV := hide hvv
        rw [hv] at hR
        have HR := hide hR
        clear hvs hin hvv hR hv
        go_wp2_with (refine (HR.out _).mono ?_; rintro e w' ⟨rfl, rfl⟩)
        go_roundw
        case rel => exact ⟨k + 1, by omega, by go_num, HVV.out, trivial⟩
        case measure => simp [intOf]; omega
      · have hvv := hin hv
        have HVV := hide hvv
        rw [hv] at hR
        have HR := hide hR
        clear hvs hin hvv hR hv
        go_wp2_with (refine (HR.out _).mono ?_; rintro e w' ⟨rfl, rfl⟩)
        go_ret
        exact ⟨_, rfl, rfl, by rw [HVV.out]; simp⟩
    · have e : l.take k = l := List.take_of_length_le (by omega)
      have hall := HALL.out
      rw [e] at hall
      have hv : l.all validB = true := by rw [List.all_eq_true]; exact hall
      have HV := hide hv
      clear e hall hv
      go_wp2
      go_ret
      exact ⟨_, rfl, rfl, by rw [HV.out]; simp⟩
theorem ContainsFunc_ok (So Si : Nat → Prop) (x : Value) (l : List Int) (w : World) (hx : Slc (Rep.int .i32) So Si w x l) :
    Calls Tryz.prog 88 #[x, .func (.func 89) #[] #[]] w fun e w' => e = .returned (.bool (!(l.all validB))) ∧ w = w' := by
  go_enter Tryz.func88, Tryz.ntmps88
  go_wp2_with (refine (IndexFunc_ok _ _ _ l _ hx).mono ?_; rintro e w' ⟨n, rfl, rfl, hn⟩)
  go_ret
  exact ⟨rfl, rfl⟩
theorem right_cases (c : CellV) : (c.1 = 0 ∨ c.1 = 3) ∨ (c.1 = 1 ∨ c.1 = 2) ∨ (c.1 ≠ 0 ∧ c.1 ≠ 3 ∧ c.1 ≠ 1 ∧ c.1 ≠ 2) := by omega
set_option maxHeartbeats 1000000 in
theorem Right_ok (So Si : Nat → Prop) (k : Int) (v : Value) (t : List Int) (w : World) (hk : (Lit.int .i64 k).wf = true) (hv : Slc (Rep.int .i32) So Si w v t) :
    Calls Tryz.prog 56 #[.agg #[.int .i64 k, v]] w fun e w' => e = .returned (.bool (rightB (k, t))) ∧ Below w.heap.size w w' := by
  obtain ⟨A, c, rfl, hc1, hc2, hB⟩ := hv.open_
  have hva := hv.ints_keep (Keep.alloc So w (.cells #[.int .i64 k, .slice A t.length c] 86))
  have hC := ContainsFunc_ok _ _ _ t _ hva
  rcases right_cases (k, t) with h | h | ⟨h1, h2, h3, h4⟩
  · have hr : rightB (k, t) = decide (t.length = 0) := by unfold rightB; rw [if_pos h]
    have HR := hide hr
    simp only at h
    rcases h with rfl | rfl
    all_goals
      clear hr hC hva hv hB
      go_enter Tryz.func56, Tryz.ntmps56
      go_wp2
      go_ret
      exact ⟨ret_1 (bool_eq (by rw [HR.out, Bool.eq_iff_iff]; simp)), (Below.refl _ _).alloc (Nat.le_refl _) _⟩
  · have hr : rightB (k, t) = (decide (0 < t.length ∧ t.length ≤ 16) && t.all validB) := by unfold rightB; rw [if_neg (by simp only at h ⊢; omega), if_pos h]
    simp only at h
    by_cases ht : 0 < t.length ∧ t.length ≤ 16
    · rw [decide_eq_true ht, Bool.true_and] at hr
      have HR := hide hr
      have HC := hide hC
      have t1 : (0 : Int) < t.length := by omega
      have t2 : (t.length : Int) ≤ 16 := by omega
      clear hr hC hva hv hB ht
      rcases h with rfl | rfl
      all_goals
        go_enter Tryz.func56, Tryz.ntmps56
        go_wp2_with (go_at_call 88; refine HC.out.mono ?_; rintro e w' ⟨rfl, rfl⟩)
        go_ret
        exact ⟨ret_1 (bool_eq (by rw [HR.out])), (Below.refl _ _).alloc (Nat.le_refl _) _⟩
    · rw [decide_eq_false ht, Bool.false_and] at hr
      have HR := hide hr
      clear hr hC hva hv hB
      have ht' : t.length = 0 ∨ 16 < t.length := by omega
      rcases ht' with h0 | h0
      · have t1 : ¬ (0 : Int) < t.length := by omega
        clear h0 ht
        rcases h with rfl | rfl
        all_goals
          go_enter Tryz.func56, Tryz.ntmps56
          go_wp2
          go_ret
          exact ⟨ret_1 (bool_eq (by rw [HR.out])), (Below.refl _ _).alloc (Nat.le_refl _) _⟩
      · have t1 : (0 : Int) < t.length := by omega
        have t2 : ¬ (t.length : Int) ≤ 16 := by omega
        clear h0 ht
        rcases h with rfl | rfl
        all_goals
          go_enter Tryz.func56, Tryz.ntmps56
          go_wp2
          go_ret
          exact ⟨ret_1 (bool_eq (by rw [HR.out])), (Below.refl _ _).alloc (Nat.le_refl _) _⟩
  · have hr : rightB (k, t) = false := by unfold rightB; rw [if_neg (by simp only at *; omega), if_neg (by simp only at *; omega)]
    simp only at h1 h2 h3 h4
    have HR := hide hr
    clear hr hC hva hv hB
    have b1 : (k == 0) = false := by simpa using h1
    have b2 : (k == 3) = false := by simpa using h2
    have b3 : (k == 1) = false := by simpa using h3
    have b4 : (k == 2) = false := by simpa using h4
    go_enter Tryz.func56, Tryz.ntmps56
    go_wp2
    go_ret
    exact ⟨ret_1 (bool_eq (by rw [HR.out])), (Below.refl _ _).alloc (Nat.le_refl _) _⟩
end Go.Proofs.YtdjpdllehhecpaaGreatDoor
namespace Go.Proofs.YtdjpdllehhecpaaGreatDoor
open Go.RowKit
set_option linter.unusedVariables false
set_option linter.unusedSimpArgs false
def kindI (l : List CellV) (i : Int) : Int := if 0 ≤ i then ((l[i.toNat]?).map Prod.fst).getD 0 else 0
end Go.Proofs.YtdjpdllehhecpaaGreatDoor
namespace Go.Proofs.YtdjpdllehhecpaaGreatDoor
open Go.RowKit
set_option linter.unusedVariables false
set_option linter.unusedSimpArgs false
theorem kindI_at (l : List CellV) (k : Nat) (hk : k < l.length) : kindI l k = l[k].1 := by unfold kindI; rw [if_pos (by omega)]; simp [hk]
theorem kindI_out (l : List CellV) (k : Nat) (hk : l.length ≤ k) : kindI l k = 0 := by unfold kindI; rw [if_pos (by omega)]; simp [hk]
theorem kindI_neg (l : List CellV) (i : Int) (hi : i < 0) : kindI l i = 0 := by unfold kindI; rw [if_neg (by omega)]
theorem sound_drop (l : List CellV) (k : Nat) (hk : k < l.length) (lead : Bool) : soundG lead (l.drop k) = (rightB l[k] && (lead == decide (l[k].1 = 3)) && soundG (decide (l[k].1 = 2)) (l.drop (k + 1))) := by
  rw [List.drop_eq_getElem_cons hk]; rfl
def SoundTo (l : List CellV) (k : Nat) : Prop := soundB l = soundG (decide (kindI l ((k : Int) - 1) = 2)) (l.drop k) ∧ (kindI l ((k : Int) - 1) = 2 → kindI l k = 3)
theorem SoundTo.zero (l : List CellV) : SoundTo l 0 := by
  have h : kindI l (((0 : Nat) : Int) - 1) = 0 := kindI_neg l _ (by simp)
  refine ⟨?_, by rw [h]; simp⟩
  rw [h]; rfl
theorem SoundTo.step {l : List CellV} {k : Nat} (h : SoundTo l k) (hk : k < l.length) (h1 : rightB l[k] = true) (h2 : l[k].1 = 2 → kindI l ((k : Int) + 1) = 3) (h3 : l[k].1 = 3 → kindI l ((k : Int) - 1) = 2) : SoundTo l (k + 1) := by
  have e := kindI_at l k hk
  have e1 : (((k + 1 : Nat) : Int)) - 1 = (k : Int) := by omega
  have e2 : (((k + 1 : Nat) : Int)) = (k : Int) + 1 := by omega
  obtain ⟨ha, hb⟩ := h
  rw [e] at hb
  unfold SoundTo
  rw [e1, e2, e]
  refine ⟨?_, h2⟩
  rw [ha, sound_drop l k hk, h1]
  have : (decide (kindI l ((k : Int) - 1) = 2) == decide (l[k].1 = 3)) = true := by
    rw [beq_iff_eq, Bool.eq_iff_iff]; simp only [decide_eq_true_eq]; exact ⟨hb, h3⟩
  rw [this]; rfl
theorem SoundTo.bad {l : List CellV} {k : Nat} (h : SoundTo l k) (hk : k < l.length) (hbad : rightB l[k] = false ∨ (l[k].1 = 2 ∧ kindI l ((k : Int) + 1) ≠ 3) ∨ (l[k].1 = 3 ∧ kindI l ((k : Int) - 1) ≠ 2)) : soundB l = false := by
  obtain ⟨ha, hb⟩ := h
  rw [ha, sound_drop l k hk]
  rcases hbad with h1 | ⟨h1, h2⟩ | ⟨h1, h2⟩
  · rw [h1]; rfl
  · rw [h1]
    have : soundG true (l.drop (k + 1)) = false := by
      by_cases hk1 : k + 1 < l.length
      · have e := kindI_at l (k + 1) hk1
        rw [show (((k + 1 : Nat) : Int)) = (k : Int) + 1 by omega] at e
        rw [sound_drop l (k + 1) hk1, decide_eq_false (by rw [← e]; exact h2)]
        simp
      · rw [List.drop_eq_nil_of_le (by omega)]; rfl
    simp [this]
  · rw [h1]; simp [h2]
theorem SoundTo.all {l : List CellV} (h : SoundTo l l.length) : soundB l = true := by
  obtain ⟨ha, hb⟩ := h
  rw [kindI_out l _ (Nat.le_refl _)] at hb
  have : kindI l ((l.length : Int) - 1) ≠ 2 := fun e => by have := hb e; omega
  rw [ha, decide_eq_false this, List.drop_length]; rfl
end Go.Proofs.YtdjpdllehhecpaaGreatDoor
namespace Go.Proofs.YtdjpdllehhecpaaGreatDoor
open Go.RowKit
set_option linter.unusedVariables false
set_option linter.unusedSimpArgs false
abbrev LineV : Type := List CellV × Bool
def RLine : Rep LineV := Rep.pair (Rep.slice RCell) Rep.bool
structure ViewV where
  wide : Int
  high : Int
  lines : List LineV
  row : Int
  col : Int
  pend : Bool
  auto : Bool
theorem line_at {So Si : Nat → Prop} {w : World} {A : Option Addr} {l : List LineV} (h : SlB RLine So Si w A l) {k : Nat} (hk : k < l.length) :
    ∃ b off v, A = some ⟨b, off, none⟩ ∧ So b ∧ w.cell? ⟨b, off + k * 2, none⟩ = some v ∧ w.cell? ⟨b, off + k * 2 + 1, none⟩ = some (.bool l[k].2) ∧ Slc RCell Si Si w v l[k].1 := by
  obtain ⟨b, off, u, rfl, hs, hu, hc⟩ := h.at_ (k := k) (x := l[k]) (List.getElem?_eq_getElem hk) (by decide)
  obtain ⟨v1, v2, rfl, ⟨v, rfl, hv⟩, hb⟩ := hu
  cases hb
  have h0 := hc 0 (by decide)
  have h1 := hc 1 (by decide)
  have e : RLine.sz = 2 := rfl
  rw [e] at h0 h1
  simp only [← Nat.add_assoc, Nat.add_zero] at h0 h1
  exact ⟨b, off, v, rfl, hs, h0, h1, hv⟩
def sideF (n : Int) : Int := max 1 (min n 1024)
abbrev FoundV : Type := Int × Int × Int
end Go.Proofs.YtdjpdllehhecpaaGreatDoor
namespace Go.Proofs.YtdjpdllehhecpaaGreatDoor
open Go.RowKit
set_option linter.unusedVariables false
set_option linter.unusedSimpArgs false
theorem snocInd {α : Type} {p : List α → Prop} (h0 : p []) (h1 : ∀ l a, p l → p (l ++ [a])) (l : List α) : p l := by
  have : ∀ m : List α, p m.reverse := by
    intro m
    induction m with
    | nil => exact h0
    | cons a m ih => rw [List.reverse_cons]; exact h1 _ _ ih
  have := this l.reverse
  rwa [List.reverse_reverse] at this
structure GaugeV where
  some : Bool
  pict : Bool
  wide : Bool
def gau0 : GaugeV := ⟨false, false, false⟩
def noneF (c : Int) : Bool := decide (c = 1 ∨ c = 2 ∨ c = 3 ∨ c = 4 ∨ c = 5 ∨ c = 10 ∨ c = 11)
def baseF (p : PropV) : Int := if noneF p.brk = true then 0 else if p.east = 1 ∨ p.east = 2 then 2 else 1
def widensF (g : GaugeV) (r : Int) (p : PropV) : Bool :=
  if baseF p = 2 then true else if g.some = false then false else (decide (r = 65039) && g.pict) || p.pict || decide (p.brk = 6)
def gauN (g : GaugeV) (r : Int) (p : PropV) : GaugeV := ⟨true, p.pict, g.wide || widensF g r p⟩
def gauL (P : Int → PropV) (g : GaugeV) (l : List Int) : GaugeV := l.foldl (fun g r => gauN g r (P r)) g
def wideG (g : GaugeV) : Nat := if g.wide = true then 2 else 1
def widthF (P : Int → PropV) (c : List Int) : Nat := wideG (gauL P gau0 c)
theorem wideG_or (g : GaugeV) : wideG g = 1 ∨ wideG g = 2 := by unfold wideG; split <;> simp
theorem widthF_or (P : Int → PropV) (c : List Int) : widthF P c = 1 ∨ widthF P c = 2 := wideG_or _
theorem gauL_snoc (P : Int → PropV) (g : GaugeV) (l : List Int) (r : Int) : gauL P g (l ++ [r]) = gauN (gauL P g l) r (P r) := by unfold gauL; rw [List.foldl_append]; rfl
theorem gau_mono (P : Int → PropV) : ∀ (l : List Int) (g : GaugeV), wideG g ≤ wideG (gauL P g l)
  | [], g => Nat.le_refl _
  | r :: l, g => by
    refine Nat.le_trans ?_ (gau_mono P l (gauN g r (P r)))
    unfold wideG gauN
    cases g.wide <;> simp
    split <;> omega
theorem width_mono (P : Int → PropV) (a b : List Int) : widthF P a ≤ widthF P (a ++ b) := by
  unfold widthF
  have : gauL P gau0 (a ++ b) = gauL P (gauL P gau0 a) b := by unfold gauL; rw [List.foldl_append]
  rw [this]
  exact gau_mono P b _
def stripF (n : Nat) (t : List Int) : List CellV := if n = 2 then [(2, t), (3, [])] else [(1, t)]
theorem strip_len {n : Nat} (h : n = 1 ∨ n = 2) (t : List Int) : (stripF n t).length = n := by rcases h with rfl | rfl <;> rfl
def blankL (n : Nat) : List CellV := List.replicate n (0, [])
structure LayV where
  out : List (List CellV)
  cur : List CellV
def lay0 : LayV := ⟨[], []⟩
def padL (W : Nat) (l : List CellV) : List CellV := l ++ blankL (W - l.length)
theorem padL_len {W : Nat} {l : List CellV} (h : l.length ≤ W) : (padL W l).length = W := by unfold padL blankL; simp; omega
def putL (W : Nat) (s : LayV) (n : Nat) (t : List Int) : LayV :=
  if W - s.cur.length < n then ⟨s.out ++ [padL W s.cur], stripF n t⟩ else ⟨s.out, s.cur ++ stripF n t⟩
def layF (W : Nat) (P : Int → PropV) (cs : List (List Int)) : LayV := cs.foldl (fun s c => putL W s (widthF P c) c) lay0
theorem lay_snoc (W : Nat) (P : Int → PropV) (cs : List (List Int)) (c : List Int) : layF W P (cs ++ [c]) = putL W (layF W P cs) (widthF P c) c := by unfold layF; rw [List.foldl_append]; rfl
theorem put_out_le (W : Nat) (s : LayV) (n : Nat) (t : List Int) : s.out.length ≤ (putL W s n t).out.length ∧ (putL W s n t).out.length ≤ s.out.length + 1 := by unfold putL; split <;> simp
theorem put_mono (W : Nat) (s : LayV) {n m : Nat} (h : n ≤ m) (t u : List Int) : (putL W s n t).out.length ≤ (putL W s m u).out.length := by
  unfold putL; split <;> split <;> simp <;> omega
theorem lay_mono (W : Nat) (P : Int → PropV) : ∀ (b a : List (List Int)), (layF W P a).out.length ≤ (layF W P (a ++ b)).out.length
  | [], a => by rw [List.append_nil]; exact Nat.le_refl _
  | c :: b, a => by
    have h1 := lay_mono W P b (a ++ [c])
    rw [List.append_assoc, List.singleton_append] at h1
    refine Nat.le_trans ?_ h1
    rw [lay_snoc]
    exact (put_out_le _ _ _ _).1
def TxOk (t : List Int) : Prop := t ≠ [] ∧ t.length ≤ 16 ∧ ∀ r ∈ t, validB r = true
def Strips (l : List CellV) : Prop := ∃ q : List (Nat × List Int), (∀ x ∈ q, (x.1 = 1 ∨ x.1 = 2) ∧ TxOk x.2) ∧ l = q.flatMap fun x => stripF x.1 x.2
theorem Strips.nil_ : Strips [] := ⟨[], by simp, rfl⟩
theorem Strips.snoc {l : List CellV} (h : Strips l) {n : Nat} {t : List Int} (hn : n = 1 ∨ n = 2) (ht : TxOk t) : Strips (l ++ stripF n t) := by
  obtain ⟨q, hq, rfl⟩ := h
  refine ⟨q ++ [(n, t)], fun x hx => ?_, by simp⟩
  rcases List.mem_append.1 hx with hx | hx
  · exact hq x hx
  · rw [List.mem_singleton] at hx; subst hx; exact ⟨hn, ht⟩
theorem Strips.one {n : Nat} {t : List Int} (hn : n = 1 ∨ n = 2) (ht : TxOk t) : Strips (stripF n t) := by
  have := Strips.nil_.snoc hn ht
  simpa using this
def FullR (W : Nat) (l : List CellV) : Prop := l.length = W ∧ ∃ s k, Strips s ∧ k ≤ 1 ∧ l = s ++ blankL k
structure LayOk (W : Nat) (s : LayV) : Prop where
  out : ∀ l ∈ s.out, FullR W l
  cur : Strips s.cur
  len : s.cur.length ≤ W
theorem layOk0 (W : Nat) : LayOk W lay0 := ⟨fun l hl => (by cases hl), Strips.nil_, Nat.zero_le _⟩
theorem LayOk.put {W : Nat} {s : LayV} (h : LayOk W s) (hW : 2 ≤ W) {n : Nat} {t : List Int} (hn : n = 1 ∨ n = 2) (ht : TxOk t) : LayOk W (putL W s n t) := by
  have hl := h.len
  unfold putL
  split
  · refine ⟨fun l hl => ?_, Strips.one hn ht, by rw [strip_len hn]; omega⟩
    rcases List.mem_append.1 hl with hl | hl
    · exact h.out l hl
    · rw [List.mem_singleton] at hl
      subst hl
      exact ⟨padL_len h.len, s.cur, W - s.cur.length, h.cur, by omega, rfl⟩
  · refine ⟨h.out, h.cur.snoc hn ht, ?_⟩
    rw [List.length_append, strip_len hn]
    omega
theorem LayOk.all {W : Nat} (hW : 2 ≤ W) (P : Int → PropV) (cs : List (List Int)) : (∀ c ∈ cs, TxOk c) → LayOk W (layF W P cs) := by
  refine snocInd (p := fun cs => (∀ c ∈ cs, TxOk c) → LayOk W (layF W P cs)) ?_ ?_ cs
  · exact fun _ => layOk0 W
  · intro cs c ih h
    rw [lay_snoc]
    exact (ih (fun c hc => h c (List.mem_append.2 (.inl hc)))).put hW (widthF_or P c) (h c (by simp))
def updR (rows : List LineV) (r : Nat) (f : LineV → LineV) : List LineV := rows.set r (f (rows.getD r ([], false)))
theorem updR_at {A : List LineV} {x : LineV} {B : List LineV} {r : Nat} (hr : r = A.length) (f : LineV → LineV) : updR (A ++ x :: B) r f = A ++ f x :: B := by
  subst hr
  unfold updR
  have e : (A ++ x :: B).getD A.length ([], false) = x := by simp
  rw [e]
  simp
structure PenV where
  rows : List LineV
  r : Nat
  c : Nat
  pd : Bool
def goOnP (p : PenV) : PenV := ⟨updR p.rows p.r (fun l => (l.1, true)), p.r + 1, 0, false⟩
def paintL (c : Nat) (l : List CellV) (x : LineV) : LineV := (x.1.take c ++ l ++ x.1.drop (c + l.length), if c + l.length = x.1.length then false else x.2)
def roomQ (W n : Nat) (p : PenV) : PenV := if n = 1 ∨ p.c < W - 1 then p else goOnP ⟨updR p.rows p.r (paintL (W - 1) [(0, [])]), p.r, p.c, p.pd⟩
def roomP (W n : Nat) (p : PenV) : PenV := roomQ W n (if p.pd = true then goOnP p else p)
theorem roomP_pd {W n : Nat} {p : PenV} (h : p.pd = true) : roomP W n p = roomQ W n (goOnP p) := by unfold roomP; rw [if_pos h]
theorem roomP_np {W n : Nat} {p : PenV} (h : p.pd = false) : roomP W n p = roomQ W n p := by unfold roomP; rw [if_neg (by rw [h]; decide)]
def afterP (W n r c : Nat) : Nat × Nat × Bool := if c < W - n then (r, c + n, false) else (r, W - 1, true)
def penOf (rows : List LineV) (x : Nat × Nat × Bool) : PenV := ⟨rows, x.1, x.2.1, x.2.2⟩
def putP (W n : Nat) (t : List Int) (p : PenV) : PenV :=
  let q := roomP W n p
  penOf (updR q.rows q.r (paintL q.c (stripF n t))) (afterP W n q.r q.c)
def rowsL (W h : Nat) (s : LayV) : List LineV := s.out.map (fun l => (l, true)) ++ (padL W s.cur, false) :: List.replicate (h - s.out.length - 1) (blankL W, false)
def curL (W : Nat) (s : LayV) : Nat × Nat × Bool := (s.out.length, min s.cur.length (W - 1), decide (s.cur.length = W))
theorem paint_end (l m : List CellV) (n : Nat) (hm : m.length ≤ n) (b : Bool) (hb : b = false) : paintL l.length m (l ++ blankL n, b) = (l ++ m ++ blankL (n - m.length), false) := by
  subst hb
  unfold paintL
  simp only [List.take_left', List.length_append, ite_self]
  rw [List.drop_append, List.drop_eq_nil_of_le (by omega), List.nil_append]
  have : l.length + m.length - l.length = m.length := by omega
  rw [this]
  simp [blankL]
def roomL (W : Nat) (s : LayV) (n : Nat) : LayV := if W - s.cur.length < n then ⟨s.out ++ [padL W s.cur], []⟩ else s
theorem put_room (W : Nat) (s : LayV) (n : Nat) (t : List Int) : putL W s n t = ⟨(roomL W s n).out, (roomL W s n).cur ++ stripF n t⟩ := by
  unfold putL roomL; split <;> simp
theorem room_len {W : Nat} {s : LayV} (hs : s.cur.length ≤ W) (hW : 2 ≤ W) {n : Nat} (hn : n = 1 ∨ n = 2) : (roomL W s n).cur.length + n ≤ W := by
  unfold roomL; split
  · simp; omega
  · omega
theorem rows_new {W h : Nat} {out : List (List CellV)} {c : List CellV} (hh : out.length + 1 < h) (r col : Nat) (pd : Bool) (hr : r = out.length) :
    goOnP ⟨out.map (fun l => (l, true)) ++ (c, false) :: List.replicate (h - out.length - 1) (blankL W, false), r, col, pd⟩ = penOf (rowsL W h ⟨out ++ [c], []⟩) (out.length + 1, 0, false) := by
  subst hr
  unfold goOnP penOf
  simp only
  rw [updR_at (by simp)]
  unfold rowsL
  obtain ⟨k, hk⟩ : ∃ k, h - out.length - 1 = k + 1 := ⟨h - out.length - 2, by omega⟩
  have e2 : h - (out ++ [c]).length - 1 = k := by simp; omega
  simp only [e2, hk]
  simp [List.replicate_succ, padL]
theorem room_begin {W h : Nat} {s : LayV} (hs : s.cur.length ≤ W) (hW : 2 ≤ W) {n : Nat} (hn : n = 1 ∨ n = 2) (hh : (roomL W s n).out.length < h) :
    roomP W n (penOf (rowsL W h s) (curL W s)) = penOf (rowsL W h (roomL W s n)) ((roomL W s n).out.length, (roomL W s n).cur.length, false) := by
  by_cases h0 : s.cur.length = W
  · have hr : roomL W s n = ⟨s.out ++ [padL W s.cur], []⟩ := by unfold roomL; rw [if_pos (by omega)]
    rw [hr] at hh ⊢
    simp only [List.length_append, List.length_singleton] at hh
    have e : goOnP (penOf (rowsL W h s) (curL W s)) = penOf (rowsL W h ⟨s.out ++ [padL W s.cur], []⟩) (s.out.length + 1, 0, false) :=
      rows_new hh _ _ _ rfl
    have hp : (penOf (rowsL W h s) (curL W s)).pd = true := by unfold penOf curL; simp [h0]
    rw [roomP_pd hp, e]
    unfold roomQ
    rw [if_pos (.inr (by show 0 < W - 1; omega))]
    simp
  · have hp : (penOf (rowsL W h s) (curL W s)).pd = false := by unfold penOf curL; simp [h0]
    have hc : (penOf (rowsL W h s) (curL W s)).c = s.cur.length := by unfold penOf curL; simp; omega
    have hrr : (penOf (rowsL W h s) (curL W s)).r = s.out.length := rfl
    rw [roomP_np hp]
    unfold roomQ
    rw [hc]
    by_cases h1 : n = 1 ∨ s.cur.length < W - 1
    · rw [if_pos h1]
      have hr : roomL W s n = s := by unfold roomL; rw [if_neg (by omega)]
      rw [hr]
      unfold penOf curL
      simp [h0]
      omega
    · rw [if_neg h1]
      have hr : roomL W s n = ⟨s.out ++ [padL W s.cur], []⟩ := by unfold roomL; rw [if_pos (by omega)]
      rw [hr] at hh ⊢
      simp only [List.length_append, List.length_singleton] at hh
      have e : updR (penOf (rowsL W h s) (curL W s)).rows s.out.length (paintL (W - 1) [(0, [])]) = s.out.map (fun l => (l, true)) ++ (padL W s.cur, false) :: List.replicate (h - s.out.length - 1) (blankL W, false) := by
        show updR (rowsL W h s) s.out.length _ = _
        unfold rowsL
        rw [updR_at (by simp)]
        have ew : W - 1 = s.cur.length := by omega
        unfold padL
        rw [ew, paint_end _ _ _ (by simp; omega) _ rfl]
        have e1 : W - s.cur.length = 1 := by omega
        rw [e1]
        simp [blankL]
      rw [hrr, e]
      have := rows_new (W := W) (c := padL W s.cur) hh s.out.length s.cur.length (penOf (rowsL W h s) (curL W s)).pd rfl
      rw [this]
      simp
theorem put_here {W h : Nat} {s : LayV} {n : Nat} (hn : n = 1 ∨ n = 2) (hl : s.cur.length + n ≤ W) (t : List Int) :
    updR (rowsL W h s) s.out.length (paintL s.cur.length (stripF n t)) = rowsL W h ⟨s.out, s.cur ++ stripF n t⟩ := by
  unfold rowsL
  rw [updR_at (by simp)]
  unfold padL
  rw [paint_end _ _ _ (by rw [strip_len hn]; omega) _ rfl]
  simp only [List.length_append, Nat.sub_add_eq]
theorem after_here {W : Nat} {s : LayV} {n : Nat} (hn : n = 1 ∨ n = 2) (hl : s.cur.length + n ≤ W) (hW : 2 ≤ W) (t : List Int) :
    afterP W n s.out.length s.cur.length = curL W ⟨s.out, s.cur ++ stripF n t⟩ := by
  unfold afterP curL
  simp only [List.length_append, strip_len hn]
  split
  · rw [decide_eq_false (by omega), Nat.min_eq_left (by omega)]
  · rw [decide_eq_true (by omega), Nat.min_eq_right (by omega)]
theorem put_begin {W h : Nat} {s : LayV} (hs : s.cur.length ≤ W) (hW : 2 ≤ W) {n : Nat} (hn : n = 1 ∨ n = 2) (t : List Int) (hh : (putL W s n t).out.length < h) :
    putP W n t (penOf (rowsL W h s) (curL W s)) = penOf (rowsL W h (putL W s n t)) (curL W (putL W s n t)) := by
  have hl := room_len hs hW hn
  rw [put_room] at hh
  unfold putP
  rw [room_begin hs hW hn hh]
  show penOf (updR (rowsL W h _) _ _) (afterP W n _ _) = _
  simp only [penOf]
  rw [put_here hn hl, after_here hn hl hW t, ← put_room]
theorem room_at {W h : Nat} {s : LayV} (hs : s.cur.length ≤ W) (hW : 2 ≤ W) {n : Nat} (hn : n = 1 ∨ n = 2) (t : List Int) (hh : (putL W s n t).out.length < h) :
    roomP W n (penOf (rowsL W h s) (curL W s)) = penOf (rowsL W h (roomL W s n)) ((putL W s n t).out.length, (putL W s n t).cur.length - n, false) := by
  rw [put_room] at hh ⊢
  rw [room_begin hs hW hn hh]
  simp [strip_len hn]
theorem room_widen {W h : Nat} {s : LayV} (hs : s.cur.length ≤ W) (hW : 2 ≤ W) (t u : List Int) (hh : (putL W s 2 u).out.length < h) :
    let s1 := putL W s 1 t
    let q := roomP W 2 (penOf (rowsL W h s1) (s1.out.length, s1.cur.length - 1, false))
    q.r = (putL W s 2 u).out.length ∧ q.c + 2 = (putL W s 2 u).cur.length ∧ q.pd = false ∧
    updR q.rows q.r (paintL q.c (stripF 2 u)) = rowsL W h (putL W s 2 u) := by
  intro s1 q
  have hl1 := room_len (n := 1) hs hW (.inl rfl)
  have hl2 := room_len (n := 2) hs hW (.inr rfl)
  have e1 : s1 = ⟨(roomL W s 1).out, (roomL W s 1).cur ++ [(1, t)]⟩ := put_room W s 1 t
  rw [put_room] at hh
  rw [put_room]
  by_cases hr : (roomL W s 1).cur.length + 2 ≤ W
  · have er : roomL W s 2 = roomL W s 1 := by
      unfold roomL at hr ⊢
      split at hr
      · rw [if_pos (by omega), if_pos (by omega)]
      · rw [if_neg (by omega), if_neg (by omega)]
    have hq : q = penOf (rowsL W h s1) (s1.out.length, s1.cur.length - 1, false) := by
      show roomP W 2 _ = _
      rw [roomP_np rfl]
      unfold roomQ
      rw [if_pos (.inr (by rw [e1]; simp [penOf]; omega))]
    rw [er, hq, e1]
    refine ⟨rfl, by simp [penOf, stripF], rfl, ?_⟩
    show updR (rowsL W h _) (roomL W s 1).out.length _ = _
    have ec : ((roomL W s 1).cur ++ [((1, t) : CellV)]).length - 1 = (roomL W s 1).cur.length := by simp
    simp only [penOf, ec]
    unfold rowsL
    rw [updR_at (by simp)]
    have : paintL (roomL W s 1).cur.length (stripF 2 u) (padL W ((roomL W s 1).cur ++ [(1, t)]), false) = (padL W ((roomL W s 1).cur ++ stripF 2 u), false) := by
      unfold padL paintL
      simp only [ite_self, Prod.mk.injEq, and_true]
      have ea : (roomL W s 1).cur ++ [(1, t)] ++ blankL (W - ((roomL W s 1).cur ++ [((1, t) : CellV)]).length) = (roomL W s 1).cur ++ ((1, t) :: blankL (W - (roomL W s 1).cur.length - 1)) := by simp; congr 1
      rw [ea, List.take_left', strip_len (.inr rfl), List.append_assoc, List.append_assoc]
      congr 2
      · rw [List.drop_append]
        have : (roomL W s 1).cur.length + 2 - (roomL W s 1).cur.length = 2 := by omega
        rw [this, List.drop_eq_nil_of_le (by omega)]
        obtain ⟨k, hk⟩ : ∃ k, W - (roomL W s 1).cur.length - 1 = k + 1 := ⟨W - (roomL W s 1).cur.length - 2, by omega⟩
        have hk2 : W - ((roomL W s 1).cur ++ stripF 2 u).length = k := by rw [List.length_append, strip_len (.inr rfl)]; omega
        rw [hk, hk2]
        simp [blankL, List.replicate_succ]
      · rfl
    rw [this]
  · have hc : (roomL W s 1).cur.length = W - 1 := by omega
    have er1 : roomL W s 1 = s := by
      unfold roomL at hc ⊢
      split at hc
      · simp at hc; omega
      · rw [if_neg (by omega)]
    rw [er1] at hc e1
    have er2 : roomL W s 2 = ⟨s.out ++ [padL W s.cur], []⟩ := by unfold roomL; rw [if_pos (by omega)]
    rw [er2] at hh ⊢
    simp only [List.length_append, List.length_singleton] at hh
    have hq : q = penOf (rowsL W h ⟨s.out ++ [padL W s.cur], []⟩) (s.out.length + 1, 0, false) := by
      show roomP W 2 _ = _
      rw [roomP_np rfl]
      unfold roomQ
      have ec : s1.cur.length - 1 = s.cur.length := by rw [e1]; simp
      have eo : s1.out.length = s.out.length := by rw [e1]
      simp only [penOf, ec, eo]
      rw [if_neg (by omega)]
      have e : updR (rowsL W h s1) s.out.length (paintL (W - 1) [(0, [])]) = s.out.map (fun l => (l, true)) ++ (padL W s.cur, false) :: List.replicate (h - s.out.length - 1) (blankL W, false) := by
        rw [e1]
        unfold rowsL
        rw [updR_at (by simp)]
        congr 2
        unfold paintL padL
        simp only [ite_self, Prod.mk.injEq, and_true]
        have e4 : W - (s.cur ++ [((1, t) : CellV)]).length = 0 := by simp; omega
        have e5 : W - s.cur.length = 1 := by omega
        rw [e4, e5, ← hc]
        simp [blankL]
      rw [e]
      exact rows_new hh _ _ _ rfl
    rw [hq]
    refine ⟨by simp [penOf], by simp [penOf, stripF], rfl, ?_⟩
    have := put_here (W := W) (h := h) (s := ⟨s.out ++ [padL W s.cur], []⟩) (n := 2) (.inr rfl) (by simp; omega) u
    simpa [penOf] using this
theorem put_widen {W h : Nat} {s : LayV} (hs : s.cur.length ≤ W) (hW : 2 ≤ W) (t u : List Int) (hh : (putL W s 2 u).out.length < h) :
    putP W 2 u (penOf (rowsL W h (putL W s 1 t)) ((putL W s 1 t).out.length, (putL W s 1 t).cur.length - 1, false)) = penOf (rowsL W h (putL W s 2 u)) (curL W (putL W s 2 u)) := by
  obtain ⟨h1, h2, h3, h4⟩ := room_widen hs hW t u hh
  have hl := room_len (n := 2) hs hW (.inr rfl)
  unfold putP
  simp only at h1 h2 h3 h4 ⊢
  rw [h4]
  congr 1
  rw [h1]
  have e2 : (roomP W 2 (penOf (rowsL W h (putL W s 1 t)) ((putL W s 1 t).out.length, (putL W s 1 t).cur.length - 1, false))).c = (roomL W s 2).cur.length := by
    have : (putL W s 2 u).cur.length = (roomL W s 2).cur.length + 2 := by rw [put_room]; simp [strip_len]
    omega
  rw [e2]
  have := after_here (W := W) (s := roomL W s 2) (n := 2) (.inr rfl) hl hW u
  rw [← put_room] at this
  rw [← this, put_room]
theorem put_more {W h : Nat} {s : LayV} (hs : s.cur.length ≤ W) (hW : 2 ≤ W) {n : Nat} (hn : n = 1 ∨ n = 2) (t u : List Int) :
    updR (rowsL W h (putL W s n t)) (putL W s n t).out.length (paintL ((putL W s n t).cur.length - n) (stripF n u)) = rowsL W h (putL W s n u) ∧ curL W (putL W s n t) = curL W (putL W s n u) := by
  have hl := room_len hs hW hn
  rw [put_room W s n t, put_room W s n u]
  constructor
  · have ec : ((roomL W s n).cur ++ stripF n t).length - n = (roomL W s n).cur.length := by simp [strip_len hn]
    simp only [ec]
    unfold rowsL
    rw [updR_at (by simp)]
    congr 2
    unfold padL paintL
    simp only [ite_self, Prod.mk.injEq, and_true, List.length_append, strip_len hn]
    rw [List.append_assoc (roomL W s n).cur (stripF n t), List.take_left', List.drop_append, List.drop_append, strip_len hn]
    · have e0 : (roomL W s n).cur.length + n - (roomL W s n).cur.length = n := by omega
      rw [e0, List.drop_eq_nil_of_le (by omega), List.drop_eq_nil_of_le (by rw [strip_len hn]; omega)]
      simp
    · rfl
  · unfold curL
    simp [strip_len hn]
end Go.Proofs.YtdjpdllehhecpaaGreatDoor
