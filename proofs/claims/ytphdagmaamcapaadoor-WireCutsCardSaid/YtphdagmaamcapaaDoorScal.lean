/-
  What the functions of layer 1 (scalar values as bytes) return: each function once.
-/
import Derived.Test.YtphdagmaamcapaaDoorR01
import Derived.Deep.OwnRows
namespace Go.Proofs.YtphdagmaamcapaaDoor
open Go.RowKit
set_option linter.unusedVariables false
set_option linter.unusedSimpArgs false

theorem Own.of_blk {k : IntKind} {e : TypeId} {T : List TypeId} {base g n : Nat} {w : World} {l : List Int} (hT : e ∉ T) (h : Blk w g e (l.map (Value.int k)).toArray) (hw : ∀ m ∈ l, (Lit.int k m).wf = true) (hb : base ≤ g) (hn : l.length = n) (hm : n ≤ maxLen) : Own (Rep.int k) e T base w (.slice (some ⟨g, 0, none⟩) n n) l := by
  subst hn
  exact ⟨hT, l.map (Value.int k), ⟨by simp [Rep.int], .inr ⟨g, l.length, _, rfl, hb, h, Nat.le_refl _, hm, by simp [Rep.int], by simp [Rep.int, List.take_of_length_le]⟩⟩, els_ints _ _ _ _ hw⟩

theorem i32_mask (b : Int) (h0 : 0 ≤ b) (h1 : b ≤ 1114111) : bits .and .i32 b 63 = b % 64 := by
  obtain ⟨n, rfl⟩ := Int.eq_ofNat_of_zero_le h0
  have hn : (BitVec.ofInt 32 (n : Int)).toNat = n := by rw [BitVec.ofInt_natCast, BitVec.toNat_ofNat]; exact Nat.mod_eq_of_lt (by omega)
  have hm : (BitVec.ofInt 32 63).toNat = 63 := by decide
  show IntKind.i32.wrap ((BitVec.ofInt 32 (n : Int) &&& BitVec.ofInt 32 63).toNat : Int) = _
  rw [BitVec.toNat_and, hn, hm, show (63 : Nat) = 2 ^ 6 - 1 from rfl, Nat.and_two_pow_sub_one_eq_mod, IntKind.wrap_i32]
  omega
theorem u8_or128 (b : Int) (h0 : 0 ≤ b) (h1 : b < 64) : bits .or .u8 128 b = 128 + b := by
  obtain ⟨n, rfl⟩ := Int.eq_ofNat_of_zero_le h0
  have h : ∀ n : Fin 64, bits .or .u8 128 ((n.val : Nat) : Int) = 128 + ((n.val : Nat) : Int) := by decide
  exact h ⟨n, by omega⟩
theorem u8_or192 (b : Int) (h0 : 0 ≤ b) (h1 : b < 32) : bits .or .u8 192 b = 192 + b := by
  obtain ⟨n, rfl⟩ := Int.eq_ofNat_of_zero_le h0
  have h : ∀ n : Fin 32, bits .or .u8 192 ((n.val : Nat) : Int) = 192 + ((n.val : Nat) : Int) := by decide
  exact h ⟨n, by omega⟩
theorem u8_or224 (b : Int) (h0 : 0 ≤ b) (h1 : b < 16) : bits .or .u8 224 b = 224 + b := by
  obtain ⟨n, rfl⟩ := Int.eq_ofNat_of_zero_le h0
  have h : ∀ n : Fin 16, bits .or .u8 224 ((n.val : Nat) : Int) = 224 + ((n.val : Nat) : Int) := by decide
  exact h ⟨n, by omega⟩
theorem u8_or240 (b : Int) (h0 : 0 ≤ b) (h1 : b < 8) : bits .or .u8 240 b = 240 + b := by
  obtain ⟨n, rfl⟩ := Int.eq_ofNat_of_zero_le h0
  have h : ∀ n : Fin 8, bits .or .u8 240 ((n.val : Nat) : Int) = 240 + ((n.val : Nat) : Int) := by decide
  exact h ⟨n, by omega⟩
theorem u8_or0 (b : Int) (h0 : 0 ≤ b) (h1 : b < 128) : bits .or .u8 0 b = b := by
  obtain ⟨n, rfl⟩ := Int.eq_ofNat_of_zero_le h0
  have h : ∀ n : Fin 128, bits .or .u8 0 ((n.val : Nat) : Int) = ((n.val : Nat) : Int) := by decide
  exact h ⟨n, by omega⟩

theorem sValid_ok (r : Int) (h0 : -2147483648 ≤ r) (h1 : r ≤ 2147483647) (w : World) :
    Calls Tryd.prog 39 #[.int .i32 r] w fun e w' => e = .returned (.bool (validB r)) ∧ w = w' := by
  go_enter Tryd.func39, Tryd.ntmps39
  go_wp2
  all_goals go_ret
  all_goals (refine ⟨ret_1 (bool_eq ?_), rfl⟩; go_tidy; unfold validB; rw [Bool.eq_iff_iff]; simp; omega)

theorem sSize_ok (r : Int) (h0 : -2147483648 ≤ r) (h1 : r ≤ 2147483647) (w : World) :
    Calls Tryd.prog 52 #[.int .i32 r] w fun e w' => e = .returned (.int .i64 (sizeF r)) ∧ w = w' := by
  go_enter Tryd.func52, Tryd.ntmps52
  go_wp2_with (refine (sValid_ok _ (by omega) (by omega) _).mono ?_; rintro e w' ⟨rfl, rfl⟩)
  all_goals go_ret
  all_goals (refine ⟨ret_1 (int_eq ?_), rfl⟩; go_tidy; unfold sizeF; simp_all; try omega)

theorem lead_ok (n k : Int) (h : (n = 1 ∧ k = 0) ∨ (n = 2 ∧ k = 192) ∨ (n = 3 ∧ k = 224) ∨ (n = 4 ∧ k = 240)) (w : World) :
    Calls Tryd.prog 53 #[.int .i64 n] w fun e w' => e = .returned (.int .u8 k) ∧ w = w' := by
  rcases h with ⟨rfl, rfl⟩ | ⟨rfl, rfl⟩ | ⟨rfl, rfl⟩ | ⟨rfl, rfl⟩
  all_goals
    go_enter Tryd.func53, Tryd.ntmps53
    go_wp2
    go_ret
    exact ⟨rfl, rfl⟩

set_option maxHeartbeats 1000000 in
theorem sForm_ok (r : Int) (h0 : -2147483648 ≤ r) (h1 : r ≤ 2147483647) (w : World) :
    Calls Tryd.prog 41 #[.int .i32 r] w fun e w' =>
      ∃ v, e = .returned v ∧ Own (Rep.int .u8) 5 [] w.heap.size w' v (formF r) ∧ Below w.heap.size w w' := by
  have hS := sSize_ok r h0 h1 w
  by_cases hv : validB r = true
  · have h := (validB_iff r).1 hv
    have ow : ∀ (l : List Int) (n : Nat), (∀ m ∈ l, 0 ≤ m ∧ m ≤ 255) → l.length = n → n ≤ 4 → Own (Rep.int .u8) 5 [] w.heap.size (w.alloc (.cells (l.map (Value.int .u8)).toArray 5)) (.slice (some ⟨w.heap.size, 0, none⟩) n n) l :=
      fun l n hl hn h4 => Own.lit (by simp) (els_ints _ _ _ _ fun m hm => wf_u8 (hl m hm).1 (hl m hm).2) (Nat.le_refl _) hn (by simp only [maxLen]; omega)
    have hr0 : 0 ≤ r := by omega
    have hr1 : r ≤ 1114111 := by omega
    have hfb := formF_bytes r
    have hc : r ≤ 127 ∨ (127 < r ∧ r ≤ 2047) ∨ (2047 < r ∧ r ≤ 65535) ∨ 65535 < r := by omega
    rcases hc with hc | hc | hc | hc
    · have hz : sizeF r = 1 := by unfold sizeF; rw [if_pos hv]; omega
      have hf : formF r = [r] := by unfold formF; simp only [if_pos hv]; rw [if_pos (by omega)]
      rw [hz] at hS
      rw [hf] at hfb
      have hmk : ∀ w : World, (Instr.makeSlice 29 (.int .i64 1) (.int .i64 1)).run Tryd.prog w = .ok (.slice (some ⟨w.heap.size, 0, none⟩) 1 1) (w.alloc (.cells #[.int .u8 0] 5)) := fun w => by
        have e := run_make_row' (P := Tryd.prog) 29 5 (.int .u8 0) 1 Tryd.underlying29 u8_info rfl .i64 .i64 1 (by decide) (by decide) w
        rw [show madeCells #[Value.int .u8 0] 1 = #[Value.int .u8 0] from by kernel_rfl] at e
        exact e
      have HF := hide hf
      have HS := hide hS
      have HFB := hide hfb
      clear hS hf hfb hz hv
      go_enter Tryd.func41, Tryd.ntmps41
      set_option maxRecDepth 10000 in go_wp2_with (go_at_call 52; refine HS.out.mono ?_; rintro e w' ⟨rfl, rfl⟩)
      go_loopw [0, 5] (fun rv i wr => ((rv = .int .i32 r ∧ i = .int .i64 0 ∧ Blk wr w.heap.size 5 #[.int .u8 (0)])) ∧ Below w.heap.size w wr) (fun _ i _ => (intOf i).toNat)
      case atStart => exact ⟨⟨rfl, rfl, Blk.new _ _ _⟩, (Below.refl _ _).alloc (Nat.le_refl _) _⟩
      case round =>
        obtain ⟨⟨rfl, rfl, hb⟩, hbel⟩ := hrel
        have c0 := hb.cell 0
        simp only [List.getElem?_toArray, List.getElem?_cons_succ, List.getElem?_cons_zero] at c0
        have z0 := hb.frozen 0
        have hlt := hb.lt
        have b3 := u8_or0 r (by omega) (by omega)
        go_wp2_with (go_at_call 53; refine (lead_ok 1 0 (by omega) _).mono ?_; rintro e w' ⟨rfl, rfl⟩)
        go_ret
        have HFB2 := HFB.out
        refine ⟨_, rfl, ?_, hbel.setCell (Nat.le_refl _) _⟩
        rw [HF.out]
        exact Own.of_blk (by simp) (hb.set_ 0 _) (fun m hm => wf_u8 (HFB2 m hm).1 (HFB2 m hm).2) (Nat.le_refl _) rfl (by simp [maxLen])
    · have hz : sizeF r = 2 := by unfold sizeF; rw [if_pos hv]; omega
      have hf : formF r = [192 + r / 64, 128 + r % 64] := by unfold formF; simp only [if_pos hv]; rw [if_neg (by omega), if_pos (by omega)]
      rw [hz] at hS
      rw [hf] at hfb
      have hmk : ∀ w : World, (Instr.makeSlice 29 (.int .i64 2) (.int .i64 2)).run Tryd.prog w = .ok (.slice (some ⟨w.heap.size, 0, none⟩) 2 2) (w.alloc (.cells #[.int .u8 0, .int .u8 0] 5)) := fun w => by
        have e := run_make_row' (P := Tryd.prog) 29 5 (.int .u8 0) 1 Tryd.underlying29 u8_info rfl .i64 .i64 2 (by decide) (by decide) w
        rw [show madeCells #[Value.int .u8 0] 2 = #[Value.int .u8 0, Value.int .u8 0] from by kernel_rfl] at e
        exact e
      have HF := hide hf
      have HS := hide hS
      have HFB := hide hfb
      clear hS hf hfb hz hv
      go_enter Tryd.func41, Tryd.ntmps41
      set_option maxRecDepth 10000 in go_wp2_with (go_at_call 52; refine HS.out.mono ?_; rintro e w' ⟨rfl, rfl⟩)
      go_loopw [0, 5] (fun rv i wr => ((rv = .int .i32 r ∧ i = .int .i64 1 ∧ Blk wr w.heap.size 5 #[.int .u8 (0), .int .u8 (0)]) ∨ (rv = .int .i32 (r / 64) ∧ i = .int .i64 0 ∧ Blk wr w.heap.size 5 #[.int .u8 (0), .int .u8 (128 + r % 64)])) ∧ Below w.heap.size w wr) (fun _ i _ => (intOf i).toNat)
      case atStart => exact ⟨.inl ⟨rfl, rfl, Blk.new _ _ _⟩, (Below.refl _ _).alloc (Nat.le_refl _) _⟩
      case round =>
        obtain ⟨(⟨rfl, rfl, hb⟩ | ⟨rfl, rfl, hb⟩), hbel⟩ := hrel
        · skip
          have c0 := hb.cell 0
          have c1 := hb.cell 1
          simp only [List.getElem?_toArray, List.getElem?_cons_succ, List.getElem?_cons_zero] at c0 c1
          have z1 := hb.frozen 1
          have hlt := hb.lt
          have b0 : bits .and .i32 (r) 63 = r % 64 := i32_mask _ (by omega) (by omega)
          have b1 : IntKind.u8.wrap (r % 64) = r % 64 := by rw [IntKind.wrap_u8]; omega
          have b2 : bits .or .u8 128 (r % 64) = 128 + r % 64 := u8_or128 _ (by omega) (by omega)
          go_wp2
          go_roundw
          case rel => exact ⟨.inr (⟨rfl, rfl, hb.set_ 1 _⟩), hbel.setCell (Nat.le_refl _) _⟩
          case measure => simp [intOf]
        · skip
          have c0 := hb.cell 0
          have c1 := hb.cell 1
          simp only [List.getElem?_toArray, List.getElem?_cons_succ, List.getElem?_cons_zero] at c0 c1
          have z0 := hb.frozen 0
          have hlt := hb.lt
          go_wp2_with (go_at_call 53; refine (lead_ok 2 192 (by omega) _).mono ?_; rintro e w' ⟨rfl, rfl⟩)
          go_ret
          have HFB2 := HFB.out
          refine ⟨_, rfl, ?_, hbel.setCell (Nat.le_refl _) _⟩
          rw [HF.out]
          exact Own.of_blk (by simp) (hb.set_ 0 _) (fun m hm => wf_u8 (HFB2 m hm).1 (HFB2 m hm).2) (Nat.le_refl _) rfl (by simp [maxLen])
    · have hz : sizeF r = 3 := by unfold sizeF; rw [if_pos hv]; omega
      have hf : formF r = [224 + r / 4096, 128 + r / 64 % 64, 128 + r % 64] := by unfold formF; simp only [if_pos hv]; rw [if_neg (by omega), if_neg (by omega), if_pos (by omega)]
      rw [hz] at hS
      rw [hf] at hfb
      have hmk : ∀ w : World, (Instr.makeSlice 29 (.int .i64 3) (.int .i64 3)).run Tryd.prog w = .ok (.slice (some ⟨w.heap.size, 0, none⟩) 3 3) (w.alloc (.cells #[.int .u8 0, .int .u8 0, .int .u8 0] 5)) := fun w => by
        have e := run_make_row' (P := Tryd.prog) 29 5 (.int .u8 0) 1 Tryd.underlying29 u8_info rfl .i64 .i64 3 (by decide) (by decide) w
        rw [show madeCells #[Value.int .u8 0] 3 = #[Value.int .u8 0, Value.int .u8 0, Value.int .u8 0] from by kernel_rfl] at e
        exact e
      have HF := hide hf
      have HS := hide hS
      have HFB := hide hfb
      clear hS hf hfb hz hv
      go_enter Tryd.func41, Tryd.ntmps41
      set_option maxRecDepth 10000 in go_wp2_with (go_at_call 52; refine HS.out.mono ?_; rintro e w' ⟨rfl, rfl⟩)
      go_loopw [0, 5] (fun rv i wr => ((rv = .int .i32 r ∧ i = .int .i64 2 ∧ Blk wr w.heap.size 5 #[.int .u8 (0), .int .u8 (0), .int .u8 (0)]) ∨ (rv = .int .i32 (r / 64) ∧ i = .int .i64 1 ∧ Blk wr w.heap.size 5 #[.int .u8 (0), .int .u8 (0), .int .u8 (128 + r % 64)]) ∨ (rv = .int .i32 ((r / 64) / 64) ∧ i = .int .i64 0 ∧ Blk wr w.heap.size 5 #[.int .u8 (0), .int .u8 (128 + (r / 64) % 64), .int .u8 (128 + r % 64)])) ∧ Below w.heap.size w wr) (fun _ i _ => (intOf i).toNat)
      case atStart => exact ⟨.inl ⟨rfl, rfl, Blk.new _ _ _⟩, (Below.refl _ _).alloc (Nat.le_refl _) _⟩
      case round =>
        obtain ⟨(⟨rfl, rfl, hb⟩ | ⟨rfl, rfl, hb⟩ | ⟨rfl, rfl, hb⟩), hbel⟩ := hrel
        · skip
          have c0 := hb.cell 0
          have c1 := hb.cell 1
          have c2 := hb.cell 2
          simp only [List.getElem?_toArray, List.getElem?_cons_succ, List.getElem?_cons_zero] at c0 c1 c2
          have z2 := hb.frozen 2
          have hlt := hb.lt
          have b0 : bits .and .i32 (r) 63 = r % 64 := i32_mask _ (by omega) (by omega)
          have b1 : IntKind.u8.wrap (r % 64) = r % 64 := by rw [IntKind.wrap_u8]; omega
          have b2 : bits .or .u8 128 (r % 64) = 128 + r % 64 := u8_or128 _ (by omega) (by omega)
          go_wp2
          go_roundw
          case rel => exact ⟨.inr (.inl ⟨rfl, rfl, hb.set_ 2 _⟩), hbel.setCell (Nat.le_refl _) _⟩
          case measure => simp [intOf]
        · skip
          have c0 := hb.cell 0
          have c1 := hb.cell 1
          have c2 := hb.cell 2
          simp only [List.getElem?_toArray, List.getElem?_cons_succ, List.getElem?_cons_zero] at c0 c1 c2
          have z1 := hb.frozen 1
          have hlt := hb.lt
          have b0 : bits .and .i32 ((r / 64)) 63 = (r / 64) % 64 := i32_mask _ (by omega) (by omega)
          have b1 : IntKind.u8.wrap ((r / 64) % 64) = (r / 64) % 64 := by rw [IntKind.wrap_u8]; omega
          have b2 : bits .or .u8 128 ((r / 64) % 64) = 128 + (r / 64) % 64 := u8_or128 _ (by omega) (by omega)
          go_wp2
          go_roundw
          case rel => exact ⟨.inr (.inr (⟨rfl, rfl, hb.set_ 1 _⟩)), hbel.setCell (Nat.le_refl _) _⟩
          case measure => simp [intOf]
        · skip
          have c0 := hb.cell 0
          have c1 := hb.cell 1
          have c2 := hb.cell 2
          simp only [List.getElem?_toArray, List.getElem?_cons_succ, List.getElem?_cons_zero] at c0 c1 c2
          have z0 := hb.frozen 0
          have hlt := hb.lt
          go_wp2_with (go_at_call 53; refine (lead_ok 3 224 (by omega) _).mono ?_; rintro e w' ⟨rfl, rfl⟩)
          go_ret
          have HFB2 := HFB.out
          refine ⟨_, rfl, ?_, hbel.setCell (Nat.le_refl _) _⟩
          rw [HF.out]
          rw [show r / 4096 = r / 64 / 64 by omega] at HFB2 ⊢
          exact Own.of_blk (by simp) (hb.set_ 0 _) (fun m hm => wf_u8 (HFB2 m hm).1 (HFB2 m hm).2) (Nat.le_refl _) rfl (by simp [maxLen])
    · have hz : sizeF r = 4 := by unfold sizeF; rw [if_pos hv]; omega
      have hf : formF r = [240 + r / 262144, 128 + r / 4096 % 64, 128 + r / 64 % 64, 128 + r % 64] := by unfold formF; simp only [if_pos hv]; rw [if_neg (by omega), if_neg (by omega), if_neg (by omega)]
      rw [hz] at hS
      rw [hf] at hfb
      have hmk : ∀ w : World, (Instr.makeSlice 29 (.int .i64 4) (.int .i64 4)).run Tryd.prog w = .ok (.slice (some ⟨w.heap.size, 0, none⟩) 4 4) (w.alloc (.cells #[.int .u8 0, .int .u8 0, .int .u8 0, .int .u8 0] 5)) := fun w => by
        have e := run_make_row' (P := Tryd.prog) 29 5 (.int .u8 0) 1 Tryd.underlying29 u8_info rfl .i64 .i64 4 (by decide) (by decide) w
        rw [show madeCells #[Value.int .u8 0] 4 = #[Value.int .u8 0, Value.int .u8 0, Value.int .u8 0, Value.int .u8 0] from by kernel_rfl] at e
        exact e
      have HF := hide hf
      have HS := hide hS
      have HFB := hide hfb
      clear hS hf hfb hz hv
      go_enter Tryd.func41, Tryd.ntmps41
      set_option maxRecDepth 10000 in go_wp2_with (go_at_call 52; refine HS.out.mono ?_; rintro e w' ⟨rfl, rfl⟩)
      go_loopw [0, 5] (fun rv i wr => ((rv = .int .i32 r ∧ i = .int .i64 3 ∧ Blk wr w.heap.size 5 #[.int .u8 (0), .int .u8 (0), .int .u8 (0), .int .u8 (0)]) ∨ (rv = .int .i32 (r / 64) ∧ i = .int .i64 2 ∧ Blk wr w.heap.size 5 #[.int .u8 (0), .int .u8 (0), .int .u8 (0), .int .u8 (128 + r % 64)]) ∨ (rv = .int .i32 ((r / 64) / 64) ∧ i = .int .i64 1 ∧ Blk wr w.heap.size 5 #[.int .u8 (0), .int .u8 (0), .int .u8 (128 + (r / 64) % 64), .int .u8 (128 + r % 64)]) ∨ (rv = .int .i32 (((r / 64) / 64) / 64) ∧ i = .int .i64 0 ∧ Blk wr w.heap.size 5 #[.int .u8 (0), .int .u8 (128 + ((r / 64) / 64) % 64), .int .u8 (128 + (r / 64) % 64), .int .u8 (128 + r % 64)])) ∧ Below w.heap.size w wr) (fun _ i _ => (intOf i).toNat)
      case atStart => exact ⟨.inl ⟨rfl, rfl, Blk.new _ _ _⟩, (Below.refl _ _).alloc (Nat.le_refl _) _⟩
      case round =>
        obtain ⟨(⟨rfl, rfl, hb⟩ | ⟨rfl, rfl, hb⟩ | ⟨rfl, rfl, hb⟩ | ⟨rfl, rfl, hb⟩), hbel⟩ := hrel
        · skip
          have c0 := hb.cell 0
          have c1 := hb.cell 1
          have c2 := hb.cell 2
          have c3 := hb.cell 3
          simp only [List.getElem?_toArray, List.getElem?_cons_succ, List.getElem?_cons_zero] at c0 c1 c2 c3
          have z3 := hb.frozen 3
          have hlt := hb.lt
          have b0 : bits .and .i32 (r) 63 = r % 64 := i32_mask _ (by omega) (by omega)
          have b1 : IntKind.u8.wrap (r % 64) = r % 64 := by rw [IntKind.wrap_u8]; omega
          have b2 : bits .or .u8 128 (r % 64) = 128 + r % 64 := u8_or128 _ (by omega) (by omega)
          go_wp2
          go_roundw
          case rel => exact ⟨.inr (.inl ⟨rfl, rfl, hb.set_ 3 _⟩), hbel.setCell (Nat.le_refl _) _⟩
          case measure => simp [intOf]
        · skip
          have c0 := hb.cell 0
          have c1 := hb.cell 1
          have c2 := hb.cell 2
          have c3 := hb.cell 3
          simp only [List.getElem?_toArray, List.getElem?_cons_succ, List.getElem?_cons_zero] at c0 c1 c2 c3
          have z2 := hb.frozen 2
          have hlt := hb.lt
          have b0 : bits .and .i32 ((r / 64)) 63 = (r / 64) % 64 := i32_mask _ (by omega) (by omega)
          have b1 : IntKind.u8.wrap ((r / 64) % 64) = (r / 64) % 64 := by rw [IntKind.wrap_u8]; omega
          have b2 : bits .or .u8 128 ((r / 64) % 64) = 128 + (r / 64) % 64 := u8_or128 _ (by omega) (by omega)
          go_wp2
          go_roundw
          case rel => exact ⟨.inr (.inr (.inl ⟨rfl, rfl, hb.set_ 2 _⟩)), hbel.setCell (Nat.le_refl _) _⟩
          case measure => simp [intOf]
        · skip
          have c0 := hb.cell 0
          have c1 := hb.cell 1
          have c2 := hb.cell 2
          have c3 := hb.cell 3
          simp only [List.getElem?_toArray, List.getElem?_cons_succ, List.getElem?_cons_zero] at c0 c1 c2 c3
          have z1 := hb.frozen 1
          have hlt := hb.lt
          have b0 : bits .and .i32 (((r / 64) / 64)) 63 = ((r / 64) / 64) % 64 := i32_mask _ (by omega) (by omega)
          have b1 : IntKind.u8.wrap (((r / 64) / 64) % 64) = ((r / 64) / 64) % 64 := by rw [IntKind.wrap_u8]; omega
          have b2 : bits .or .u8 128 (((r / 64) / 64) % 64) = 128 + ((r / 64) / 64) % 64 := u8_or128 _ (by omega) (by omega)
          go_wp2
          go_roundw
          case rel => exact ⟨.inr (.inr (.inr (⟨rfl, rfl, hb.set_ 1 _⟩))), hbel.setCell (Nat.le_refl _) _⟩
          case measure => simp [intOf]
        · skip
          have c0 := hb.cell 0
          have c1 := hb.cell 1
          have c2 := hb.cell 2
          have c3 := hb.cell 3
          simp only [List.getElem?_toArray, List.getElem?_cons_succ, List.getElem?_cons_zero] at c0 c1 c2 c3
          have z0 := hb.frozen 0
          have hlt := hb.lt
          go_wp2_with (go_at_call 53; refine (lead_ok 4 240 (by omega) _).mono ?_; rintro e w' ⟨rfl, rfl⟩)
          go_ret
          have HFB2 := HFB.out
          refine ⟨_, rfl, ?_, hbel.setCell (Nat.le_refl _) _⟩
          rw [HF.out]
          rw [show r / 262144 = r / 64 / 64 / 64 by omega, show r / 4096 = r / 64 / 64 by omega] at HFB2 ⊢
          exact Own.of_blk (by simp) (hb.set_ 0 _) (fun m hm => wf_u8 (HFB2 m hm).1 (HFB2 m hm).2) (Nat.le_refl _) rfl (by simp [maxLen])
  · have hz : sizeF r = 0 := by unfold sizeF; rw [if_neg hv]
    have hf : formF r = [] := by unfold formF; rw [if_neg hv]
    rw [hz] at hS
    have HF := hide hf
    have HS := hide hS
    clear hS hf hz hv
    go_enter Tryd.func41, Tryd.ntmps41
    go_wp2_with (refine HS.out.mono ?_; rintro e w' ⟨rfl, rfl⟩)
    go_ret
    refine ⟨_, rfl, ?_, Below.refl _ _⟩
    rw [HF.out]
    exact Own.nil_ _ _ _ _ _ (by simp)
end Go.Proofs.YtphdagmaamcapaaDoor
