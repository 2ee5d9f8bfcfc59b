/-
  What the decoder's methods do: what is returned, and what the decoder's block holds behind the call. Each method once.
-/
import Derived.Test.YtfcjkmiaibakiaaOct
import Derived.Test.YtfcjkmiaibakiaaR01
import Derived.Test.YtfcjkmiaibakiaaUtf1
namespace Go.Proofs.Ytfcjkmiaibakiaa
open Go.RowKit
set_option linter.unusedVariables false

/-- Block g is a decoder that holds d. -/
def DecAt (w : World) (g : Nat) (d : Dec) : Prop := Blk w g 38 #[.int .i64 d.held, .int .i64 d.needs, .int .u8 d.lo, .int .u8 d.hi, .int .i64 d.bits]

theorem DecAt.cells {w : World} {g : Nat} {d : Dec} (h : DecAt w g d) :
    g < w.heap.size ∧ w.cell? ⟨g, 0, none⟩ = some (.int .i64 d.held) ∧ w.cell? ⟨g, 1, none⟩ = some (.int .i64 d.needs) ∧ w.cell? ⟨g, 2, none⟩ = some (.int .u8 d.lo) ∧ w.cell? ⟨g, 3, none⟩ = some (.int .u8 d.hi) ∧
      w.cell? ⟨g, 4, none⟩ = some (.int .i64 d.bits) ∧ w.frozen? ⟨g, 0, none⟩ = false ∧ w.frozen? ⟨g, 1, none⟩ = false ∧ w.frozen? ⟨g, 2, none⟩ = false ∧ w.frozen? ⟨g, 3, none⟩ = false ∧ w.frozen? ⟨g, 4, none⟩ = false :=
  ⟨h.lt, h.cell 0, h.cell 1, h.cell 2, h.cell 3, h.cell 4, h.frozen 0, h.frozen 1, h.frozen 2, h.frozen 3, h.frozen 4⟩

theorem Held_ok (g : Nat) (d : Dec) (w : World) (h : DecAt w g d) :
    Calls Try.prog 31 #[.pointer (some ⟨g, 0, none⟩)] w fun e w' => e = .returned (.int .i64 d.held) ∧ w = w' := by
  obtain ⟨hg, h0, h1, h2, h3, h4, f0, f1, f2, f3, f4⟩ := h.cells
  go_enter Try.func31, Try.ntmps31
  go_wp2
  go_ret
  exact ⟨rfl, rfl⟩

theorem Held_nil (w : World) :
    Calls Try.prog 31 #[.pointer none] w fun e w' => e = .returned (.int .i64 0) ∧ w = w' := by
  go_enter Try.func31, Try.ntmps31
  go_wp2
  go_ret
  exact ⟨rfl, rfl⟩

theorem own_one (w : World) (n : Int) (h : (Lit.int .i32 n).wf = true) (base : Nat) (hb : base ≤ w.heap.size) : Own (Rep.int .i32) 21 [] base (w.alloc (.cells #[.int .i32 n] 21)) (.slice (some ⟨w.heap.size, 0, none⟩) 1 1) [n] :=
  Own.lit (xs := [.int .i32 n]) (by simp) (els_ints .i32 _ w [n] (by intro m hm; simp at hm; subst hm; exact h)) hb rfl (by simp [maxLen])

theorem own_one' (w : World) (n : Int) (h : (Lit.int .i32 n).wf = true) (base m : Nat) (hb : base ≤ m) (hm : m = w.heap.size) : Own (Rep.int .i32) 21 [] base (w.alloc (.cells #[.int .i32 n] 21)) (.slice (some ⟨m, 0, none⟩) 1 1) [n] := by
  subst hm; exact own_one w n h base hb

theorem begin_ok (g : Nat) (d : Dec) (b : Int) (w : World) (h : DecAt w g d) (hb0 : 0 ≤ b) (hb1 : b ≤ 255) :
    Calls Try.prog 46 #[.pointer (some ⟨g, 0, none⟩), .int .u8 b] w fun e w' =>
      ∃ v, e = .returned v ∧ Own (Rep.int .i32) 21 [] w.heap.size w' v (beginF d b).1 ∧ DecAt w' g (beginF d b).2 ∧ w.grownBy w' (some g) := by
  obtain ⟨hg, h0, h1, h2, h3, h4, f0, f1, f2, f3, f4⟩ := h.cells
  have hl := leadF_range b
  have hB : ∀ e0 e1 : Prop, e0 → e1 → e0 ∧ e1 := fun _ _ a b => ⟨a, b⟩
  by_cases e0 : leadF b = 0
  · have hr : beginF d b = ([65533], d) := by unfold beginF; rw [if_pos e0]
    have hL := Lead_ok b hb0 hb1
    rw [e0] at hL
    have HL := hide hL
    rw [hr]
    clear e0 hL hr
    go_enter Try.func46, Try.ntmps46
    go_wp2_with (go_at_call 16; refine (HL.out _).mono ?_; rintro e w' ⟨rfl, rfl⟩)
    go_ret
    exact ⟨_, rfl, own_one _ _ (by decide) _ (Nat.le_refl _), h.alloc _, gb_alloc (gb_refl _ _) _⟩
  · by_cases e1 : leadF b = 1
    · have hr : beginF d b = ([b], d) := by unfold beginF; rw [if_neg e0, if_pos e1]
      have hL := Lead_ok b hb0 hb1
      rw [e1] at hL
      have HL := hide hL
      rw [hr]
      clear e0 e1 hL hr
      go_enter Try.func46, Try.ntmps46
      go_wp2_with (go_at_call 16; refine (HL.out _).mono ?_; rintro e w' ⟨rfl, rfl⟩)
      go_ret
      exact ⟨_, rfl, own_one _ _ (wf_i32 (by omega) (by omega)) _ (Nat.le_refl _), h.alloc _, gb_alloc (gb_refl _ _) _⟩
    · have hr : beginF d b = ([], ⟨1, leadF b - 1, loF b, hiF b, bitsF b⟩) := by unfold beginF; rw [if_neg e0, if_neg e1]
      have n0 : (leadF b == 0) = false := by simpa using e0
      have n1 : (leadF b == 1) = false := by simpa using e1
      rw [hr]
      clear e0 e1 hr
      go_enter Try.func46, Try.ntmps46
      go_wp2_with (first | (go_at_call 16; refine (Lead_ok _ (by omega) (by omega) _).mono ?_; rintro e w' ⟨rfl, rfl⟩) | (go_at_call 19; refine (Bits_ok _ (by omega) (by omega) _).mono ?_; rintro e w' ⟨rfl, rfl⟩) | (go_at_call 14; refine (Second_ok _ (by omega) (by omega) _).mono ?_; rintro e w' ⟨rfl, rfl⟩))
      go_ret
      exact ⟨_, rfl, Own.nil_ _ _ _ _ _ (by simp), ((((Blk.set_ h 0 _).set_ 1 _).set_ 4 _).set_ 2 _).set_ 3 _, gb_set (gb_set (gb_set (gb_set (gb_set (gb_refl _ _) 0 _) 1 _) 4 _) 2 _) 3 _⟩

theorem Flush_ok (g : Nat) (d : Dec) (w : World) (h : DecAt w g d) :
    Calls Try.prog 32 #[.pointer (some ⟨g, 0, none⟩)] w fun e w' =>
      ∃ v, e = .returned v ∧ Own (Rep.int .i32) 21 [] w.heap.size w' v (if d.held = 0 then [] else [65533]) ∧ DecAt w' g (if d.held = 0 then d else ⟨0, 0, 0, 0, 0⟩) ∧ w.grownBy w' (some g) := by
  obtain ⟨hg, h0, h1, h2, h3, h4, f0, f1, f2, f3, f4⟩ := h.cells
  by_cases e0 : d.held = 0
  · have n0 : (d.held == 0) = true := by simpa using e0
    rw [if_pos e0, if_pos e0]
    clear e0
    go_enter Try.func32, Try.ntmps32
    go_wp2_with (refine (Held_ok _ _ _ h).mono ?_; rintro e w' ⟨rfl, rfl⟩)
    go_ret
    exact ⟨_, rfl, Own.nil_ _ _ _ _ _ (by simp), h, gb_refl _ _⟩
  · have n0 : (d.held == 0) = false := by simpa using e0
    rw [if_neg e0, if_neg e0]
    clear e0
    go_enter Try.func32, Try.ntmps32
    go_wp2_with (refine (Held_ok _ _ _ h).mono ?_; rintro e w' ⟨rfl, rfl⟩)
    go_ret
    have hk : DecAt _ g ⟨0, 0, 0, 0, 0⟩ := ((((Blk.set_ h 0 (.int .i64 0)).set_ 1 (.int .i64 0)).set_ 2 (.int .u8 0)).set_ 3 (.int .u8 0)).set_ 4 (.int .i64 0)
    exact ⟨_, rfl, own_one' _ _ (by decide) _ _ (Nat.le_refl _) (by simp), hk.alloc _, gb_alloc (gb_set (gb_set (gb_set (gb_set (gb_set (gb_refl _ _) 0 _) 1 _) 2 _) 3 _) 4 _) _⟩

/-- The numbers of a decoder are small. -/
def Small (d : Dec) : Prop := 0 ≤ d.held ∧ d.held ≤ 10 ∧ 0 ≤ d.needs ∧ d.needs ≤ 10 ∧ 0 ≤ d.lo ∧ d.lo ≤ 255 ∧ 0 ≤ d.hi ∧ d.hi ≤ 255 ∧ 0 ≤ d.bits ∧ d.bits ≤ 524288

theorem or_low (a b : Int) (h0 : 0 ≤ a) (h1 : a ≤ 524288) (hb0 : 0 ≤ b) (hb1 : b ≤ 63) : bits .or .i64 (a * 64) b = a * 64 + b := by
  obtain ⟨m, rfl⟩ := Int.eq_ofNat_of_zero_le h0
  obtain ⟨n, rfl⟩ := Int.eq_ofNat_of_zero_le hb0
  have := i64_or_nat (m * 64) n (by omega) (by omega)
  have e : ((m * 64 : Nat) : Int) = (m : Int) * 64 := by simp
  rw [e] at this
  rw [this]
  have h2 : m * 64 ||| n = m * 64 + n := by
    have := Nat.two_pow_add_eq_or_of_lt (i := 6) (b := n) (by omega) m
    simp at this
    rw [Nat.mul_comm m 64, ← this]
  rw [h2]; simp

set_option maxHeartbeats 600000 in
theorem Step_ok (g : Nat) (d : Dec) (b : Int) (w : World) (h : DecAt w g d) (hs : Small d) (hb0 : 0 ≤ b) (hb1 : b ≤ 255) :
    Calls Try.prog 30 #[.pointer (some ⟨g, 0, none⟩), .int .u8 b] w fun e w' =>
      ∃ v, e = .returned v ∧ Own (Rep.int .i32) 21 [] w.heap.size w' v (decStepF d b).1 ∧ DecAt w' g (decStepF d b).2 ∧ w.grownBy w' (some g) := by
  obtain ⟨hg, h0, h1, h2, h3, h4, f0, f1, f2, f3, f4⟩ := h.cells
  obtain ⟨s0, s1, s2, s3, s4, s5, s6, s7, s8, s9⟩ := hs
  by_cases e0 : d.held = 0
  · have n0 : (d.held == 0) = true := by simpa using e0
    have hr : decStepF d b = beginF d b := by unfold decStepF; rw [if_pos e0]
    rw [hr]
    clear e0 hr
    go_enter Try.func30, Try.ntmps30
    go_wp2_with fail
    refine (begin_ok g d b w h hb0 hb1).mono ?_
    rintro e w1 ⟨v, rfl, hv, hd, hw⟩
    go_wp2
    go_ret
    exact ⟨_, rfl, hv, hd, hw⟩
  · have n0 : (d.held == 0) = false := by simpa using e0
    by_cases e1 : b < d.lo ∨ d.hi < b
    · have hr : decStepF d b = (65533 :: (beginF ⟨0, 0, 0, 0, 0⟩ b).1, (beginF ⟨0, 0, 0, 0, 0⟩ b).2) := by unfold decStepF; rw [if_neg e0, if_pos e1]
      rw [hr]
      have hfl := Flush_ok g d w h
      rw [if_neg e0, if_neg e0] at hfl
      have HFL := hide hfl
      clear hr hfl e0
      have hc : b < d.lo ∨ (d.lo ≤ b ∧ d.hi < b) := by omega
      clear e1
      rcases hc with hc | ⟨hc, hc'⟩
      all_goals
        go_enter Try.func30, Try.ntmps30
        go_wp2_with fail
        refine HFL.out.mono ?_
        rintro e w1 ⟨v1, rfl, hv1, hd1, hw1⟩
        go_wp2_with fail
        refine (begin_ok g _ b w1 hd1 hb0 hb1).mono ?_
        rintro e w2 ⟨v2, rfl, hv2, hd2, hw2⟩
        have hv1' := hv1.ints_gb hw2 hd1 (by decide)
        have hsz : w.heap.size ≤ w1.heap.size := hw1.size
        have hsz2 : w1.heap.size ≤ w2.heap.size := hw2.size
        have hln : (beginF ⟨0, 0, 0, 0, 0⟩ b).1.length ≤ 1 := by unfold beginF; (repeat' split) <;> simp
        go_wp2_with (at_builtin; refine wpList_appi rfl (.tmp 34) (.tmp 37) 40 rfl .i32 21 w.heap.size 4 Try.underlying40 i32_info (by decide) _ _ rfl hv1' _ _ _ _ rfl hv2.islc (by simp; omega) (by omega) ?_; intro v3 w3 hv3 hst3)
        go_ret
        exact ⟨_, rfl, hv3, hd2.step hst3 (by decide), gb_step (gb_trans hw1 hw2) hst3⟩
    · have hb6 : bits .and .u8 b 63 = b % 64 := by
        obtain ⟨n, rfl⟩ := Int.eq_ofNat_of_zero_le hb0
        have hx : n &&& 63 < 256 := Nat.lt_of_le_of_lt Nat.and_le_right (by decide)
        show IntKind.u8.wrap ((BitVec.ofInt 8 (n : Int) &&& BitVec.ofInt 8 63).toNat : Int) = _
        rw [BitVec.toNat_and, BitVec.ofInt_natCast, BitVec.toNat_ofNat, Nat.mod_eq_of_lt (by omega)]
        have e : (BitVec.ofInt 8 63).toNat = 2 ^ 6 - 1 := by decide
        rw [e, Nat.and_two_pow_sub_one_eq_mod]
        simp [IntKind.wrap, IntKind.signed, IntKind.bits]
        omega
      have hor := or_low d.bits (b % 64) s8 s9 (by omega) (by omega)
      have hbb : 0 ≤ d.bits * 64 + b % 64 ∧ d.bits * 64 + b % 64 ≤ 33554495 := by omega
      by_cases e2 : 0 < d.needs - 1
      · have hr : decStepF d b = ([], ⟨d.held + 1, d.needs - 1, 128, 191, d.bits * 64 + b % 64⟩) := by unfold decStepF; rw [if_neg e0, if_neg e1, if_pos e2]
        rw [hr]
        have e1' : d.lo ≤ b ∧ b ≤ d.hi := by omega
        clear hr e0 e1
        go_enter Try.func30, Try.ntmps30
        go_wp2
        go_ret
        exact ⟨_, rfl, Own.nil_ _ _ _ _ _ (by simp), ((((Blk.set_ h 4 _).set_ 2 _).set_ 3 _).set_ 0 _).set_ 1 _, gb_set (gb_set (gb_set (gb_set (gb_set (gb_refl _ _) 4 _) 2 _) 3 _) 0 _) 1 _⟩
      · have hr : decStepF d b = ([d.bits * 64 + b % 64], ⟨0, 0, 0, 0, 0⟩) := by unfold decStepF; rw [if_neg e0, if_neg e1, if_neg e2]
        rw [hr]
        have e1' : d.lo ≤ b ∧ b ≤ d.hi := by omega
        clear hr e0 e1
        go_enter Try.func30, Try.ntmps30
        go_wp2
        go_ret
        have h1 : Blk _ g 38 #[.int .i64 (d.held + 1), .int .i64 (d.needs - 1), .int .u8 128, .int .u8 191, .int .i64 (d.bits * 64 + b % 64)] := ((((Blk.set_ h 4 (.int .i64 (d.bits * 64 + b % 64))).set_ 2 (.int .u8 128)).set_ 3 (.int .u8 191)).set_ 0 (.int .i64 (d.held + 1))).set_ 1 (.int .i64 (d.needs - 1))
        have h2 : DecAt _ g ⟨0, 0, 0, 0, 0⟩ := ((((Blk.set_ h1 0 (.int .i64 0)).set_ 1 (.int .i64 0)).set_ 2 (.int .u8 0)).set_ 3 (.int .u8 0)).set_ 4 (.int .i64 0)
        have g1 := gb_set (gb_set (gb_set (gb_set (gb_set (gb_refl w g) 4 (.int .i64 (d.bits * 64 + b % 64))) 2 (.int .u8 128)) 3 (.int .u8 191)) 0 (.int .i64 (d.held + 1))) 1 (.int .i64 (d.needs - 1))
        have g2 := gb_set (gb_set (gb_set (gb_set (gb_set g1 0 (.int .i64 0)) 1 (.int .i64 0)) 2 (.int .u8 0)) 3 (.int .u8 0)) 4 (.int .i64 0)
        exact ⟨_, rfl, own_one' _ _ (wf_i32 (by omega) (by omega)) _ _ (Nat.le_refl _) (by simp), h2.alloc _, gb_alloc g2 _⟩

/-- The decoder in block g holds the bytes h. -/
structure Holds (w : World) (g : Nat) (h : List Int) : Prop where
  at_ : DecAt w g (decOf h)
  pre : Pre h
  bytes : Bytes h

theorem small_of {h : List Int} (hp : Pre h) (hb : Bytes h) : Small (decOf h) := by
  cases h with
  | nil => simp [Small, decOf]
  | cons b0 r =>
    have hb0 := hb b0 (by simp)
    obtain ⟨p1, p2, p3, p4, p5, p6⟩ := pre_facts b0 r hp hb0
    have hl := leadF_range b0
    have hlo := lo_range b0
    have hhi := hi_range b0
    unfold Small
    simp only [decOf]
    refine ⟨by omega, by omega, by omega, by omega, ?_, ?_, ?_, ?_, by omega, by omega⟩ <;> split <;> omega

theorem StepH_ok (g : Nat) (h : List Int) (b : Int) (w : World) (hh : Holds w g h) (hb0 : 0 ≤ b) (hb1 : b ≤ 255) :
    Calls Try.prog 30 #[.pointer (some ⟨g, 0, none⟩), .int .u8 b] w fun e w' =>
      ∃ v, e = .returned v ∧ Own (Rep.int .i32) 21 [] w.heap.size w' v (refStepF h b).1 ∧ Holds w' g (refStepF h b).2 ∧ w.grownBy w' (some g) := by
  obtain ⟨h1, h2, h3⟩ := dec_step h b hh.pre hh.bytes ⟨hb0, hb1⟩
  refine (Step_ok g _ b w hh.at_ (small_of hh.pre hh.bytes) hb0 hb1).mono ?_
  rintro e w' ⟨v, rfl, hv, hd, hw⟩
  rw [h1] at hv hd
  exact ⟨v, rfl, hv, ⟨hd, h2, h3⟩, hw⟩

theorem dec_held (h : List Int) : (decOf h).held = (h.length : Int) := by
  cases h <;> simp [decOf]

theorem HeldH_ok (g : Nat) (h : List Int) (w : World) (hh : Holds w g h) :
    Calls Try.prog 31 #[.pointer (some ⟨g, 0, none⟩)] w fun e w' => e = .returned (.int .i64 (h.length : Int)) ∧ w = w' := by
  have := Held_ok g _ w hh.at_
  rwa [dec_held] at this

theorem FlushH_ok (g : Nat) (h : List Int) (w : World) (hh : Holds w g h) :
    Calls Try.prog 32 #[.pointer (some ⟨g, 0, none⟩)] w fun e w' =>
      ∃ v, e = .returned v ∧ Own (Rep.int .i32) 21 [] w.heap.size w' v (flushF h) ∧ Holds w' g [] ∧ w.grownBy w' (some g) := by
  refine (Flush_ok g _ w hh.at_).mono ?_
  rintro e w' ⟨v, rfl, hv, hd, hw⟩
  rw [dec_held] at hv hd
  unfold flushF
  cases h with
  | nil => exact ⟨v, rfl, by simpa using hv, ⟨by simpa using hd, pre_nil, bytes_nil⟩, hw⟩
  | cons b r =>
    rw [if_neg (by simp; omega)] at hv hd
    exact ⟨v, rfl, by simpa using hv, ⟨hd, pre_nil, bytes_nil⟩, hw⟩

set_option maxHeartbeats 400000 in
theorem Feed_ok (g : Nat) (h l : List Int) (v : Value) (So Si : Nat → Prop) (w : World) (hh : Holds w g h) (hv : Slc (Rep.int .u8) So Si w v l) (hS : ∀ b, So b → b ≠ g) (hlen : l.length ≤ 1000000) :
    Calls Try.prog 34 #[.pointer (some ⟨g, 0, none⟩), v] w fun e w' =>
      ∃ v, e = .returned v ∧ Own (Rep.int .i32) 21 [] w.heap.size w' v (feedF h l).1 ∧ Holds w' g (feedF h l).2 ∧ w.grownBy w' (some g) := by
  obtain ⟨A, c, rfl, hc1, hc2, hB⟩ := hv.open_
  go_enter Try.func34, Try.ntmps34
  go_wp2
  go_loopw [5, 10] (fun out i wr => ∃ k : Nat, k ≤ l.length ∧ i = .int .i64 k ∧ Own (Rep.int .i32) 21 [] w.heap.size wr out (feedF h (l.take k)).1 ∧ Holds wr g (feedF h (l.take k)).2 ∧ w.grownBy wr (some g))
    (fun _ i _ => l.length - (intOf i).toNat)
  case atStart => exact ⟨0, Nat.zero_le _, rfl, Own.nil_ _ _ _ _ _ (by simp), hh, gb_refl _ _⟩
  case round =>
    obtain ⟨k, hk, rfl, hown, hhk, hgb⟩ := hrel
    have hBk := hB.ints_keep (Keep.gb hgb hS)
    have hsz := hgb.size
    by_cases hlt : k < l.length
    · obtain ⟨ab, off, rfl, _, hck, hwk⟩ := ints_at hBk hlt
      obtain ⟨hw0, hw1⟩ := u8_wf hwk
      have hsn := feedF_snoc (l.take k) h l[k]
      rw [← take_snoc' l k hlt] at hsn
      have Hsn := hide hsn
      have hlk := feed_len (l.take k) h
      have hlk2 : (l.take k).length ≤ k := List.length_take_le _ _
      have hlr := refStep_len (feedF h (l.take k)).2 l[k]
      clear hsn
      go_wp2_with fail
      refine (StepH_ok g _ _ _ hhk hw0 hw1).mono ?_
      rintro e w1 ⟨v1, rfl, hv1, hh1, hg1⟩
      have hown1 := hown.ints_gb hg1 hhk.at_ (by decide)
      have hsz1 := hg1.size
      go_wp2_with (at_builtin; refine wpList_appi rfl (.tmp 14) (.tmp 17) 40 rfl .i32 21 w.heap.size 4 Try.underlying40 i32_info (by decide) _ _ rfl hown1 _ _ _ _ rfl hv1.islc (by omega) (by omega) ?_; intro v3 w3 hv3 hst3)
      go_roundw
      case rel =>
        refine ⟨k + 1, by omega, by go_num, ?_, ?_, gb_step (gb_trans hgb hg1) hst3⟩
        · rw [Hsn.out]; exact hv3
        · rw [Hsn.out]; exact ⟨hh1.at_.step hst3 (by decide), hh1.pre, hh1.bytes⟩
      case measure => simp [intOf]; omega
    · have e : l.take k = l := List.take_of_length_le (by omega)
      rw [e] at hown hhk
      go_wp2
      go_ret
      exact ⟨_, rfl, hown, hhk, hgb⟩
end Go.Proofs.Ytfcjkmiaibakiaa
