/-
  Several texts of this seat as one: Wir6, Wir7, Wir8, Wir9, Wir10, Wir11, Wir12.
-/
import Derived.Test.YtphdagmaamcapaaDoorWirA
import Derived.Test.YtphdagmaamcapaaDoorAll3
import Derived.Test.YtphdagmaamcapaaDoorLitn2
import Derived.Test.YtphdagmaamcapaaDoorOrd
import Derived.Deep.LoopGhost
import Derived.Test.YtphdagmaamcapaaDoorLns2
namespace Go.Proofs.YtphdagmaamcapaaDoor
open Go.RowKit
set_option linter.unusedVariables false
set_option linter.unusedSimpArgs false

def ErrB (b : Nat → Addr) (w : World) (ev : Value) (k : Nat) (n : Int) : Prop := ∃ pb, ev = .iface 101 (.pointer (some ⟨pb, 0, none⟩)) ∧ Blk w pb 103 #[.int .i64 n, .iface 123 (.pointer (some (b k)))]
theorem ErrB.is {b : Nat → Addr} {w : World} {ev : Value} {k : Nat} {n : Int} (h : ErrB b w ev k n) : ErrIs b w ev k (some n) := by
  obtain ⟨pb, h1, h2⟩ := h
  exact ⟨pb, h1, h2.cell 0, h2.cell 1⟩
theorem ErrB.step {b : Nat → Addr} {B : Nat} {es : List TypeId} {w w' : World} {ev : Value} {k : Nat} {n : Int} (h : ErrB b w ev k n) (hst : Step B es w w') (hF : 103 ∉ es) : ErrB b w' ev k n := by
  obtain ⟨pb, h1, h2⟩ := h
  exact ⟨pb, h1, h2.step hst hF⟩
def ErrO (b : Nat → Addr) (w : World) (ev : Value) (bad : Bool) : Prop := if bad = true then ∃ k n, k < 8 ∧ ErrB b w ev k n else ev = .nilIface
theorem ErrO.step {b : Nat → Addr} {B : Nat} {es : List TypeId} {w w' : World} {ev : Value} {bad : Bool} (h : ErrO b w ev bad) (hst : Step B es w w') (hF : 103 ∉ es) : ErrO b w' ev bad := by
  cases bad with
  | false => exact h
  | true =>
    obtain ⟨k, n, hk, he⟩ := (show ∃ k n, k < 8 ∧ ErrB b w ev k n from h)
    exact (show ∃ k n, k < 8 ∧ ErrB b w' ev k n from ⟨k, n, hk, he.step hst hF⟩)
/-- The sentinels lie in memory below B. -/
structure SentsB (b : Nat → Addr) (B : Nat) (w : World) : Prop where
  sents : Sents b w
  old : ∀ k, k < 8 → gOf k < B ∧ (b k).block < B
theorem SentsB.mono {b : Nat → Addr} {B B' : Nat} {w : World} (h : SentsB b B w) (hB : B ≤ B') : SentsB b B' w := ⟨h.sents, fun k hk => ⟨Nat.lt_of_lt_of_le (h.old k hk).1 hB, Nat.lt_of_lt_of_le (h.old k hk).2 hB⟩⟩
theorem SentsB.below {b : Nat → Addr} {B : Nat} {w w' : World} (h : SentsB b B w) (hb : Below B w w') : SentsB b B w' := by
  refine ⟨⟨fun k hk => ?_, fun k hk => ?_, h.sents.ne⟩, h.old⟩
  · exact (hb.cell (p := ⟨gOf k, 0, none⟩) (h.old k hk).1).trans (h.sents.var k hk)
  · obtain ⟨cs, t, h1⟩ := h.sents.row k hk
    exact ⟨cs, t, (hb.block _ (h.old k hk).2).trans h1⟩
theorem Sents.toB {b : Nat → Addr} {w : World} (h : Sents b w) : SentsB b w.heap.size w := ⟨h, fun k hk => ⟨World.block_lt_of_cell? w _ (h.var k hk), by
  obtain ⟨cs, t, h1⟩ := h.row k hk
  exact (Array.getElem?_eq_some_iff.1 h1).1⟩⟩
/-- The reader in block g: what is left of the bytes, and whether an error is kept. -/
structure RdAt (b : Nat → Addr) (B : Nat) (w : World) (g : Nat) (s : List Int) (bad : Bool) : Prop where
  sents : SentsB b B w
  ge : B ≤ g
  at_ : ∃ sv ev, Blk w g 73 #[sv, ev] ∧ Slc (Rep.int .u8) (fun b => b < B) (fun _ => False) w sv s ∧ ErrO b w ev bad
theorem RdAt.size {b : Nat → Addr} {B : Nat} {w : World} {g : Nat} {s : List Int} {bad : Bool} (h : RdAt b B w g s bad) : B ≤ w.heap.size ∧ g < w.heap.size := by
  obtain ⟨_, _, hb, _⟩ := h.at_
  have := hb.lt
  have := h.ge
  omega
theorem RdAt.step {b : Nat → Addr} {B : Nat} {es : List TypeId} {w w' : World} {g : Nat} {s : List Int} {bad : Bool} (h : RdAt b B w g s bad) (hst : Step B es w w') (hR : 73 ∉ es) (hF : 103 ∉ es) : RdAt b B w' g s bad := by
  obtain ⟨sv, ev, h1, h2, h3⟩ := h.at_
  exact ⟨h.sents.below (hst.below h.size.1), h.ge, sv, ev, h1.step hst hR, h2.ints_keep (Keep.old hst (fun b hb => hb)), h3.step hst hF⟩
theorem Wrong2_ok (b : Nat → Addr) (n : Int) (k : Nat) (w : World) :
    Calls Tryd.prog 40 #[.int .i64 n, .iface 123 (.pointer (some (b k)))] w fun e w' => ∃ pb, e = .returned (.iface 101 (.pointer (some ⟨pb, 0, none⟩))) ∧ Blk w' pb 103 #[.int .i64 n, .iface 123 (.pointer (some (b k)))] ∧ Below w.heap.size w w' := by
  have bn := Blk.new w 103 #[.int .i64 n, .iface 123 (.pointer (some (b k)))]
  have hb := (Below.refl w.heap.size w).alloc (Nat.le_refl _) (.cells #[.int .i64 n, .iface 123 (.pointer (some (b k)))] 103)
  have HB := hide (⟨bn, hb⟩ : _ ∧ _)
  clear bn hb
  go_enter Tryd.func40, Tryd.ntmps40
  go_wp2
  go_ret
  exact ⟨_, rfl, HB.out.1, HB.out.2⟩

set_option maxHeartbeats 2000000 in
theorem fail_ok (b : Nat → Addr) (B : Nat) (w : World) (g : Nat) (s : List Int) (bad : Bool) (k : Nat) (hr : RdAt b B w g s bad) (hk : k < 8) :
    Calls Tryd.prog 44 #[.pointer (some ⟨g, 0, none⟩), .iface 123 (.pointer (some (b k)))] w fun e w' => (∃ r, e = .returned r) ∧ RdAt b B w' g s true ∧ Step B [73] w w' := by
  obtain ⟨sv, ev, hbk, hsl, herr⟩ := hr.at_
  have HR := hide hr
  obtain ⟨A, c, rfl, _, _, _⟩ := hsl.open_
  have s0 := hbk.cell 0
  have s1 := hbk.cell 1
  simp only [List.getElem?_toArray, List.getElem?_cons_succ, List.getElem?_cons_zero] at s0 s1
  have hz := hr.size
  cases bad with
  | true =>
    obtain ⟨k', n', hk', pb, rfl, hpb⟩ := (show ∃ k n, k < 8 ∧ ErrB b w ev k n from herr)
    clear hr hpb
    go_enter Tryd.func44, Tryd.ntmps44
    go_wp2
    go_end0
    exact ⟨⟨_, rfl⟩, HR.out, Step.refl _ _ _⟩
  | false =>
    obtain rfl : ev = .nilIface := herr
    have HBK := hide hbk
    have HSL := hide hsl
    have HW := hide (fun n => Wrong2_ok b n k w)
    clear hr hbk hsl
    go_enter Tryd.func44, Tryd.ntmps44
    go_wp2_with fail
    refine (HW.out _).mono ?_
    rintro e w1 ⟨pb, rfl, hpb, hc1⟩
    have hbk1 := HBK.out.same hc1
    have f1 := hbk1.frozen 1
    have s1 := hbk1.cell 1
    simp only [List.getElem?_toArray, List.getElem?_cons_succ, List.getElem?_cons_zero] at s1
    have hne : pb ≠ g := by
      intro e
      subst e
      have h1 := hpb.cell 0
      have h2 := hbk1.cell 0
      rw [h1] at h2
      simp at h2
    have hst1 : Step B [73] w1 (w1.setCell ⟨g, 1, none⟩ (.iface 101 (.pointer (some ⟨pb, 0, none⟩)))) := (Step.refl B [73] w1).setCell (p := ⟨g, 1, none⟩) HR.out.ge hbk1.bears _
    have hst : Step B [73] w (w1.setCell ⟨g, 1, none⟩ (.iface 101 (.pointer (some ⟨pb, 0, none⟩)))) := (Step.of_below hc1).trans hst1
    have HB1 := hide hbk1
    have HST := hide hst
    have HPB := hide (hpb.step hst1 (by decide))
    clear hpb hbk1 hst hst1 hc1 hne s0
    go_wp2
    go_end0
    refine ⟨⟨_, rfl⟩, ⟨HR.out.sents.below (HST.out.below hz.1), HR.out.ge, _, _, HB1.out.set_ 1 _, HSL.out.ints_keep (Keep.old HST.out (fun b hb => hb)), ?_⟩, HST.out⟩
    exact (show ∃ k n, k < 8 ∧ ErrB b _ _ k n from ⟨k, _, hk, pb, rfl, HPB.out⟩)

theorem u8_nat {n : Int} (h : (Lit.int .u8 n).wf = true) : ((n.toNat : Nat) : Int) = n ∧ n.toNat < 256 := by
  have := u8_wf h
  omega
def NextR (b : Nat → Addr) (B g : Nat) (q : Nat × List Int × Bool) (w : World) (e : Ending) (w' : World) : Prop :=
  e = .returned (.int .u8 (q.1 : Nat)) ∧ q.1 < 256 ∧ RdAt b B w' g q.2.1 q.2.2 ∧ Step B [73] w w'
set_option maxHeartbeats 2000000 in
theorem next_ok (b : Nat → Addr) (B : Nat) (w : World) (g : Nat) (s : List Int) (bad : Bool) (hr : RdAt b B w g s bad) :
    Calls Tryd.prog 43 #[.pointer (some ⟨g, 0, none⟩)] w (NextR b B g (nextP s bad) w) := by
  obtain ⟨sv, ev, hbk, hsl, herr⟩ := hr.at_
  have HR := hide hr
  obtain ⟨A, c, rfl, hc1, hc2, hA⟩ := hsl.open_
  have s0 := hbk.cell 0
  have s1 := hbk.cell 1
  simp only [List.getElem?_toArray, List.getElem?_cons_succ, List.getElem?_cons_zero] at s0 s1
  have hz := hr.size
  have hEF := hr.sents.sents.var 6 (by decide)
  simp only [gOf] at hEF
  have HFL := hide (fail_ok b B w g s bad 6 hr (by decide))
  cases bad with
  | true =>
    obtain ⟨k', n', hk', pb, rfl, hpb⟩ := (show ∃ k n, k < 8 ∧ ErrB b w ev k n from herr)
    clear hr hpb
    go_enter Tryd.func43, Tryd.ntmps43
    go_wp2_with fail
    refine HFL.out.mono ?_
    rintro e w1 ⟨⟨r, rfl⟩, hr1, hst1⟩
    go_wp2
    go_ret
    exact ⟨rfl, by simp [nextP], hr1, hst1⟩
  | false =>
    obtain rfl : ev = .nilIface := herr
    cases s with
    | nil =>
      clear hr hbk hsl
      simp only [List.length_nil] at s0
      go_enter Tryd.func43, Tryd.ntmps43
      go_wp2_with fail
      refine HFL.out.mono ?_
      rintro e w1 ⟨⟨r, rfl⟩, hr1, hst1⟩
      go_wp2
      go_ret
      exact ⟨rfl, by simp [nextP], hr1, hst1⟩
    | cons x t =>
      obtain ⟨ab, off, rfl, hab, q0, hwx⟩ := ints_at hA (j := 0) (by simp)
      have hcut := hsl.cut (k := 1) (by simp)
      simp only [List.getElem_cons_zero, Nat.add_zero] at q0 hwx
      obtain ⟨hx1, hx2⟩ := u8_nat hwx
      obtain ⟨N, rfl⟩ : ∃ N : Nat, x = N := ⟨_, hx1.symm⟩
      rw [Int.toNat_natCast] at hx2
      have hst1 := fun u => ((Step.refl B [73] w).setCell (p := ⟨g, 0, none⟩) hr.ge hbk.bears u)
      have f0 := hbk.frozen 0
      have HST := hide hst1
      have HBK := hide hbk
      rw [nextP_cons, Int.toNat_natCast]
      have hlen : ((N : Int) :: t).length = t.length + 1 := rfl
      rw [hlen] at s0 hc1
      have hgt : ¬ (t.length : Int) + 1 = 0 := by omega
      simp only [Option.map_some, List.length_cons, Nat.add_sub_cancel, List.drop_succ_cons, List.drop_zero, Addr.add, Rep.int] at hcut
      have HX2 := hide hx2
      clear hr hbk hsl hst1 hx1 hx2 HFL hlen hA
      by_cases hc : c = 1
      · subst hc
        rw [if_pos rfl] at hcut
        obtain rfl : t = [] := List.eq_nil_of_length_eq_zero (by omega)
        simp only [List.length_nil, Nat.zero_add, Nat.sub_self] at hcut s0
        have HCUT := hide hcut
        clear hcut
        go_enter Tryd.func43, Tryd.ntmps43
        go_wp2
        go_ret
        exact ⟨rfl, HX2.out, ⟨HR.out.sents.below ((HST.out _).below hz.1), HR.out.ge, _, _, HBK.out.set_ 0 _, HCUT.out.ints_keep (Keep.old (HST.out _) (fun b hb => hb)), rfl⟩, HST.out _⟩
      · rw [if_neg hc] at hcut
        have HCUT := hide hcut
        have hc1 : 1 ≤ c := by omega
        clear hcut
        go_enter Tryd.func43, Tryd.ntmps43
        go_wp2
        go_ret
        exact ⟨rfl, HX2.out, ⟨HR.out.sents.below ((HST.out _).below hz.1), HR.out.ge, _, _, HBK.out.set_ 0 _, HCUT.out.ints_keep (Keep.old (HST.out _) (fun b hb => hb)), rfl⟩, HST.out _⟩
end Go.Proofs.YtphdagmaamcapaaDoor

namespace Go.Proofs.YtphdagmaamcapaaDoor
open Go.RowKit
set_option linter.unusedVariables false
set_option linter.unusedSimpArgs false

theorem u8_mask7 (x : Nat) (h : x < 256) : bits .and .u8 (x : Int) 127 = ((x % 128 : Nat) : Int) := by
  have h : ∀ n : Fin 256, bits .and .u8 ((n.val : Nat) : Int) 127 = ((n.val % 128 : Nat) : Int) := by decide +kernel
  exact h ⟨x, by omega⟩
theorem u8_high (x : Nat) (h : x < 256) : bits .and .u8 (x : Int) 128 = if x < 128 then 0 else 128 := by
  have h : ∀ n : Fin 256, bits .and .u8 ((n.val : Nat) : Int) 128 = if n.val < 128 then 0 else 128 := by decide +kernel
  exact h ⟨x, by omega⟩
theorem numL_step (f sh n : Nat) (s : List Int) : numL (f + 1) sh n s false = if (nextP s false).1 < 128 then (n + (nextP s false).1 % 128 * 2 ^ sh, (nextP s false).2) else numL f (sh + 7) (n + (nextP s false).1 % 128 * 2 ^ sh) (nextP s false).2.1 (nextP s false).2.2 := by
  rw [numL, if_neg (by decide)]
theorem i64_join (n x k : Nat) (hn : n < 2 ^ k) (hx : x < 128) (hk : k ≤ 14) : bits .or .i64 (n : Int) ((x * 2 ^ k : Nat) : Int) = ((n + x * 2 ^ k : Nat) : Int) := by
  have hp : 2 ^ k ≤ 2 ^ 14 := Nat.pow_le_pow_right (by decide) hk
  have hp2 : (2 : Nat) ^ 14 = 16384 := by decide
  have hxk : x * 2 ^ k ≤ 127 * 16384 := Nat.mul_le_mul (by omega) (by omega)
  rw [i64_or_nat n (x * 2 ^ k) (by omega) (by omega)]
  have h2 : n ||| x * 2 ^ k = n + x * 2 ^ k := by
    rw [Nat.or_comm, Nat.mul_comm, ← Nat.two_pow_add_eq_or_of_lt hn, Nat.add_comm]
  rw [h2]
def RNumR (b : Nat → Addr) (B g : Nat) (q : Nat × List Int × Bool) (w : World) (e : Ending) (w' : World) : Prop :=
  e = .returned (.int .i64 (q.1 : Nat)) ∧ q.1 < 2097152 ∧ RdAt b B w' g q.2.1 q.2.2 ∧ Step B [73] w w'
set_option maxRecDepth 8000 in
set_option maxHeartbeats 4000000 in
theorem rnum_ok (b : Nat → Addr) (B : Nat) (w : World) (g : Nat) (s : List Int) (bad : Bool) (hr : RdAt b B w g s bad) :
    Calls Tryd.prog 45 #[.pointer (some ⟨g, 0, none⟩)] w (RNumR b B g (numP s bad) w) := by
  have HR := hide hr
  clear hr
  go_enter Tryd.func45, Tryd.ntmps45
  go_wp2_with fail
  go_loopw [3, 4] (fun nv iv wr => ∃ (f n : Nat) (s' : List Int) (bad' : Bool), f ≤ 3 ∧ iv = .int .i64 ((21 - 7 * f : Nat) : Int) ∧ nv = .int .i64 (n : Int) ∧ n < 2 ^ (21 - 7 * f) ∧ numL f (21 - 7 * f) n s' bad' = numP s bad ∧ RdAt b B wr g s' bad' ∧ Step B [73] w wr) (fun _ iv _ => 21 - (intOf iv).toNat)
  case atStart => exact ⟨3, 0, s, bad, Nat.le_refl _, rfl, rfl, by decide, rfl, HR.out, Step.refl _ _ _⟩
  case round =>
    obtain ⟨f, n, s', bad', hf, rfl, rfl, hn, hnum, hr', hst⟩ := hrel
    rcases (show f = 0 ∨ f = 1 ∨ f = 2 ∨ f = 3 by omega) with rfl | rfl | rfl | rfl
    · have hEF := hr'.sents.sents.var 1 (by decide)
      simp only [gOf] at hEF
      have HFL := hide (fail_ok b B wr g s' bad' 1 hr' (by decide))
      have HQ : Hid (numP s bad = (0, s', true)) := hide (by rw [← hnum]; rfl)
      clear hr' hnum
      go_wp2_with fail
      refine HFL.out.mono ?_
      rintro e w2 ⟨⟨r, rfl⟩, hr2, hst2⟩
      go_wp2
      go_ret
      exact ⟨by rw [HQ.out]; rfl, by rw [HQ.out]; exact (by decide : (0 : Nat) < 2097152), by rw [HQ.out]; exact hr2, hst.trans hst2⟩
    all_goals simp only [show (21 - 7 * 1 : Nat) = 14 from rfl, show (21 - 7 * 2 : Nat) = 7 from rfl, show (21 - 7 * 3 : Nat) = 0 from rfl] at hn hnum ⊢
    · by_cases hbd : bad' = true
      · subst hbd
        obtain ⟨sv, ev, hbk, hsl, herr⟩ := hr'.at_
        obtain ⟨k', n', hk', pb, rfl, hpb⟩ := (show ∃ k n, k < 8 ∧ ErrB b wr ev k n from herr)
        have s1 := hbk.cell 1
        simp only [List.getElem?_toArray, List.getElem?_cons_succ, List.getElem?_cons_zero] at s1
        have hEF := hr'.sents.sents.var 1 (by decide)
        simp only [gOf] at hEF
        have HFL := hide (fail_ok b B wr g s' true 1 hr' (by decide))
        have HQ : Hid (numP s bad = (0, s', true)) := hide (by rw [← hnum]; rfl)
        clear hr' hbk hsl herr hpb hnum
        go_wp2_with fail
        refine HFL.out.mono ?_
        rintro e w2 ⟨⟨r, rfl⟩, hr2, hst2⟩
        go_wp2
        go_ret
        exact ⟨by rw [HQ.out]; rfl, by rw [HQ.out]; exact (by decide : (0 : Nat) < 2097152), by rw [HQ.out]; exact hr2, hst.trans hst2⟩
      · have hbf : bad' = false := by simpa using hbd
        subst hbf
        obtain ⟨sv, ev, hbk, hsl, herr⟩ := hr'.at_
        obtain rfl : ev = .nilIface := herr
        have s1 := hbk.cell 1
        simp only [List.getElem?_toArray, List.getElem?_cons_succ, List.getElem?_cons_zero] at s1
        have HNX := hide (next_ok b B wr g s' false hr')
        have hL := numL_step 0 14 n s'
        rw [hL] at hnum
        obtain ⟨⟨x, s2, b2⟩, hq⟩ : ∃ q, nextP s' false = q := ⟨_, rfl⟩
        rw [hq] at hnum HNX
        simp only at hnum
        have HNUM := hide hnum
        clear hr' hbk hsl hnum hL hq hbd
        go_wp2_with fail
        refine HNX.out.mono ?_
        rintro e w2 ⟨rfl, hx, hr2, hst2⟩
        simp only at hx hr2
        have hst3 := hst.trans hst2
        have e1 : bits .and .u8 (x : Int) 127 = (x : Int) % 128 := u8_mask7 x hx
        have e2 : bits .or .i64 (n : Int) ((x : Int) % 128 * 16384) = ((n + x % 128 * 2 ^ 14 : Nat) : Int) := by
          have h := i64_join n (x % 128) 14 hn (Nat.mod_lt _ (by decide)) (by decide)
          have ec : ((x % 128 * 2 ^ 14 : Nat) : Int) = (x : Int) % 128 * 16384 := by
            rw [show (2 : Nat) ^ 14 = 16384 from by decide]
            omega
          rw [ec] at h
          exact h
        have hn2 : n + x % 128 * 2 ^ 14 < 2 ^ 21 := by
          have h3 : x % 128 < 128 := Nat.mod_lt _ (by decide)
          have e5 : (2 : Nat) ^ 14 = 16384 := by decide
          have e6 : (2 : Nat) ^ 21 = 2097152 := by decide
          rw [e5] at hn ⊢
          rw [e6]
          omega
        obtain ⟨N, hN⟩ : ∃ N, n + x % 128 * 2 ^ 14 = N := ⟨_, rfl⟩
        rw [hN] at e2 hn2
        have hb2 : N < 2097152 := Nat.lt_of_lt_of_le hn2 (by decide : (2 : Nat) ^ 21 ≤ 2097152)
        have HN : Hid ((if x < 128 then (N, s2, b2) else numL 0 21 N s2 b2) = numP s bad) := hide (by rw [← HNUM.out, hN])
        have HN2 := hide hn2
        clear HNUM hN hst hst2 HNX hn2 s1 hn
        by_cases hx1 : x < 128
        · have HQ : Hid (numP s bad = (N, s2, b2)) := hide (by rw [← HN.out, if_pos hx1])
          have e3 := u8_high x hx
          rw [if_pos hx1] at e3
          go_wp2
          go_ret
          exact ⟨by rw [HQ.out]; rfl, by rw [HQ.out]; exact hb2, by rw [HQ.out]; exact hr2, hst3⟩
        · have HQ : Hid (numL 0 21 N s2 b2 = numP s bad) := hide (by rw [← HN.out, if_neg hx1])
          have e3 := u8_high x hx
          rw [if_neg hx1] at e3
          go_wp2
          go_roundw
          case rel => exact ⟨0, N, s2, b2, by decide, by go_num, by go_num, HN2.out, HQ.out, hr2, hst3⟩
          case measure => simp [intOf]
    · by_cases hbd : bad' = true
      · subst hbd
        obtain ⟨sv, ev, hbk, hsl, herr⟩ := hr'.at_
        obtain ⟨k', n', hk', pb, rfl, hpb⟩ := (show ∃ k n, k < 8 ∧ ErrB b wr ev k n from herr)
        have s1 := hbk.cell 1
        simp only [List.getElem?_toArray, List.getElem?_cons_succ, List.getElem?_cons_zero] at s1
        have hEF := hr'.sents.sents.var 1 (by decide)
        simp only [gOf] at hEF
        have HFL := hide (fail_ok b B wr g s' true 1 hr' (by decide))
        have HQ : Hid (numP s bad = (0, s', true)) := hide (by rw [← hnum]; rfl)
        clear hr' hbk hsl herr hpb hnum
        go_wp2_with fail
        refine HFL.out.mono ?_
        rintro e w2 ⟨⟨r, rfl⟩, hr2, hst2⟩
        go_wp2
        go_ret
        exact ⟨by rw [HQ.out]; rfl, by rw [HQ.out]; exact (by decide : (0 : Nat) < 2097152), by rw [HQ.out]; exact hr2, hst.trans hst2⟩
      · have hbf : bad' = false := by simpa using hbd
        subst hbf
        obtain ⟨sv, ev, hbk, hsl, herr⟩ := hr'.at_
        obtain rfl : ev = .nilIface := herr
        have s1 := hbk.cell 1
        simp only [List.getElem?_toArray, List.getElem?_cons_succ, List.getElem?_cons_zero] at s1
        have HNX := hide (next_ok b B wr g s' false hr')
        have hL := numL_step 1 7 n s'
        rw [hL] at hnum
        obtain ⟨⟨x, s2, b2⟩, hq⟩ : ∃ q, nextP s' false = q := ⟨_, rfl⟩
        rw [hq] at hnum HNX
        simp only at hnum
        have HNUM := hide hnum
        clear hr' hbk hsl hnum hL hq hbd
        go_wp2_with fail
        refine HNX.out.mono ?_
        rintro e w2 ⟨rfl, hx, hr2, hst2⟩
        simp only at hx hr2
        have hst3 := hst.trans hst2
        have e1 : bits .and .u8 (x : Int) 127 = (x : Int) % 128 := u8_mask7 x hx
        have e2 : bits .or .i64 (n : Int) ((x : Int) % 128 * 128) = ((n + x % 128 * 2 ^ 7 : Nat) : Int) := by
          have h := i64_join n (x % 128) 7 hn (Nat.mod_lt _ (by decide)) (by decide)
          have ec : ((x % 128 * 2 ^ 7 : Nat) : Int) = (x : Int) % 128 * 128 := by
            rw [show (2 : Nat) ^ 7 = 128 from by decide]
            omega
          rw [ec] at h
          exact h
        have hn2 : n + x % 128 * 2 ^ 7 < 2 ^ 14 := by
          have h3 : x % 128 < 128 := Nat.mod_lt _ (by decide)
          have e5 : (2 : Nat) ^ 7 = 128 := by decide
          have e6 : (2 : Nat) ^ 14 = 16384 := by decide
          rw [e5] at hn ⊢
          rw [e6]
          omega
        obtain ⟨N, hN⟩ : ∃ N, n + x % 128 * 2 ^ 7 = N := ⟨_, rfl⟩
        rw [hN] at e2 hn2
        have hb2 : N < 2097152 := Nat.lt_of_lt_of_le hn2 (by decide : (2 : Nat) ^ 14 ≤ 2097152)
        have HN : Hid ((if x < 128 then (N, s2, b2) else numL 1 14 N s2 b2) = numP s bad) := hide (by rw [← HNUM.out, hN])
        have HN2 := hide hn2
        clear HNUM hN hst hst2 HNX hn2 s1 hn
        by_cases hx1 : x < 128
        · have HQ : Hid (numP s bad = (N, s2, b2)) := hide (by rw [← HN.out, if_pos hx1])
          have e3 := u8_high x hx
          rw [if_pos hx1] at e3
          go_wp2
          go_ret
          exact ⟨by rw [HQ.out]; rfl, by rw [HQ.out]; exact hb2, by rw [HQ.out]; exact hr2, hst3⟩
        · have HQ : Hid (numL 1 14 N s2 b2 = numP s bad) := hide (by rw [← HN.out, if_neg hx1])
          have e3 := u8_high x hx
          rw [if_neg hx1] at e3
          go_wp2
          go_roundw
          case rel => exact ⟨1, N, s2, b2, by decide, by go_num, by go_num, HN2.out, HQ.out, hr2, hst3⟩
          case measure => simp [intOf]
    · by_cases hbd : bad' = true
      · subst hbd
        obtain ⟨sv, ev, hbk, hsl, herr⟩ := hr'.at_
        obtain ⟨k', n', hk', pb, rfl, hpb⟩ := (show ∃ k n, k < 8 ∧ ErrB b wr ev k n from herr)
        have s1 := hbk.cell 1
        simp only [List.getElem?_toArray, List.getElem?_cons_succ, List.getElem?_cons_zero] at s1
        have hEF := hr'.sents.sents.var 1 (by decide)
        simp only [gOf] at hEF
        have HFL := hide (fail_ok b B wr g s' true 1 hr' (by decide))
        have HQ : Hid (numP s bad = (0, s', true)) := hide (by rw [← hnum]; rfl)
        clear hr' hbk hsl herr hpb hnum
        go_wp2_with fail
        refine HFL.out.mono ?_
        rintro e w2 ⟨⟨r, rfl⟩, hr2, hst2⟩
        go_wp2
        go_ret
        exact ⟨by rw [HQ.out]; rfl, by rw [HQ.out]; exact (by decide : (0 : Nat) < 2097152), by rw [HQ.out]; exact hr2, hst.trans hst2⟩
      · have hbf : bad' = false := by simpa using hbd
        subst hbf
        obtain ⟨sv, ev, hbk, hsl, herr⟩ := hr'.at_
        obtain rfl : ev = .nilIface := herr
        have s1 := hbk.cell 1
        simp only [List.getElem?_toArray, List.getElem?_cons_succ, List.getElem?_cons_zero] at s1
        have HNX := hide (next_ok b B wr g s' false hr')
        have hL := numL_step 2 0 n s'
        rw [hL] at hnum
        obtain ⟨⟨x, s2, b2⟩, hq⟩ : ∃ q, nextP s' false = q := ⟨_, rfl⟩
        rw [hq] at hnum HNX
        simp only at hnum
        have HNUM := hide hnum
        clear hr' hbk hsl hnum hL hq hbd
        go_wp2_with fail
        refine HNX.out.mono ?_
        rintro e w2 ⟨rfl, hx, hr2, hst2⟩
        simp only at hx hr2
        have hst3 := hst.trans hst2
        have e1 : bits .and .u8 (x : Int) 127 = (x : Int) % 128 := u8_mask7 x hx
        have e2 : bits .or .i64 (n : Int) ((x : Int) % 128) = ((n + x % 128 * 2 ^ 0 : Nat) : Int) := by
          have h := i64_join n (x % 128) 0 hn (Nat.mod_lt _ (by decide)) (by decide)
          have ec : ((x % 128 * 2 ^ 0 : Nat) : Int) = (x : Int) % 128 := by
            rw [show (2 : Nat) ^ 0 = 1 from by decide]
            omega
          rw [ec] at h
          exact h
        have hn2 : n + x % 128 * 2 ^ 0 < 2 ^ 7 := by
          have h3 : x % 128 < 128 := Nat.mod_lt _ (by decide)
          have e5 : (2 : Nat) ^ 0 = 1 := by decide
          have e6 : (2 : Nat) ^ 7 = 128 := by decide
          rw [e5] at hn ⊢
          rw [e6]
          omega
        obtain ⟨N, hN⟩ : ∃ N, n + x % 128 * 2 ^ 0 = N := ⟨_, rfl⟩
        rw [hN] at e2 hn2
        have hb2 : N < 2097152 := Nat.lt_of_lt_of_le hn2 (by decide : (2 : Nat) ^ 7 ≤ 2097152)
        have HN : Hid ((if x < 128 then (N, s2, b2) else numL 2 7 N s2 b2) = numP s bad) := hide (by rw [← HNUM.out, hN])
        have HN2 := hide hn2
        clear HNUM hN hst hst2 HNX hn2 s1 hn
        by_cases hx1 : x < 128
        · have HQ : Hid (numP s bad = (N, s2, b2)) := hide (by rw [← HN.out, if_pos hx1])
          have e3 := u8_high x hx
          rw [if_pos hx1] at e3
          go_wp2
          go_ret
          exact ⟨by rw [HQ.out]; rfl, by rw [HQ.out]; exact hb2, by rw [HQ.out]; exact hr2, hst3⟩
        · have HQ : Hid (numL 2 7 N s2 b2 = numP s bad) := hide (by rw [← HN.out, if_neg hx1])
          have e3 := u8_high x hx
          rw [if_neg hx1] at e3
          go_wp2
          go_roundw
          case rel => exact ⟨2, N, s2, b2, by decide, by go_num, by go_num, HN2.out, HQ.out, hr2, hst3⟩
          case measure => simp [intOf]

def TakeR (b : Nat → Addr) (B g : Nat) (q : List Int × List Int × Bool) (w : World) (e : Ending) (w' : World) : Prop :=
  ∃ v, e = .returned v ∧ Slc (Rep.int .u8) (fun b => b < B) (fun _ => False) w' v q.1 ∧ RdAt b B w' g q.2.1 q.2.2 ∧ Step B [73] w w'
set_option maxHeartbeats 2000000 in
theorem take_ok (b : Nat → Addr) (B : Nat) (w : World) (g : Nat) (s : List Int) (bad : Bool) (n : Nat) (hr : RdAt b B w g s bad) (hn : n < 2097152) :
    Calls Tryd.prog 59 #[.pointer (some ⟨g, 0, none⟩), .int .i64 n] w (TakeR b B g (takeP n s bad) w) := by
  obtain ⟨sv, ev, hbk, hsl, herr⟩ := hr.at_
  have HR := hide hr
  obtain ⟨A, c, rfl, hc1, hc2, hA⟩ := hsl.open_
  have s0 := hbk.cell 0
  have s1 := hbk.cell 1
  simp only [List.getElem?_toArray, List.getElem?_cons_succ, List.getElem?_cons_zero] at s0 s1
  have hz := hr.size
  have hEF := hr.sents.sents.var 6 (by decide)
  simp only [gOf] at hEF
  have HFL := hide (fail_ok b B w g s bad 6 hr (by decide))
  cases bad with
  | true =>
    obtain ⟨k', n', hk', pb, rfl, hpb⟩ := (show ∃ k n, k < 8 ∧ ErrB b w ev k n from herr)
    have HQ : Hid (takeP n s true = ([], s, true)) := hide (by unfold takeP; rw [if_pos (.inl rfl)])
    rw [HQ.out]
    clear hr hpb hbk hsl
    go_enter Tryd.func59, Tryd.ntmps59
    go_wp2_with fail
    refine HFL.out.mono ?_
    rintro e w1 ⟨⟨r, rfl⟩, hr1, hst1⟩
    go_wp2
    go_ret
    exact ⟨_, rfl, Slc.nil_, hr1, hst1⟩
  | false =>
    obtain rfl : ev = .nilIface := herr
    by_cases hlt : s.length < n
    · have hli : (s.length : Int) < n := by omega
      rw [show takeP n s false = ([], s, true) by unfold takeP; rw [if_pos (.inr hlt)]]
      clear hr hbk hsl
      go_enter Tryd.func59, Tryd.ntmps59
      go_wp2_with fail
      refine HFL.out.mono ?_
      rintro e w1 ⟨⟨r, rfl⟩, hr1, hst1⟩
      go_wp2
      go_ret
      exact ⟨_, rfl, Slc.nil_, hr1, hst1⟩
    · have hli : ¬ (s.length : Int) < n := by omega
      have hle : n ≤ s.length := by omega
      have hnc : n ≤ c := by omega
      rw [takeP_ok hle]
      have hcut := hsl.cut hle
      have hfr := hsl.front hle
      have hst1 := fun u => ((Step.refl B [73] w).setCell (p := ⟨g, 0, none⟩) hr.ge hbk.bears u)
      have f0 := hbk.frozen 0
      have HST := hide hst1
      have HBK := hide hbk
      have HFR := hide hfr
      clear hr hbk hsl hst1 hfr HFL hlt
      by_cases hcn : c = n
      · subst hcn
        rw [if_pos rfl, Nat.sub_self, show s.length - c = 0 by omega] at hcut
        have HCUT := hide hcut
        clear hcut
        go_enter Tryd.func59, Tryd.ntmps59
        go_wp2
        go_ret
        exact ⟨_, rfl, HFR.out.ints_keep (Keep.old (HST.out _) (fun b hb => hb)), ⟨HR.out.sents.below ((HST.out _).below hz.1), HR.out.ge, _, _, HBK.out.set_ 0 _, HCUT.out.ints_keep (Keep.old (HST.out _) (fun b hb => hb)), rfl⟩, HST.out _⟩
      · rw [if_neg hcn] at hcut
        simp only [show n * (Rep.int .u8).sz = n from Nat.mul_one n] at hcut
        have HCUT := hide hcut
        clear hcut
        go_enter Tryd.func59, Tryd.ntmps59
        go_wp2
        go_ret
        exact ⟨_, rfl, HFR.out.ints_keep (Keep.old (HST.out _) (fun b hb => hb)), ⟨HR.out.sents.below ((HST.out _).below hz.1), HR.out.ge, _, _, HBK.out.set_ 0 _, HCUT.out.ints_keep (Keep.old (HST.out _) (fun b hb => hb)), rfl⟩, HST.out _⟩
end Go.Proofs.YtphdagmaamcapaaDoor

namespace Go.Proofs.YtphdagmaamcapaaDoor
open Go.RowKit
set_option linter.unusedVariables false
set_option linter.unusedSimpArgs false

theorem nextP_le (s : List Int) (bad : Bool) : (nextP s bad).2.1.length ≤ s.length := by
  unfold nextP
  split
  · exact Nat.le_refl _
  · cases s with
    | nil => exact Nat.le_refl _
    | cons x t => simp
theorem numL_le : ∀ (f sh n : Nat) (s : List Int) (bad : Bool), (numL f sh n s bad).2.1.length ≤ s.length
  | 0, _, _, s, _ => Nat.le_refl _
  | f + 1, sh, n, s, bad => by
    cases bad with
    | true => rw [numL, if_pos rfl]; exact Nat.le_refl _
    | false =>
      rw [numL_step]
      have h1 := nextP_le s false
      split
      · exact h1
      · exact Nat.le_trans (numL_le f _ _ _ _) h1
theorem numP_le (s : List Int) (bad : Bool) : (numP s bad).2.1.length ≤ s.length := numL_le _ _ _ _ _
theorem takeP_le (n : Nat) (s : List Int) (bad : Bool) : (takeP n s bad).1.length ≤ s.length ∧ (takeP n s bad).2.1.length ≤ s.length := by
  unfold takeP
  split
  · simp
  · simp only [List.length_take, List.length_drop]
    omega
theorem own_typed8 {base base' : Nat} {w : World} {v : Value} {l : List Int} (h : Own (Rep.int .i32) 21 [] base w v l) (S : Nat → Prop) : Slc (Rep.int .i32) (Typed base' [21] w) S w v l :=
  (h.islc.ints_any S).ints_keep (Keep.weaken fun b hb => Fresh.typed (by simp) b hb.2)
theorem clusP_len (s : List Int) (bad : Bool) : (clusP s bad).1.length ≤ 2 ∧ ((clusP s bad).2.2 = true ∨ 0 < (clusP s bad).1.length) ∧ (clusP s bad).2.1.length ≤ s.length := by
  have h1 := numP_le s bad
  have h2 := takeP_le ((numP s bad).1 / 2) (numP s bad).2.1 (numP s bad).2.2
  unfold clusP clusG
  split
  · exact ⟨by simp, .inl rfl, by simp only; omega⟩
  · refine ⟨?_, ?_, by simp only; omega⟩
    · simp only
      split <;> simp
    · simp only
      split <;> simp
theorem Step.setNew {B : Nat} {es : List TypeId} {w w' : World} (h : Step B es w w') {p : Addr} (hp : w.heap.size ≤ p.block) (u : Value) : Step B es w (w'.setCell p u) :=
  ⟨h.os, h.tape, h.output, Nat.le_trans h.size (by simp [World.setCell]), fun k hk hne => (Below.heap_setCell _ _ _ _ (by intro e; omega)).trans (h.block k hk hne)⟩
def ClusR (b : Nat → Addr) (B g : Nat) (q : List CellV × List Int × Bool) (w : World) (e : Ending) (w' : World) : Prop :=
  ∃ v, e = .returned v ∧ Own2 RCell 62 [21] w.heap.size 0 w' v q.1 ∧ RdAt b B w' g q.2.1 q.2.2 ∧ Step B [73] w w'
set_option maxRecDepth 8000 in
set_option maxHeartbeats 4000000 in
theorem clus_ok (b : Nat → Addr) (B : Nat) (w : World) (g : Nat) (s : List Int) (bad : Bool) (hr : RdAt b B w g s bad) (hs : s.length ≤ 1000000) :
    Calls Tryd.prog 54 #[.pointer (some ⟨g, 0, none⟩)] w (ClusR b B g (clusP s bad) w) := by
  have hsz := hr.size
  have HNU := hide (rnum_ok b B w g s bad hr)
  have h1 := numP_le s bad
  have HQ0 : Hid (clusP s bad = clusG (numP s bad).1 (takeP ((numP s bad).1 / 2) (numP s bad).2.1 (numP s bad).2.2)) := hide rfl
  obtain ⟨⟨n, s1, b1⟩, hq1⟩ : ∃ q, numP s bad = q := ⟨_, rfl⟩
  rw [hq1] at HNU h1 HQ0
  simp only at h1
  have h2 := takeP_le (n / 2) s1 b1
  have HTK := hide (fun W (h : RdAt b B W g s1 b1) (hn : n / 2 < 2097152) => take_ok b B W g s1 b1 (n / 2) h hn)
  obtain ⟨⟨f, s2, b2⟩, hq2⟩ : ∃ q, takeP (n / 2) s1 b1 = q := ⟨_, rfl⟩
  have HQ1 : Hid (clusP s bad = clusG n (f, s2, b2)) := hide (by rw [HQ0.out]; simp only; rw [hq2])
  rw [hq2] at h2 HTK
  simp only at h2
  have hfl : f.length ≤ 1000000 := by omega
  clear HQ0 hq1 hq2 hr
  go_enter Tryd.func54, Tryd.ntmps54
  go_wp2_with fail
  refine HNU.out.mono ?_
  rintro e w1 ⟨rfl, hn, hr1, hst1⟩
  simp only at hn hr1
  have HTK := hide (HTK.out w1 hr1 (by omega))
  rw [show ((n / 2 : Nat) : Int) = (n : Int) / 2 by omega] at HTK
  clear hr1 HNU
  go_wp2_with fail
  refine HTK.out.mono ?_
  rintro e w2 ⟨v2, rfl, hv2, hr2, hst2⟩
  simp only at hv2 hr2
  have hst12 := hst1.trans hst2
  have hz2 := hr2.size
  obtain ⟨sv, ev, hbk, hsl, herr⟩ := hr2.at_
  obtain ⟨A2, c2, rfl, _, _, _⟩ := hv2.open_
  have HST := hide hst12
  clear HTK hst1 hst2 hst12 hsl
  have s1x := hbk.cell 1
  simp only [List.getElem?_toArray, List.getElem?_cons_succ, List.getElem?_cons_zero] at s1x
  cases b2 with
  | true =>
    obtain ⟨k', n', hk', pb, rfl, hpb⟩ := (show ∃ k n, k < 8 ∧ ErrB b w2 ev k n from herr)
    have HQ : Hid (clusP s bad = ([], s2, true)) := hide (by rw [HQ1.out]; unfold clusG; rw [if_pos (.inl rfl)])
    clear hpb herr
    have hr9 := hr2
    have hEF := hr9.sents.sents.var 0 (by decide)
    simp only [gOf] at hEF
    have HFL := hide (fail_ok b B _ g s2 true 0 hr9 (by decide))
    clear hr9 hbk hr2
    go_wp2_with fail
    refine HFL.out.mono ?_
    rintro e w9 ⟨⟨r, rfl⟩, hr9, hst9⟩
    go_wp2
    go_ret
    exact ⟨_, rfl, by rw [HQ.out]; exact Own2.nil_ _ _ _ _ _ _ (Nat.zero_le _) (by decide), by rw [HQ.out]; exact hr9, HST.out.trans hst9⟩
  | false =>
    obtain rfl : ev = .nilIface := herr
    by_cases hf0 : f.length = 0
    · have HQ : Hid (clusP s bad = ([], s2, true)) := hide (by rw [HQ1.out]; unfold clusG; rw [if_pos (.inr (.inl hf0))])
      have hfi : ((f.length : Nat) : Int) = 0 := by omega
      have hr9 := hr2
      have hEF := hr9.sents.sents.var 0 (by decide)
      simp only [gOf] at hEF
      have HFL := hide (fail_ok b B _ g s2 false 0 hr9 (by decide))
      clear hr9 hbk hr2
      go_wp2_with fail
      refine HFL.out.mono ?_
      rintro e w9 ⟨⟨r, rfl⟩, hr9, hst9⟩
      go_wp2
      go_ret
      exact ⟨_, rfl, by rw [HQ.out]; exact Own2.nil_ _ _ _ _ _ _ (Nat.zero_le _) (by decide), by rw [HQ.out]; exact hr9, HST.out.trans hst9⟩
    · have hfi : ¬ ((f.length : Nat) : Int) = 0 := by omega
      have HVA := hide (Valid_ok _ _ (.slice A2 f.length c2) f w2 hv2 hfl)
      have HRN := hide (fun W (h : Below w2.heap.size w2 W) => Runes_ok _ _ (.slice A2 f.length c2) f W (hv2.ints_keep (Keep.below h)) hfl)
      obtain ⟨va, hva⟩ : ∃ va, (allF f).any Got.bad = va := ⟨_, rfl⟩
      rw [hva] at HVA
      cases va with
      | true =>
        have HQ : Hid (clusP s bad = ([], s2, true)) := hide (by rw [HQ1.out]; unfold clusG; rw [if_pos (.inr (.inr hva))])
        clear hva HRN
        go_wp2_with fail
        refine HVA.out.mono ?_
        rintro e w3 ⟨rfl, hc3⟩
        clear HVA hbk s1x
        have hr9 := hr2.step (es := []) (Step.of_below hc3) (by simp) (by simp)
        have hEF := hr9.sents.sents.var 0 (by decide)
        simp only [gOf] at hEF
        have HFL := hide (fail_ok b B _ g s2 false 0 hr9 (by decide))
        clear hr9 hr2
        go_wp2_with fail
        refine HFL.out.mono ?_
        rintro e w9 ⟨⟨r, rfl⟩, hr9, hst9⟩
        go_wp2
        go_ret
        exact ⟨_, rfl, by rw [HQ.out]; exact Own2.nil_ _ _ _ _ _ _ (Nat.zero_le _) (by decide), by rw [HQ.out]; exact hr9, (HST.out.trans (Step.of_below hc3)).trans hst9⟩
      | false =>
        obtain ⟨tx, htx⟩ : ∃ tx, (allF f).map Got.r = tx := ⟨_, rfl⟩
        have HQ2 : Hid (clusP s bad = (if n % 2 = 0 then [(1, tx)] else [(2, tx), (3, [])], s2, false)) := hide (by
          rw [HQ1.out]; unfold clusG
          rw [if_neg (by simp only; rw [hva]; rintro (h | h | h); cases h; exact hf0 h; cases h), htx])
        rw [htx] at HRN
        clear hva htx
        go_wp2_with fail
        refine HVA.out.mono ?_
        rintro e w3 ⟨rfl, hc3⟩
        have HRN3 := hide (HRN.out w3 hc3)
        have hr3 := hr2.step (es := []) (Step.of_below hc3) (by simp) (by simp)
        have hst3 : Step B [73] w w3 := HST.out.trans (Step.of_below hc3)
        clear HVA HRN hbk s1x hr2
        go_wp2_with fail
        refine HRN3.out.mono ?_
        rintro e w4 ⟨v4, rfl, hv4, hc4⟩
        have hr4 := hr3.step (es := []) (Step.of_below hc4) (by simp) (by simp)
        have hst4 : Step B [73] w w4 := hst3.trans (Step.of_below hc4)
        obtain ⟨A4, c4, rfl, _, _, _⟩ := hv4.islc.open_
        have bi := Blk.new w4 62 #[.int .i64 1, .slice A4 tx.length c4]
        have hr5 := hr4.step (es := []) (Step.alloc1 B [] w4 (.cells #[.int .i64 1, .slice A4 tx.length c4] 62)) (by simp) (by simp)
        have hst5 := hst4.trans (Step.alloc1 B [73] w4 (.cells #[.int .i64 1, .slice A4 tx.length c4] 62))
        have hv5 := hv4.alloc (.cells #[.int .i64 1, .slice A4 tx.length c4] 62)
        have HR5 := hide hr5
        have HST5 := hide hst5
        clear hr3 hr4 hst3 hst4 HRN3 hv4 hr5 hst5
        go_upto_region 7 with fail
        obtain ⟨gi, hgi⟩ : ∃ gi, w4.heap.size = gi := ⟨_, rfl⟩
        rw [hgi] at bi
        try rw [hgi]
        have hg3 : w3.heap.size ≤ gi := by have h4 := hc4.size; omega
        have hgw : w.heap.size ≤ gi := by
          have h1 := HST5.out.size
          have h2 := HST.out.size
          have h3 := hc3.size
          have h4 := hc4.size
          omega
        generalize w4.alloc (.cells #[.int .i64 1, .slice A4 tx.length c4] 62) = w5 at *
        have hw5 : w.heap.size ≤ w5.heap.size := HST5.out.size
        have hB := hsz.1
        by_cases hev : n % 2 = 0
        · have hevi : (n : Int) % 2 = 0 := by omega
          have HQ : Hid (clusP s bad = ([(1, tx)], s2, false)) := hide (by rw [HQ2.out, if_pos hev])
          have r0 := bi.cell 0
          have r1 := bi.cell 1
          simp only [List.getElem?_toArray, List.getElem?_cons_succ, List.getElem?_cons_zero] at r0 r1
          have hone : Own2 RCell 62 [21] w.heap.size 0 (w5.alloc (.cells #[.int .i64 1, .slice A4 tx.length c4] 62)) (.slice (some ⟨w5.heap.size, 0, none⟩) 1 1) [(1, tx)] :=
            Own2.lit (xs := [.int .i64 1, .slice A4 tx.length c4]) (Nat.zero_le _) (by decide) (els_cell1w (by decide) (own_typed8 (base' := 0) hv5 _)) hw5 rfl (by simp [maxLen])
          have hr6 := HR5.out.step (es := []) (Step.alloc1 B [] w5 (.cells #[.int .i64 1, .slice A4 tx.length c4] 62)) (by simp) (by simp)
          have hst6 := HST5.out.trans (Step.alloc1 B [73] w5 (.cells #[.int .i64 1, .slice A4 tx.length c4] 62))
          have HO := hide (⟨hone, hr6, hst6⟩ : _ ∧ _ ∧ _)
          clear hone hr6 hst6 hv5 bi
          go_wp2
          go_ret
          exact ⟨_, rfl, by rw [HQ.out]; exact HO.out.1, by rw [HQ.out]; exact HO.out.2.1, HO.out.2.2⟩
        · have hevi : ¬ (n : Int) % 2 = 0 := by omega
          have HQ : Hid (clusP s bad = ([(2, tx), (3, [])], s2, false)) := hide (by rw [HQ2.out, if_neg hev])
          have r0 := bi.cell 0
          have r1 := bi.cell 1
          have f0 := bi.frozen 0
          simp only [List.getElem?_toArray, List.getElem?_cons_succ, List.getElem?_cons_zero] at r0 r1
          have hsz5 : Step B [62] w5 (w5.setCell ⟨gi, 0, none⟩ (.int .i64 2)) := (Step.refl B [62] w5).setCell (p := ⟨gi, 0, none⟩) (by simp only; omega) bi.bears _
          have bi6 := bi.set_ 0 (.int .i64 2)
          have hr6 := HR5.out.step hsz5 (by decide) (by decide)
          have hv6 := hv5.step ((Step.refl w3.heap.size [62] w5).setCell (p := ⟨gi, 0, none⟩) hg3 bi.bears (.int .i64 2)) (by decide) (by simp)
          have hst6 := HST5.out.setNew (p := ⟨gi, 0, none⟩) hgw (.int .i64 2)
          have HR6 := hide hr6
          have HST6 := hide hst6
          clear hsz5 hv5 bi hr6 hst6
          go_upto_region 10 with fail
          generalize w5.setCell ⟨gi, 0, none⟩ (.int .i64 2) = w6 at *
          have hw6 : w.heap.size ≤ w6.heap.size := HST6.out.size
          have r0 := bi6.cell 0
          have r1 := bi6.cell 1
          simp only [List.setIfInBounds_toArray, List.set_cons_zero, List.getElem?_toArray, List.getElem?_cons_succ, List.getElem?_cons_zero] at r0 r1
          have hone : Own2 RCell 62 [21] w.heap.size 0 (w6.alloc (.cells #[.int .i64 2, .slice A4 tx.length c4, .int .i64 3, .slice none 0 0] 62)) (.slice (some ⟨w6.heap.size, 0, none⟩) 2 2) [(2, tx), (3, [])] :=
            Own2.lit (xs := [.int .i64 2, .slice A4 tx.length c4, .int .i64 3, .slice none 0 0]) (Nat.zero_le _) (by decide) (els_2 (by decide) (by decide) (own_typed8 (base' := 0) hv6 _) Slc.nil_) hw6 rfl (by simp [maxLen])
          have hr7 := HR6.out.step (es := []) (Step.alloc1 B [] w6 (.cells #[.int .i64 2, .slice A4 tx.length c4, .int .i64 3, .slice none 0 0] 62)) (by simp) (by simp)
          have hst7 := HST6.out.trans (Step.alloc1 B [73] w6 (.cells #[.int .i64 2, .slice A4 tx.length c4, .int .i64 3, .slice none 0 0] 62))
          have HO := hide (⟨hone, hr7, hst7⟩ : _ ∧ _ ∧ _)
          clear hone hr7 hst7 hv6 bi6 f0
          go_wp2
          go_ret
          exact ⟨_, rfl, by rw [HQ.out]; exact HO.out.1, by rw [HQ.out]; exact HO.out.2.1, HO.out.2.2⟩
end Go.Proofs.YtphdagmaamcapaaDoor

namespace Go.Proofs.YtphdagmaamcapaaDoor
open Go.RowKit
set_option linter.unusedVariables false
set_option linter.unusedSimpArgs false

/-- What turns blocks that are new alone. -/
theorem Step.new {B : Nat} {es es' : List TypeId} {w w1 w2 : World} (h : Step B es w w1) (k : Step w.heap.size es' w1 w2) : Step B es w w2 :=
  ⟨k.os.trans h.os, k.tape.trans h.tape, k.output.trans h.output, Nat.le_trans h.size k.size, fun i hi hne => (k.block i (Nat.lt_of_lt_of_le hi h.size) (.inl hi)).trans (h.block i hi hne)⟩
def badN (b : Bool) : Nat := if b = true then 0 else 1
/-- The line in the making. -/
structure LnAt (b : Nat → Addr) (B : Nat) (w0 : World) (g g4 g5 : Nat) (fl : Bool) (w : World) (cv : Value) (cs : List CellV) (s : List Int) (bad : Bool) : Prop where
  own : Own2 RCell 62 [21] w0.heap.size 0 w cv cs
  b5 : Blk w g5 45 #[cv, .bool fl]
  b4 : Blk w g4 45 #[.slice none 0 0, .bool false]
  n5 : w0.heap.size ≤ g5
  n4 : w0.heap.size ≤ g4
  ne : g4 ≠ g5
  hB : B ≤ w0.heap.size
  rd : RdAt b B w g s bad
  st : Step B [73] w0 w
  sl : s.length ≤ 1000000
theorem own2_other {α : Type} {R : Rep α} {e : TypeId} {T es : List TypeId} {base B : Nat} {w w' : World} {v : Value} {l : List α} (h : Own2 R e T base 0 w v l) (hs : Step B es w w') (he : e ∉ es) (hT : ∀ t ∈ T, t ∉ es) : Own2 R e T base 0 w' v l := by
  obtain ⟨hbb, hne, xs, hown, hels⟩ := h
  refine ⟨hbb, hne, xs, ⟨hown.1, ?_⟩, hels.mono (Keep.step (hs.mono (Nat.zero_le _) (fun _ h => h)) hT)⟩
  rcases hown.2 with hn | ⟨g, cap, cur, rfl, hb, hg, rest⟩
  · exact .inl hn
  · refine .inr ⟨g, cap, cur, rfl, hb, ?_, rest⟩
    have hlt : g < w.heap.size := (Array.getElem?_eq_some_iff.1 hg).1
    rw [hs.block g hlt (.inr (fun ⟨cs', t', fz', hh', ht'⟩ => by
      rw [hg] at hh'; injection hh' with hh'; injection hh' with _ e'; subst e'; exact he ht'))]
    exact hg
theorem Blk.apart {w : World} {g g' : Nat} {t : TypeId} {cs : Array Value} (h : Blk w g t cs) (hne : g ≠ g') (i : Nat) (u : Value) : Blk (w.setCell ⟨g', i, none⟩ u) g t cs :=
  (Below.heap_setCell _ _ _ _ (by intro e; exact hne (by simpa using e))).trans h
section
variable {b : Nat → Addr} {B : Nat} {w0 w w' w1 : World} {g g4 g5 : Nat} {fl : Bool} {cv cv' : Value} {cs cs' : List CellV} {s s' : List Int} {bad bad' : Bool}
theorem LnAt.read (h : LnAt b B w0 g g4 g5 fl w cv cs s bad) (hr : RdAt b B w' g s' bad') (hst : Step B [73] w w') (hl : s'.length ≤ 1000000) : LnAt b B w0 g g4 g5 fl w' cv cs s' bad' :=
  ⟨own2_other h.own hst (by decide) (by decide), h.b5.step hst (by decide), h.b4.step hst (by decide), h.n5, h.n4, h.ne, h.hB, hr, h.st.trans hst, hl⟩
theorem LnAt.below (h : LnAt b B w0 g g4 g5 fl w cv cs s bad) (hb : Below w.heap.size w w') : LnAt b B w0 g g4 g5 fl w' cv cs s bad :=
  ⟨h.own.below hb, h.b5.same hb, h.b4.same hb, h.n5, h.n4, h.ne, h.hB, h.rd.step (es := []) (Step.of_below hb) (by simp) (by simp), h.st.trans (Step.of_below hb), h.sl⟩
theorem LnAt.app (h : LnAt b B w0 g g4 g5 fl w cv cs s bad) (hv : Own2 RCell 62 [21] w0.heap.size 0 w1 cv' cs') (hst : Step w0.heap.size [62] w w1) (ho : cv'.oneCell' = true) : LnAt b B w0 g g4 g5 fl (w1.setCell ⟨g5, 0, none⟩ cv') cv' cs' s bad := by
  have h5 := h.b5.step hst (by decide)
  have hs5 : Step w0.heap.size [45] w1 (w1.setCell ⟨g5, 0, none⟩ cv') := (Step.refl _ _ _).setCell (p := ⟨g5, 0, none⟩) h.n5 h5.bears _
  have hst' : Step B [62] w w1 := hst.mono h.hB (fun _ h => h)
  have hs5' : Step B [45] w1 (w1.setCell ⟨g5, 0, none⟩ cv') := hs5.mono h.hB (fun _ h => h)
  exact ⟨hv.step hs5 (by decide) (by decide), h5.set_ 0 cv', (h.b4.step hst (by decide)).apart h.ne 0 cv', h.n5, h.n4, h.ne, h.hB, (h.rd.step hst' (by decide) (by decide)).step hs5' (by decide) (by decide), (h.st.new hst).setNew h.n5 cv', h.sl⟩
theorem LnAt.fin (h : LnAt b B w0 g g4 g5 fl w cv cs s bad) (ho : cv.oneCell' = true) (W : World) (hW : W = (w.setCell ⟨g4, 0, none⟩ cv).setCell ⟨g4, 1, none⟩ (.bool fl)) :
    W.cell? ⟨g4, 0, none⟩ = some cv ∧ W.cell? ⟨g4, 1, none⟩ = some (.bool fl) ∧ Own2 RCell 62 [21] w0.heap.size 0 W cv cs ∧ RdAt b B W g s bad ∧ Step B [73] w0 W := by
  subst hW
  have h4 := h.b4.set_ 0 cv
  have h4' := h4.set_ 1 (.bool fl)
  have hs1 : Step w0.heap.size [45] w (w.setCell ⟨g4, 0, none⟩ cv) := (Step.refl _ _ _).setCell (p := ⟨g4, 0, none⟩) h.n4 h.b4.bears _
  have hs2 := hs1.setCell (p := ⟨g4, 1, none⟩) h.n4 h4.bears (.bool fl)
  have hs3 := hs2.mono h.hB (fun _ h => h)
  exact ⟨h4'.cell 0, h4'.cell 1, h.own.step hs2 (by decide) (by decide), h.rd.step hs3 (by decide) (by decide), h.st.new hs2⟩
end
theorem cell_dec {x : Nat} : decide (x % 2 = 0) = true ∨ decide (x % 2 = 0) = false := by cases decide (x % 2 = 0) <;> simp
theorem lineL_step (W f : Nat) (c : List CellV) (s : List Int) (h : c.length < W) : lineL W (f + 1) c s false = (if (numP s false).1 < 2 ∨ W < c.length + (numP s false).1 / 2 then (c, (numP s false).2.1, true)
       else lineL W f (lineG (numP s false).1 W c (numP s false).2.1 (numP s false).2.2).1 (lineG (numP s false).1 W c (numP s false).2.1 (numP s false).2.2).2.1 (lineG (numP s false).1 W c (numP s false).2.1 (numP s false).2.2).2.2) := by
  rw [lineL, if_pos ⟨h, rfl⟩]
theorem fill_step (ev : Bool) (e f : Nat) (c : List CellV) (s : List Int) (h : c.length < e) : fillP ev e (f + 1) c s false = (if ev = true then fillP ev e f (c ++ [(0, [])]) s false else fillP ev e f (c ++ (clusP s false).1) (clusP s false).2.1 (clusP s false).2.2) := by
  rw [fillP, if_pos ⟨h, rfl⟩]
def RLineR (b : Nat → Addr) (B g : Nat) (q : LineV × List Int × Bool) (w : World) (e : Ending) (w' : World) : Prop :=
  ∃ v, e = .returned (.agg #[v, .bool q.1.2]) ∧ Own2 RCell 62 [21] w.heap.size 0 w' v q.1.1 ∧ RdAt b B w' g q.2.1 q.2.2 ∧ Step B [73] w w'
set_option maxRecDepth 8000 in
set_option maxHeartbeats 8000000 in
theorem rline_ok (b : Nat → Addr) (B : Nat) (w : World) (g : Nat) (s : List Int) (bad : Bool) (W : Nat) (hr : RdAt b B w g s bad) (hs : s.length ≤ 1000000) (hW : W ≤ 1024) :
    Calls Tryd.prog 46 #[.pointer (some ⟨g, 0, none⟩), .int .i64 W] w (RLineR b B g (lineP W s bad) w) := by
  have hsz := hr.size
  have HW0 := hide hsz.1
  have bz := Blk.new w 45 #[.slice none 0 0, .bool false]
  have hr1 := hr.step (es := []) (Step.alloc1 B [] w (.cells #[.slice none 0 0, .bool false] 45)) (by simp) (by simp)
  have hst1 : Step B [73] w (w.alloc (.cells #[.slice none 0 0, .bool false] 45)) := Step.alloc1 B [73] w _
  obtain ⟨T, hT⟩ : ∃ T, lineP W s bad = T := ⟨_, rfl⟩
  have HT0 : Hid (((lineL W W [] (nextP s bad).2.1 (nextP s bad).2.2).1, decide ((nextP s bad).1 = 1)) = T.1 ∧ (lineL W W [] (nextP s bad).2.1 (nextP s bad).2.2).2 = T.2) := hide (by rw [← hT]; exact ⟨rfl, rfl⟩)
  rw [hT]
  have hnl := nextP_le s bad
  go_enter Tryd.func46, Tryd.ntmps46
  go_upto_region 1 with fail
  obtain ⟨g4, hg4⟩ : ∃ g4, w.heap.size = g4 := ⟨_, rfl⟩
  have h4le : w.heap.size ≤ g4 := Nat.le_of_eq hg4
  rw [hg4] at bz
  try rw [hg4]
  have h4lt := bz.lt
  generalize w.alloc (.cells #[.slice none 0 0, .bool false] 45) = w1 at *
  have HNX := hide (next_ok b B w1 g s bad hr1)
  obtain ⟨⟨x, s1, b1⟩, hq⟩ : ∃ q, nextP s bad = q := ⟨_, rfl⟩
  rw [hq] at HNX HT0 hnl
  simp only at HT0 hnl
  clear hr hr1 hq hT hg4
  go_wp2_with fail
  refine HNX.out.mono ?_
  rintro e w2 ⟨rfl, hx, hr2, hst2⟩
  simp only at hx hr2
  obtain ⟨fl, hfl⟩ : ∃ fl, ((x : Int) == 1) = fl := ⟨_, rfl⟩
  have HFL : Hid (decide (x = 1) = fl) := hide (by rw [← hfl, Bool.eq_iff_iff]; simp; omega)
  have b5 := Blk.new w2 45 #[.slice none 0 0, .bool fl]
  have bz3 := (bz.step hst2 (by decide)).alloc (.cells #[.slice none 0 0, .bool fl] 45)
  have hr3 := hr2.step (es := []) (Step.alloc1 B [] w2 (.cells #[.slice none 0 0, .bool fl] 45)) (by simp) (by simp)
  have hst3 := (hst1.trans hst2).trans (Step.alloc1 B [73] w2 (.cells #[.slice none 0 0, .bool fl] 45))
  have h45 : g4 ≠ w2.heap.size := by have := hst2.size; omega
  have h5le : w.heap.size ≤ w2.heap.size := (hst1.trans hst2).size
  have HL0 : Hid (LnAt b B w g g4 w2.heap.size fl (w2.alloc (.cells #[.slice none 0 0, .bool fl] 45)) (.slice none 0 0) [] s1 b1) := hide ⟨Own2.nil_ _ _ _ _ _ _ (Nat.zero_le _) (by decide), b5, bz3, h5le, h4le, h45, HW0.out, hr3, hst3, by omega⟩
  have HTC : Hid ((lineL W W [] s1 b1).1 = T.1.1 ∧ fl = T.1.2 ∧ (lineL W W [] s1 b1).2 = T.2) := hide (by
    have h := HT0.out
    rw [HFL.out] at h
    exact ⟨congrArg Prod.fst h.1, congrArg Prod.snd h.1, h.2⟩)
  clear HNX HT0 hst1 hst2 hst3 hr2 hr3 bz bz3 b5 HFL hnl h45 h5le h4le h4lt
  go_upto_region 2 with fail
  generalize w2.alloc (.cells #[.slice none 0 0, .bool fl] 45) = w3 at *
  obtain ⟨g5, hg5⟩ : ∃ g5, w2.heap.size = g5 := ⟨_, rfl⟩
  rw [hg5] at HL0
  try rw [hg5]
  clear hg5 hfl
  obtain ⟨TL, hTL⟩ : ∃ TL, lineL W W [] s1 b1 = TL := ⟨_, rfl⟩
  rw [hTL] at HTC
  have HTL := hide hTL
  clear hTL
  go_wp2_with fail
  go_loopg [6, 7] (W + badN b1) (fun gk _ _ wr => ∃ (f : Nat) (cs : List CellV) (cv : Value) (s' : List Int) (bad' : Bool), gk = f + badN bad' ∧ (W ≤ cs.length + f ∨ bad' = true) ∧ lineL W f cs s' bad' = TL ∧ cs.length ≤ 1026 ∧ LnAt b B w g g4 g5 fl wr cv cs s' bad')
  case atStart => exact ⟨W, [], _, s1, b1, rfl, .inl (by simp), HTL.out, by simp, HL0.out⟩
  case round =>
    clear HL0 HTL
    obtain ⟨f, cs, cv, s', bad', hgk, hfu, hll, hcl, hln⟩ := hrel
    obtain ⟨Ac, cc, rfl, hcc1, hcc2, _⟩ := hln.own.slc.open_
    have r0 := hln.b5.cell 0
    have r1 := hln.b5.cell 1
    simp only [List.getElem?_toArray, List.getElem?_cons_succ, List.getElem?_cons_zero] at r0 r1
    obtain ⟨sv, ev, hbk, hsl, herr⟩ := hln.rd.at_
    have s1c := hbk.cell 1
    simp only [List.getElem?_toArray, List.getElem?_cons_succ, List.getElem?_cons_zero] at s1c
    by_cases hdone : W ≤ cs.length ∨ bad' = true
    · have hld := line_done W f cs s' bad' hdone
      have HE := hide (hll.symm.trans hld)
      have HLN := hide hln
      have z4a := hln.b4.frozen 0
      have z4b := hln.b4.frozen 1
      have z40 := hln.b4.cell 0
      have z41 := hln.b4.cell 1
      simp only [List.getElem?_toArray, List.getElem?_cons_succ, List.getElem?_cons_zero] at z40 z41
      by_cases hlw : W ≤ cs.length
      · have hli : ¬ (cs.length : Int) < W := by omega
        clear hln hll hld hbk hsl herr hfu hgk hdone
        go_wp2
        obtain ⟨z0, z1, y1, y2, y3⟩ := HLN.out.fin rfl _ rfl
        generalize (World.setCell (World.setCell wr ⟨g4, 0, none⟩ (.slice Ac cs.length cc)) ⟨g4, 1, none⟩ (.bool fl)) = wz at *
        refine bodyPost_ret (v := .agg #[.slice Ac cs.length cc, .bool fl]) (by simp [results, Tryd.results46, go_sem, z0, z1]) rfl ?_
        obtain ⟨e1, e2, e3⟩ := HTC.out
        rw [HE.out] at e1 e3
        simp only at e1 e3
        exact ⟨_, by rw [← e2], by rw [← e1]; exact y1, by rw [← e3]; exact y2, y3⟩
      · have hli : (cs.length : Int) < W := by omega
        have hbt : bad' = true := hdone.resolve_left hlw
        subst hbt
        obtain ⟨k', n', hk', pb, rfl, hpb⟩ := (show ∃ k n, k < 8 ∧ ErrB b wr ev k n from herr)
        clear hln hll hld hbk hsl herr hfu hgk hpb hdone
        go_wp2
        obtain ⟨z0, z1, y1, y2, y3⟩ := HLN.out.fin rfl _ rfl
        generalize (World.setCell (World.setCell wr ⟨g4, 0, none⟩ (.slice Ac cs.length cc)) ⟨g4, 1, none⟩ (.bool fl)) = wz at *
        refine bodyPost_ret (v := .agg #[.slice Ac cs.length cc, .bool fl]) (by simp [results, Tryd.results46, go_sem, z0, z1]) rfl ?_
        obtain ⟨e1, e2, e3⟩ := HTC.out
        rw [HE.out] at e1 e3
        simp only at e1 e3
        exact ⟨_, by rw [← e2], by rw [← e1]; exact y1, by rw [← e3]; exact y2, y3⟩
    · have hlw : cs.length < W := by omega
      have hbf : bad' = false := by
        cases bad' with
        | false => rfl
        | true => exact absurd (.inr rfl) hdone
      subst hbf
      obtain rfl : ev = .nilIface := herr
      have hli : (cs.length : Int) < W := by omega
      obtain ⟨f, rfl⟩ : ∃ f', f = f' + 1 := ⟨f - 1, by rcases hfu with h | h; omega; cases h⟩
      have HNU := hide (rnum_ok b B wr g s' false hln.rd)
      have hnl := numP_le s' false
      have hsl' := hln.sl
      have hfu2 : W ≤ cs.length + (f + 1) := hfu.resolve_right (by decide)
      have hstep := (lineL_step W f cs s' hlw).symm.trans hll
      obtain ⟨⟨n, s1', b1'⟩, hq⟩ : ∃ q, numP s' false = q := ⟨_, rfl⟩
      rw [hq] at HNU hnl hstep
      simp only at hnl hstep
      have HSTEP := hide hstep
      have HGK := hide hgk
      have HLN := hide hln
      clear hln hll hbk hsl hfu hgk hq hstep hdone
      go_wp2_with fail
      refine HNU.out.mono ?_
      rintro e w4 ⟨rfl, hn, hr4, hst4⟩
      simp only at hn hr4
      have hln4 := HLN.out.read hr4 hst4 (by omega)
      have r0 := hln4.b5.cell 0
      have r1 := hln4.b5.cell 1
      simp only [List.getElem?_toArray, List.getElem?_cons_succ, List.getElem?_cons_zero] at r0 r1
      clear HNU HLN s1c hst4
      have hni : ((n / 2 : Nat) : Int) = (n : Int) / 2 := by omega
      by_cases hbadn : n < 2 ∨ W < cs.length + n / 2
      · have HE : Hid (TL = (cs, s1', true)) := hide (by rw [← HSTEP.out, if_pos hbadn])
        have hEF := hr4.sents.sents.var 2 (by decide)
        simp only [gOf] at hEF
        have HFL := hide (fail_ok b B w4 g s1' b1' 2 hr4 (by decide))
        have HL4 := hide hln4
        by_cases hn2 : n < 2
        · have hn2i : (n : Int) < 2 := by omega
          clear hr4 hln4 HSTEP hbadn
          go_wp2_with fail
          refine HFL.out.mono ?_
          rintro e w5 ⟨⟨rr, rfl⟩, hr5, hst5⟩
          have hln5 := HL4.out.read hr5 hst5 HL4.out.sl
          have z4a := hln5.b4.frozen 0
          have z4b := hln5.b4.frozen 1
          have z40 := hln5.b4.cell 0
          have z41 := hln5.b4.cell 1
          have r0 := hln5.b5.cell 0
          have r1 := hln5.b5.cell 1
          simp only [List.getElem?_toArray, List.getElem?_cons_succ, List.getElem?_cons_zero] at z40 z41 r0 r1
          have HLN := hide hln5
          clear hln5 hr5 hst5 HL4 HFL
          go_wp2
          obtain ⟨z0, z1, y1, y2, y3⟩ := HLN.out.fin rfl _ rfl
          generalize (World.setCell (World.setCell w5 ⟨g4, 0, none⟩ (.slice Ac cs.length cc)) ⟨g4, 1, none⟩ (.bool fl)) = wz at *
          refine bodyPost_ret (v := .agg #[.slice Ac cs.length cc, .bool fl]) (by simp [results, Tryd.results46, go_sem, z0, z1]) rfl ?_
          obtain ⟨e1, e2, e3⟩ := HTC.out
          rw [HE.out] at e1 e3
          simp only at e1 e3
          exact ⟨_, by rw [← e2], by rw [← e1]; exact y1, by rw [← e3]; exact y2, y3⟩
        · have hn2i : ¬ (n : Int) < 2 := by omega
          have hW2 : (W : Int) < (cs.length : Int) + (n : Int) / 2 := by have := hbadn.resolve_left hn2; omega
          clear hr4 hln4 HSTEP hbadn
          go_wp2_with fail
          refine HFL.out.mono ?_
          rintro e w5 ⟨⟨rr, rfl⟩, hr5, hst5⟩
          have hln5 := HL4.out.read hr5 hst5 HL4.out.sl
          have z4a := hln5.b4.frozen 0
          have z4b := hln5.b4.frozen 1
          have z40 := hln5.b4.cell 0
          have z41 := hln5.b4.cell 1
          have r0 := hln5.b5.cell 0
          have r1 := hln5.b5.cell 1
          simp only [List.getElem?_toArray, List.getElem?_cons_succ, List.getElem?_cons_zero] at z40 z41 r0 r1
          have HLN := hide hln5
          clear hln5 hr5 hst5 HL4 HFL
          go_wp2
          obtain ⟨z0, z1, y1, y2, y3⟩ := HLN.out.fin rfl _ rfl
          generalize (World.setCell (World.setCell w5 ⟨g4, 0, none⟩ (.slice Ac cs.length cc)) ⟨g4, 1, none⟩ (.bool fl)) = wz at *
          refine bodyPost_ret (v := .agg #[.slice Ac cs.length cc, .bool fl]) (by simp [results, Tryd.results46, go_sem, z0, z1]) rfl ?_
          obtain ⟨e1, e2, e3⟩ := HTC.out
          rw [HE.out] at e1 e3
          simp only at e1 e3
          exact ⟨_, by rw [← e2], by rw [← e1]; exact y1, by rw [← e3]; exact y2, y3⟩
      · have hn2 : ¬ n < 2 := fun h => hbadn (.inl h)
        have hWE : cs.length + n / 2 ≤ W := Nat.le_of_not_lt fun h => hbadn (.inr h)
        have hn2i : ¬ (n : Int) < 2 := by omega
        have hW2 : ¬ (W : Int) < (cs.length : Int) + (n : Int) / 2 := by omega
        have HSTEP2 : Hid (lineL W f (lineG n W cs s1' b1').1 (lineG n W cs s1' b1').2.1 (lineG n W cs s1' b1').2.2 = TL) := hide (by rw [← HSTEP.out, if_neg hbadn])
        obtain ⟨TG, hTG⟩ : ∃ TG, lineG n W cs s1' b1' = TG := ⟨_, rfl⟩
        rw [hTG] at HSTEP2
        obtain ⟨E, hE⟩ : ∃ E, cs.length + n / 2 = E := ⟨_, rfl⟩
        obtain ⟨evn, hevn⟩ : ∃ evn, decide (n % 2 = 0) = evn := ⟨_, rfl⟩
        have hTG2 : fillP evn E (n / 2) cs s1' b1' = TG := by rw [← hTG, ← hE, ← hevn]; rfl
        have hEi : (cs.length : Int) + (n : Int) / 2 = E := by omega
        have hEW : E ≤ W := by omega
        have hEp : cs.length + 1 ≤ E := by omega
        have HTG := hide hTG2
        have HEV := hide hevn
        have HL4 := hide hln4
        have HE1 := hide hE
        clear hTG hTG2 hr4 HSTEP hbadn hE hevn
        clear hln4
        generalize gk = gk1 at *
        have hWEi : ¬ (W : Int) < (E : Int) := by omega
        go_upto_region 5 with fail
        go_cut [38] from 12 to 68 (fun s wx => s = .bool false ∧ w4 = wx)
        case first =>
          go_wp2
          go_meet
          exact ⟨by first | rfl | (simp; done) | (simp; omega) | (simp [hEW]; omega), rfl⟩
        case rest =>
        obtain ⟨rfl, rfl⟩ := hcut
        go_wp2_with fail
        go_loopg [] (n / 2 + badN b1') (fun gk2 wr => ∃ (f2 : Nat) (cs2 : List CellV) (cv2 : Value) (s2 : List Int) (b2 : Bool), gk2 = f2 + badN b2 ∧ (E ≤ cs2.length + f2 ∨ b2 = true) ∧ fillP evn E f2 cs2 s2 b2 = TG ∧ cs2.length ≤ E + 1 ∧ LnAt b B w g g4 g5 fl wr cv2 cs2 s2 b2)
        case atStart => exact ⟨n / 2, cs, _, s1', b1', rfl, .inl (Nat.le_of_eq HE1.out.symm), HTG.out, by omega, HL4.out⟩
        case round =>
          clear r0 r1
          obtain ⟨f2, cs2, cv2, s2, b2, hgk2, hfu3, hfl2, hcl2, hln2⟩ := hrel
          obtain ⟨Ad, cd, rfl, _, _, _⟩ := hln2.own.slc.open_
          have r0 := hln2.b5.cell 0
          have r1 := hln2.b5.cell 1
          simp only [List.getElem?_toArray, List.getElem?_cons_succ, List.getElem?_cons_zero] at r0 r1
          obtain ⟨sv2, ev2, hbk2, hsl2, herr2⟩ := hln2.rd.at_
          have s1c := hbk2.cell 1
          simp only [List.getElem?_toArray, List.getElem?_cons_succ, List.getElem?_cons_zero] at s1c
          by_cases hdone2 : E ≤ cs2.length ∨ b2 = true
          · have hfd := fill_done evn E f2 cs2 s2 b2 hdone2
            have HG := hide (hfl2.symm.trans hfd)
            have HL2 := hide hln2
            have HLL : Hid (lineL W f cs2 s2 b2 = TL) := hide (by rw [← HSTEP2.out, HG.out])
            have HFU : Hid (W ≤ cs2.length + f ∨ b2 = true) := hide (hdone2.imp (fun h => by omega) id)
            have HGF : Hid (f + badN b2 < gk1) := hide (by rw [HGK.out]; unfold badN; split <;> simp <;> omega)
            by_cases hlE : E ≤ cs2.length
            · have hliE : ¬ (cs2.length : Int) < E := by omega
              clear hln2 hfl2 hfd hbk2 hsl2 herr2 hfu3 hgk2 hdone2
              go_wp2
              go_roundg (f + badN b2)
              case measure => exact HGF.out
              case rel => exact ⟨f, cs2, _, s2, b2, rfl, HFU.out, HLL.out, by omega, HL2.out⟩
            · have hliE : (cs2.length : Int) < E := by omega
              have hbt : b2 = true := hdone2.resolve_left hlE
              subst hbt
              obtain ⟨k', n', hk', pb, rfl, hpb⟩ := (show ∃ k n, k < 8 ∧ ErrB b wr ev2 k n from herr2)
              clear hln2 hfl2 hfd hbk2 hsl2 herr2 hfu3 hgk2 hpb hdone2
              go_wp2
              go_roundg (f + badN true)
              case measure => exact HGF.out
              case rel => exact ⟨f, cs2, _, s2, true, rfl, HFU.out.imp id (fun _ => rfl), HLL.out, by omega, HL2.out⟩
          · have hlE : cs2.length < E := by omega
            have hbf : b2 = false := by
              cases b2 with
              | false => rfl
              | true => exact absurd (.inr rfl) hdone2
            subst hbf
            obtain rfl : ev2 = .nilIface := herr2
            have hliE : (cs2.length : Int) < E := by omega
            obtain ⟨f2, rfl⟩ : ∃ f', f2 = f' + 1 := ⟨f2 - 1, by rcases hfu3 with h | h; omega; cases h⟩
            have hfu4 : E ≤ cs2.length + (f2 + 1) := hfu3.resolve_right (by decide)
            have hstep := (fill_step evn E f2 cs2 s2 hlE).symm.trans hfl2
            have HGK2 := hide hgk2
            clear hfl2 hbk2 hsl2 hgk2 hdone2 hfu3
            rcases cell_dec (x := n) with hev | hev
            · have hee : evn = true := by rw [← HEV.out, hev]
              have hem : (n : Int) % 2 = 0 := by have := of_decide_eq_true hev; omega
              rw [hee, if_pos rfl] at hstep
              have HST := hide hstep
              have HEE := hide hee
              have hwz := Nat.le_trans hln2.st.size (Nat.le_refl _)
              have hone : Own2 RCell 62 [21] w.heap.size 0 (wr.alloc (.cells #[.int .i64 0, .slice none 0 0] 62)) (.slice (some ⟨wr.heap.size, 0, none⟩) 1 1) [(0, [])] :=
                Own2.lit (xs := [.int .i64 0, .slice none 0 0]) (Nat.zero_le _) (by decide) (els_cell1w (by decide) Slc.nil_) hwz rfl (by simp [maxLen])
              have hln3 := hln2.below ((Below.refl _ wr).alloc (Nat.le_refl _) (.cells #[.int .i64 0, .slice none 0 0] 62))
              have HL3 := hide hln3
              have hz3 := Nat.le_trans hwz (show wr.heap.size ≤ (wr.alloc (.cells #[.int .i64 0, .slice none 0 0] 62)).heap.size by simp)
              clear hstep hee hln2 hev
              go_wp2_with (at_builtin; refine wpList_app2x rfl (.tmp 58) (.tmp 60) 43 rfl RCell 62 [21] w.heap.size 0 32 _ Tryd.underlying43 cell_info rfl (by decide) (by decide) _ _ rfl HL3.out.own _ _ _ rfl hone (by simp; omega) hz3 ?_; intro v7 w7 hv7 hst7 hg7; obtain ⟨A7, n7, c7, rfl⟩ : ∃ A7 n7 c7, v7 = .slice A7 n7 c7 := (by obtain ⟨A, c, e, _⟩ := hv7.slc.open_; exact ⟨A, _, c, e⟩); have hln7 := hide (HL3.out.app hv7 hst7 rfl); have b57 := HL3.out.b5.step hst7 (by decide); have z5 := b57.frozen 0; have z50 := b57.cell 0; simp only [List.getElem?_toArray, List.getElem?_cons_succ, List.getElem?_cons_zero] at z50; clear hv7 hst7 hg7 b57)
              go_roundg (f2 + badN false)
              case measure => rw [HGK2.out]; unfold badN; simp
              case rel => exact ⟨f2, cs2 ++ [(0, [])], _, s2, false, rfl, .inl (by rw [List.length_append, List.length_singleton]; omega), by rw [HEE.out]; exact HST.out, by rw [List.length_append, List.length_singleton]; omega, hln7.out⟩
            · have hee : evn = false := by rw [← HEV.out, hev]
              have hem : ¬ (n : Int) % 2 = 0 := by have := of_decide_eq_false hev; omega
              rw [hee, if_neg (by decide)] at hstep
              have HST := hide hstep
              have HEE := hide hee
              obtain ⟨hc1, hc2, hc3⟩ := clusP_len s2 false
              have HCL := hide (clus_ok b B wr.drew g s2 false ((hln2.below (below_drw (Below.refl _ wr))).rd) hln2.sl)
              obtain ⟨⟨q1, q2, q3⟩, hqq⟩ : ∃ q, clusP s2 false = q := ⟨_, rfl⟩
              rw [hqq] at HST HCL hc1 hc2 hc3
              simp only at hc1 hc2 hc3 HST
              have hsl2' := hln2.sl
              have HL3 := hide (hln2.below (below_drw (Below.refl _ wr)))
              have HGC := hide hc2
              have hg5lt := hln2.b5.lt
              have hwz := hln2.st.size
              clear hstep hee hln2 hev hqq hc2
              go_upto_region 10 with fail
              refine wp_region_late (S := fun w' => w'.cell? ⟨g5, 0, none⟩ = some (.slice Ad cs2.length cd)) [6] (by kernel_rfl) (by exact r0) (fun hHeld => ?_)
              refine wpAnyT_take (i := 0) (oi := ?_) (v := ?_) ?_ (by kernel_rfl) (by kernel_rfl) (by kernel_rfl) (by kernel_rfl) (by kernel_rfl) ?_ (Or.inl ⟨?_, ?_⟩) (by assumption) ?_
              rotate_left 2
              · (simp only [List.getElem?_toArray, List.getElem?_cons_succ, List.getElem?_cons_zero]; rfl)
              rotate_left 1
              · rfl
              · (intro w hSw; (try dsimp only at hSw); go_simp; try with_reducible rfl)
              rotate_left 1
              · exact fun _ _ _ h => h
              try simp only [Act.put, List.setIfInBounds_toArray, List.set_cons_zero, List.set_cons_succ]
              refine wpAnyT_take (i := 1) (oi := ?_) (v := ?_) ?_ (by kernel_rfl) (by kernel_rfl) (by kernel_rfl) (by kernel_rfl) (by kernel_rfl) ?_ (Or.inl ⟨?_, ?_⟩) (by assumption) ?_
              rotate_left 2
              · (simp only [List.getElem?_toArray, List.getElem?_cons_succ, List.getElem?_cons_zero]; rfl)
              rotate_left 1
              · rfl
              · (intro w hSw; (try dsimp only at hSw); go_simp; try with_reducible rfl)
              rotate_left 1
              · exact fun _ _ _ h => h
              try simp only [Act.put, List.setIfInBounds_toArray, List.set_cons_zero, List.set_cons_succ]
              refine wpAnyT_take (i := 2) (oi := ?_) (v := ?_) ?_ (by kernel_rfl) (by kernel_rfl) (by kernel_rfl) (by kernel_rfl) (by kernel_rfl) ?_ (Or.inl ⟨?_, ?_⟩) (by assumption) ?_
              rotate_left 2
              · (simp only [List.getElem?_toArray, List.getElem?_cons_succ, List.getElem?_cons_zero]; rfl)
              rotate_left 1
              · rfl
              · (intro w hSw; (try dsimp only at hSw); go_simp; try with_reducible rfl)
              rotate_left 1
              · exact fun _ _ _ h => h
              try simp only [Act.put, List.setIfInBounds_toArray, List.set_cons_zero, List.set_cons_succ]
              refine wpAnyT_ready (rs := [3]) (by kernel_rfl) (by simp) ?_
              refine AllReadyT.cons (o := ?_) ?_ (fun K hK => ?_) AllReadyT.nil
              rotate_left 1
              · (simp only [List.getElem?_toArray, List.getElem?_cons_succ, List.getElem?_cons_zero]; rfl)
              go_simp
              go_at_call 54; refine HCL.out.mono ?_; rintro e w6 ⟨v6, rfl, hv6, hr6, hst6⟩; simp only at hv6 hr6; have hln6 := HL3.out.read hr6 hst6 (by omega); have hz6 : w.heap.size ≤ w6.heap.size := hln6.st.size; have s0 := hln6.b5.cell 0; simp only [List.getElem?_toArray, List.getElem?_cons_succ, List.getElem?_cons_zero] at s0; have hv6 := hv6.down w.heap.size (Nat.zero_le _) hwz; have HL6 := hide hln6; clear hln6 hr6 hst6 HL3 HCL
              refine hK.out _ _ ?_ (fun hHeld => ?_)
              · ((try dsimp only); go_keep)
              clear hK K
              try simp only [Act.put, List.setIfInBounds_toArray, List.set_cons_zero, List.set_cons_succ]
              refine wpAnyT_ready (rs := [4]) (by kernel_rfl) (by simp) ?_
              refine AllReadyT.cons (o := ?_) ?_ (fun K hK => ?_) AllReadyT.nil
              rotate_left 1
              · (simp only [List.getElem?_toArray, List.getElem?_cons_succ, List.getElem?_cons_zero]; rfl)
              refine step_app2x rfl (.tmp 64) (.tmp 66) 43 rfl RCell 62 [21] w.heap.size 0 32 _ Tryd.underlying43 cell_info rfl (by decide) (by decide) _ _ rfl HL6.out.own _ _ _ rfl hv6 (by omega) hz6 ?_; intro v7 w7 hv7 hst7 hg7; obtain ⟨A7, n7, c7, rfl⟩ : ∃ A7 n7 c7, v7 = .slice A7 n7 c7 := (by obtain ⟨A, c, e, _⟩ := hv7.slc.open_; exact ⟨A, _, c, e⟩); have hln9 := hide (HL6.out.app hv7 hst7 rfl); have b57 := HL6.out.b5.step hst7 (by decide); have f0 := b57.frozen 0; have s0 := b57.cell 0; simp only [List.getElem?_toArray, List.getElem?_cons_succ, List.getElem?_cons_zero] at s0; clear hv7 hst7 hg7 b57 hv6 HL6
              refine hK.out _ _ ?_ (fun hHeld => ?_)
              · ((try dsimp only); go_keep)
              clear hK K
              try simp only [Act.put, List.setIfInBounds_toArray, List.set_cons_zero, List.set_cons_succ]
              refine wpAnyT_take (i := 5) (oi := ?_) (v := ?_) ?_ (by kernel_rfl) (by kernel_rfl) (by kernel_rfl) (by kernel_rfl) (by kernel_rfl) ?_ (Or.inl ⟨?_, ?_⟩) (by assumption) ?_
              rotate_left 2
              · (simp only [List.getElem?_toArray, List.getElem?_cons_succ, List.getElem?_cons_zero]; rfl)
              rotate_left 1
              · rfl
              · (intro w hSw; (try dsimp only at hSw); go_simp; try with_reducible rfl)
              rotate_left 1
              · exact fun _ _ _ h => h
              try simp only [Act.put, List.setIfInBounds_toArray, List.set_cons_zero, List.set_cons_succ]
              refine wpAnyT_ready (rs := [6]) (by kernel_rfl) (by simp) ?_
              refine AllReadyT.consL (o := ?_) ?_ (by kernel_rfl) (fun K hK => ?_) AllReadyT.nil
              rotate_left 1
              · (simp only [List.getElem?_toArray, List.getElem?_cons_succ, List.getElem?_cons_zero]; rfl)
              go_simp
              refine hK.out _ _ ?_
              clear hK K
              try simp only [Act.put, List.setIfInBounds_toArray, List.set_cons_zero, List.set_cons_succ]
              refine wpAnyT_done (by kernel_rfl) ?_ _
              clear hHeld s0 f0
              go_wp2
              go_roundg (f2 + badN q3)
              case measure => (have e1 : badN q3 ≤ 1 := (by unfold badN; split <;> omega); have e2 : badN false = 1 := rfl; rw [HGK2.out]; omega)
              case rel => exact ⟨f2, cs2 ++ q1, _, q2, q3, rfl, (by rcases HGC.out with h | h; exact .inr h; exact .inl (by rw [List.length_append]; omega)), by rw [HEE.out]; exact HST.out, by rw [List.length_append]; omega, hln9.out⟩
end Go.Proofs.YtphdagmaamcapaaDoor

namespace Go.Proofs.YtphdagmaamcapaaDoor
open Go.RowKit
set_option linter.unusedVariables false
set_option linter.unusedSimpArgs false

/-- The view in the making. -/
structure VwAt (b : Nat → Addr) (B : Nat) (w0 : World) (g g2 g3 : Nat) (w : World) (a0 a1 a2 a3 : Nat) (lv : Value) (p au : Bool) (s : List Int) (bad : Bool) : Prop where
  b3 : Blk w g3 26 #[.int .i64 a0, .int .i64 a1, lv, .int .i64 a2, .int .i64 a3, .bool p, .bool au]
  b2 : Blk w g2 26 #[.int .i64 0, .int .i64 0, .slice none 0 0, .int .i64 0, .int .i64 0, .bool false, .bool false]
  n3 : w0.heap.size ≤ g3
  n2 : w0.heap.size ≤ g2
  ne : g2 ≠ g3
  hB : B ≤ w0.heap.size
  rd : RdAt b B w g s bad
  st : Step B [73] w0 w
  sl : s.length ≤ 1000000
section
variable {b : Nat → Addr} {B : Nat} {w0 w w' w1 : World} {g g2 g3 a0 a1 a2 a3 a0' a1' a2' a3' : Nat} {lv lv' : Value} {p au p' au' : Bool} {s s' : List Int} {bad bad' : Bool}
theorem VwAt.read (h : VwAt b B w0 g g2 g3 w a0 a1 a2 a3 lv p au s bad) (hr : RdAt b B w' g s' bad') (hst : Step B [73] w w') (hl : s'.length ≤ 1000000) : VwAt b B w0 g g2 g3 w' a0 a1 a2 a3 lv p au s' bad' :=
  ⟨h.b3.step hst (by decide), h.b2.step hst (by decide), h.n3, h.n2, h.ne, h.hB, hr, h.st.trans hst, hl⟩
theorem VwAt.new (h : VwAt b B w0 g g2 g3 w a0 a1 a2 a3 lv p au s bad) (hst : Step w0.heap.size [45] w w') : VwAt b B w0 g g2 g3 w' a0 a1 a2 a3 lv p au s bad :=
  ⟨h.b3.step hst (by decide), h.b2.step hst (by decide), h.n3, h.n2, h.ne, h.hB, h.rd.step (hst.mono h.hB (fun _ h => h)) (by decide) (by decide), h.st.new hst, h.sl⟩
theorem VwAt.set (h : VwAt b B w0 g g2 g3 w a0 a1 a2 a3 lv p au s bad) (i : Nat) (u : Value) (hb : Blk (w.setCell ⟨g3, i, none⟩ u) g3 26 #[.int .i64 a0', .int .i64 a1', lv', .int .i64 a2', .int .i64 a3', .bool p', .bool au']) : VwAt b B w0 g g2 g3 (w.setCell ⟨g3, i, none⟩ u) a0' a1' a2' a3' lv' p' au' s bad :=
  ⟨hb, h.b2.apart h.ne i u, h.n3, h.n2, h.ne, h.hB, h.rd.step ((Step.refl B [26] w).setCell (p := ⟨g3, i, none⟩) (Nat.le_trans h.hB h.n3) h.b3.bears u) (by decide) (by decide), h.st.setNew h.n3 u, h.sl⟩
theorem VwAt.fin (h : VwAt b B w0 g g2 g3 w a0 a1 a2 a3 lv p au s bad) (W : World) (hW : W = (World.setCell (World.setCell (World.setCell (World.setCell (World.setCell (World.setCell (World.setCell w ⟨g2, 0, none⟩ (.int .i64 (a0 : Int))) ⟨g2, 1, none⟩ (.int .i64 (a1 : Int))) ⟨g2, 2, none⟩ (lv)) ⟨g2, 3, none⟩ (.int .i64 (a2 : Int))) ⟨g2, 4, none⟩ (.int .i64 (a3 : Int))) ⟨g2, 5, none⟩ (.bool p)) ⟨g2, 6, none⟩ (.bool au))) :
    Blk W g2 26 #[.int .i64 a0, .int .i64 a1, lv, .int .i64 a2, .int .i64 a3, .bool p, .bool au] ∧ RdAt b B W g s bad ∧ Step B [73] w0 W ∧ Step w0.heap.size [26] w W := by
  subst hW
  have k0 := h.b2
  have t0 := Step.refl w0.heap.size [26] w
  have k1 := k0.set_ 0 (.int .i64 (a0 : Int))
  have t1 := t0.setCell (p := ⟨g2, 0, none⟩) h.n2 k0.bears (.int .i64 (a0 : Int))
  have k2 := k1.set_ 1 (.int .i64 (a1 : Int))
  have t2 := t1.setCell (p := ⟨g2, 1, none⟩) h.n2 k1.bears (.int .i64 (a1 : Int))
  have k3 := k2.set_ 2 (lv)
  have t3 := t2.setCell (p := ⟨g2, 2, none⟩) h.n2 k2.bears (lv)
  have k4 := k3.set_ 3 (.int .i64 (a2 : Int))
  have t4 := t3.setCell (p := ⟨g2, 3, none⟩) h.n2 k3.bears (.int .i64 (a2 : Int))
  have k5 := k4.set_ 4 (.int .i64 (a3 : Int))
  have t5 := t4.setCell (p := ⟨g2, 4, none⟩) h.n2 k4.bears (.int .i64 (a3 : Int))
  have k6 := k5.set_ 5 (.bool p)
  have t6 := t5.setCell (p := ⟨g2, 5, none⟩) h.n2 k5.bears (.bool p)
  have k7 := k6.set_ 6 (.bool au)
  have t7 := t6.setCell (p := ⟨g2, 6, none⟩) h.n2 k6.bears (.bool au)
  simp only [List.setIfInBounds_toArray, List.set_cons_succ, List.set_cons_zero] at k7
  exact ⟨k7, h.rd.step (t7.mono h.hB (fun _ h => h)) (by decide) (by decide), h.st.new t7, t7⟩
end
theorem LnsP.other {base B : Nat} {es : List TypeId} {w w' : World} {v : Value} {ps : List (Value × LineV)} (h : LnsP base w v ps) (hs : Step B es w w') (h1 : 45 ∉ es) (h2 : 62 ∉ es) (h3 : 21 ∉ es) : LnsP base w' v ps :=
  ⟨h.row.flat_step RSl.flat hs h1, fun p hp => own2_other (h.cells p hp) hs h2 (by intro t ht; rw [List.mem_singleton] at ht; subst ht; exact h3), h.apart⟩
theorem lines_done (w : Nat) : ∀ (f : Nat) (l : List LineV) (s : List Int) (bad : Bool), f = 0 ∨ bad = true → linesL w f l s bad = (l, s, bad)
  | 0, _, _, _, _ => rfl
  | f + 1, l, s, bad, h => by
    obtain rfl := h.resolve_left (by omega)
    rw [linesL, if_pos rfl]
theorem lines_step (w f : Nat) (l : List LineV) (s : List Int) : linesL w (f + 1) l s false = linesL w f (l ++ [(lineP w s false).1]) (lineP w s false).2.1 (lineP w s false).2.2 := by
  rw [linesL, if_neg (by decide)]
theorem fillP_le (ev : Bool) (e : Nat) : ∀ (f : Nat) (c : List CellV) (s : List Int) (bad : Bool), (fillP ev e f c s bad).2.1.length ≤ s.length
  | 0, _, _, _ => Nat.le_refl _
  | f + 1, c, s, bad => by
    unfold fillP
    split
    · split
      · exact fillP_le ev e f _ _ _
      · exact Nat.le_trans (fillP_le ev e f _ _ _) (clusP_len s bad).2.2
    · exact Nat.le_refl _
theorem lineL_le (w : Nat) : ∀ (f : Nat) (c : List CellV) (s : List Int) (bad : Bool), (lineL w f c s bad).2.1.length ≤ s.length
  | 0, _, _, _ => Nat.le_refl _
  | f + 1, c, s, bad => by
    have h1 := numP_le s bad
    unfold lineL
    split
    · split
      · exact h1
      · exact Nat.le_trans (lineL_le w f _ _ _) (Nat.le_trans (fillP_le _ _ _ _ _ _) h1)
    · exact Nat.le_refl _
theorem lineP_le (w : Nat) (s : List Int) (bad : Bool) : (lineP w s bad).2.1.length ≤ s.length := Nat.le_trans (lineL_le _ _ _ _ _) (nextP_le s bad)
def RViewR (b : Nat → Addr) (B g : Nat) (q : ViewV × List Int × Bool) (w : World) (e : Ending) (w' : World) : Prop :=
  ∃ v, e = .returned (.agg #[.int .i64 q.1.wide, .int .i64 q.1.high, v, .int .i64 q.1.row, .int .i64 q.1.col, .bool q.1.pend, .bool q.1.auto]) ∧ Lns w.heap.size w' v q.1.lines ∧ RdAt b B w' g q.2.1 q.2.2 ∧ Step B [73] w w'
theorem pend_bit (x : Nat) (h : x < 256) : (bits .and .u8 (x : Int) 1 != 0) = decide (x % 2 = 1) := by
  have h : ∀ n : Fin 256, (bits .and .u8 ((n.val : Nat) : Int) 1 != 0) = decide (n.val % 2 = 1) := by decide +kernel
  exact h ⟨x, by omega⟩
theorem auto_bit (x : Nat) (h : x < 256) : (bits .and .u8 (x : Int) 2 != 0) = decide (x / 2 % 2 = 1) := by
  have h : ∀ n : Fin 256, (bits .and .u8 ((n.val : Nat) : Int) 2 != 0) = decide (n.val / 2 % 2 = 1) := by decide +kernel
  exact h ⟨x, by omega⟩
set_option maxRecDepth 8000 in
set_option maxHeartbeats 8000000 in
theorem rview_ok (b : Nat → Addr) (B : Nat) (w : World) (g : Nat) (s : List Int) (hr : RdAt b B w g s false) (hs : s.length ≤ 1000000) :
    Calls Tryd.prog 34 #[.pointer (some ⟨g, 0, none⟩)] w (RViewR b B g (viewP s) w) := by
  have hB := hr.size.1
  -- what is read, by name
  obtain ⟨⟨x, t0, c0⟩, hx⟩ : ∃ q, nextP s false = q := ⟨_, rfl⟩
  obtain ⟨d0, hd0⟩ : ∃ d0, (c0 || decide (x ≠ 76)) = d0 := ⟨_, rfl⟩
  obtain ⟨⟨n1, s1, d1⟩, hq1⟩ : ∃ q, numP t0 d0 = q := ⟨_, rfl⟩
  obtain ⟨⟨n2, s2, d2⟩, hq2⟩ : ∃ q, numP s1 d1 = q := ⟨_, rfl⟩
  obtain ⟨⟨n3, s3, d3⟩, hq3⟩ : ∃ q, numP s2 d2 = q := ⟨_, rfl⟩
  obtain ⟨⟨n4, s4, d4⟩, hq4⟩ : ∃ q, numP s3 d3 = q := ⟨_, rfl⟩
  obtain ⟨⟨m, s5, d5⟩, hm⟩ : ∃ q, nextP s4 d4 = q := ⟨_, rfl⟩
  obtain ⟨d6, hd6⟩ : ∃ d6, (d5 || decide (1024 < n1 ∨ 1024 < n2)) = d6 := ⟨_, rfl⟩
  obtain ⟨TL, hTL⟩ : ∃ TL, linesL n1 n2 [] s5 d6 = TL := ⟨_, rfl⟩
  have hhead : headP s = ⟨n1, n2, n3, n4, m, s5, d6⟩ := by unfold headP; simp only [hx, hd0, hq1, hq2, hq3, hq4, hm, hd6]
  have HV : Hid (viewP s = (⟨n1, n2, TL.1, n3, n4, decide (m % 2 = 1), decide (m / 2 % 2 = 1)⟩, TL.2)) := hide (by unfold viewP; simp only [hhead, hTL])
  have l0 := nextP_le s false
  have l1 := numP_le t0 d0
  have l2 := numP_le s1 d1
  have l3 := numP_le s2 d2
  have l4 := numP_le s3 d3
  have l5 := nextP_le s4 d4
  rw [hx] at l0
  rw [hq1] at l1
  rw [hq2] at l2
  rw [hq3] at l3
  rw [hq4] at l4
  rw [hm] at l5
  simp only at l0 l1 l2 l3 l4 l5
  have HTL := hide hTL
  have HD0 := hide hd0
  have HD6 := hide hd6
  have HNX := fun W h => next_ok b B W g s false h
  rw [hx] at HNX
  have HN1 := fun W h => rnum_ok b B W g t0 d0 h
  rw [hq1] at HN1
  have HN2 := fun W h => rnum_ok b B W g s1 d1 h
  rw [hq2] at HN2
  have HN3 := fun W h => rnum_ok b B W g s2 d2 h
  rw [hq3] at HN3
  have HN4 := fun W h => rnum_ok b B W g s3 d3 h
  rw [hq4] at HN4
  have HMK := fun W h => next_ok b B W g s4 d4 h
  rw [hm] at HMK
  have HNX := hide HNX
  have HN1 := hide HN1
  have HN2 := hide HN2
  have HN3 := hide HN3
  have HN4 := hide HN4
  have HMK := hide HMK
  clear hx hd0 hq1 hq2 hq3 hq4 hm hd6 hTL hhead
  have b2 := Blk.new w 26 #[.int .i64 0, .int .i64 0, .slice none 0 0, .int .i64 0, .int .i64 0, .bool false, .bool false]
  have b2' := b2.alloc (.cells #[.int .i64 0, .int .i64 0, .slice none 0 0, .int .i64 0, .int .i64 0, .bool false, .bool false] 26)
  have b3 := Blk.new (w.alloc (.cells #[.int .i64 0, .int .i64 0, .slice none 0 0, .int .i64 0, .int .i64 0, .bool false, .bool false] 26)) 26 #[.int .i64 0, .int .i64 0, .slice none 0 0, .int .i64 0, .int .i64 0, .bool false, .bool false]
  have hst0 := (Step.alloc1 B [73] w (.cells #[.int .i64 0, .int .i64 0, .slice none 0 0, .int .i64 0, .int .i64 0, .bool false, .bool false] 26)).alloc (.cells #[.int .i64 0, .int .i64 0, .slice none 0 0, .int .i64 0, .int .i64 0, .bool false, .bool false] 26)
  have hr0 := (hr.step (es := []) (Step.alloc1 B [] w (.cells #[.int .i64 0, .int .i64 0, .slice none 0 0, .int .i64 0, .int .i64 0, .bool false, .bool false] 26)) (by simp) (by simp)).step (es := []) (Step.alloc1 B [] _ (.cells #[.int .i64 0, .int .i64 0, .slice none 0 0, .int .i64 0, .int .i64 0, .bool false, .bool false] 26)) (by simp) (by simp)
  have hsz1 : (w.alloc (.cells #[.int .i64 0, .int .i64 0, .slice none 0 0, .int .i64 0, .int .i64 0, .bool false, .bool false] 26)).heap.size = w.heap.size + 1 := by simp
  rw [hsz1] at b3
  have hv0 : VwAt b B w g w.heap.size (w.heap.size + 1) ((w.alloc (.cells #[.int .i64 0, .int .i64 0, .slice none 0 0, .int .i64 0, .int .i64 0, .bool false, .bool false] 26)).alloc (.cells #[.int .i64 0, .int .i64 0, .slice none 0 0, .int .i64 0, .int .i64 0, .bool false, .bool false] 26)) 0 0 0 0 (.slice none 0 0) false false s false :=
    ⟨b3, b2', by omega, Nat.le_refl _, by omega, hB, hr0, hst0, hs⟩
  have HV0 := hide hv0
  rw [HV.out]
  clear b2 b2' b3 hst0 hr0 hsz1 hv0 hr HV
  go_enter Tryd.func34, Tryd.ntmps34
  go_upto_region 2 with fail
  obtain ⟨g2, hg2⟩ : ∃ g2, w.heap.size = g2 := ⟨_, rfl⟩
  obtain ⟨g3, hg3⟩ : ∃ g3, w.heap.size + 1 = g3 := ⟨_, rfl⟩
  rw [hg3, hg2] at HV0
  try rw [hg3]
  try rw [hg2]
  generalize (World.alloc (w.alloc (.cells #[.int .i64 0, .int .i64 0, .slice none 0 0, .int .i64 0, .int .i64 0, .bool false, .bool false] 26)) (.cells #[.int .i64 0, .int .i64 0, .slice none 0 0, .int .i64 0, .int .i64 0, .bool false, .bool false] 26)) = w1 at *
  clear hg2 hg3
  have HNX := hide (HNX.out w1 HV0.out.rd)
  go_wp2_with fail
  refine HNX.out.mono ?_
  rintro e w2 ⟨rfl, hx8, hr2, hst2⟩
  simp only at hx8 hr2
  have hv2 := HV0.out.read hr2 hst2 (by omega)
  have HV2 := hide hv2
  clear hr2 hst2 HNX HV0 hv2
  go_upto_if 10 with fail
  go_cut [10] from 8 to 13 (fun _ wx => VwAt b B w g g2 g3 wx 0 0 0 0 (.slice none 0 0) false false t0 d0)
  case first =>
    by_cases h76 : x = 76
    · have hxi : (x : Int) = 76 := by omega
      have HE : Hid (c0 = d0) := hide (by rw [← HD0.out, decide_eq_false (by omega)]; simp)
      clear HD0 hxi
      subst h76
      go_wp2
      go_meet
      rw [← HE.out]; exact HV2.out
    · have hxb : ((x : Int) != 76) = true := by simp; omega
      have HE : Hid (true = d0) := hide (by rw [← HD0.out, decide_eq_true h76]; simp)
      have hEF := HV2.out.rd.sents.sents.var 1 (by decide)
      simp only [gOf] at hEF
      have HFL := hide (fail_ok b B w2 g t0 c0 1 HV2.out.rd (by decide))
      clear HD0
      go_wp2_with fail
      refine HFL.out.mono ?_
      rintro e w3 ⟨⟨r, rfl⟩, hr3, hst3⟩
      have hv3 := HV2.out.read hr3 hst3 HV2.out.sl
      have HV3 := hide hv3
      clear hr3 hst3 hv3 HFL
      go_wp2
      go_meet
      rw [← HE.out]; exact HV3.out
  case rest =>
  have HV3 := hide hcut
  clear hcut HV2 HD0
  have bp := Blk.new wc 94 #[.pointer (some ⟨g3, 0, none⟩), .pointer (some ⟨g3, 1, none⟩), .pointer (some ⟨g3, 3, none⟩), .pointer (some ⟨g3, 4, none⟩)]
  have hv4 := HV3.out.new ((Step.refl w.heap.size [45] wc).alloc (.cells #[.pointer (some ⟨g3, 0, none⟩), .pointer (some ⟨g3, 1, none⟩), .pointer (some ⟨g3, 3, none⟩), .pointer (some ⟨g3, 4, none⟩)] 94))
  have hp3 : wc.heap.size ≠ g3 := by have := HV3.out.b3.lt; omega
  have HV4 := hide hv4
  have HP := hide bp
  clear hv4 bp
  go_wp2_with fail
  obtain ⟨gp, hgp⟩ : ∃ gp, wc.heap.size = gp := ⟨_, rfl⟩
  rw [hgp] at HP hp3
  try rw [hgp]
  generalize wc.alloc (.cells #[.pointer (some ⟨g3, 0, none⟩), .pointer (some ⟨g3, 1, none⟩), .pointer (some ⟨g3, 3, none⟩), .pointer (some ⟨g3, 4, none⟩)] 94) = w4 at *
  clear hgp HV3
  go_loopw [5, 22] (fun _ iv wr => ∃ k : Nat, iv = .int .i64 k ∧ Blk wr gp 94 #[.pointer (some ⟨g3, 0, none⟩), .pointer (some ⟨g3, 1, none⟩), .pointer (some ⟨g3, 3, none⟩), .pointer (some ⟨g3, 4, none⟩)] ∧
    ((k = 0 ∧ VwAt b B w g g2 g3 wr 0 0 0 0 (.slice none 0 0) false false t0 d0) ∨ (k = 1 ∧ VwAt b B w g g2 g3 wr n1 0 0 0 (.slice none 0 0) false false s1 d1) ∨ (k = 2 ∧ VwAt b B w g g2 g3 wr n1 n2 0 0 (.slice none 0 0) false false s2 d2) ∨ (k = 3 ∧ VwAt b B w g g2 g3 wr n1 n2 n3 0 (.slice none 0 0) false false s3 d3) ∨ (k = 4 ∧ VwAt b B w g g2 g3 wr n1 n2 n3 n4 (.slice none 0 0) false false s4 d4))) (fun _ iv _ => 4 - (intOf iv).toNat)
  case atStart => exact ⟨0, rfl, HP.out, .inl ⟨rfl, HV4.out⟩⟩
  case round =>
    clear HP HV4
    obtain ⟨k, rfl, bp, hk⟩ := hrel
    rcases hk with ⟨rfl, hv⟩ | ⟨rfl, hv⟩ | ⟨rfl, hv⟩ | ⟨rfl, hv⟩ | ⟨rfl, hv⟩
    · have pk := bp.cell 0
      simp only [List.getElem?_toArray, List.getElem?_cons_succ, List.getElem?_cons_zero] at pk
      have HQ := hide (HN1.out wr hv.rd)
      have HVV := hide hv
      have HBP := hide bp
      clear hv bp
      go_wp2_with fail
      refine HQ.out.mono ?_
      rintro e w5 ⟨rfl, hn, hr5, hst5⟩
      simp only at hn hr5
      have hv5 := HVV.out.read hr5 hst5 (by omega)
      have bp5 := HBP.out.step hst5 (by decide)
      have f3 := hv5.b3.frozen 0
      have c3 := hv5.b3.cell 0
      simp only [List.getElem?_toArray, List.getElem?_cons_succ, List.getElem?_cons_zero] at c3
      have hb6 := hv5.b3.set_ 0 (.int .i64 (n1 : Int))
      simp only [List.setIfInBounds_toArray, List.set_cons_succ, List.set_cons_zero] at hb6
      have HV6 := hide (hv5.set 0 (.int .i64 (n1 : Int)) hb6)
      have HB6 := hide (bp5.apart hp3 0 (.int .i64 (n1 : Int)))
      clear hr5 hst5 hv5 bp5 hb6 HQ HVV HBP pk hn
      go_wp2
      go_roundw
      case rel => exact ⟨1, by go_num, HB6.out, .inr (.inl ⟨rfl, HV6.out⟩)⟩
      case measure => simp [intOf]
    · have pk := bp.cell 1
      simp only [List.getElem?_toArray, List.getElem?_cons_succ, List.getElem?_cons_zero] at pk
      have HQ := hide (HN2.out wr hv.rd)
      have HVV := hide hv
      have HBP := hide bp
      clear hv bp
      go_wp2_with fail
      refine HQ.out.mono ?_
      rintro e w5 ⟨rfl, hn, hr5, hst5⟩
      simp only at hn hr5
      have hv5 := HVV.out.read hr5 hst5 (by omega)
      have bp5 := HBP.out.step hst5 (by decide)
      have f3 := hv5.b3.frozen 1
      have c3 := hv5.b3.cell 1
      simp only [List.getElem?_toArray, List.getElem?_cons_succ, List.getElem?_cons_zero] at c3
      have hb6 := hv5.b3.set_ 1 (.int .i64 (n2 : Int))
      simp only [List.setIfInBounds_toArray, List.set_cons_succ, List.set_cons_zero] at hb6
      have HV6 := hide (hv5.set 1 (.int .i64 (n2 : Int)) hb6)
      have HB6 := hide (bp5.apart hp3 1 (.int .i64 (n2 : Int)))
      clear hr5 hst5 hv5 bp5 hb6 HQ HVV HBP pk hn
      go_wp2
      go_roundw
      case rel => exact ⟨2, by go_num, HB6.out, .inr (.inr (.inl ⟨rfl, HV6.out⟩))⟩
      case measure => simp [intOf]
    · have pk := bp.cell 2
      simp only [List.getElem?_toArray, List.getElem?_cons_succ, List.getElem?_cons_zero] at pk
      have HQ := hide (HN3.out wr hv.rd)
      have HVV := hide hv
      have HBP := hide bp
      clear hv bp
      go_wp2_with fail
      refine HQ.out.mono ?_
      rintro e w5 ⟨rfl, hn, hr5, hst5⟩
      simp only at hn hr5
      have hv5 := HVV.out.read hr5 hst5 (by omega)
      have bp5 := HBP.out.step hst5 (by decide)
      have f3 := hv5.b3.frozen 3
      have c3 := hv5.b3.cell 3
      simp only [List.getElem?_toArray, List.getElem?_cons_succ, List.getElem?_cons_zero] at c3
      have hb6 := hv5.b3.set_ 3 (.int .i64 (n3 : Int))
      simp only [List.setIfInBounds_toArray, List.set_cons_succ, List.set_cons_zero] at hb6
      have HV6 := hide (hv5.set 3 (.int .i64 (n3 : Int)) hb6)
      have HB6 := hide (bp5.apart hp3 3 (.int .i64 (n3 : Int)))
      clear hr5 hst5 hv5 bp5 hb6 HQ HVV HBP pk hn
      go_wp2
      go_roundw
      case rel => exact ⟨3, by go_num, HB6.out, .inr (.inr (.inr (.inl ⟨rfl, HV6.out⟩)))⟩
      case measure => simp [intOf]
    · have pk := bp.cell 3
      simp only [List.getElem?_toArray, List.getElem?_cons_succ, List.getElem?_cons_zero] at pk
      have HQ := hide (HN4.out wr hv.rd)
      have HVV := hide hv
      have HBP := hide bp
      clear hv bp
      go_wp2_with fail
      refine HQ.out.mono ?_
      rintro e w5 ⟨rfl, hn, hr5, hst5⟩
      simp only at hn hr5
      have hv5 := HVV.out.read hr5 hst5 (by omega)
      have bp5 := HBP.out.step hst5 (by decide)
      have f3 := hv5.b3.frozen 4
      have c3 := hv5.b3.cell 4
      simp only [List.getElem?_toArray, List.getElem?_cons_succ, List.getElem?_cons_zero] at c3
      have hb6 := hv5.b3.set_ 4 (.int .i64 (n4 : Int))
      simp only [List.setIfInBounds_toArray, List.set_cons_succ, List.set_cons_zero] at hb6
      have HV6 := hide (hv5.set 4 (.int .i64 (n4 : Int)) hb6)
      have HB6 := hide (bp5.apart hp3 4 (.int .i64 (n4 : Int)))
      clear hr5 hst5 hv5 bp5 hb6 HQ HVV HBP pk hn
      go_wp2
      go_roundw
      case rel => exact ⟨4, by go_num, HB6.out, .inr (.inr (.inr (.inr ⟨rfl, HV6.out⟩)))⟩
      case measure => simp [intOf]
    · have HQ := hide (HMK.out wr hv.rd)
      have HVV := hide hv
      clear hv bp
      go_wp2_with fail
      refine HQ.out.mono ?_
      rintro e w5 ⟨rfl, hm8, hr5, hst5⟩
      simp only at hm8 hr5
      have hv5 := HVV.out.read hr5 hst5 (by omega)
      have e5 := pend_bit m hm8
      have e6 := auto_bit m hm8
      obtain ⟨P, hP⟩ : ∃ P, decide (m % 2 = 1) = P := ⟨_, rfl⟩
      obtain ⟨U, hU⟩ : ∃ U, decide (m / 2 % 2 = 1) = U := ⟨_, rfl⟩
      rw [hP] at e5
      rw [hU] at e6
      have HPE := hide hP
      have HUE := hide hU
      have f5 := hv5.b3.frozen 5
      have f6 := hv5.b3.frozen 6
      have hb6 := hv5.b3.set_ 5 (.bool P)
      simp only [List.setIfInBounds_toArray, List.set_cons_succ, List.set_cons_zero] at hb6
      have hv6 := hv5.set 5 (.bool P) hb6
      have hb7 := hv6.b3.set_ 6 (.bool U)
      simp only [List.setIfInBounds_toArray, List.set_cons_succ, List.set_cons_zero] at hb7
      have HV7 := hide (hv6.set 6 (.bool U) hb7)
      have c5 := hv5.b3.cell 5
      have c6 := hv5.b3.cell 6
      simp only [List.getElem?_toArray, List.getElem?_cons_succ, List.getElem?_cons_zero] at c5 c6
      clear hr5 hst5 hv5 hb6 hv6 hb7 HQ HVV hP hU
      go_upto_region 11 with fail
      generalize (World.setCell (World.setCell w5 ⟨g3, 5, none⟩ (.bool P)) ⟨g3, 6, none⟩ (.bool U)) = w7 at *
      have c0x := HV7.out.b3.cell 0
      have c1x := HV7.out.b3.cell 1
      simp only [List.getElem?_toArray, List.getElem?_cons_succ, List.getElem?_cons_zero] at c0x c1x
      clear f5 f6 c5 c6 e5 e6
      go_cut [49] from 42 to 52 (fun s wx => s = .bool (decide (1024 < n1 ∨ 1024 < n2)) ∧ w7 = wx)
      case first =>
        by_cases h1 : 1024 < n1
        · have h1i : (1024 : Int) < n1 := by omega
          go_wp2
          go_meet
          exact ⟨by rw [decide_eq_true (.inl h1)], rfl⟩
        · have h1i : ¬ (1024 : Int) < n1 := by omega
          by_cases h2 : 1024 < n2
          · have h2i : (1024 : Int) < n2 := by omega
            go_wp2
            go_meet
            exact ⟨by rw [decide_eq_true (.inr h2)], rfl⟩
          · have h2i : ¬ (1024 : Int) < n2 := by omega
            go_wp2
            go_meet
            exact ⟨by rw [decide_eq_false (by omega)], rfl⟩
      case rest =>
      obtain ⟨rfl, rfl⟩ := hcut
      clear c0x c1x
      go_upto_if 49 with fail
      go_cut [49] from 42 to 52 (fun _ wx => VwAt b B w g g2 g3 wx n1 n2 n3 n4 (.slice none 0 0) P U s5 d6)
      case first =>
        cases hbg : decide (1024 < n1 ∨ 1024 < n2) with
        | false =>
          have HE : Hid (d5 = d6) := hide (by rw [← HD6.out, hbg]; simp)
          go_wp2
          go_meet
          rw [← HE.out]; exact HV7.out
        | true =>
          have HE : Hid (true = d6) := hide (by rw [← HD6.out, hbg]; simp)
          have hEF := HV7.out.rd.sents.sents.var 2 (by decide)
          simp only [gOf] at hEF
          have HFL := hide (fail_ok b B w7 g s5 d5 2 HV7.out.rd (by decide))
          go_wp2_with fail
          refine HFL.out.mono ?_
          rintro e w8 ⟨⟨r, rfl⟩, hr8, hst8⟩
          have HV8 := hide (HV7.out.read hr8 hst8 HV7.out.sl)
          clear hr8 hst8 HFL
          go_wp2
          go_meet
          rw [← HE.out]; exact HV8.out
      case rest =>
      have HV8 := hide hcut
      have HD6b : Hid (d6 = false → n1 ≤ 1024 ∧ n2 ≤ 1024) := hide (fun h => by
        rw [← HD6.out, Bool.or_eq_false_iff] at h
        have := of_decide_eq_false h.2
        omega)
      clear hcut HV7 HD6 HNX HN1 HN2 HN3 HN4 HMK
      go_wp2_with fail
      go_loopw [7] (fun iv wr => ∃ (i : Nat) (lv : Value) (ps : List (Value × LineV)) (s' : List Int) (bad' : Bool), i ≤ n2 ∧ iv = .int .i64 i ∧ i = ps.length ∧ linesL n1 (n2 - i) (ps.map Prod.snd) s' bad' = TL ∧ (bad' = false → n1 ≤ 1024 ∧ n2 ≤ 1024) ∧ LnsP w.heap.size wr lv ps ∧ VwAt b B w g g2 g3 wr n1 n2 n3 n4 lv P U s' bad') (fun iv _ => n2 - (intOf iv).toNat)
      case atStart => exact ⟨0, _, [], s5, d6, Nat.zero_le _, rfl, rfl, HTL.out, HD6b.out, ⟨Own.nil_ _ _ _ _ _ (by simp), fun p hp => (by cases hp), List.Pairwise.nil⟩, HV8.out⟩
      case round =>
        clear HTL HD6b HV8
        obtain ⟨i, lv, ps, s', bad', hin, rfl, hip, hll, hbd, hlp, hv⟩ := hrel
        have hpsl : (ps.map slB).length = i := by rw [List.length_map, ← hip]
        obtain ⟨Av, cv, hlve, ju1, ju2, ju3⟩ := hlp.row.slc.open_
        rw [hpsl] at hlve
        subst hlve
        have hpn : ps.length ≤ n2 := by omega
        have HIP := hide hip
        clear ju1 ju2 ju3 hip hpsl
        have v0 := hv.b3.cell 0
        have v1 := hv.b3.cell 1
        have v2 := hv.b3.cell 2
        have v3 := hv.b3.cell 3
        have v4 := hv.b3.cell 4
        have v5 := hv.b3.cell 5
        have v6 := hv.b3.cell 6
        simp only [List.getElem?_toArray, List.getElem?_cons_succ, List.getElem?_cons_zero] at v0 v1 v2 v3 v4 v5 v6
        obtain ⟨sv, ev, hbk, hsl, herr⟩ := hv.rd.at_
        have s1c := hbk.cell 1
        simp only [List.getElem?_toArray, List.getElem?_cons_succ, List.getElem?_cons_zero] at s1c
        by_cases hdone : n2 - i = 0 ∨ bad' = true
        · have hld := lines_done n1 (n2 - i) (ps.map Prod.snd) s' bad' hdone
          have HT := hide (hll.symm.trans hld)
          have HVV := hide hv
          have HLP := hide hlp
          have q0 := hv.b2.frozen 0
          have q1 := hv.b2.frozen 1
          have q2 := hv.b2.frozen 2
          have q3 := hv.b2.frozen 3
          have q4 := hv.b2.frozen 4
          have q5 := hv.b2.frozen 5
          have q6 := hv.b2.frozen 6
          have u0 := hv.b2.cell 0
          have u1 := hv.b2.cell 1
          have u2 := hv.b2.cell 2
          have u3 := hv.b2.cell 3
          have u4 := hv.b2.cell 4
          have u5 := hv.b2.cell 5
          have u6 := hv.b2.cell 6
          simp only [List.getElem?_toArray, List.getElem?_cons_succ, List.getElem?_cons_zero] at u0 u1 u2 u3 u4 u5 u6
          by_cases hie : n2 - i = 0
          · have hii : ¬ (i : Int) < n2 := by omega
            clear hv hlp hll hld hbk hsl herr hdone hbd
            go_wp2
            obtain ⟨z, y1, y2, y3⟩ := HVV.out.fin _ rfl
            have hlz := HLP.out.step y3 (by decide) (by decide) (by decide)
            generalize (World.setCell (World.setCell (World.setCell (World.setCell (World.setCell (World.setCell (World.setCell wr ⟨g2, 0, none⟩ (.int .i64 (n1 : Int))) ⟨g2, 1, none⟩ (.int .i64 (n2 : Int))) ⟨g2, 2, none⟩ (.slice Av i cv)) ⟨g2, 3, none⟩ (.int .i64 (n3 : Int))) ⟨g2, 4, none⟩ (.int .i64 (n4 : Int))) ⟨g2, 5, none⟩ (.bool P)) ⟨g2, 6, none⟩ (.bool U)) = wz at *
            have z0 := z.cell 0
            have z1 := z.cell 1
            have z2 := z.cell 2
            have z3 := z.cell 3
            have z4 := z.cell 4
            have z5 := z.cell 5
            have z6 := z.cell 6
            simp only [List.getElem?_toArray, List.getElem?_cons_succ, List.getElem?_cons_zero] at z0 z1 z2 z3 z4 z5 z6
            refine bodyPost_ret (v := .agg #[.int .i64 n1, .int .i64 n2, .slice Av i cv, .int .i64 n3, .int .i64 n4, .bool P, .bool U]) (by simp [results, Tryd.results34, go_sem, z0, z1, z2, z3, z4, z5, z6]) rfl ?_
            exact ⟨_, by rw [← HPE.out, ← HUE.out], ⟨ps, by rw [HT.out], hlz⟩, by rw [HT.out]; exact y1, y2⟩
          · have hii : (i : Int) < n2 := by omega
            have hbt : bad' = true := hdone.resolve_left hie
            subst hbt
            obtain ⟨k', n', hk', pb, rfl, hpb⟩ := (show ∃ k n, k < 8 ∧ ErrB b wr ev k n from herr)
            clear hv hlp hll hld hbk hsl herr hdone hbd hpb
            go_wp2
            obtain ⟨z, y1, y2, y3⟩ := HVV.out.fin _ rfl
            have hlz := HLP.out.step y3 (by decide) (by decide) (by decide)
            generalize (World.setCell (World.setCell (World.setCell (World.setCell (World.setCell (World.setCell (World.setCell wr ⟨g2, 0, none⟩ (.int .i64 (n1 : Int))) ⟨g2, 1, none⟩ (.int .i64 (n2 : Int))) ⟨g2, 2, none⟩ (.slice Av i cv)) ⟨g2, 3, none⟩ (.int .i64 (n3 : Int))) ⟨g2, 4, none⟩ (.int .i64 (n4 : Int))) ⟨g2, 5, none⟩ (.bool P)) ⟨g2, 6, none⟩ (.bool U)) = wz at *
            have z0 := z.cell 0
            have z1 := z.cell 1
            have z2 := z.cell 2
            have z3 := z.cell 3
            have z4 := z.cell 4
            have z5 := z.cell 5
            have z6 := z.cell 6
            simp only [List.getElem?_toArray, List.getElem?_cons_succ, List.getElem?_cons_zero] at z0 z1 z2 z3 z4 z5 z6
            refine bodyPost_ret (v := .agg #[.int .i64 n1, .int .i64 n2, .slice Av i cv, .int .i64 n3, .int .i64 n4, .bool P, .bool U]) (by simp [results, Tryd.results34, go_sem, z0, z1, z2, z3, z4, z5, z6]) rfl ?_
            exact ⟨_, by rw [← HPE.out, ← HUE.out], ⟨ps, by rw [HT.out], hlz⟩, by rw [HT.out]; exact y1, y2⟩
        · have hii : (i : Int) < n2 := by omega
          have hbf : bad' = false := by
            cases bad' with
            | false => rfl
            | true => exact absurd (.inr rfl) hdone
          subst hbf
          obtain rfl : ev = .nilIface := herr
          obtain ⟨hn1, hn2⟩ := hbd rfl
          have hstep := hll
          rw [show n2 - i = (n2 - (i + 1)) + 1 by omega, lines_step] at hstep
          have hpl := lineP_le n1 s' false
          have hsl' := hv.sl
          have HLN := hide (rline_ok b B wr.drew g s' false n1 (hv.new (Step.drew (Step.refl _ _ _))).rd hsl' hn1)
          obtain ⟨⟨⟨cl, fl⟩, s2', b2'⟩, hq⟩ : ∃ q, lineP n1 s' false = q := ⟨_, rfl⟩
          rw [hq] at hstep hpl HLN
          simp only at hstep hpl
          have HST := hide hstep
          have HVD := hide (hv.new (w' := wr.drew) (Step.drew (Step.refl _ _ _)))
          have HLD := hide (hlp.step (es := []) (w' := wr.drew) (Step.drew (Step.refl _ _ _)) (by simp) (by simp) (by simp))
          have HLT : Hid (∀ p ∈ ps, ∀ g, p.1.ownBlock = some g → g < wr.drew.heap.size) := hide (fun p hp g hg => ((hlp.cells p hp).lt_ g hg).2)
          have hwz : w.heap.size ≤ wr.heap.size := hv.st.size
          have HBD : Hid (n1 ≤ 1024 ∧ n2 ≤ 1024) := hide ⟨hn1, hn2⟩
          clear hv hlp hll hbk hsl hdone hbd hq hstep v3 v4 v5 v6
          go_upto_region 16 with fail
          refine wp_region_late (S := fun w' => w'.cell? ⟨g3, 0, none⟩ = some (.int .i64 n1) ∧ w'.cell? ⟨g3, 2, none⟩ = some (.slice Av i cv)) [9] (by kernel_rfl) (by exact ⟨v0, v2⟩) (fun hHeld => ?_)
          refine wpAnyT_take (i := 0) (oi := ?_) (v := ?_) ?_ (by kernel_rfl) (by kernel_rfl) (by kernel_rfl) (by kernel_rfl) (by kernel_rfl) ?_ (Or.inl ⟨?_, ?_⟩) (by assumption) ?_
          rotate_left 2
          · (simp only [List.getElem?_toArray, List.getElem?_cons_succ, List.getElem?_cons_zero]; rfl)
          rotate_left 1
          · rfl
          · (intro w hSw; (try dsimp only at hSw); go_simp; try with_reducible rfl)
          rotate_left 1
          · exact fun _ _ _ h => h
          try simp only [Act.put, List.setIfInBounds_toArray, List.set_cons_zero, List.set_cons_succ]
          refine wpAnyT_take (i := 1) (oi := ?_) (v := ?_) ?_ (by kernel_rfl) (by kernel_rfl) (by kernel_rfl) (by kernel_rfl) (by kernel_rfl) ?_ (Or.inl ⟨?_, ?_⟩) (by assumption) ?_
          rotate_left 2
          · (simp only [List.getElem?_toArray, List.getElem?_cons_succ, List.getElem?_cons_zero]; rfl)
          rotate_left 1
          · rfl
          · (intro w hSw; (try dsimp only at hSw); go_simp; try with_reducible rfl)
          rotate_left 1
          · exact fun _ _ _ h => h
          try simp only [Act.put, List.setIfInBounds_toArray, List.set_cons_zero, List.set_cons_succ]
          refine wpAnyT_take (i := 2) (oi := ?_) (v := ?_) ?_ (by kernel_rfl) (by kernel_rfl) (by kernel_rfl) (by kernel_rfl) (by kernel_rfl) ?_ (Or.inl ⟨?_, ?_⟩) (by assumption) ?_
          rotate_left 2
          · (simp only [List.getElem?_toArray, List.getElem?_cons_succ, List.getElem?_cons_zero]; rfl)
          rotate_left 1
          · rfl
          · (intro w hSw; (try dsimp only at hSw); go_simp; try with_reducible rfl)
          rotate_left 1
          · exact fun _ _ _ h => h
          try simp only [Act.put, List.setIfInBounds_toArray, List.set_cons_zero, List.set_cons_succ]
          refine wpAnyT_take (i := 3) (oi := ?_) (v := ?_) ?_ (by kernel_rfl) (by kernel_rfl) (by kernel_rfl) (by kernel_rfl) (by kernel_rfl) ?_ (Or.inl ⟨?_, ?_⟩) (by assumption) ?_
          rotate_left 2
          · (simp only [List.getElem?_toArray, List.getElem?_cons_succ, List.getElem?_cons_zero]; rfl)
          rotate_left 1
          · rfl
          · (intro w hSw; (try dsimp only at hSw); go_simp; try with_reducible rfl)
          rotate_left 1
          · exact fun _ _ _ h => h
          try simp only [Act.put, List.setIfInBounds_toArray, List.set_cons_zero, List.set_cons_succ]
          refine wpAnyT_take (i := 4) (oi := ?_) (v := ?_) ?_ (by kernel_rfl) (by kernel_rfl) (by kernel_rfl) (by kernel_rfl) (by kernel_rfl) ?_ (Or.inl ⟨?_, ?_⟩) (by assumption) ?_
          rotate_left 2
          · (simp only [List.getElem?_toArray, List.getElem?_cons_succ, List.getElem?_cons_zero]; rfl)
          rotate_left 1
          · rfl
          · (intro w hSw; (try dsimp only at hSw); go_simp; try with_reducible rfl)
          rotate_left 1
          · exact fun _ _ _ h => h
          try simp only [Act.put, List.setIfInBounds_toArray, List.set_cons_zero, List.set_cons_succ]
          refine wpAnyT_ready (rs := [5]) (by kernel_rfl) (by simp) ?_
          refine AllReadyT.cons (o := ?_) ?_ (fun K hK => ?_) AllReadyT.nil
          rotate_left 1
          · (simp only [List.getElem?_toArray, List.getElem?_cons_succ, List.getElem?_cons_zero]; rfl)
          go_simp
          go_at_call 46; refine HLN.out.mono ?_; rintro e w6 ⟨v6, rfl, hv6, hr6, hst6⟩; simp only at hv6 hr6; have hvw6 := HVD.out.read hr6 hst6 (by omega); have hlp6 := HLD.out.other hst6 (by decide) (by decide) (by decide); obtain ⟨A6, c6, rfl, _, _, _⟩ := hv6.slc.open_; have s0 := hvw6.b3.cell 0; have s2 := hvw6.b3.cell 2; simp only [List.getElem?_toArray, List.getElem?_cons_succ, List.getElem?_cons_zero] at s0 s2; have hz6 : w.heap.size ≤ w6.heap.size := hvw6.st.size; clear hr6 hst6 HLN HVD HLD
          refine hK.out _ _ ?_ (fun hHeld => ?_)
          · ((try dsimp only); go_keep)
          clear hK K
          try simp only [Act.put, List.setIfInBounds_toArray, List.set_cons_zero, List.set_cons_succ]
          refine wpAnyT_ready (rs := [6]) (by kernel_rfl) (by simp) ?_
          refine AllReadyT.cons (o := ?_) ?_ (fun K hK => ?_) AllReadyT.nil
          rotate_left 1
          · (simp only [List.getElem?_toArray, List.getElem?_cons_succ, List.getElem?_cons_zero]; rfl)
          go_simp
          have hvw7 := hvw6.new (Step.alloc1 w.heap.size [45] w6 (.cells #[.slice A6 cl.length c6, .bool fl] 45)); have hlp7 := hlp6.step (es := []) (Step.alloc1 w.heap.size [] w6 (.cells #[.slice A6 cl.length c6, .bool fl] 45)) (by simp) (by simp) (by simp); have hv7 := hv6.alloc (.cells #[.slice A6 cl.length c6, .bool fl] 45); have hone := Slc.lit1 (R := RSl) (Si := fun _ => False) (Si' := fun _ => False) (w := w6) (x := ((.slice A6 cl.length c6 : Value), fl)) (u := [.slice A6 cl.length c6, .bool fl]) 45 ⟨[.slice A6 cl.length c6], [.bool fl], rfl, ⟨rfl, rfl⟩, rfl⟩ (fun _ _ h => h.elim); have s0 := hvw7.b3.cell 0; have s2 := hvw7.b3.cell 2; simp only [List.getElem?_toArray, List.getElem?_cons_succ, List.getElem?_cons_zero] at s0 s2; have hz7 : w.heap.size ≤ (w6.alloc (.cells #[.slice A6 cl.length c6, .bool fl] 45)).heap.size := hvw7.st.size; clear hvw6 hlp6 hv6 hz6
          refine hK.out _ _ ?_ (fun hHeld => ?_)
          · ((try dsimp only); go_keep)
          clear hK K
          try simp only [Act.put, List.setIfInBounds_toArray, List.set_cons_zero, List.set_cons_succ]
          refine wpAnyT_ready (rs := [7]) (by kernel_rfl) (by simp) ?_
          refine AllReadyT.cons (o := ?_) ?_ (fun K hK => ?_) AllReadyT.nil
          rotate_left 1
          · (simp only [List.getElem?_toArray, List.getElem?_cons_succ, List.getElem?_cons_zero]; rfl)
          refine step_appg rfl (.tmp 67) (.tmp 72) 22 rfl RSl 45 [] w.heap.size 32 _ Tryd.underlying22 line_info rfl (by decide) (by decide) _ _ rfl hlp7.row _ (fun _ => False) _ _ rfl hone (fun _ h => False.elim h) (by simp; omega) hz7 ?_; intro v8 w8 hv8 hst8 hg8 ho8; have hln8 : LnsP w.heap.size w8 v8 (ps ++ [((.slice A6 cl.length c6 : Value), (cl, fl))]) := LnsP.snoc (fun p hp => (hlp7.cells p hp).step hst8 (by decide) (by decide)) hlp7.apart HLT.out hv8 (own2_other hv7 hst8 (by decide) (by decide)) hwz; have hvw8 := hvw7.new hst8; obtain ⟨A8, n8, c8, rfl⟩ : ∃ A8 n8 c8, v8 = .slice A8 n8 c8 := (by obtain ⟨A, c, e, _⟩ := hv8.slc.open_; exact ⟨A, _, c, e⟩); have f0 := hvw8.b3.frozen 2; have hb9 := hvw8.b3.set_ 2 (.slice A8 n8 c8); simp only [List.setIfInBounds_toArray, List.set_cons_succ, List.set_cons_zero] at hb9; have hvw9 := hide (hvw8.set 2 (.slice A8 n8 c8) hb9); have hln9 := hide (hln8.step (es := [26]) ((Step.refl w.heap.size [26] w8).setCell (p := ⟨g3, 2, none⟩) hvw8.n3 hvw8.b3.bears (.slice A8 n8 c8)) (by decide) (by decide) (by decide)); have s0 := hvw8.b3.cell 0; have s2 := hvw8.b3.cell 2; simp only [List.getElem?_toArray, List.getElem?_cons_succ, List.getElem?_cons_zero] at s0 s2; clear hv8 hst8 hg8 ho8 hln8 hvw8 hb9 hvw7 hlp7 hv7 hone
          refine hK.out _ _ ?_ (fun hHeld => ?_)
          · ((try dsimp only); go_keep)
          clear hK K
          try simp only [Act.put, List.setIfInBounds_toArray, List.set_cons_zero, List.set_cons_succ]
          refine wpAnyT_take (i := 8) (oi := ?_) (v := ?_) ?_ (by kernel_rfl) (by kernel_rfl) (by kernel_rfl) (by kernel_rfl) (by kernel_rfl) ?_ (Or.inl ⟨?_, ?_⟩) (by assumption) ?_
          rotate_left 2
          · (simp only [List.getElem?_toArray, List.getElem?_cons_succ, List.getElem?_cons_zero]; rfl)
          rotate_left 1
          · rfl
          · (intro w hSw; (try dsimp only at hSw); go_simp; try with_reducible rfl)
          rotate_left 1
          · exact fun _ _ _ h => h
          try simp only [Act.put, List.setIfInBounds_toArray, List.set_cons_zero, List.set_cons_succ]
          refine wpAnyT_ready (rs := [9]) (by kernel_rfl) (by simp) ?_
          refine AllReadyT.consL (o := ?_) ?_ (by kernel_rfl) (fun K hK => ?_) AllReadyT.nil
          rotate_left 1
          · (simp only [List.getElem?_toArray, List.getElem?_cons_succ, List.getElem?_cons_zero]; rfl)
          go_simp
          refine hK.out _ _ ?_
          clear hK K
          try simp only [Act.put, List.setIfInBounds_toArray, List.set_cons_zero, List.set_cons_succ]
          refine wpAnyT_done (by kernel_rfl) ?_ _
          clear hHeld s0 s2 f0
          go_wp2
          go_roundw
          case rel => exact ⟨i + 1, _, ps ++ [(.slice A6 cl.length c6, (cl, fl))], s2', b2', by omega, by go_num, by rw [List.length_append, List.length_singleton, ← HIP.out], by rw [List.map_append]; exact HST.out, fun _ => HBD.out, hln9.out, hvw9.out⟩
          case measure => simp [intOf]; omega
end Go.Proofs.YtphdagmaamcapaaDoor

namespace Go.Proofs.YtphdagmaamcapaaDoor
open Go.RowKit
set_option linter.unusedVariables false
set_option linter.unusedSimpArgs false

theorem Equal8_ok (So Si To Ti : Nat → Prop) (x y : Value) (l m : List Int) (w : World) (hx : Slc (Rep.int .u8) So Si w x l) (hy : Slc (Rep.int .u8) To Ti w y m) :
    Calls Tryd.prog 35 #[x, y] w fun e w' => e = .returned (.bool (decide (l = m))) ∧ w = w' := by
  have h1 : ∀ W, W = w → (convert 29 9 x).run Tryd.prog W = .ok (.string (strOfNums l)) W := fun W e => by subst e; exact run_str (P := Tryd.prog) hx 29 9 5 Tryd.underlying29 Tryd.underlying5 Tryd.underlying9
  have h2 : (convert 29 9 y).run Tryd.prog w = .ok (.string (strOfNums m)) w := run_str (P := Tryd.prog) hy 29 9 5 Tryd.underlying29 Tryd.underlying5 Tryd.underlying9
  have h3 := strOfNums_inj (hx.ints_wf) (hy.ints_wf)
  have h1 := h1 w rfl
  obtain ⟨A, c, rfl, _, _, _⟩ := hx.open_
  obtain ⟨B, d, rfl, _, _, _⟩ := hy.open_
  have H3 := hide h3
  clear hx hy h3
  go_enter Tryd.func35, Tryd.ntmps35
  go_wp2
  go_ret
  first | exact ⟨by rw [← H3.out]; rfl, rfl⟩ | exact ⟨by rw [← H3.out], rfl⟩
theorem lineL_small (w : Nat) (hw : w ≤ 1024) : ∀ (f : Nat) (c : List CellV) (s : List Int) (bad : Bool), c.length ≤ 1026 → (lineL w f c s bad).1.length ≤ 1026
  | 0, _, _, _, h => h
  | f + 1, c, s, bad, h => by
    unfold lineL
    split
    · split
      · exact h
      · refine lineL_small w hw f _ _ _ ?_
        rename_i h1 h2
        have : ∀ (ev : Bool) (e : Nat), e ≤ 1024 → ∀ (f : Nat) (c : List CellV) (s : List Int) (bad : Bool), c.length ≤ 1026 → (fillP ev e f c s bad).1.length ≤ 1026 := by
          intro ev e he f
          induction f with
          | zero => intro c s bad h; exact h
          | succ f ih =>
            intro c s bad h
            unfold fillP
            split
            · rename_i hc
              split
              · exact ih _ _ _ (by rw [List.length_append, List.length_singleton]; omega)
              · exact ih _ _ _ (by have := (clusP_len s bad).1; rw [List.length_append]; omega)
            · exact h
        exact this _ _ (by omega) _ _ _ _ h
    · exact h
theorem linesL_small (w : Nat) (hw : w ≤ 1024) : ∀ (f : Nat) (l : List LineV) (s : List Int) (bad : Bool), (∀ p ∈ l, p.1.length ≤ 1026) → (∀ p ∈ (linesL w f l s bad).1, p.1.length ≤ 1026) ∧ (linesL w f l s bad).1.length ≤ l.length + f
  | 0, l, _, _, h => ⟨h, Nat.le_refl _⟩
  | f + 1, l, s, bad, h => by
    unfold linesL
    split
    · exact ⟨h, by simp only; omega⟩
    · have h2 := linesL_small w hw f (l ++ [(lineP w s bad).1]) (lineP w s bad).2.1 (lineP w s bad).2.2 (fun p hp => by
        rcases List.mem_append.1 hp with hp | hp
        · exact h p hp
        · rw [List.mem_singleton] at hp
          subst hp
          exact lineL_small w hw _ _ _ _ (by simp))
      exact ⟨h2.1, by have := h2.2; rw [List.length_append, List.length_singleton] at this; omega⟩
theorem view_small (s : List Int) : (∀ p ∈ (viewP s).1.lines, p.1.length ≤ 1000000) ∧ (viewP s).1.lines.length ≤ 1000000 := by
  have key : ∀ (h : HeadV), (h.bad = false → h.wd ≤ 1024 ∧ h.hi ≤ 1024) → (∀ p ∈ (linesL h.wd h.hi [] h.s h.bad).1, p.1.length ≤ 1000000) ∧ (linesL h.wd h.hi [] h.s h.bad).1.length ≤ 1000000 := by
    intro h hb
    cases hbd : h.bad with
    | true => rw [lines_done _ _ _ _ _ (.inr rfl)]; exact ⟨fun p hp => (by cases hp), by simp⟩
    | false =>
      obtain ⟨h1, h2⟩ := hb hbd
      have := linesL_small h.wd h1 h.hi [] h.s false (fun p hp => by cases hp)
      exact ⟨fun p hp => by have := this.1 p hp; omega, by have := this.2; simp at this; omega⟩
  exact key (headP s) (fun h => by
    unfold headP at h ⊢
    simp only at h ⊢
    rw [Bool.or_eq_false_iff] at h
    have := of_decide_eq_false h.2
    omega)
def GetV (s : List Int) : Option ViewV := if (viewP s).2.2 = true then none else if rightV (viewP s).1 = true ∧ encF (viewP s).1 = s then some (viewP s).1 else none
def GetR (b : Nat → Addr) (s : List Int) (w : World) (e : Ending) (w' : World) : Prop :=
  (∀ v, GetV s = some v → ∃ lv, e = .returned (.tuple #[.agg #[.int .i64 v.wide, .int .i64 v.high, lv, .int .i64 v.row, .int .i64 v.col, .bool v.pend, .bool v.auto], .nilIface]) ∧ Lns w.heap.size w' lv v.lines) ∧
  (GetV s = none → ∃ ev k o, k < 8 ∧ e = .returned (.tuple #[.agg #[.int .i64 0, .int .i64 0, .slice none 0 0, .int .i64 0, .int .i64 0, .bool false, .bool false], ev]) ∧ ErrIs b w' ev k o) ∧ Below w.heap.size w w'
theorem fin_view {B g2 : Nat} {w : World} (wd hi r c : Int) (lv : Value) (p au : Bool) (hb : Blk w g2 26 #[.int .i64 0, .int .i64 0, .slice none 0 0, .int .i64 0, .int .i64 0, .bool false, .bool false]) (hn : B ≤ g2) (W : World) (hW : W = (World.setCell (World.setCell (World.setCell (World.setCell (World.setCell (World.setCell (World.setCell w ⟨g2, 0, none⟩ (.int .i64 wd)) ⟨g2, 1, none⟩ (.int .i64 hi)) ⟨g2, 2, none⟩ (lv)) ⟨g2, 3, none⟩ (.int .i64 r)) ⟨g2, 4, none⟩ (.int .i64 c)) ⟨g2, 5, none⟩ (.bool p)) ⟨g2, 6, none⟩ (.bool au))) :
    Blk W g2 26 #[.int .i64 wd, .int .i64 hi, lv, .int .i64 r, .int .i64 c, .bool p, .bool au] ∧ Step B [26] w W := by
  subst hW
  have k0 := hb
  have t0 := Step.refl B [26] w
  have k1 := k0.set_ 0 (.int .i64 wd)
  have t1 := t0.setCell (p := ⟨g2, 0, none⟩) hn k0.bears (.int .i64 wd)
  have k2 := k1.set_ 1 (.int .i64 hi)
  have t2 := t1.setCell (p := ⟨g2, 1, none⟩) hn k1.bears (.int .i64 hi)
  have k3 := k2.set_ 2 (lv)
  have t3 := t2.setCell (p := ⟨g2, 2, none⟩) hn k2.bears (lv)
  have k4 := k3.set_ 3 (.int .i64 r)
  have t4 := t3.setCell (p := ⟨g2, 3, none⟩) hn k3.bears (.int .i64 r)
  have k5 := k4.set_ 4 (.int .i64 c)
  have t5 := t4.setCell (p := ⟨g2, 4, none⟩) hn k4.bears (.int .i64 c)
  have k6 := k5.set_ 5 (.bool p)
  have t6 := t5.setCell (p := ⟨g2, 5, none⟩) hn k5.bears (.bool p)
  have k7 := k6.set_ 6 (.bool au)
  have t7 := t6.setCell (p := ⟨g2, 6, none⟩) hn k6.bears (.bool au)
  simp only [List.setIfInBounds_toArray, List.set_cons_succ, List.set_cons_zero] at k7
  exact ⟨k7, t7⟩
set_option maxRecDepth 8000 in
set_option maxHeartbeats 8000000 in
theorem get_ok (b : Nat → Addr) (x : Value) (s : List Int) (w : World) (hS : Sents b w) (hx : Slc (Rep.int .u8) (fun b => b < w.heap.size) (fun _ => False) w x s) (hs : s.length ≤ 1000000) :
    Calls Tryd.prog 22 #[x] w (GetR b s w) := by
  obtain ⟨A, c0, rfl, _, _, _⟩ := hx.open_
  have bz := (Blk.new w 26 #[.int .i64 0, .int .i64 0, .slice none 0 0, .int .i64 0, .int .i64 0, .bool false, .bool false]).alloc (.cells #[.slice A s.length c0, .nilIface] 73)
  have br := Blk.new (w.alloc (.cells #[.int .i64 0, .int .i64 0, .slice none 0 0, .int .i64 0, .int .i64 0, .bool false, .bool false] 26)) 73 #[.slice A s.length c0, .nilIface]
  have hsz1 : (w.alloc (.cells #[.int .i64 0, .int .i64 0, .slice none 0 0, .int .i64 0, .int .i64 0, .bool false, .bool false] 26)).heap.size = w.heap.size + 1 := by simp
  rw [hsz1] at br
  have hb2 := ((Below.refl w.heap.size w).alloc (Nat.le_refl _) (.cells #[.int .i64 0, .int .i64 0, .slice none 0 0, .int .i64 0, .int .i64 0, .bool false, .bool false] 26)).alloc (by simp) (.cells #[.slice A s.length c0, .nilIface] 73)
  have hr2 : RdAt b w.heap.size ((w.alloc (.cells #[.int .i64 0, .int .i64 0, .slice none 0 0, .int .i64 0, .int .i64 0, .bool false, .bool false] 26)).alloc (.cells #[.slice A s.length c0, .nilIface] 73)) (w.heap.size + 1) s false :=
    ⟨hS.toB.below hb2, by omega, _, _, br, hx.ints_keep (Keep.below (hb2.mono (Nat.le_refl _))), rfl⟩
  have hw2 : (w.alloc (.cells #[.int .i64 0, .int .i64 0, .slice none 0 0, .int .i64 0, .int .i64 0, .bool false, .bool false] 26)).heap.size ≤ ((w.alloc (.cells #[.int .i64 0, .int .i64 0, .slice none 0 0, .int .i64 0, .int .i64 0, .bool false, .bool false] 26)).alloc (.cells #[.slice A s.length c0, .nilIface] 73)).heap.size := by simp
  have HVW := hide (rview_ok b w.heap.size _ (w.heap.size + 1) s hr2 hs)
  have HX := hide hx
  have HSE := hide hS
  have HBZ := hide bz
  have HB2 := hide hb2
  obtain ⟨hsm1, hsm2⟩ := view_small s
  have HGV : Hid (GetV s = if (viewP s).2.2 = true then none else if rightV (viewP s).1 = true ∧ encF (viewP s).1 = s then some (viewP s).1 else none) := hide rfl
  obtain ⟨⟨⟨wd, hi, ls, r, c, p, au⟩, s', bad'⟩, hq⟩ : ∃ q, viewP s = q := ⟨_, rfl⟩
  rw [hq] at HVW hsm1 hsm2 HGV
  simp only at hsm1 hsm2 HGV
  have HSM := hide (⟨hsm1, hsm2⟩ : _ ∧ _)
  have hww : w.heap.size ≤ ((w.alloc (.cells #[.int .i64 0, .int .i64 0, .slice none 0 0, .int .i64 0, .int .i64 0, .bool false, .bool false] 26)).alloc (.cells #[.slice A s.length c0, .nilIface] 73)).heap.size := by simp; omega
  have HWW := hide hww
  clear bz br hsz1 hb2 hr2 hw2 hx hS hq hsm1 hsm2 hww
  go_enter Tryd.func22, Tryd.ntmps22
  go_upto_region 2 with fail
  obtain ⟨g2, hg2⟩ : ∃ g2, w.heap.size = g2 := ⟨_, rfl⟩
  obtain ⟨g, hg⟩ : ∃ g, w.heap.size + 1 = g := ⟨_, rfl⟩
  have h2le : w.heap.size ≤ g2 := Nat.le_of_eq hg2
  have h2ge : g2 ≤ w.heap.size := Nat.le_of_eq hg2.symm
  have hne : ¬ g = g2 := by omega
  have hne2 : ¬ g2 = g := by omega
  rw [hg] at HVW
  have HBZ2 : Hid (Blk ((w.alloc (.cells #[.int .i64 0, .int .i64 0, .slice none 0 0, .int .i64 0, .int .i64 0, .bool false, .bool false] 26)).alloc (.cells #[.slice A s.length c0, .nilIface] 73)) g2 26 #[.int .i64 0, .int .i64 0, .slice none 0 0, .int .i64 0, .int .i64 0, .bool false, .bool false]) := hide (by rw [← hg2]; exact HBZ.out)
  try rw [hg]
  try rw [hg2]
  generalize (World.alloc (w.alloc (.cells #[.int .i64 0, .int .i64 0, .slice none 0 0, .int .i64 0, .int .i64 0, .bool false, .bool false] 26)) (.cells #[.slice A s.length c0, .nilIface] 73)) = w2 at *
  clear HBZ hg hg2
  go_wp2_with fail
  refine HVW.out.mono ?_
  rintro e w3 ⟨lv, rfl, hln, hr3, hst3⟩
  simp only at hln hr3
  obtain ⟨Al, nl, cl, rfl⟩ : ∃ A n c, lv = .slice A n c := (by obtain ⟨A, c, e, _⟩ := (Lns.slc hln).open_; exact ⟨A, _, c, e⟩)
  have hb3 := HB2.out.trans (hst3.below HWW.out)
  have bz3 := HBZ2.out.step hst3 (by decide)
  have b5 := Blk.new w3 26 #[.int .i64 wd, .int .i64 hi, .slice Al nl cl, .int .i64 r, .int .i64 c, .bool p, .bool au]
  have bz4 := bz3.alloc (.cells #[.int .i64 wd, .int .i64 hi, .slice Al nl cl, .int .i64 r, .int .i64 c, .bool p, .bool au] 26)
  have hr4 := hr3.step (es := []) (Step.alloc1 w.heap.size [] w3 (.cells #[.int .i64 wd, .int .i64 hi, .slice Al nl cl, .int .i64 r, .int .i64 c, .bool p, .bool au] 26)) (by simp) (by simp)
  have hln4 := Lns.alloc hln (.cells #[.int .i64 wd, .int .i64 hi, .slice Al nl cl, .int .i64 r, .int .i64 c, .bool p, .bool au] 26)
  have hb4 := hb3.alloc hb3.size (.cells #[.int .i64 wd, .int .i64 hi, .slice Al nl cl, .int .i64 r, .int .i64 c, .bool p, .bool au] 26)
  have hwl : w2.heap.size ≤ (w3.alloc (.cells #[.int .i64 wd, .int .i64 hi, .slice Al nl cl, .int .i64 r, .int .i64 c, .bool p, .bool au] 26)).heap.size := by have := hst3.size; simp; omega
  have HB4 := hide hb4
  clear HVW HBZ2 HB2 hr3 hst3 hln hb3 bz3 hb4
  go_upto_region 3 with fail
  obtain ⟨g5, hg5⟩ : ∃ g5, w3.heap.size = g5 := ⟨_, rfl⟩
  rw [hg5] at b5
  try rw [hg5]
  generalize w3.alloc (.cells #[.int .i64 wd, .int .i64 hi, .slice Al nl cl, .int .i64 r, .int .i64 c, .bool p, .bool au] 26) = w4 at *
  clear hg5
  obtain ⟨sv, ev, hbk, hsl, herr⟩ := hr4.at_
  have s1c := hbk.cell 1
  simp only [List.getElem?_toArray, List.getElem?_cons_succ, List.getElem?_cons_zero] at s1c
  have HR4 := hide hr4
  have z0 := bz4.cell 0
  have z1 := bz4.cell 1
  have z2 := bz4.cell 2
  have z3 := bz4.cell 3
  have z4 := bz4.cell 4
  have z5 := bz4.cell 5
  have z6 := bz4.cell 6
  have f0 := bz4.frozen 0
  have f1 := bz4.frozen 1
  have f2 := bz4.frozen 2
  have f3 := bz4.frozen 3
  have f4 := bz4.frozen 4
  have f5 := bz4.frozen 5
  have f6 := bz4.frozen 6
  simp only [List.getElem?_toArray, List.getElem?_cons_succ, List.getElem?_cons_zero] at z0 z1 z2 z3 z4 z5 z6
  cases bad' with
  | true =>
    obtain ⟨k', n', hk', pb, rfl, hpb⟩ := (show ∃ k n, k < 8 ∧ ErrB b w4 ev k n from herr)
    have HGN : Hid (GetV s = none) := hide (by rw [HGV.out, if_pos rfl])
    clear hr4 hbk hsl herr
    go_wp2
    go_region
    go_wp2
    obtain ⟨y, ty⟩ := fin_view 0 0 0 0 (.slice none 0 0) false false bz4 h2le _ rfl
    have hbz := HB4.out.trans (ty.below HB4.out.size)
    have hS := HSE.out.below hbz
    have HPB := hide (hpb.step ty (by decide))
    generalize (World.setCell (World.setCell (World.setCell (World.setCell (World.setCell (World.setCell (World.setCell w4 ⟨g2, 0, none⟩ (.int .i64 0)) ⟨g2, 1, none⟩ (.int .i64 0)) ⟨g2, 2, none⟩ (.slice none 0 0)) ⟨g2, 3, none⟩ (.int .i64 0)) ⟨g2, 4, none⟩ (.int .i64 0)) ⟨g2, 5, none⟩ (.bool false)) ⟨g2, 6, none⟩ (.bool false)) = wz at *
    have x0 := y.cell 0
    have x1 := y.cell 1
    have x2 := y.cell 2
    have x3 := y.cell 3
    have x4 := y.cell 4
    have x5 := y.cell 5
    have x6 := y.cell 6
    simp only [List.getElem?_toArray, List.getElem?_cons_succ, List.getElem?_cons_zero] at x0 x1 x2 x3 x4 x5 x6
    refine bodyPost_ret (v := .tuple #[.agg #[.int .i64 0, .int .i64 0, .slice none 0 0, .int .i64 0, .int .i64 0, .bool false, .bool false], .iface 101 (.pointer (some ⟨pb, 0, none⟩))]) (by simp [results, Tryd.results22, go_sem, x0, x1, x2, x3, x4, x5, x6]) rfl ?_
    have hbd : Below w.heap.size w wz.drew := below_drw hbz
    exact ⟨fun v hv => (by rw [HGN.out] at hv; cases hv), fun _ => ⟨_, k', some n', hk', rfl, (show ErrB b wz _ k' n' from ⟨pb, rfl, HPB.out⟩).is⟩, hbd⟩
  | false =>
    obtain rfl : ev = .nilIface := herr
    have hlv := (Lns.slc hln4)
    have HPT := hide (Put_ok b (.slice Al nl cl) wd hi r c p au ls w4 (HSE.out.below HB4.out) hlv HSM.out.1 HSM.out.2)
    have y0 := b5.cell 0
    have y1 := b5.cell 1
    have y2 := b5.cell 2
    have y3 := b5.cell 3
    have y4 := b5.cell 4
    have y5 := b5.cell 5
    have y6 := b5.cell 6
    simp only [List.getElem?_toArray, List.getElem?_cons_succ, List.getElem?_cons_zero] at y0 y1 y2 y3 y4 y5 y6
    have HL4 := hide hln4
    have HZ4 := hide bz4
    have H5 := hide b5
    clear hr4 hbk hsl hlv hln4 z0 z1 z2 z3 z4 z5 z6 f0 f1 f2 f3 f4 f5 f6 bz4 b5
    go_wp2_with fail
    refine HPT.out.mono ?_
    rintro e w5 ⟨hp1, hp2, hc5⟩
    have hb5 := HB4.out.trans (hc5.mono HB4.out.size)
    have bz5 := HZ4.out.same hc5
    have b55 := H5.out.same hc5
    have hln5 := Lns.below HL4.out hc5
    have HB5 := hide hb5
    have HL5 := hide hln5
    clear HPT y0 y1 y2 y3 y4 y5 y6 HL4 HZ4 H5 hc5 hln5
    have z0 := bz5.cell 0
    have z1 := bz5.cell 1
    have z2 := bz5.cell 2
    have z3 := bz5.cell 3
    have z4 := bz5.cell 4
    have z5 := bz5.cell 5
    have z6 := bz5.cell 6
    have f0 := bz5.frozen 0
    have f1 := bz5.frozen 1
    have f2 := bz5.frozen 2
    have f3 := bz5.frozen 3
    have f4 := bz5.frozen 4
    have f5 := bz5.frozen 5
    have f6 := bz5.frozen 6
    have y0 := b55.cell 0
    have y1 := b55.cell 1
    have y2 := b55.cell 2
    have y3 := b55.cell 3
    have y4 := b55.cell 4
    have y5 := b55.cell 5
    have y6 := b55.cell 6
    simp only [List.getElem?_toArray, List.getElem?_cons_succ, List.getElem?_cons_zero] at z0 z1 z2 z3 z4 z5 z6 y0 y1 y2 y3 y4 y5 y6
    have hEF := (HSE.out.below hb5).var 1 (by decide)
    simp only [gOf] at hEF
    have hEg : ¬ 2 = g2 := by
      intro e
      rw [e] at hEF
      rw [hEF] at z0
      cases z0
    cases hrv : rightV ⟨wd, hi, ls, r, c, p, au⟩ with
    | false =>
      obtain rfl := hp2 hrv
      have HGN : Hid (GetV s = none) := hide (by rw [HGV.out, if_neg (by decide), if_neg (by rw [hrv]; rintro ⟨h, _⟩; cases h)])
      clear hp1 hp2 hrv b55
      go_wp2
      go_region
      go_wp2
      obtain ⟨y, ty⟩ := fin_view 0 0 0 0 (.slice none 0 0) false false bz5 h2le _ rfl
      have hbz := HB5.out.trans (ty.below HB5.out.size)
      have hS := HSE.out.below hbz
      generalize (World.setCell (World.setCell (World.setCell (World.setCell (World.setCell (World.setCell (World.setCell w5 ⟨g2, 0, none⟩ (.int .i64 0)) ⟨g2, 1, none⟩ (.int .i64 0)) ⟨g2, 2, none⟩ (.slice none 0 0)) ⟨g2, 3, none⟩ (.int .i64 0)) ⟨g2, 4, none⟩ (.int .i64 0)) ⟨g2, 5, none⟩ (.bool false)) ⟨g2, 6, none⟩ (.bool false)) = wz at *
      have x0 := y.cell 0
      have x1 := y.cell 1
      have x2 := y.cell 2
      have x3 := y.cell 3
      have x4 := y.cell 4
      have x5 := y.cell 5
      have x6 := y.cell 6
      simp only [List.getElem?_toArray, List.getElem?_cons_succ, List.getElem?_cons_zero] at x0 x1 x2 x3 x4 x5 x6
      refine bodyPost_ret (v := .tuple #[.agg #[.int .i64 0, .int .i64 0, .slice none 0 0, .int .i64 0, .int .i64 0, .bool false, .bool false], .iface 123 (.pointer (some (b 1)))]) (by simp [results, Tryd.results22, go_sem, x0, x1, x2, x3, x4, x5, x6]) rfl ?_
      exact ⟨fun v hv => (by rw [HGN.out] at hv; cases hv), fun _ => ⟨_, 1, none, by decide, rfl, rfl⟩, below_drw hbz⟩
    | true =>
      obtain ⟨sv2, rfl, hsv⟩ := hp1 hrv
      have HEQ := hide (Equal8_ok _ _ _ _ sv2 (.slice A s.length c0) (encF ⟨wd, hi, ls, r, c, p, au⟩) s w5 hsv.islc (HX.out.ints_keep (Keep.below (hb5.mono (Nat.le_refl _)))))
      obtain ⟨A5, c5, he5, _, _, _⟩ := hsv.islc.open_
      subst he5
      by_cases heq : encF ⟨wd, hi, ls, r, c, p, au⟩ = s
      · have HGS : Hid (GetV s = some ⟨wd, hi, ls, r, c, p, au⟩) := hide (by rw [HGV.out, if_neg (by decide), if_pos ⟨hrv, heq⟩])
        rw [decide_eq_true heq] at HEQ
        clear hp1 hp2 hrv heq hsv b55
        go_wp2_with fail
        refine HEQ.out.mono ?_
        rintro e w6 ⟨rfl, rfl⟩
        go_wp2
        have HL5D : Lns w.heap.size w5 (.slice Al nl cl) ls := (by obtain ⟨ps, hps, hl⟩ := HL5.out; exact ⟨ps, hps, hl.down HWW.out⟩)
        obtain ⟨y, ty⟩ := fin_view wd hi r c (.slice Al nl cl) p au bz5 h2le _ rfl
        have hbz := HB5.out.trans (ty.below HB5.out.size)
        have hS := HSE.out.below hbz
        have HLZ : Hid (Lns w.heap.size _ (.slice Al nl cl) ls) := hide (HL5D.step ty (by decide) (by decide) (by decide))
        generalize (World.setCell (World.setCell (World.setCell (World.setCell (World.setCell (World.setCell (World.setCell w5 ⟨g2, 0, none⟩ (.int .i64 wd)) ⟨g2, 1, none⟩ (.int .i64 hi)) ⟨g2, 2, none⟩ (.slice Al nl cl)) ⟨g2, 3, none⟩ (.int .i64 r)) ⟨g2, 4, none⟩ (.int .i64 c)) ⟨g2, 5, none⟩ (.bool p)) ⟨g2, 6, none⟩ (.bool au)) = wz at *
        have x0 := y.cell 0
        have x1 := y.cell 1
        have x2 := y.cell 2
        have x3 := y.cell 3
        have x4 := y.cell 4
        have x5 := y.cell 5
        have x6 := y.cell 6
        simp only [List.getElem?_toArray, List.getElem?_cons_succ, List.getElem?_cons_zero] at x0 x1 x2 x3 x4 x5 x6
        refine bodyPost_ret (v := .tuple #[.agg #[.int .i64 wd, .int .i64 hi, .slice Al nl cl, .int .i64 r, .int .i64 c, .bool p, .bool au], .nilIface]) (by simp [results, Tryd.results22, go_sem, x0, x1, x2, x3, x4, x5, x6]) rfl ?_
        exact ⟨fun v hv => (by rw [HGS.out] at hv; injection hv with hv; subst hv; exact ⟨_, rfl, HLZ.out⟩), fun h => (by rw [HGS.out] at h; cases h), hbz⟩
      · have HGN : Hid (GetV s = none) := hide (by rw [HGV.out, if_neg (by decide), if_neg (fun h => heq h.2)])
        rw [decide_eq_false heq] at HEQ
        clear hp1 hp2 hrv heq hsv b55
        go_wp2_with fail
        refine HEQ.out.mono ?_
        rintro e w6 ⟨rfl, rfl⟩
        go_wp2
        go_region
        go_wp2
        obtain ⟨y, ty⟩ := fin_view 0 0 0 0 (.slice none 0 0) false false bz5 h2le _ rfl
        have hbz := HB5.out.trans (ty.below HB5.out.size)
        have hS := HSE.out.below hbz
        generalize (World.setCell (World.setCell (World.setCell (World.setCell (World.setCell (World.setCell (World.setCell w5 ⟨g2, 0, none⟩ (.int .i64 0)) ⟨g2, 1, none⟩ (.int .i64 0)) ⟨g2, 2, none⟩ (.slice none 0 0)) ⟨g2, 3, none⟩ (.int .i64 0)) ⟨g2, 4, none⟩ (.int .i64 0)) ⟨g2, 5, none⟩ (.bool false)) ⟨g2, 6, none⟩ (.bool false)) = wz at *
        have x0 := y.cell 0
        have x1 := y.cell 1
        have x2 := y.cell 2
        have x3 := y.cell 3
        have x4 := y.cell 4
        have x5 := y.cell 5
        have x6 := y.cell 6
        simp only [List.getElem?_toArray, List.getElem?_cons_succ, List.getElem?_cons_zero] at x0 x1 x2 x3 x4 x5 x6
        refine bodyPost_ret (v := .tuple #[.agg #[.int .i64 0, .int .i64 0, .slice none 0 0, .int .i64 0, .int .i64 0, .bool false, .bool false], .iface 123 (.pointer (some (b 1)))]) (by simp [results, Tryd.results22, go_sem, x0, x1, x2, x3, x4, x5, x6]) rfl ?_
        exact ⟨fun v hv => (by rw [HGN.out] at hv; cases hv), fun _ => ⟨_, 1, none, by decide, rfl, rfl⟩, below_drw hbz⟩
end Go.Proofs.YtphdagmaamcapaaDoor

namespace Go.Proofs.YtphdagmaamcapaaDoor
open Go.RowKit
set_option linter.unusedVariables false
set_option linter.unusedSimpArgs false

def GetR2 (b : Nat → Addr) (s : List Int) (w : World) (e : Ending) (w' : World) : Prop :=
  (∀ v, GetV s = some v → ∃ lv, e = .returned (.tuple #[.agg #[.int .i64 v.wide, .int .i64 v.high, lv, .int .i64 v.row, .int .i64 v.col, .bool v.pend, .bool v.auto], .nilIface]) ∧ Lns w.heap.size w' lv v.lines) ∧
  (GetV s = none → e = .returned (.tuple #[.agg #[.int .i64 0, .int .i64 0, .slice none 0 0, .int .i64 0, .int .i64 0, .bool false, .bool false], .iface 123 (.pointer (some (b 1)))])) ∧ Below w.heap.size w w'
set_option maxRecDepth 8000 in
set_option maxHeartbeats 8000000 in
theorem Get_ok (b : Nat → Addr) (x : Value) (s : List Int) (w : World) (hS : Sents b w) (hx : Slc (Rep.int .u8) (fun b => b < w.heap.size) (fun _ => False) w x s) (hs : s.length ≤ 1000000) :
    Calls Tryd.prog 11 #[x] w (GetR2 b s w) := by
  obtain ⟨A, c0, rfl, _, _, _⟩ := hx.open_
  have bz := Blk.new w 26 #[.int .i64 0, .int .i64 0, .slice none 0 0, .int .i64 0, .int .i64 0, .bool false, .bool false]
  have hb1 := (Below.refl w.heap.size w).alloc (Nat.le_refl _) (.cells #[.int .i64 0, .int .i64 0, .slice none 0 0, .int .i64 0, .int .i64 0, .bool false, .bool false] 26)
  have hz1 := hb1.size
  have hS1 := hS.below hb1
  have hx1 : Slc (Rep.int .u8) (fun b => b < (w.alloc (.cells #[.int .i64 0, .int .i64 0, .slice none 0 0, .int .i64 0, .int .i64 0, .bool false, .bool false] 26)).heap.size) (fun _ => False) (w.alloc (.cells #[.int .i64 0, .int .i64 0, .slice none 0 0, .int .i64 0, .int .i64 0, .bool false, .bool false] 26)) (.slice A s.length c0) s := (hx.ints_keep (Keep.alloc _ w _)).ints_keep (Keep.weaken fun b hb => Nat.lt_of_lt_of_le hb hz1)
  have HGT := hide (get_ok b (.slice A s.length c0) s (w.alloc (.cells #[.int .i64 0, .int .i64 0, .slice none 0 0, .int .i64 0, .int .i64 0, .bool false, .bool false] 26)) hS1 hx1 hs)
  have HSE := hide hS
  have hlong : ¬ (16777216 : Int) < s.length := by omega
  clear hS hx hx1 hS1
  go_enter Tryd.func11, Tryd.ntmps11
  go_upto_region 1 with fail
  obtain ⟨g2, hg2⟩ : ∃ g2, w.heap.size = g2 := ⟨_, rfl⟩
  have h2le : w.heap.size ≤ g2 := Nat.le_of_eq hg2
  rw [hg2] at bz
  try rw [hg2]
  generalize w.alloc (.cells #[.int .i64 0, .int .i64 0, .slice none 0 0, .int .i64 0, .int .i64 0, .bool false, .bool false] 26) = w1 at *
  clear hg2
  go_wp2_with fail
  refine HGT.out.mono ?_
  rintro e w2 ⟨hsome, hnone, hc2⟩
  have hb2 := hb1.trans (hc2.mono hz1)
  have bz2 := bz.same hc2
  clear HGT bz
  cases hgv : GetV s with
  | some v =>
    obtain ⟨lv, rfl, hln⟩ := hsome v hgv
    have HG := hide hgv
    obtain ⟨Al, nl, cl, rfl⟩ : ∃ A n c, lv = .slice A n c := (by obtain ⟨A, c, e, _⟩ := (Lns.slc hln).open_; exact ⟨A, _, c, e⟩)
    have hln2 : Lns w.heap.size w2 (.slice Al nl cl) v.lines := by obtain ⟨ps, hps, hl⟩ := hln; exact ⟨ps, hps, hl.down hz1⟩
    have hln3 := Lns.alloc hln2 (.cells #[.int .i64 v.wide, .int .i64 v.high, .slice Al nl cl, .int .i64 v.row, .int .i64 v.col, .bool v.pend, .bool v.auto] 26)
    have bz3 := bz2.alloc (.cells #[.int .i64 v.wide, .int .i64 v.high, .slice Al nl cl, .int .i64 v.row, .int .i64 v.col, .bool v.pend, .bool v.auto] 26)
    have b4 := Blk.new w2 26 #[.int .i64 v.wide, .int .i64 v.high, .slice Al nl cl, .int .i64 v.row, .int .i64 v.col, .bool v.pend, .bool v.auto]
    have hb3 := hb2.alloc hb2.size (.cells #[.int .i64 v.wide, .int .i64 v.high, .slice Al nl cl, .int .i64 v.row, .int .i64 v.col, .bool v.pend, .bool v.auto] 26)
    clear hsome hnone hgv hln hln2 bz2 hc2
    go_upto_region 4 with fail
    obtain ⟨g4, hg4⟩ : ∃ g4, w2.heap.size = g4 := ⟨_, rfl⟩
    rw [hg4] at b4
    try rw [hg4]
    generalize w2.alloc (.cells #[.int .i64 v.wide, .int .i64 v.high, .slice Al nl cl, .int .i64 v.row, .int .i64 v.col, .bool v.pend, .bool v.auto] 26) = w3 at *
    clear hg4
    have hS3 := HSE.out.below hb3
    have e6 := hS3.var 6 (by decide)
    have e0 := hS3.var 0 (by decide)
    have e2 := hS3.var 2 (by decide)
    simp only [gOf] at e6 e0 e2
    have bk := Blk.new w3 31 #[.iface 123 (.pointer (some (b 6))), .iface 123 (.pointer (some (b 0))), .iface 123 (.pointer (some (b 2)))]
    have bz5 := bz3.alloc (.cells #[.iface 123 (.pointer (some (b 6))), .iface 123 (.pointer (some (b 0))), .iface 123 (.pointer (some (b 2)))] 31)
    have b5 := b4.alloc (.cells #[.iface 123 (.pointer (some (b 6))), .iface 123 (.pointer (some (b 0))), .iface 123 (.pointer (some (b 2)))] 31)
    have hb5 := hb3.alloc hb3.size (.cells #[.iface 123 (.pointer (some (b 6))), .iface 123 (.pointer (some (b 0))), .iface 123 (.pointer (some (b 2)))] 31)
    have hln5 := Lns.alloc hln3 (.cells #[.iface 123 (.pointer (some (b 6))), .iface 123 (.pointer (some (b 0))), .iface 123 (.pointer (some (b 2)))] 31)
    have HL5 := hide hln5
    have HB5 := hide hb5
    clear hS3 bz3 b4 hb3 hln3 hb2
    go_wp2_with fail
    obtain ⟨gk, hgk⟩ : ∃ gk, w3.heap.size = gk := ⟨_, rfl⟩
    rw [hgk] at bk
    try rw [hgk]
    generalize w3.alloc (.cells #[.iface 123 (.pointer (some (b 6))), .iface 123 (.pointer (some (b 0))), .iface 123 (.pointer (some (b 2)))] 31) = w5 at *
    clear hgk e6 e0 e2
    go_loopw [5, 7, 23] (fun ev _ iv wr => ev = .nilIface ∧ (∃ k : Nat, k ≤ 3 ∧ iv = .int .i64 k) ∧ w5 = wr) (fun _ _ iv _ => 3 - (intOf iv).toNat)
    case atStart => exact ⟨rfl, ⟨0, by decide, rfl⟩, rfl⟩
    case round =>
      obtain ⟨rfl, ⟨k, hk, rfl⟩, rfl⟩ := hrel
      have n6 := hide (is_nil (b 6) w5)
      have n0 := hide (is_nil (b 0) w5)
      have n2 := hide (is_nil (b 2) w5)
      rcases (show k = 0 ∨ k = 1 ∨ k = 2 ∨ k = 3 by omega) with rfl | rfl | rfl | rfl
      · have q := bk.cell 0
        simp only [List.getElem?_toArray, List.getElem?_cons_succ, List.getElem?_cons_zero] at q
        go_wp2_with fail
        refine n6.out.mono ?_
        rintro e w6 ⟨rfl, rfl⟩
        go_wp2
        go_roundw
        case rel => exact ⟨rfl, ⟨1, by decide, by go_num⟩, by first | rfl | trivial⟩
        case measure => simp [intOf]
      · have q := bk.cell 1
        simp only [List.getElem?_toArray, List.getElem?_cons_succ, List.getElem?_cons_zero] at q
        go_wp2_with fail
        refine n0.out.mono ?_
        rintro e w6 ⟨rfl, rfl⟩
        go_wp2
        go_roundw
        case rel => exact ⟨rfl, ⟨2, by decide, by go_num⟩, by first | rfl | trivial⟩
        case measure => simp [intOf]
      · have q := bk.cell 2
        simp only [List.getElem?_toArray, List.getElem?_cons_succ, List.getElem?_cons_zero] at q
        go_wp2_with fail
        refine n2.out.mono ?_
        rintro e w6 ⟨rfl, rfl⟩
        go_wp2
        go_roundw
        case rel => exact ⟨rfl, ⟨3, by decide, by go_num⟩, by first | rfl | trivial⟩
        case measure => simp [intOf]
      · have z0 := bz5.cell 0
        have z1 := bz5.cell 1
        have z2 := bz5.cell 2
        have z3 := bz5.cell 3
        have z4 := bz5.cell 4
        have z5 := bz5.cell 5
        have z6 := bz5.cell 6
        have f0 := bz5.frozen 0
        have f1 := bz5.frozen 1
        have f2 := bz5.frozen 2
        have f3 := bz5.frozen 3
        have f4 := bz5.frozen 4
        have f5 := bz5.frozen 5
        have f6 := bz5.frozen 6
        have y0 := b5.cell 0
        have y1 := b5.cell 1
        have y2 := b5.cell 2
        have y3 := b5.cell 3
        have y4 := b5.cell 4
        have y5 := b5.cell 5
        have y6 := b5.cell 6
        simp only [List.getElem?_toArray, List.getElem?_cons_succ, List.getElem?_cons_zero] at z0 z1 z2 z3 z4 z5 z6 y0 y1 y2 y3 y4 y5 y6
        clear n6 n0 n2 b5 bk
        go_wp2
        obtain ⟨y, ty⟩ := fin_view v.wide v.high v.row v.col (.slice Al nl cl) v.pend v.auto bz5 h2le _ rfl
        have hbz := HB5.out.trans (ty.below HB5.out.size)
        have HLZ : Hid (Lns w.heap.size _ (.slice Al nl cl) v.lines) := hide (Lns.step HL5.out ty (by decide) (by decide) (by decide))
        generalize (World.setCell (World.setCell (World.setCell (World.setCell (World.setCell (World.setCell (World.setCell w5 ⟨g2, 0, none⟩ (.int .i64 v.wide)) ⟨g2, 1, none⟩ (.int .i64 v.high)) ⟨g2, 2, none⟩ (.slice Al nl cl)) ⟨g2, 3, none⟩ (.int .i64 v.row)) ⟨g2, 4, none⟩ (.int .i64 v.col)) ⟨g2, 5, none⟩ (.bool v.pend)) ⟨g2, 6, none⟩ (.bool v.auto)) = wz at *
        have x0 := y.cell 0
        have x1 := y.cell 1
        have x2 := y.cell 2
        have x3 := y.cell 3
        have x4 := y.cell 4
        have x5 := y.cell 5
        have x6 := y.cell 6
        simp only [List.getElem?_toArray, List.getElem?_cons_succ, List.getElem?_cons_zero] at x0 x1 x2 x3 x4 x5 x6
        refine bodyPost_ret (v := .tuple #[.agg #[.int .i64 v.wide, .int .i64 v.high, .slice Al nl cl, .int .i64 v.row, .int .i64 v.col, .bool v.pend, .bool v.auto], .nilIface]) (by simp [results, Tryd.results11, go_sem, x0, x1, x2, x3, x4, x5, x6]) rfl ?_
        exact ⟨fun v' hv => (by rw [HG.out] at hv; injection hv with hv; subst hv; exact ⟨_, rfl, HLZ.out⟩), fun h => (by rw [HG.out] at h; cases h), hbz⟩
  | none =>
    obtain ⟨ev, k0, o0, hk0, rfl, hev⟩ := hnone hgv
    have HG := hide hgv
    have bz3 := bz2.alloc (.cells #[.int .i64 0, .int .i64 0, .slice none 0 0, .int .i64 0, .int .i64 0, .bool false, .bool false] 26)
    have hb3 := hb2.alloc hb2.size (.cells #[.int .i64 0, .int .i64 0, .slice none 0 0, .int .i64 0, .int .i64 0, .bool false, .bool false] 26)
    have hev3 := hev.below ((Below.refl w2.heap.size w2).alloc (Nat.le_refl _) (.cells #[.int .i64 0, .int .i64 0, .slice none 0 0, .int .i64 0, .int .i64 0, .bool false, .bool false] 26))
    have HEV := hide hev3
    clear hsome hnone hgv hev hev3 bz2 hc2
    go_upto_region 4 with fail
    generalize w2.alloc (.cells #[.int .i64 0, .int .i64 0, .slice none 0 0, .int .i64 0, .int .i64 0, .bool false, .bool false] 26) = w3 at *
    have hS3 := HSE.out.below hb3
    have e6 := hS3.var 6 (by decide)
    have e0 := hS3.var 0 (by decide)
    have e2 := hS3.var 2 (by decide)
    simp only [gOf] at e6 e0 e2
    have bk := Blk.new w3 31 #[.iface 123 (.pointer (some (b 6))), .iface 123 (.pointer (some (b 0))), .iface 123 (.pointer (some (b 2)))]
    have bz5 := bz3.alloc (.cells #[.iface 123 (.pointer (some (b 6))), .iface 123 (.pointer (some (b 0))), .iface 123 (.pointer (some (b 2)))] 31)
    have hb5 := hb3.alloc hb3.size (.cells #[.iface 123 (.pointer (some (b 6))), .iface 123 (.pointer (some (b 0))), .iface 123 (.pointer (some (b 2)))] 31)
    have HE5 := hide (HEV.out.below ((Below.refl w3.heap.size w3).alloc (Nat.le_refl _) (.cells #[.iface 123 (.pointer (some (b 6))), .iface 123 (.pointer (some (b 0))), .iface 123 (.pointer (some (b 2)))] 31)))
    have HB5 := hide hb5
    clear hS3 bz3 hb3 hb2 HEV
    go_wp2_with fail
    obtain ⟨gk, hgk⟩ : ∃ gk, w3.heap.size = gk := ⟨_, rfl⟩
    rw [hgk] at bk
    try rw [hgk]
    generalize w3.alloc (.cells #[.iface 123 (.pointer (some (b 6))), .iface 123 (.pointer (some (b 0))), .iface 123 (.pointer (some (b 2)))] 31) = w5 at *
    clear hgk e6 e0 e2
    have hS5 := HSE.out.below hb5
    have hEF := hS5.var 1 (by decide)
    simp only [gOf] at hEF
    have HS5 := hide hS5
    clear hS5
    go_loopw [5, 7, 23] (fun ev _ iv wr => (∃ k' o', k' < 8 ∧ ErrIs b w5 ev k' o') ∧ (∃ k : Nat, k ≤ 3 ∧ iv = .int .i64 k) ∧ w5 = wr) (fun _ _ iv _ => 3 - (intOf iv).toNat)
    case atStart => exact ⟨⟨k0, o0, hk0, HE5.out⟩, ⟨0, by decide, rfl⟩, rfl⟩
    case round =>
      clear HE5
      obtain ⟨⟨k', o', hk', hev⟩, ⟨k, hk, rfl⟩, rfl⟩ := hrel
      obtain ⟨te, ue, rfl⟩ := hev.form
      have n6 := hide (Is_ok b _ k' 6 o' w5 HS5.out hev hk' (by decide))
      have n0 := hide (Is_ok b _ k' 0 o' w5 HS5.out hev hk' (by decide))
      have n2 := hide (Is_ok b _ k' 2 o' w5 HS5.out hev hk' (by decide))
      have HEV := hide hev
      clear hev
      rcases (show k = 0 ∨ k = 1 ∨ k = 2 ∨ k = 3 by omega) with rfl | rfl | rfl | rfl
      · have q := bk.cell 0
        simp only [List.getElem?_toArray, List.getElem?_cons_succ, List.getElem?_cons_zero] at q
        go_wp2_with fail
        refine n6.out.mono ?_
        rintro e w6 ⟨rfl, rfl⟩
        clear q
        by_cases hkj : k' = 6
        · rw [decide_eq_true hkj]
          go_wp2
          go_roundw
          case rel => exact ⟨⟨1, none, by decide, rfl⟩, ⟨1, by decide, by go_num⟩, by first | rfl | trivial⟩
          case measure => simp [intOf]
        · rw [decide_eq_false hkj]
          go_wp2
          go_roundw
          case rel => exact ⟨⟨k', o', hk', HEV.out⟩, ⟨1, by decide, by go_num⟩, by first | rfl | trivial⟩
          case measure => simp [intOf]
      · have q := bk.cell 1
        simp only [List.getElem?_toArray, List.getElem?_cons_succ, List.getElem?_cons_zero] at q
        go_wp2_with fail
        refine n0.out.mono ?_
        rintro e w6 ⟨rfl, rfl⟩
        clear q
        by_cases hkj : k' = 0
        · rw [decide_eq_true hkj]
          go_wp2
          go_roundw
          case rel => exact ⟨⟨1, none, by decide, rfl⟩, ⟨2, by decide, by go_num⟩, by first | rfl | trivial⟩
          case measure => simp [intOf]
        · rw [decide_eq_false hkj]
          go_wp2
          go_roundw
          case rel => exact ⟨⟨k', o', hk', HEV.out⟩, ⟨2, by decide, by go_num⟩, by first | rfl | trivial⟩
          case measure => simp [intOf]
      · have q := bk.cell 2
        simp only [List.getElem?_toArray, List.getElem?_cons_succ, List.getElem?_cons_zero] at q
        go_wp2_with fail
        refine n2.out.mono ?_
        rintro e w6 ⟨rfl, rfl⟩
        clear q
        by_cases hkj : k' = 2
        · rw [decide_eq_true hkj]
          go_wp2
          go_roundw
          case rel => exact ⟨⟨1, none, by decide, rfl⟩, ⟨3, by decide, by go_num⟩, by first | rfl | trivial⟩
          case measure => simp [intOf]
        · rw [decide_eq_false hkj]
          go_wp2
          go_roundw
          case rel => exact ⟨⟨k', o', hk', HEV.out⟩, ⟨3, by decide, by go_num⟩, by first | rfl | trivial⟩
          case measure => simp [intOf]
      · have z0 := bz5.cell 0
        have z1 := bz5.cell 1
        have z2 := bz5.cell 2
        have z3 := bz5.cell 3
        have z4 := bz5.cell 4
        have z5 := bz5.cell 5
        have z6 := bz5.cell 6
        have f0 := bz5.frozen 0
        have f1 := bz5.frozen 1
        have f2 := bz5.frozen 2
        have f3 := bz5.frozen 3
        have f4 := bz5.frozen 4
        have f5 := bz5.frozen 5
        have f6 := bz5.frozen 6
        simp only [List.getElem?_toArray, List.getElem?_cons_succ, List.getElem?_cons_zero] at z0 z1 z2 z3 z4 z5 z6
        have hEg : ¬ 2 = g2 := by
          intro e
          rw [e] at hEF
          rw [hEF] at z0
          cases z0
        clear n6 n0 n2 bk
        go_wp2
        go_region
        go_wp2
        obtain ⟨y, ty⟩ := fin_view 0 0 0 0 (.slice none 0 0) false false bz5 h2le _ rfl
        have hbz := HB5.out.trans (ty.below HB5.out.size)
        generalize (World.setCell (World.setCell (World.setCell (World.setCell (World.setCell (World.setCell (World.setCell w5 ⟨g2, 0, none⟩ (.int .i64 0)) ⟨g2, 1, none⟩ (.int .i64 0)) ⟨g2, 2, none⟩ (.slice none 0 0)) ⟨g2, 3, none⟩ (.int .i64 0)) ⟨g2, 4, none⟩ (.int .i64 0)) ⟨g2, 5, none⟩ (.bool false)) ⟨g2, 6, none⟩ (.bool false)) = wz at *
        have x0 := y.cell 0
        have x1 := y.cell 1
        have x2 := y.cell 2
        have x3 := y.cell 3
        have x4 := y.cell 4
        have x5 := y.cell 5
        have x6 := y.cell 6
        simp only [List.getElem?_toArray, List.getElem?_cons_succ, List.getElem?_cons_zero] at x0 x1 x2 x3 x4 x5 x6
        refine bodyPost_ret (v := .tuple #[.agg #[.int .i64 0, .int .i64 0, .slice none 0 0, .int .i64 0, .int .i64 0, .bool false, .bool false], .iface 123 (.pointer (some (b 1)))]) (by simp [results, Tryd.results11, go_sem, x0, x1, x2, x3, x4, x5, x6]) rfl ?_
        exact ⟨fun v hv => (by rw [HG.out] at hv; cases hv), fun _ => rfl, below_drw hbz⟩
end Go.Proofs.YtphdagmaamcapaaDoor
