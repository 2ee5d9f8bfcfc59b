/-
  Views, plain: their words in memory; which are right; all that is wrong with one.
-/
import Derived.Test.YtphdagmaamcapaaDoorCell2
namespace Go.Proofs.YtphdagmaamcapaaDoor
open Go.RowKit
set_option linter.unusedVariables false
set_option linter.unusedSimpArgs false

/-- A line: its cells, and whether it goes on. -/
abbrev LineV : Type := List CellV × Bool
def RLine : Rep LineV := Rep.pair (Rep.slice RCell) Rep.bool
structure ViewV where
  wide : Int
  high : Int
  lines : List LineV
  row : Int
  col : Int
  pend : Bool
  auto : Bool
def RView : Rep ViewV := Rep.map (Rep.pair (Rep.int .i64) (Rep.pair (Rep.int .i64) (Rep.pair (Rep.slice RLine) (Rep.pair (Rep.pair (Rep.int .i64) (Rep.pair (Rep.int .i64) Rep.bool)) Rep.bool)))) (fun v => (v.wide, v.high, v.lines, (v.row, v.col, v.pend), v.auto))

theorem view_open {S : Nat → Prop} {w : World} {cs : List Value} {v : ViewV} (h : RView.E S w cs v) :
    ∃ x, cs = [.int .i64 v.wide, .int .i64 v.high, x, .int .i64 v.row, .int .i64 v.col, .bool v.pend, .bool v.auto] ∧ (Lit.int .i64 v.wide).wf = true ∧ (Lit.int .i64 v.high).wf = true ∧ (Lit.int .i64 v.row).wf = true ∧ (Lit.int .i64 v.col).wf = true ∧ Slc RLine S S w x v.lines := by
  obtain ⟨a1, a2, rfl, ⟨rfl, h1⟩, b1, b2, rfl, ⟨rfl, h2⟩, c1, c2, rfl, ⟨x, rfl, h3⟩, d1, d2, rfl, ⟨e1, e2, rfl, ⟨rfl, h4⟩, f1, f2, rfl, ⟨rfl, h5⟩, h6⟩, h7⟩ := h
  cases h6
  cases h7
  exact ⟨x, rfl, h1, h2, h4, h5, h3⟩

/-- A line in a row of lines. -/
theorem line_at {So Si : Nat → Prop} {w : World} {A : Option Addr} {l : List LineV} (h : SlB RLine So Si w A l) {k : Nat} (hk : k < l.length) :
    ∃ b off v, A = some ⟨b, off, none⟩ ∧ So b ∧ w.cell? ⟨b, off + k * 2, none⟩ = some v ∧ w.cell? ⟨b, off + k * 2 + 1, none⟩ = some (.bool l[k].2) ∧ Slc RCell Si Si w v l[k].1 := by
  obtain ⟨b, off, u, rfl, hs, hu, hc⟩ := h.at_ (k := k) (x := l[k]) (List.getElem?_eq_getElem hk) (by decide)
  obtain ⟨v1, v2, rfl, ⟨v, rfl, hv⟩, hb⟩ := hu
  cases hb
  have h0 := hc 0 (by decide)
  have h1 := hc 1 (by decide)
  have e : RLine.sz = 2 := rfl
  rw [e] at h0 h1
  simp only [← Nat.add_assoc, Nat.add_zero] at h0 h1
  exact ⟨b, off, v, rfl, hs, h0, h1, hv⟩
/-- All lines of a row of lines at once. -/
theorem lines_all {So Si : Nat → Prop} {w : World} {A : Option Addr} {l : List LineV} (h : SlB RLine So Si w A l) (h0 : 0 < l.length) :
    ∃ b off, A = some ⟨b, off, none⟩ ∧ So b ∧ ∀ k (hk : k < l.length), ∃ A2 c2, w.cell? ⟨b, off + k * 2, none⟩ = some (.slice A2 l[k].1.length c2) ∧ w.cell? ⟨b, off + k * 2 + 1, none⟩ = some (.bool l[k].2) ∧ Slc RCell Si Si w (.slice A2 l[k].1.length c2) l[k].1 := by
  obtain ⟨b, off, v, rfl, hS, _⟩ := line_at h h0
  refine ⟨b, off, rfl, hS, fun k hk => ?_⟩
  obtain ⟨b', off', v', he, _, q0, q1, hv⟩ := line_at h hk
  cases he
  obtain ⟨A2, c2, rfl, _, _, _⟩ := hv.open_
  exact ⟨A2, c2, q0, q1, hv⟩

/-! ### What is right -/
def sideF (n : Int) : Int := max 1 (min n 1024)
def curRight (r c : Int) (p : Bool) (w h : Int) : Bool := decide (0 ≤ r ∧ r < sideF h ∧ 0 ≤ c ∧ c < sideF w ∧ (p = true → c = sideF w - 1))
def headR (v : ViewV) : Bool := decide (v.high = v.lines.length ∧ 1 ≤ v.high ∧ v.high ≤ 1024 ∧ 1 ≤ v.wide ∧ v.wide ≤ 1024)
def lineR (wd : Int) (l : LineV) : Bool := decide ((l.1.length : Int) = wd) && soundB l.1
def rightV (v : ViewV) : Bool := headR v && curRight v.row v.col v.pend v.wide v.high && v.lines.all (lineR v.wide)

/-! ### All that is wrong -/
/-- Its line, its column (-1: none), its number. -/
abbrev FoundV : Type := Int × Int × Int
def wrongAt (l : List CellV) (k : Nat) : Int :=
  if h : k < l.length then (if rightB l[k] = false then 5 else if (l[k].1 = 2 ∧ kindI l ((k : Int) + 1) ≠ 3) ∨ (l[k].1 = 3 ∧ kindI l ((k : Int) - 1) ≠ 2) then 2 else 0) else 0
def lookC (i : Nat) (l : List CellV) (n : Nat) : List FoundV := (List.range n).flatMap fun k => if wrongAt l k = 0 then [] else [((i : Int), (k : Int), wrongAt l k)]
def lookL (wd : Int) (i : Nat) (l : LineV) : List FoundV := (if (l.1.length : Int) = wd then [] else [((i : Int), -1, 4)]) ++ lookC i l.1 l.1.length
def lookN (wd : Int) (ls : List LineV) (n : Nat) : List FoundV := (List.range n).flatMap fun i => lookL wd i (ls.getD i ([], false))
def lookF (v : ViewV) : List FoundV := (if headR v = true then [] else [(-1, -1, 3)]) ++ lookN v.wide v.lines v.lines.length ++ (if curRight v.row v.col v.pend v.wide v.high = true then [] else [(-1, -1, 8)])

theorem lookC_snoc (i : Nat) (l : List CellV) (n : Nat) : lookC i l (n + 1) = lookC i l n ++ (if wrongAt l n = 0 then [] else [((i : Int), (n : Int), wrongAt l n)]) := by
  unfold lookC
  rw [List.range_succ, List.flatMap_append]; simp
theorem lookN_snoc (wd : Int) (ls : List LineV) (n : Nat) (h : n < ls.length) : lookN wd ls (n + 1) = lookN wd ls n ++ lookL wd n ls[n] := by
  unfold lookN
  rw [List.range_succ, List.flatMap_append]
  simp [List.getD_eq_getElem?_getD, List.getElem?_eq_getElem h]

theorem wrong_to (l : List CellV) : ∀ k, k ≤ l.length → (∀ j, j < k → wrongAt l j = 0) → SoundTo l k
  | 0, _, _ => SoundTo.zero l
  | k + 1, hk, h => by
    have ih := wrong_to l k (by omega) (fun j hj => h j (by omega))
    have hw := h k (by omega)
    have hkl : k < l.length := by omega
    unfold wrongAt at hw
    rw [dif_pos hkl] at hw
    by_cases h1 : rightB l[k] = false
    · rw [if_pos h1] at hw; cases hw
    · rw [if_neg h1] at hw
      by_cases h2 : (l[k].1 = 2 ∧ kindI l ((k : Int) + 1) ≠ 3) ∨ (l[k].1 = 3 ∧ kindI l ((k : Int) - 1) ≠ 2)
      · rw [if_pos h2] at hw; cases hw
      · refine ih.step hkl (by simpa using h1) (fun e => ?_) (fun e => ?_)
        · exact Decidable.byContradiction fun n => h2 (.inl ⟨e, n⟩)
        · exact Decidable.byContradiction fun n => h2 (.inr ⟨e, n⟩)
theorem wrong_sound (l : List CellV) : (∀ k, k < l.length → wrongAt l k = 0) ↔ soundB l = true := by
  constructor
  · intro h
    exact (wrong_to l l.length (Nat.le_refl _) h).all
  · intro hs
    have : ∀ n k, k < n → k < l.length → wrongAt l k = 0 := by
      intro n
      induction n with
      | zero => intro k h; omega
      | succ n ih =>
        intro k hk hkl
        by_cases h : k < n
        · exact ih k h hkl
        · obtain rfl : k = n := by omega
          have hto := wrong_to l k (by omega) (fun j hj => ih j hj (by omega))
          refine Decidable.byContradiction fun hne => ?_
          have hb : rightB l[k] = false ∨ (l[k].1 = 2 ∧ kindI l ((k : Int) + 1) ≠ 3) ∨ (l[k].1 = 3 ∧ kindI l ((k : Int) - 1) ≠ 2) := by
            unfold wrongAt at hne
            rw [dif_pos hkl] at hne
            by_cases h1 : rightB l[k] = false
            · exact .inl h1
            · rw [if_neg h1] at hne
              by_cases h2 : (l[k].1 = 2 ∧ kindI l ((k : Int) + 1) ≠ 3) ∨ (l[k].1 = 3 ∧ kindI l ((k : Int) - 1) ≠ 2)
              · exact .inr h2
              · rw [if_neg h2] at hne; exact absurd rfl hne
          have := hto.bad hkl hb
          rw [hs] at this
          cases this
    exact fun k hk => this (k + 1) k (by omega) hk
theorem lookC_nil (i : Nat) (l : List CellV) : lookC i l l.length = [] ↔ soundB l = true := by
  rw [← wrong_sound]
  unfold lookC
  rw [List.flatMap_eq_nil_iff]
  constructor
  · intro h k hk
    have := h k (List.mem_range.2 hk)
    refine Decidable.byContradiction fun hne => ?_
    rw [if_neg hne] at this
    cases this
  · intro h k hk
    rw [if_pos (h k (List.mem_range.1 hk))]
theorem lookL_nil (wd : Int) (i : Nat) (l : LineV) : lookL wd i l = [] ↔ lineR wd l = true := by
  unfold lookL lineR
  rw [List.append_eq_nil_iff, lookC_nil, Bool.and_eq_true, decide_eq_true_eq]
  constructor
  · rintro ⟨h1, h2⟩
    refine ⟨?_, h2⟩
    refine Decidable.byContradiction fun hne => ?_
    rw [if_neg hne] at h1
    cases h1
  · rintro ⟨h1, h2⟩
    exact ⟨if_pos h1, h2⟩
theorem lookN_nil (wd : Int) (ls : List LineV) : lookN wd ls ls.length = [] ↔ ls.all (lineR wd) = true := by
  unfold lookN
  rw [List.flatMap_eq_nil_iff, List.all_eq_true]
  constructor
  · intro h l hl
    obtain ⟨k, hk, rfl⟩ := List.getElem_of_mem hl
    have := h k (List.mem_range.2 hk)
    rw [lookL_nil] at this
    simpa [List.getD_eq_getElem?_getD, List.getElem?_eq_getElem hk] using this
  · intro h k hk
    rw [lookL_nil]
    have hk := List.mem_range.1 hk
    have := h ls[k] (List.getElem_mem _)
    simpa [List.getD_eq_getElem?_getD, List.getElem?_eq_getElem hk] using this
theorem lookF_nil (v : ViewV) : (lookF v).length = 0 ↔ rightV v = true := by
  rw [List.length_eq_zero_iff]
  unfold lookF rightV
  rw [List.append_eq_nil_iff, List.append_eq_nil_iff, lookN_nil, Bool.and_eq_true, Bool.and_eq_true]
  constructor
  · rintro ⟨⟨h1, h2⟩, h3⟩
    refine ⟨⟨?_, ?_⟩, h2⟩
    · refine Decidable.byContradiction fun hne => ?_
      rw [if_neg hne] at h1
      cases h1
    · refine Decidable.byContradiction fun hne => ?_
      rw [if_neg hne] at h3
      cases h3
  · rintro ⟨⟨h1, h3⟩, h2⟩
    exact ⟨⟨if_pos h1, h2⟩, if_pos h3⟩
end Go.Proofs.YtphdagmaamcapaaDoor
