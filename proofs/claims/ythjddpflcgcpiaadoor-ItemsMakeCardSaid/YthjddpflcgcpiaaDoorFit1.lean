/-
  What the functions of fit that cut a strip, and make a row of another width, return. Each function once.
-/
import Derived.Test.YthjddpflcgcpiaaDoorRow3
import Derived.Test.YthjddpflcgcpiaaDoorFit0
import Derived.Test.YthjddpflcgcpiaaDoorCell2
namespace Go.Proofs.YthjddpflcgcpiaaDoor
open Go.RowKit
set_option linter.unusedVariables false
set_option linter.unusedSimpArgs false

/-- The first cells of a strip; a Lead at their end is a blank. -/
def cutF : List CellV → Nat → List CellV
  | _, 0 => []
  | [], _ + 1 => []
  | c :: l, 1 => if c.1 = 2 then [(0, [])] else [c]
  | c :: l, n + 2 => c :: cutF l (n + 1)
theorem cut_len : ∀ (l : List CellV) (n : Nat), n ≤ l.length → (cutF l n).length = n
  | _, 0, _ => by simp [cutF]
  | [], n + 1, h => by simp at h
  | c :: l, 1, _ => by simp only [cutF]; split <;> rfl
  | c :: l, n + 2, h => by simp only [cutF, List.length_cons]; rw [cut_len l (n + 1) (by simpa using h)]
theorem cut_set : ∀ (l : List CellV) (n : Nat) (hn : n < l.length), cutF l (n + 1) = if l[n].1 = 2 then (l.take (n + 1)).set n (0, []) else l.take (n + 1)
  | [], n, h => by simp at h
  | c :: l, 0, _ => by simp only [cutF, List.getElem_cons_zero]; split <;> simp
  | c :: l, n + 1, h => by
    have ih := cut_set l n (by simpa using h)
    simp only [cutF, List.getElem_cons_succ, List.take_succ_cons, List.set_cons_succ] at ih ⊢
    rw [ih]
    split <;> rfl
theorem sound_blanks2 : ∀ n, soundG false (List.replicate n ((0, []) : CellV)) = true
  | 0 => rfl
  | n + 1 => by
    rw [List.replicate_succ]
    simp only [soundG]
    rw [show decide ((0 : Int) = 2) = false by decide, sound_blanks2 n]
    decide
theorem cut_sound : ∀ (l : List CellV) (n : Nat) (lead : Bool) (k : Nat), 0 < n → n ≤ l.length → soundG lead l = true → soundG lead (cutF l n ++ List.replicate k (0, [])) = true
  | _, 0, _, _, h, _, _ => by omega
  | [], n + 1, _, _, _, h, _ => by simp at h
  | c :: l, 1, lead, k, _, _, h => by
    simp only [soundG, Bool.and_eq_true] at h
    obtain ⟨⟨h1, h2⟩, h3⟩ := h
    simp only [cutF]
    have hb := sound_blanks2 k
    by_cases hc : c.1 = 2
    · rw [if_pos hc]
      rw [hc] at h2
      simp only [List.singleton_append, soundG, Bool.and_eq_true]
      exact ⟨⟨by decide, by simpa using h2⟩, by simpa using hb⟩
    · rw [if_neg hc]
      simp only [List.singleton_append, soundG, Bool.and_eq_true]
      exact ⟨⟨h1, h2⟩, by simpa [hc] using hb⟩
  | c :: l, n + 2, lead, k, _, hl, h => by
    simp only [soundG, Bool.and_eq_true] at h
    obtain ⟨h1, h3⟩ := h
    simp only [cutF, List.cons_append, soundG, Bool.and_eq_true]
    exact ⟨h1, cut_sound l (n + 1) _ k (by omega) (by simpa using hl) h3⟩
theorem Slc.recap {α : Type} {R : Rep α} {So Si : Nat → Prop} {w : World} {A : Option Addr} {n c c' : Nat} {l : List α} (h : Slc R So Si w (.slice A n c) l) (hc : n ≤ c') (hm : c' ≤ maxLen) : Slc R So Si w (.slice A n c') l := by
  obtain ⟨A', d, he, h1, h2, h3⟩ := h
  injection he with e1 e2 e3
  subst e1; subst e2
  exact ⟨_, c', rfl, hc, hm, h3⟩

set_option maxHeartbeats 1000000 in
theorem cut_ok (base g cap : Nat) (l : List CellV) (n : Nat) (w : World) (h : Own RCell 46 [21] base w (.slice (some ⟨g, 0, none⟩) l.length cap) l) (h0 : 0 < n) (h1 : n ≤ l.length) (h2 : l.length ≤ 100000) :
    Calls Tryd.prog 79 #[.slice (some ⟨g, 0, none⟩) l.length cap, .int .i64 n] w fun e w' => e = .returned (.slice (some ⟨g, 0, none⟩) n n) ∧ Step base [46] w w' ∧
      ∃ l', Own RCell 46 [21] base w' (.slice (some ⟨g, 0, none⟩) l.length cap) l' ∧ l'.length = l.length ∧ l'.take n = cutF l n ∧ l'.drop n = l.drop n := by
  obtain ⟨g', cap', xs, rest, hge', hgb, hblk, hxl, hels, hsz, hcap, hcm⟩ := own_open h (by omega)
  obtain ⟨rfl, rfl⟩ : g = g' ∧ cap = cap' := by simpa using hge'
  have hown := h
  have esz : RCell.sz = 2 := rfl
  rw [esz] at hxl
  have hb := hown.slc.slb
  obtain ⟨b', off', sv, hge, _, q0, q1, hw, hv⟩ := cell_at hb (k := n - 1) (by omega)
  obtain ⟨rfl, rfl⟩ : g = b' ∧ 0 = off' := by simpa using hge
  simp only [Nat.zero_add] at q0 q1
  have hcs := cut_set l (n - 1) (by omega)
  rw [show n - 1 + 1 = n by omega] at hcs
  have e1 : (0 : Int) < n := by omega
  have e2 : (n : Int) ≤ cap := by omega
  by_cases hk : l[n - 1].1 = 2
  · rw [if_pos hk] at hcs
    have f0 := hblk.frozen ((n - 1) * 2)
    have f1 := hblk.frozen ((n - 1) * 2 + 1)
    have hgl := hblk.lt
    have s1 := hblk.set_ ((n - 1) * 2) (.int .i64 0)
    have s2 := s1.set_ ((n - 1) * 2 + 1) (.slice none 0 0)
    have hst : Step base [46] w _ := ((Step.refl base [46] w).setCell (p := ⟨g, (n - 1) * 2, none⟩) hgb hblk.bears (.int .i64 0)).setCell (p := ⟨g, (n - 1) * 2 + 1, none⟩) hgb s1.bears (.slice none 0 0)
    have hel4 := (hels.mono (Keep.step hst (by decide))).set_ (n - 1) ((0, []) : CellV) [.int .i64 0, .slice none 0 0] (by omega) (cell_E (by decide) Slc.nil_)
    rw [esz] at hel4
    simp only [List.setIfInBounds_toArray] at s2
    rw [list_set2 xs ((n - 1) * 2) (by omega)] at s2
    rw [show (n - 1 + 1) * 2 = (n - 1) * 2 + 2 by omega] at hel4
    have hfin : Own RCell 46 [21] base _ (.slice (some ⟨g, 0, none⟩) l.length cap) (l.set (n - 1) (0, [])) :=
      own_shut (by decide) hgb s2 hel4 (by simp) (by rw [← hsz]; simp; omega) hcap hcm
    have hkb : (l[n - 1].1 == 2) = true := by simpa using hk
    have HCS := hide hcs
    clear hk hcs
    go_enter Tryd.func79, Tryd.ntmps79
    go_wp2
    go_ret
    exact ⟨rfl, hst, _, hfin, by simp, by rw [HCS.out, List.take_set], by rw [List.drop_set_of_lt (by omega)]⟩
  · rw [if_neg hk] at hcs
    have hkb : (l[n - 1].1 == 2) = false := by simpa using hk
    have HCS := hide hcs
    clear hk hcs
    go_enter Tryd.func79, Tryd.ntmps79
    go_wp2
    go_ret
    exact ⟨rfl, Step.refl _ _ _, l, hown, rfl, HCS.out.symm, rfl⟩

theorem of_ok (So Si : Nat → Prop) (x : Value) (l : List CellV) (w : World) (hx : Slc RCell So Si w x l) (h0 : 0 < l.length) (h1 : l.length ≤ 1024) (hs : soundB l = true) :
    Calls Tryd.prog 78 #[x] w fun e w' => ∃ v, e = .returned v ∧ RowIs w.heap.size w' v l false ∧ Below w.heap.size w w' := by
  have hR := ROf_ok _ _ _ l w hx h0 h1 hs
  have HR := hide hR
  clear hR
  go_enter Tryd.func78, Tryd.ntmps78
  go_wp2_with (refine HR.out.mono ?_; rintro e w1 ⟨v1, rfl, hv1, hb1⟩; obtain ⟨g, s, rfl, hrest⟩ := hv1)
  go_ret
  exact ⟨_, rfl, ⟨g, s, rfl, hrest⟩, hb1⟩
theorem of_range (A : Option Addr) (n c : Nat) (t : TypeId) (u : Value) (w : World) (hn : n = 0 ∨ 1024 < n) (hE : w.cell? ⟨0, 0, none⟩ = some (.iface t u)) :
    Calls Tryd.prog 78 #[.slice A n c] w fun e w' => e = .returned (.pointer none) ∧ ∃ n, w' = w.drewN n := by
  have hR := ROf_range A n c t u w hn hE
  have HR := hide hR
  clear hR
  go_enter Tryd.func78, Tryd.ntmps78
  go_wp2_with (refine HR.out.mono ?_; rintro e w1 ⟨rfl, m, rfl⟩)
  go_ret
  exact ⟨rfl, _, rfl⟩
end Go.Proofs.YthjddpflcgcpiaaDoor
