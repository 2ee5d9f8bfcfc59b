/-
  What fit's function that puts rows together returns; the checks at the head of the laws on it.
-/
import Derived.Test.YthjddpflcgcpiaaDoorFit2
namespace Go.Proofs.YthjddpflcgcpiaaDoor
open Go.RowKit
set_option linter.unusedVariables false
set_option linter.unusedSimpArgs false

def RPtr : Rep (Option Addr) := Rep.flat 1 (fun p => [.pointer p]) (fun _ => rfl) (fun _ => by simp [Value.oneCell'])
theorem RPtr.flat : Flat RPtr := Flat.flat _ _ _ _
theorem ptr_at {So Si : Nat → Prop} {w : World} {A : Option Addr} {l : List (Option Addr)} (h : SlB RPtr So Si w A l) {k : Nat} (hk : k < l.length) :
    ∃ b off, A = some ⟨b, off, none⟩ ∧ So b ∧ w.cell? ⟨b, off + k, none⟩ = some (.pointer l[k]) := by
  obtain ⟨b, off, u, rfl, hs, hu, hc⟩ := h.at_ (k := k) (x := l[k]) (List.getElem?_eq_getElem hk) (by decide)
  have hu' : u = [.pointer l[k]] := hu
  subst hu'
  have h0 := hc 0 (by decide)
  have e : RPtr.sz = 1 := rfl
  rw [e] at h0
  exact ⟨b, off, rfl, hs, by simpa using h0⟩

theorem soundG_append : ∀ (a : List CellV) (b : List CellV) (lead : Bool), soundG lead a = true → soundB b = true → soundG lead (a ++ b) = true
  | [], b, lead, h, hb => by
    cases lead
    · exact hb
    · cases h
  | c :: a, b, lead, h, hb => by
    simp only [List.cons_append, soundG, Bool.and_eq_true] at h ⊢
    exact ⟨h.1, soundG_append a b _ h.2 hb⟩

/-- Rows put together: as long as there are not too many cells. -/
def joinG : List CellV → List (Option (List CellV)) → Option (List CellV)
  | acc, [] => if acc.length = 0 ∨ 1024 < acc.length then none else some acc
  | _, none :: _ => none
  | acc, some l :: r => if 1024 < acc.length then none else joinG (acc ++ l) r
def JoinSays (b0 : Nat) (w : World) (v : Value) : Option (List CellV) → Prop
  | none => v = .pointer none
  | some l => RowOf b0 w v l false
/-- What a pointer among the rows points to. -/
def PtrIs (w : World) (p : Option Addr) : Option (List CellV) → Prop
  | none => p = none
  | some l => (∃ base wrap, RowIs base w (.pointer p) l wrap) ∧ soundB l = true ∧ l.length ≤ 1024
theorem PtrIs.below {w w' : World} {p : Option Addr} {o : Option (List CellV)} (h : PtrIs w p o) (hb : Below w.heap.size w w') : PtrIs w' p o := by
  cases o with
  | none => exact h
  | some l =>
    obtain ⟨⟨base, wrap, h1⟩, h2⟩ := h
    exact ⟨⟨base, wrap, h1.below hb⟩, h2⟩

set_option maxHeartbeats 1000000 in
theorem Join_ok (So Si : Nat → Prop) (x : Value) (ps : List (Option Addr)) (ls : List (Option (List CellV))) (t : TypeId) (u : Value) (w : World) (hx : Slc RPtr So Si w x ps) (hlen : ps.length = ls.length) (hn : ps.length ≤ 1000)
    (hrel : ∀ k (h : k < ls.length) (h' : k < ps.length), PtrIs w ps[k] ls[k]) (hE : w.cell? ⟨0, 0, none⟩ = some (.iface t u)) :
    Calls Tryd.prog 19 #[x] w fun e w' => ∃ v, e = .returned v ∧ JoinSays w.heap.size w' v (joinG [] ls) ∧ Below w.heap.size w w' := by
  have hEl := World.block_lt_of_cell? w _ hE
  simp only at hEl
  obtain ⟨A, c, rfl, hc1, hc2, hB⟩ := hx.open_
  have HREL := hide hrel
  have HLEN := hide hlen
  have HE := hide hE
  clear hrel hlen hE
  go_enter Tryd.func19, Tryd.ntmps19
  go_wp2
  go_loopw [3, 8] (fun out i wr => ∃ (k : Nat) (acc : List CellV), k ≤ ps.length ∧ i = .int .i64 k ∧ Own RCell 46 [21] w.heap.size wr out acc ∧ acc.length ≤ 2048 ∧ soundB acc = true ∧ joinG [] ls = joinG acc (ls.drop k) ∧ Below w.heap.size w wr) (fun _ i _ => ps.length - (intOf i).toNat)
  case atStart => exact ⟨0, [], Nat.zero_le _, rfl, Own.nil_ _ _ _ _ _ (by decide), by simp, rfl, rfl, Below.refl _ _⟩
  case round =>
    obtain ⟨k, acc, hk, rfl, hout, hal, hsa, hj, hbel⟩ := hrel
    have hsz := hbel.size
    have HJ := hide hj
    have HSA := hide hsa
    clear hj hsa
    obtain ⟨A2, c2, rfl, _, _, _⟩ := hout.slc.open_
    by_cases hlt : k < ps.length
    · have hlt2 : k < ls.length := by have := HLEN.out; omega
      have hBk := hB.flat_keep RPtr.flat (Si' := fun _ => False) (Keep.below hbel)
      obtain ⟨pb, po, rfl, _, q0⟩ := ptr_at hBk hlt
      have hp := (HREL.out k hlt2 hlt).below hbel
      have hdr : ls.drop k = ls[k] :: ls.drop (k + 1) := List.drop_eq_getElem_cons hlt2
      have hjj := HJ.out
      rw [hdr] at hjj
      generalize ls[k] = o at *
      generalize ps[k] = p at *
      cases o with
      | none =>
        have hp' : p = none := hp
        subst hp'
        have hjn : joinG [] ls = none := by rw [hjj]; rfl
        have HJN := hide hjn
        clear hjj hdr hjn
        go_wp2
        go_ret
        rw [HJN.out]
        exact ⟨_, rfl, rfl, hbel⟩
      | some L =>
        obtain ⟨⟨base, wrap, hrow⟩, hsL, hlL⟩ := hp
        have HROW := hide hrow
        obtain ⟨g, s, hpe, _, _, _⟩ := hrow
        obtain rfl : p = some ⟨g, 0, none⟩ := by simpa using hpe
        have hjs : joinG [] ls = if 1024 < acc.length then none else joinG (acc ++ L) (ls.drop (k + 1)) := by rw [hjj]; rfl
        by_cases h1 : 1024 < acc.length
        · rw [if_pos h1] at hjs
          have HJN := hide hjs
          have h2 : (1024 : Int) < acc.length := by omega
          clear hjj hdr hjs
          go_wp2
          go_ret
          rw [HJN.out]
          exact ⟨_, rfl, rfl, hbel⟩
        · rw [if_neg h1] at hjs
          have HJN := hide hjs
          have h2 : ¬ (1024 : Int) < acc.length := by omega
          have hsn := soundG_append acc L false HSA.out hsL
          have HSN := hide hsn
          have htx := sound_len hsL
          have HSL := hide hsL
          clear hjj hdr hjs hsn hsL
          go_wp2_with fail
          refine (Cells_ok base _ L wrap _ HROW.out (by omega) htx).mono ?_
          rintro e w3 ⟨s3, rfl, hv3, hb3⟩
          have hout3 := hout.below hb3
          have hz3 := hb3.size
          have hb3' := hbel.trans (hb3.mono hsz)
          go_wp2_with (at_builtin; refine wpList_appg rfl (.tmp 19) (.tmp 21) 22 rfl RCell 46 [21] w.heap.size 32 _ Tryd.underlying22 cell_info rfl (by decide) (by decide) _ _ rfl hout3 _ _ _ _ rfl (hv3.own w.heap.size (Nat.zero_le _) hsz).slc (fun _ h => h) (by omega) (by omega) ?_; intro v5 w5 hv5 hst5 hg5 hob5)
          go_roundw
          case rel => exact ⟨k + 1, acc ++ L, by omega, by go_num, hv5, by rw [List.length_append]; omega, HSN.out, HJN.out, hb3'.trans (hst5.below hb3'.size)⟩
          case measure => simp [intOf]; omega
    · have hj2 := HJ.out
      rw [List.drop_eq_nil_of_le (by have := HLEN.out; omega)] at hj2
      have hjs : joinG [] ls = if acc.length = 0 ∨ 1024 < acc.length then none else some acc := hj2
      have hE2 : wr.cell? ⟨0, 0, none⟩ = some (.iface t u) := (hbel.cell (p := ⟨0, 0, none⟩) hEl).trans HE.out
      by_cases hbad : acc.length = 0 ∨ 1024 < acc.length
      · rw [if_pos hbad] at hjs
        have HJN := hide hjs
        have hR := of_range A2 acc.length c2 t u wr hbad hE2
        have HR := hide hR
        clear hj2 hjs hR hE2
        go_wp2_with (refine HR.out.mono ?_; rintro e w3 ⟨rfl, n3, rfl⟩)
        go_ret
        rw [HJN.out]
        exact ⟨_, rfl, rfl, below_drewN hbel _⟩
      · rw [if_neg hbad] at hjs
        have HJN := hide hjs
        have hR := of_ok _ _ _ acc wr hout.slc (by omega) (by omega) HSA.out
        have HR := hide hR
        clear hj2 hjs hR hE2
        go_wp2_with (refine HR.out.mono ?_; rintro e w3 ⟨v3, rfl, hv3, hb3⟩)
        go_ret
        rw [HJN.out]
        exact ⟨_, rfl, ⟨_, hsz, hv3⟩, hbel.trans (hb3.mono hsz)⟩
end Go.Proofs.YthjddpflcgcpiaaDoor
