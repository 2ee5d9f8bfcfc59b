/-
  What the library's function that compares two lists of numbers returns.
-/
import Derived.Test.YtcidioomhdkbnaaCell0
namespace Go.Proofs.Ytcidioomhdkbnaa
open Go.RowKit
set_option linter.unusedVariables false
set_option linter.unusedSimpArgs false

set_option maxHeartbeats 400000 in
theorem Equal_ok (So Si To Ti : Nat → Prop) (x y : Value) (l m : List Int) (w : World) (hx : Slc (Rep.int .i32) So Si w x l) (hy : Slc (Rep.int .i32) To Ti w y m) :
    Calls Try.prog 38 #[x, y] w fun e w' => e = .returned (.bool (decide (l = m))) ∧ ∃ n, w' = w.drewN n := by
  obtain ⟨A, c, rfl, hl1, hl2, hx⟩ := hx.open_
  obtain ⟨B, d, rfl, hm1, hm2, hy⟩ := hy.open_
  by_cases hlen : l.length = m.length
  · have hd : ((l.length : Int) != m.length) = false := by simp [hlen]
    have Hlen := hide hlen
    clear hlen
    go_enter Try.func38, Try.ntmps38
    go_wp2
    go_loopw [13] (fun i wr => ∃ k : Nat, k ≤ l.length ∧ i = .int .i64 k ∧ (∀ j, j < k → l[j]? = m[j]?) ∧ ∃ n, wr = w.drewN n) (fun i _ => l.length - (intOf i).toNat)
    case atStart => exact ⟨0, Nat.zero_le _, rfl, by simp, 0, rfl⟩
    case round =>
      obtain ⟨k, hk, rfl, hpre, n, rfl⟩ := hrel
      have HP := hide hpre
      clear hpre
      by_cases hlt : k < l.length
      · have hltm : k < m.length := by have := Hlen.out; omega
        obtain ⟨b1, o1, rfl, _, hcx, _⟩ := ints_at hx hlt
        obtain ⟨b2, o2, rfl, _, hcy, _⟩ := ints_at hy hltm
        by_cases heq : l[k] = m[k]
        · have hb : (l[k] != m[k]) = false := by simp [heq]
          have HEQ := hide heq
          clear heq
          go_wp2
          go_quiet (fail)
          go_wp2
          go_roundw
          case rel =>
            refine ⟨k + 1, by omega, by go_num, fun j hj => ?_, _, rfl⟩
            by_cases e : j = k
            · subst e; rw [List.getElem?_eq_getElem hlt, List.getElem?_eq_getElem hltm, HEQ.out]
            · exact HP.out j (by omega)
          case measure => simp [intOf]; omega
        · have hb : (l[k] != m[k]) = true := by simp [heq]
          have HEQ := hide heq
          clear heq
          go_wp2
          go_quiet (fail)
          go_wp2
          go_ret
          exact ⟨ret_1 (bool_eq (by rw [decide_eq_false]; intro e; subst e; exact HEQ.out rfl)), drew2 _ _ _⟩
      · go_wp2
        go_ret
        refine ⟨ret_1 (bool_eq ?_), _, rfl⟩
        symm
        rw [decide_eq_true_eq]
        apply List.ext_getElem?
        intro j
        by_cases hj : j < l.length
        · exact HP.out j (by omega)
        · rw [List.getElem?_eq_none (by omega), List.getElem?_eq_none (by have := Hlen.out; omega)]
  · have hd : ((l.length : Int) != m.length) = true := by simp; omega
    have Hlen := hide hlen
    clear hlen
    go_enter Try.func38, Try.ntmps38
    go_wp2
    go_ret
    exact ⟨ret_1 (bool_eq (by rw [decide_eq_false]; intro e; exact Hlen.out (by rw [e]))), 0, rfl⟩

end Go.Proofs.Ytcidioomhdkbnaa
