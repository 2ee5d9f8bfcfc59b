/-
  Errors that are no faults have no place: errors.As by its contract there, the place and the place within. Each function once.
-/
import Derived.Test.YtejhaepgbfngcaaDoorErr7
namespace Go.Proofs.YtejhaepgbfngcaaDoor
open Go.RowKit Go.Extern.Stop Go.Stop Go.Extern
set_option linter.unusedVariables false
set_option linter.unusedSimpArgs false

theorem Tryd.assignES (w : World) : (ReflectliteType.relation "AssignableTo" ReflectliteType.assignableTo #[.agg #[.pointer (some ⟨9, 146, none⟩)], .iface 129 (.agg #[.pointer (some ⟨9, 78, none⟩)])]).run Tryd.prog w = .ok (.bool false) w := by kernel_rfl
theorem Tryd.noAsE (v : Value) (xT : TypeId) (w : World) : (Instr.typeAssert (.iface 146 v) xT 140 true).run Tryd.prog w = .ok (.tuple #[.nilIface, .bool false]) w := run_typeAssert_lacksB Tryd.underlying140 (by kernel_rfl) (by kernel_rfl) v xT w
set_option maxHeartbeats 4000000 in
theorem as_miss (e t : Addr) (old : Value) (w : World) (hg : w.cell? ⟨8, 0, none⟩ = some (.iface 129 (.agg #[.pointer (some ⟨9, 26, none⟩)]))) (ht0 : w.cell? t = some old) :
    Calls Tryd.prog 44 #[.iface 146 (.pointer (some e)), .iface 80 (.pointer (some t))] w fun ev w' => ev = .returned (.bool false) ∧ Below w.heap.size w w' := by
  have h6 := @run_callFunc_extern Tryd.prog 70 _ (fun args => ReflectliteValue.unpack (args.getD 0 (.tuple #[]))) Tryd.func70 (by kernel_rfl) (by kernel_rfl) (by kernel_rfl) (by kernel_rfl)
  have h7 := @run_callFunc_extern Tryd.prog 71 _ (ReflectliteValue.methodAny (ReflectliteValue.valueError "reflectlite.Value.Type" 0) (fun t _ _ _ => ReflectliteType.toType t)) Tryd.func71 (by kernel_rfl) (by kernel_rfl) (by kernel_rfl) (by kernel_rfl)
  have h8 := @run_callFunc_extern Tryd.prog 72 _ (ReflectliteValue.method (ReflectliteValue.valueError "reflectlite.Value.IsNil" 0) ReflectliteValue.isNil) Tryd.func72 (by kernel_rfl) (by kernel_rfl) (by kernel_rfl) (by kernel_rfl)
  have h27 := @run_callFunc_extern Tryd.prog 103 _ (ReflectliteType.abiMethod fun t => do pure (.int .u8 (← Rtype.kind t))) Tryd.func103 (by kernel_rfl) (by kernel_rfl) (by kernel_rfl) (by kernel_rfl)
  have h37 := @run_callFunc_extern Tryd.prog 114 _ (ReflectliteType.method ReflectliteType.elem) Tryd.func114 (by kernel_rfl) (by kernel_rfl) (by kernel_rfl) (by kernel_rfl)
  have h38 := @run_callFunc_extern Tryd.prog 115 _ (ReflectliteType.relation "Implements" ReflectliteType.implements_) Tryd.func115 (by kernel_rfl) (by kernel_rfl) (by kernel_rfl) (by kernel_rfl)
  have h10 := @run_callFunc_extern Tryd.prog 68 _ ReflectliteType.typeOf Tryd.func68 (by kernel_rfl) (by kernel_rfl) (by kernel_rfl) (by kernel_rfl)
  have h35 := @run_callFunc_extern Tryd.prog 112 _ (ReflectliteType.relation "AssignableTo" ReflectliteType.assignableTo) Tryd.func112 (by kernel_rfl) (by kernel_rfl) (by kernel_rfl) (by kernel_rfl)
  have tO := Tryd.isTypeOf
  have mA := Tryd.methodAssignableTo
  have a25 := Tryd.assignES
  have nAs := Tryd.noAsE
  have uE := Tryd.noUnwrapE
  have vE := Tryd.noUnwrapsE
  have f6 := Tryd.valueOf27
  have f7 := Tryd.type27
  have mK := Tryd.methodKind
  have mE := Tryd.methodElem
  have mI := Tryd.methodImplements
  have k27 := Tryd.kind27
  have k25 := Tryd.kind25
  have e27 := Tryd.elem27
  have i25 := Tryd.implements25
  have n8 := Tryd.isNil27 ⟨w.heap.size, 0, none⟩ t ((w.alloc (.cells #[.pointer (some t)] 80)).alloc (.cells #[.pointer (some ⟨9, 80, none⟩), .pointer (some ⟨w.heap.size, 0, none⟩), .int .u64 150] 117)) (by simp)
  have hlt : 8 < w.heap.size := World.block_lt_of_cell? w _ hg
  have hg2 : ((w.alloc (.cells #[.pointer (some t)] 80)).alloc (.cells #[.pointer (some ⟨9, 80, none⟩), .pointer (some ⟨w.heap.size, 0, none⟩), .int .u64 150] 117)).cell? ⟨8, 0, none⟩ = some (.iface 129 (.agg #[.pointer (some ⟨9, 26, none⟩)])) := by
    rw [World.cell?_alloc_lt _ _ ⟨8, 0, none⟩ (by simp; omega), World.cell?_alloc_lt _ _ ⟨8, 0, none⟩ hlt]; exact hg
  have htl : t.block < w.heap.size := by
    rcases Nat.lt_or_ge t.block w.heap.size with h | h
    · exact h
    · simp [World.cell?, Array.getElem?_eq_none h] at ht0
  go_enter Tryd.func44, Tryd.ntmps44
  go_wp2
  refine wp_loop_rounds 1 ?_
  rw [rounds_succ]
  go_wp2
  go_ret
  exact ⟨rfl, (((Below.refl _ w).alloc (Nat.le_refl _) _).alloc (by simp) _).alloc (by simp <;> omega) _⟩

theorem AtS_ok (a : Addr) (w : World) (hT : TypeVar w) :
    Calls Tryd.prog 14 #[.iface 146 (.pointer (some a))] w fun e w' => e = .returned (.int .i64 (-1)) ∧ Below w.heap.size w w' := by
  have hb0 := (Below.refl w.heap.size w).alloc (Nat.le_refl _) (.cells #[.pointer none] 78)
  have hT1 := hT.below hb0
  have hblk := Blk.new w 78 #[.pointer none]
  have HA := hide (as_miss a ⟨w.heap.size, 0, none⟩ (.pointer none) _ hT1 (hblk.cell 0))
  clear hT hT1
  go_enter Tryd.func14, Tryd.ntmps14
  go_wp2_with fail
  refine HA.out.mono ?_
  rintro e w2 ⟨rfl, hb2⟩
  go_wp2
  go_ret
  exact ⟨rfl, hb0.trans (hb2.mono hb0.size)⟩

theorem WithinS_ok (a : Addr) (w : World) (hT : TypeVar w) :
    Calls Tryd.prog 36 #[.iface 146 (.pointer (some a))] w fun e w' => e = .returned (.int .i64 (-1)) ∧ Below w.heap.size w w' := by
  have hb0 := (Below.refl w.heap.size w).alloc (Nat.le_refl _) (.cells #[.pointer none] 78)
  have hT1 := hT.below hb0
  have hblk := Blk.new w 78 #[.pointer none]
  have HA := hide (as_miss a ⟨w.heap.size, 0, none⟩ (.pointer none) _ hT1 (hblk.cell 0))
  clear hT hT1
  go_enter Tryd.func36, Tryd.ntmps36
  go_wp2_with fail
  refine HA.out.mono ?_
  rintro e w2 ⟨rfl, hb2⟩
  go_wp2
  go_ret
  exact ⟨rfl, hb0.trans (hb2.mono hb0.size)⟩

set_option maxHeartbeats 1000000 in
theorem WithinG_ok (pb : Nat) (a : Addr) (w : World) (hT : TypeVar w) (h0 : w.cell? ⟨pb, 1, none⟩ = some (.iface 146 (.pointer (some a)))) :
    Calls Tryd.prog 36 #[.iface 78 (.pointer (some ⟨pb, 0, none⟩))] w fun e w' => e = .returned (.int .i64 (-1)) ∧ Below w.heap.size w w' := by
  have hlt := World.block_lt_of_cell? w _ h0
  simp only at hlt
  have hT1 := hT.below ((Below.refl _ w).alloc (Nat.le_refl _) (.cells #[.pointer none] 78))
  have hblk := Blk.new w 78 #[.pointer none]
  have ha := as_hit ⟨pb, 0, none⟩ ⟨w.heap.size, 0, none⟩ (.pointer none) _ hT1 (hblk.cell 0) (hblk.frozen 0)
  have h4 := (((hblk.alloc (.cells #[.pointer (some ⟨w.heap.size, 0, none⟩)] 80)).alloc (.cells #[.pointer (some ⟨9, 80, none⟩), .pointer (some ⟨(w.alloc (.cells #[.pointer none] 78)).heap.size, 0, none⟩), .int .u64 150] 117)).alloc (.cells #[.pointer (some ⟨9, 80, none⟩), .pointer (some ⟨(w.alloc (.cells #[.pointer none] 78)).heap.size, 0, none⟩), .int .u64 150] 117)).alloc (.cells #[.pointer (some ⟨pb, 0, none⟩)] 78)
  have h5 := h4.set_ 0 (.pointer (some ⟨pb, 0, none⟩))
  have hst := ((((((Step.refl w.heap.size [78] w).alloc (.cells #[.pointer none] 78)).alloc (.cells #[.pointer (some ⟨w.heap.size, 0, none⟩)] 80)).alloc (.cells #[.pointer (some ⟨9, 80, none⟩), .pointer (some ⟨(w.alloc (.cells #[.pointer none] 78)).heap.size, 0, none⟩), .int .u64 150] 117)).alloc (.cells #[.pointer (some ⟨9, 80, none⟩), .pointer (some ⟨(w.alloc (.cells #[.pointer none] 78)).heap.size, 0, none⟩), .int .u64 150] 117)).alloc (.cells #[.pointer (some ⟨pb, 0, none⟩)] 78)).setCell (p := ⟨w.heap.size, 0, none⟩) (Nat.le_refl _) h4.bears (.pointer (some ⟨pb, 0, none⟩))
  have hbel := hst.below (Nat.le_refl _)
  have c0 := h5.cell 0
  simp only [List.setIfInBounds_toArray, List.set_cons_zero, List.getElem?_toArray, List.getElem?_cons_zero] at c0
  have c1 := (hbel.cell (p := ⟨pb, 1, none⟩) hlt).trans h0
  have HT0 := hide hT
  have HA := hide ha
  have HB := hide hbel
  clear ha h4 h5 hst hbel hT hT1
  go_enter Tryd.func36, Tryd.ntmps36
  go_wp2_with fail
  refine HA.out.mono ?_
  rintro e w2 ⟨rfl, hw2⟩
  rw [← hw2] at c0 c1
  have hB := HB.out
  rw [← hw2] at hB
  clear hw2
  go_wp2_with fail
  refine (AtS_ok a _ (HT0.out.below hB)).mono ?_
  rintro e w3 ⟨rfl, hb3⟩
  go_wp2
  go_ret
  exact ⟨rfl, hB.trans (hb3.mono hB.size)⟩
end Go.Proofs.YtejhaepgbfngcaaDoor
