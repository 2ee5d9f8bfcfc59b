import Derived.WalkKit
import Derived.Deep.QuietTactic
import Derived.BigQuiet
import Derived.Deep.AppendLies
import Derived.Maps.AppendAt
import Derived.ArgAppend
open List renaming getElem?_toArray → zA, getElem?_cons_succ → zB, getElem?_cons_zero → zC, setIfInBounds_toArray → zD, set_cons_zero → zE, set_cons_succ → zF
namespace Go.Proofs.YtdjpdllehhecpaaGreatDoor
open Go.RowKit
set_option linter.unusedVariables false
theorem hide {p : Prop} (h : p) : Hid p := h
theorem int_eq {k : IntKind} {a b : Int} (h : a = b) : Value.int k a = .int k b := by rw [h]
theorem bool_eq {a b : Bool} (h : a = b) : Value.bool a = .bool b := by rw [h]
theorem ret_1 {a b : Value} (h : a = b) : Ending.returned a = .returned b := by rw [h]
theorem ret_2 {a b c d : Value} (h : a = b) (h2 : c = d) : Ending.returned (.tuple #[a, c]) = .returned (.tuple #[b, d]) := by rw [h, h2]
def Keep (S : Nat → Prop) (w : World) (S' : Nat → Prop) (w' : World) : Prop :=
  ∀ (p : Addr) (u : Value), S p.block → w.cell? p = some u → S' p.block ∧ w'.cell? p = some u
theorem Keep.refl (S : Nat → Prop) (w : World) : Keep S w S w := fun _ _ h h' => ⟨h, h'⟩
theorem Keep.trans {S S' S'' : Nat → Prop} {w w' w'' : World} (h : Keep S w S' w') (k : Keep S' w' S'' w'') : Keep S w S'' w'' :=
  fun p u a b => k p u (h p u a b).1 (h p u a b).2
theorem Keep.weaken {S S' : Nat → Prop} {w : World} (h : ∀ b, S b → S' b) : Keep S w S' w := fun _ _ a b => ⟨h _ a, b⟩
theorem Keep.drewN (S : Nat → Prop) (w : World) (n : Nat) : Keep S w S (w.drewN n) := fun _ _ h h' => ⟨h, h'⟩
structure Rep (α : Type) where
  sz : Nat
  E : (Nat → Prop) → World → List Value → α → Prop
  len : ∀ {S w vs x}, E S w vs x → vs.length = sz
  one : ∀ {S w vs x}, E S w vs x → ∀ u ∈ vs, u.oneCell' = true
  mono : ∀ {S S' w w' vs x}, Keep S w S' w' → E S w vs x → E S' w' vs x
def Rep.int (k : IntKind) : Rep Int where
  sz := 1
  E := fun _ _ vs n => vs = [.int k n] ∧ (Lit.int k n).wf = true
  len := by rintro _ _ _ _ ⟨rfl, _⟩; rfl
  one := by rintro _ _ _ _ ⟨rfl, _⟩ u hu; simp at hu; subst hu; rfl
  mono := fun _ h => h
def Rep.bool : Rep Bool where
  sz := 1
  E := fun _ _ vs b => vs = [.bool b]
  len := by rintro _ _ _ _ rfl; rfl
  one := by rintro _ _ _ _ rfl u hu; simp at hu; subst hu; rfl
  mono := fun _ h => h
def Rep.pair {α β : Type} (R : Rep α) (R' : Rep β) : Rep (α × β) where
  sz := R.sz + R'.sz
  E := fun S w vs x => ∃ v1 v2, vs = v1 ++ v2 ∧ R.E S w v1 x.1 ∧ R'.E S w v2 x.2
  len := by rintro _ _ _ _ ⟨v1, v2, rfl, h1, h2⟩; rw [List.length_append, R.len h1, R'.len h2]
  one := by
    rintro _ _ _ _ ⟨v1, v2, rfl, h1, h2⟩ u hu
    rcases List.mem_append.1 hu with h | h
    · exact R.one h1 u h
    · exact R'.one h2 u h
  mono := by rintro _ _ _ _ _ _ hk ⟨v1, v2, rfl, h1, h2⟩; exact ⟨v1, v2, rfl, R.mono hk h1, R'.mono hk h2⟩
def Rep.map {α β : Type} (R : Rep α) (g : β → α) : Rep β where
  sz := R.sz
  E := fun S w vs y => R.E S w vs (g y)
  len := R.len
  one := R.one
  mono := R.mono
def Els {α : Type} (R : Rep α) (S : Nat → Prop) (w : World) : List α → List Value → Prop
  | [], xs => xs = []
  | x :: l, xs => ∃ u xs', xs = u ++ xs' ∧ R.E S w u x ∧ Els R S w l xs'
section
variable {α : Type} {R : Rep α} {S S' : Nat → Prop} {w w' : World}
theorem Els.length : ∀ {l : List α} {xs : List Value}, Els R S w l xs → xs.length = l.length * R.sz
  | [], _, h => by cases h; simp
  | x :: l, _, ⟨u, xs', rfl, hu, h⟩ => by rw [List.length_append, R.len hu, h.length, List.length_cons, Nat.add_mul]; omega
theorem Els.one : ∀ {l : List α} {xs : List Value}, Els R S w l xs → ∀ u ∈ xs, u.oneCell' = true
  | [], _, h, u, hu => by cases h; cases hu
  | x :: l, _, ⟨v, xs', rfl, hv, h⟩, u, hu => by
    rcases List.mem_append.1 hu with h' | h'
    · exact R.one hv u h'
    · exact h.one u h'
theorem Els.mono (hk : Keep S w S' w') : ∀ {l : List α} {xs : List Value}, Els R S w l xs → Els R S' w' l xs
  | [], _, h => h
  | x :: l, _, ⟨u, xs', e, hu, h⟩ => ⟨u, xs', e, R.mono hk hu, h.mono hk⟩
theorem Els.append : ∀ {l m : List α} {xs ys : List Value}, Els R S w l xs → Els R S w m ys → Els R S w (l ++ m) (xs ++ ys)
  | [], m, xs, ys, h, h' => by cases h; exact h'
  | x :: l, m, _, ys, ⟨u, xs', rfl, hu, h⟩, h' => ⟨u, xs' ++ ys, by simp, hu, h.append h'⟩
theorem Els.single {x : α} {u : List Value} (h : R.E S w u x) : Els R S w [x] u := ⟨u, [], by simp, h, rfl⟩
theorem Els.at_ : ∀ {l : List α} {xs : List Value}, Els R S w l xs → ∀ (k : Nat) (x : α), l[k]? = some x →
    ∃ u, R.E S w u x ∧ ∀ i, i < R.sz → xs[k * R.sz + i]? = u[i]?
  | [], _, _, k, x, hx => by simp at hx
  | y :: l, _, ⟨u, xs', rfl, hu, h⟩, 0, x, hx => by
    simp at hx; subst hx
    exact ⟨u, hu, fun i hi => by rw [List.getElem?_append_left (by rw [R.len hu]; omega)]; simp⟩
  | y :: l, _, ⟨u, xs', rfl, hu, h⟩, k + 1, x, hx => by
    obtain ⟨u', hu', h'⟩ := h.at_ k x (by simpa using hx)
    refine ⟨u', hu', fun i hi => ?_⟩
    rw [List.getElem?_append_right (by rw [R.len hu, Nat.add_mul]; omega), ← h' i hi, R.len hu]
    congr 1
    rw [Nat.add_mul]; omega
theorem Els.drop : ∀ {l : List α} {xs : List Value}, Els R S w l xs → ∀ k, Els R S w (l.drop k) (xs.drop (k * R.sz))
  | _, _, h, 0 => by simpa using h
  | [], _, h, k + 1 => by cases h; simp [Els]
  | y :: l, _, ⟨u, xs', rfl, hu, h⟩, k + 1 => by
    have h' := h.drop k
    rw [List.drop_succ_cons]
    have e : (u ++ xs').drop ((k + 1) * R.sz) = xs'.drop (k * R.sz) := by
      rw [List.drop_append, List.drop_eq_nil_of_le (by rw [R.len hu, Nat.add_mul]; omega), R.len hu, List.nil_append]
      congr 1
      rw [Nat.add_mul]; omega
    rw [e]; exact h'
theorem Els.take : ∀ {l : List α} {xs : List Value}, Els R S w l xs → ∀ k, Els R S w (l.take k) (xs.take (k * R.sz))
  | _, _, _, 0 => by simp [Els]
  | [], _, h, k + 1 => by cases h; simp [Els]
  | y :: l, _, ⟨u, xs', rfl, hu, h⟩, k + 1 => by
    refine ⟨u, xs'.take (k * R.sz), ?_, hu, h.take k⟩
    rw [List.take_append, List.take_of_length_le (by rw [R.len hu, Nat.add_mul]; omega), R.len hu]
    congr 2
    rw [Nat.add_mul]; omega
theorem Els.set_ : ∀ {l : List α} {xs : List Value}, Els R S w l xs → ∀ (k : Nat) (x : α) (u : List Value), k < l.length → R.E S w u x →
    Els R S w (l.set k x) (xs.take (k * R.sz) ++ u ++ xs.drop ((k + 1) * R.sz))
  | [], _, _, k, x, u, hk, _ => by simp at hk
  | y :: l, _, ⟨v, xs', rfl, hv, h⟩, 0, x, u, _, hu => by
    refine ⟨u, xs', ?_, hu, h⟩
    rw [Nat.zero_mul, List.take_zero, List.nil_append, Nat.zero_add, Nat.one_mul, List.drop_append, List.drop_eq_nil_of_le (by rw [R.len hv]; omega), R.len hv]
    simp
  | y :: l, _, ⟨v, xs', rfl, hv, h⟩, k + 1, x, u, hk, hu => by
    have h' := h.set_ k x u (by simpa using hk) hu
    refine ⟨v, _, ?_, hv, h'⟩
    rw [List.take_append, List.take_of_length_le (by rw [R.len hv, Nat.add_mul]; omega), List.drop_append, List.drop_eq_nil_of_le (as := v) (by rw [R.len hv, Nat.add_mul, Nat.add_mul]; omega), R.len hv]
    have e1 : (k + 1) * R.sz - R.sz = k * R.sz := by rw [Nat.add_mul]; omega
    have e2 : (k + 1 + 1) * R.sz - R.sz = (k + 1) * R.sz := by rw [Nat.add_mul (k + 1)]; omega
    rw [e1, e2]
    simp
end
def RowAt (S : Nat → Prop) (w : World) (A : Option Addr) (n : Nat) (xs : List Value) : Prop :=
  0 < n → ∃ a, A = some a ∧ S a.block ∧ ∀ j u, xs[j]? = some u → w.cell? (a.add j) = some u
theorem block_add (a : Addr) (n : Nat) : (a.add n).block = a.block := by unfold Addr.add; split <;> rfl
theorem add_add (a : Addr) (i j : Nat) : (a.add i).add j = a.add (i + j) := by
  unfold Addr.add
  by_cases hi : i = 0 <;> by_cases hj : j = 0 <;> simp [hi, hj, Nat.add_assoc]
theorem add_zero (a : Addr) : a.add 0 = a := by simp [Addr.add]
theorem RowAt.mono {S S' : Nat → Prop} {w w' : World} {A : Option Addr} {n : Nat} {xs : List Value} (h : RowAt S w A n xs) (hk : Keep S w S' w') (hn : n ≤ xs.length) : RowAt S' w' A n xs := by
  intro h0
  obtain ⟨a, rfl, hs, hc⟩ := h h0
  have h1 : xs[0]? = some (xs[0]'(by omega)) := List.getElem?_eq_getElem _
  have h2 := hk _ _ (by rw [block_add]; exact hs) (hc 0 _ h1)
  refine ⟨a, rfl, by rw [block_add] at h2; exact h2.1, fun j u hu => ?_⟩
  exact (hk _ _ (by rw [block_add]; exact hs) (hc j u hu)).2
def SlB {α : Type} (R : Rep α) (So Si : Nat → Prop) (w : World) (A : Option Addr) (l : List α) : Prop :=
  ∃ xs, Els R Si w l xs ∧ RowAt So w A (l.length * R.sz) xs
def Slc {α : Type} (R : Rep α) (So Si : Nat → Prop) (w : World) (v : Value) (l : List α) : Prop :=
  ∃ A c, v = .slice A l.length c ∧ l.length ≤ c ∧ c ≤ maxLen ∧ SlB R So Si w A l
section
variable {α : Type} {R : Rep α} {So Si So' Si' S S' : Nat → Prop} {w w' : World} {A : Option Addr} {c : Nat} {l : List α} {v : Value}
theorem SlB.mono (h : SlB R So Si w A l) (ho : Keep So w So' w') (hi : Keep Si w Si' w') : SlB R So' Si' w' A l := by
  obtain ⟨xs, he, hr⟩ := h
  exact ⟨xs, he.mono hi, hr.mono ho (by rw [he.length]; exact Nat.le_refl _)⟩
theorem Slc.mono (h : Slc R So Si w v l) (ho : Keep So w So' w') (hi : Keep Si w Si' w') : Slc R So' Si' w' v l := by
  obtain ⟨A, c, rfl, h1, h2, h3⟩ := h
  exact ⟨A, c, rfl, h1, h2, h3.mono ho hi⟩
theorem SlB.nil_ : SlB R So Si w A [] := ⟨[], rfl, fun h => by simp at h⟩
theorem Slc.nil_ : Slc R So Si w (.slice none 0 0) [] := ⟨none, 0, rfl, Nat.le_refl _, by simp [maxLen], SlB.nil_⟩
theorem Slc.empty_ (A : Option Addr) (c : Nat) (hc : c ≤ maxLen) : Slc R So Si w (.slice A 0 c) [] := ⟨A, c, rfl, Nat.zero_le _, hc, SlB.nil_⟩
theorem SlB.at_ (h : SlB R So Si w A l) {k : Nat} {x : α} (hx : l[k]? = some x) (hsz : 0 < R.sz) :
    ∃ b off u, A = some ⟨b, off, none⟩ ∧ So b ∧ R.E Si w u x ∧ ∀ i, i < R.sz → w.cell? ⟨b, off + (k * R.sz + i), none⟩ = u[i]? := by
  obtain ⟨xs, he, hr⟩ := h
  have hk : k < l.length := (List.getElem?_eq_some_iff.1 hx).1
  obtain ⟨⟨b, off, spot⟩, rfl, hs, hc⟩ := hr (Nat.mul_pos (by omega) hsz)
  have hspot : spot = none := by
    have hlen := he.length
    have h0 : xs[0]? = some (xs[0]'(by rw [hlen]; exact Nat.mul_pos (by omega) hsz)) := List.getElem?_eq_getElem _
    have := World.cell?_spot (hc 0 _ h0)
    simpa [Addr.add] using this
  subst hspot
  obtain ⟨u, hu, hi⟩ := he.at_ k x hx
  refine ⟨b, off, u, rfl, hs, hu, fun i hi' => ?_⟩
  have hlen := R.len hu
  have hui : u[i]? = some (u[i]'(by omega)) := List.getElem?_eq_getElem _
  rw [hui]
  have := hc _ _ (show xs[k * R.sz + i]? = some (u[i]'(by omega)) by rw [hi i hi', hui])
  rwa [Addr.add_lit] at this
theorem SlB.cut (h : SlB R So Si w A l) {k c : Nat} (hk : k ≤ l.length) (hc : l.length ≤ c) :
    SlB R So Si w (if c = k then A else A.map (·.add (k * R.sz))) (l.drop k) := by
  obtain ⟨xs, he, hr⟩ := h
  refine ⟨_, he.drop k, fun h0 => ?_⟩
  have hlt : k < l.length := by
    have := Nat.pos_of_mul_pos_right h0
    simp at this; omega
  obtain ⟨a, rfl, hs, hcell⟩ := hr (Nat.mul_pos (by omega) (Nat.pos_of_mul_pos_left h0))
  rw [if_neg (by omega)]
  refine ⟨a.add (k * R.sz), rfl, by rw [block_add]; exact hs, fun j u hu => ?_⟩
  rw [add_add]
  exact hcell _ u (by rw [← hu, List.getElem?_drop])
theorem SlB.front (h : SlB R So Si w A l) (k : Nat) : SlB R So Si w A (l.take k) := by
  obtain ⟨xs, he, hr⟩ := h
  refine ⟨_, he.take k, fun h0 => ?_⟩
  have h1 := Nat.pos_of_mul_pos_right h0
  have h2 := Nat.pos_of_mul_pos_left h0
  simp at h1
  obtain ⟨a, rfl, hs, hcell⟩ := hr (Nat.mul_pos (by omega) h2)
  refine ⟨a, rfl, hs, fun j u hu => hcell j u ?_⟩
  rw [List.getElem?_take] at hu
  split at hu
  · exact hu
  · cases hu
theorem Slc.cut (h : Slc R So Si w (.slice A l.length c) l) {k : Nat} (hk : k ≤ l.length) :
    Slc R So Si w (.slice (if c = k then A else A.map (·.add (k * R.sz))) (l.length - k) (c - k)) (l.drop k) := by
  obtain ⟨A', c', he, h1, h2, h3⟩ := h
  injection he with e1 e2 e3
  subst e1; subst e3
  exact ⟨_, c - k, by rw [List.length_drop], by rw [List.length_drop]; omega, by omega, h3.cut hk h1⟩
theorem Slc.front (h : Slc R So Si w (.slice A l.length c) l) {k : Nat} (hk : k ≤ l.length) : Slc R So Si w (.slice A k c) (l.take k) := by
  obtain ⟨A', c', he, h1, h2, h3⟩ := h
  injection he with e1 e2 e3
  subst e1; subst e3
  exact ⟨_, c, by rw [List.length_take, Nat.min_eq_left hk], by rw [List.length_take]; omega, h2, h3.front k⟩
end
theorem Slc.open_ {α : Type} {R : Rep α} {So Si : Nat → Prop} {w : World} {v : Value} {l : List α} (h : Slc R So Si w v l) :
    ∃ A c, v = .slice A l.length c ∧ l.length ≤ c ∧ c ≤ 9223372036854775807 ∧ SlB R So Si w A l := by
  obtain ⟨A, c, rfl, h1, h2, h3⟩ := h
  exact ⟨A, c, rfl, h1, by simpa [maxLen] using h2, h3⟩
def Rep.slice {α : Type} (R : Rep α) : Rep (List α) where
  sz := 1
  E := fun S w vs l => ∃ v, vs = [v] ∧ Slc R S S w v l
  len := by rintro _ _ _ _ ⟨v, rfl, _⟩; rfl
  one := by rintro _ _ _ _ ⟨v, rfl, A, c, rfl, _⟩ u hu; simp at hu; subst hu; rfl
  mono := by rintro _ _ _ _ _ _ hk ⟨v, rfl, h⟩; exact ⟨v, rfl, h.mono hk hk⟩
abbrev Ints (k : IntKind) (S : Nat → Prop) (w : World) (v : Value) (l : List Int) : Prop := Slc (Rep.int k) S S w v l
section
variable {k : IntKind} {S S' : Nat → Prop} {w : World} {A : Option Addr} {l : List Int} {v : Value}
theorem ints_at (h : SlB (Rep.int k) S S' w A l) {j : Nat} (hj : j < l.length) :
    ∃ b off, A = some ⟨b, off, none⟩ ∧ S b ∧ w.cell? ⟨b, off + j, none⟩ = some (.int k l[j]) ∧ (Lit.int k l[j]).wf = true := by
  obtain ⟨b, off, u, rfl, hs, ⟨rfl, hwf⟩, hc⟩ := h.at_ (k := j) (x := l[j]) (List.getElem?_eq_getElem hj) (by simp [Rep.int])
  have := hc 0 (by simp [Rep.int])
  exact ⟨b, off, rfl, hs, by simpa [Rep.int] using this, hwf⟩
end
theorem els_ints (k : IntKind) (S : Nat → Prop) (w : World) : ∀ (l : List Int), (∀ n ∈ l, (Lit.int k n).wf = true) → Els (Rep.int k) S w l (l.map (Value.int k))
  | [], _ => rfl
  | n :: l, h => ⟨[.int k n], l.map (Value.int k), rfl, ⟨rfl, h n (by simp)⟩, els_ints k S w l (fun m hm => h m (by simp [hm]))⟩
theorem els_ints_wf {k : IntKind} {S : Nat → Prop} {w : World} : ∀ {l : List Int} {xs : List Value}, Els (Rep.int k) S w l xs → (∀ n ∈ l, (Lit.int k n).wf = true) ∧ xs = l.map (Value.int k)
  | [], _, h => by cases h; simp
  | n :: l, _, ⟨u, xs', hx, hu, h⟩ => by
    obtain ⟨rfl, hn⟩ := hu
    obtain ⟨h1, rfl⟩ := els_ints_wf h
    subst hx
    refine ⟨fun m hm => ?_, rfl⟩
    rcases List.mem_cons.1 hm with rfl | hm
    · exact hn
    · exact h1 m hm
def Bears (T : List TypeId) (w : World) (b : Nat) : Prop := ∃ cs t fz, w.heap[b]? = some (.cells cs t fz) ∧ t ∈ T
def Typed (base : Nat) (T : List TypeId) (w : World) (b : Nat) : Prop := b < base ∨ Bears T w b
def Fresh (base : Nat) (T : List TypeId) (w : World) (b : Nat) : Prop := base ≤ b ∧ Bears T w b
theorem Fresh.typed {base base' : Nat} {T T' : List TypeId} {w : World} (hT : ∀ t ∈ T, t ∈ T') : ∀ b, Fresh base T w b → Typed base' T' w b :=
  fun _ ⟨_, cs, t, fz, h, ht⟩ => .inr ⟨cs, t, fz, h, hT t ht⟩
theorem Fresh.more {base base' : Nat} {T T' : List TypeId} {w : World} (hb : base' ≤ base) (hT : ∀ t ∈ T, t ∈ T') : ∀ b, Fresh base T w b → Fresh base' T' w b :=
  fun _ ⟨h0, cs, t, fz, h, ht⟩ => ⟨Nat.le_trans hb h0, cs, t, fz, h, hT t ht⟩
theorem Typed.more {base base' : Nat} {T T' : List TypeId} {w : World} (hb : base ≤ base') (hT : ∀ t ∈ T, t ∈ T') : ∀ b, Typed base T w b → Typed base' T' w b := by
  rintro b (h | ⟨cs, t, fz, h, ht⟩)
  · exact .inl (Nat.lt_of_lt_of_le h hb)
  · exact .inr ⟨cs, t, fz, h, hT t ht⟩
structure Step (base : Nat) (es : List TypeId) (w w' : World) : Prop where
  os : w'.os = w.os
  tape : w'.tape = w.tape
  output : w'.output = w.output
  size : w.heap.size ≤ w'.heap.size
  block : ∀ k, k < w.heap.size → (k < base ∨ ¬ Bears es w k) → w'.heap[k]? = w.heap[k]?
section
variable {base base' : Nat} {es es' T : List TypeId} {w w' a b c : World} {S : Nat → Prop}
theorem Step.refl (base : Nat) (es : List TypeId) (w : World) : Step base es w w := ⟨rfl, rfl, rfl, Nat.le_refl _, fun _ _ _ => rfl⟩
theorem Step.trans (h : Step base es a b) (k : Step base es b c) : Step base es a c :=
  ⟨k.os.trans h.os, k.tape.trans h.tape, k.output.trans h.output, Nat.le_trans h.size k.size, fun i hi hne => by
    have h1 := h.block i hi hne
    refine (k.block i (Nat.lt_of_lt_of_le hi h.size) ?_).trans h1
    rcases hne with hne | hne
    · exact .inl hne
    · exact .inr (fun ⟨cs, t, fz, hh, ht⟩ => hne ⟨cs, t, fz, h1.symm.trans hh, ht⟩)⟩
theorem Step.mono (h : Step base es w w') (hb : base' ≤ base) (he : ∀ t ∈ es, t ∈ es') : Step base' es' w w' :=
  ⟨h.os, h.tape, h.output, h.size, fun k hk hne => h.block k hk (by
    rcases hne with hne | hne
    · exact .inl (Nat.lt_of_lt_of_le hne hb)
    · exact .inr (fun ⟨cs, t, fz, hh, ht⟩ => hne ⟨cs, t, fz, hh, he t ht⟩))⟩
theorem Step.below (h : Step base es w w') (hB : base ≤ w.heap.size) : Below base w w' :=
  ⟨h.os, h.tape, h.output, h.size, fun k hk => h.block k (Nat.lt_of_lt_of_le hk hB) (.inl hk)⟩
theorem Step.of_below (h : Below w.heap.size w w') : Step base es w w' := ⟨h.os, h.tape, h.output, h.size, fun k hk _ => h.block k hk⟩
theorem Step.drewN (h : Step base es w w') (n : Nat) : Step base es w (w'.drewN n) := ⟨h.os, h.tape, h.output, h.size, h.block⟩
theorem Step.drew (h : Step base es w w') : Step base es w w'.drew := ⟨h.os, h.tape, h.output, h.size, h.block⟩
theorem Step.alloc1 (base : Nat) (es : List TypeId) (w : World) (o : Obj) : Step base es w (w.alloc o) :=
  ⟨rfl, rfl, rfl, by simp, fun k hk _ => Below.heap_alloc _ _ _ hk⟩
theorem Step.alloc (h : Step base es w w') (o : Obj) : Step base es w (w'.alloc o) := h.trans (Step.alloc1 base es w' o)
theorem Step.setCell (h : Step base es w w') {p : Addr} (hp : base ≤ p.block) (hb : Bears es w' p.block) (u : Value) : Step base es w (w'.setCell p u) :=
  h.trans ⟨rfl, rfl, rfl, by simp [World.setCell], fun k _ hne => Below.heap_setCell _ _ _ _ (by
    rintro rfl
    rcases hne with hne | hne
    · omega
    · exact hne hb)⟩
theorem Step.of_grown {row : Option Nat} (hg : w.grownBy w' row) (hr : ∀ g, row = some g → base ≤ g ∧ Bears es w g) : Step base es w w' :=
  ⟨hg.os, hg.tape, hg.output, hg.size, fun k hk hne => hg.block k hk (fun e => by
    obtain ⟨h1, h2⟩ := hr k e.symm
    rcases hne with hne | hne
    · omega
    · exact hne h2)⟩
theorem Keep.step (h : Step base es w w') (hT : ∀ t ∈ T, t ∉ es) : Keep (Typed base T w) w (Typed base T w') w' := by
  intro p u hs hc
  have hlt := World.block_lt_of_cell? w p hc
  rcases hs with hs | ⟨cs, t, fz, hh, ht⟩
  · have hb := h.block p.block hlt (.inl hs)
    exact ⟨.inl hs, (World.cell?_of_block hb).trans hc⟩
  · have hb := h.block p.block hlt (.inr (fun ⟨cs', t', fz', hh', ht'⟩ => by
      rw [hh] at hh'; injection hh' with hh'; injection hh' with _ e; subst e; exact hT t ht ht'))
    exact ⟨.inr ⟨cs, t, fz, hb.trans hh, ht⟩, (World.cell?_of_block hb).trans hc⟩
theorem Keep.fresh {b0 : Nat} (h : Step base es w w') (hT : ∀ t ∈ T, t ∉ es) : Keep (Fresh b0 T w) w (Fresh b0 T w') w' := by
  intro p u ⟨h0, cs, t, fz, hh, ht⟩ hc
  have hlt := World.block_lt_of_cell? w p hc
  have hb := h.block p.block hlt (.inr (fun ⟨cs', t', fz', hh', ht'⟩ => by
      rw [hh] at hh'; injection hh' with hh'; injection hh' with _ e; subst e; exact hT t ht ht'))
  exact ⟨⟨h0, cs, t, fz, hb.trans hh, ht⟩, (World.cell?_of_block hb).trans hc⟩
theorem Keep.old (h : Step base es w w') (hS : ∀ b, S b → b < base) : Keep S w S w' := by
  intro p u hs hc
  exact ⟨hs, (World.cell?_of_block (h.block p.block (World.block_lt_of_cell? w p hc) (.inl (hS _ hs)))).trans hc⟩
theorem Keep.below (h : Below w.heap.size w w') : Keep S w S w' := by
  intro p u hs hc
  exact ⟨hs, (h.cell (World.block_lt_of_cell? w p hc)).trans hc⟩
theorem Keep.alloc (S : Nat → Prop) (w : World) (o : Obj) : Keep S w S (w.alloc o) := by
  intro p u hs hc
  exact ⟨hs, (World.cell?_alloc_lt w o p (World.block_lt_of_cell? w p hc)).trans hc⟩
theorem Keep.lt (S : Nat → Prop) (w : World) : Keep S w (· < w.heap.size) w := fun p _ _ hc => ⟨World.block_lt_of_cell? w p hc, hc⟩
end
def Own {α : Type} (R : Rep α) (e : TypeId) (T : List TypeId) (base : Nat) (w : World) (v : Value) (l : List α) : Prop :=
  e ∉ T ∧ ∃ xs, w.ownsRow base e R.sz v l.length xs ∧ Els R (Typed base T w) w l xs
section
variable {α : Type} {R : Rep α} {e : TypeId} {T es : List TypeId} {base base' : Nat} {w w' : World} {v : Value} {l : List α}
theorem Own.nil_ (R : Rep α) (e : TypeId) (T : List TypeId) (base : Nat) (w : World) (hT : e ∉ T) : Own R e T base w (.slice none 0 0) [] :=
  ⟨hT, [], World.ownsRow_nil _ _ _ _, rfl⟩
theorem own_bears {base : Nat} {e : TypeId} {size n : Nat} {xs : List Value} (h : w.ownsRow base e size v n xs) : ∀ g, v.ownBlock = some g → base ≤ g ∧ Bears [e] w g := by
  intro g hg
  rcases h.2 with ⟨rfl, _⟩ | ⟨g', cap, cur, rfl, hb, hh, _⟩
  · simp [Value.ownBlock] at hg
  · simp [Value.ownBlock] at hg
    subst hg
    exact ⟨hb, cur, e, _, hh, by simp⟩
theorem Own.step (h : Own R e T base w v l) (hs : Step base es w w') (he : e ∉ es) (hT : ∀ t ∈ T, t ∉ es) : Own R e T base w' v l := by
  obtain ⟨hne, xs, hown, hels⟩ := h
  refine ⟨hne, xs, ⟨hown.1, ?_⟩, hels.mono (Keep.step hs hT)⟩
  rcases hown.2 with hn | ⟨g, cap, cur, rfl, hb, hg, rest⟩
  · exact .inl hn
  · refine .inr ⟨g, cap, cur, rfl, hb, ?_, rest⟩
    have hlt : g < w.heap.size := (Array.getElem?_eq_some_iff.1 hg).1
    rw [hs.block g hlt (.inr (fun ⟨cs', t', fz', hh', ht'⟩ => by
      rw [hg] at hh'; injection hh' with hh'; injection hh' with _ e'; subst e'; exact he ht'))]
    exact hg
theorem Own.below (h : Own R e T base w v l) (hb : Below w.heap.size w w') : Own R e T base w' v l :=
  h.step (es := []) (Step.of_below hb) (by simp) (by simp)
theorem Own.alloc (h : Own R e T base w v l) (o : Obj) : Own R e T base (w.alloc o) v l :=
  h.step (es := []) (Step.alloc1 base [] w o) (by simp) (by simp)
theorem Own.drewN (h : Own R e T base w v l) (n : Nat) : Own R e T base (w.drewN n) v l :=
  h.step (es := []) ((Step.refl base [] w).drewN n) (by simp) (by simp)
theorem Own.slc (h : Own R e T base w v l) : Slc R (fun b => b < w.heap.size ∧ Fresh base [e] w b) (Typed base T w) w v l := by
  obtain ⟨_, xs, hown, hels⟩ := h
  have hb := own_bears hown
  have hlt := hown.lt
  rcases hown.2 with ⟨rfl, h0⟩ | ⟨g, cap, cur, rfl, hbg, hg, hn, hm, _⟩
  · have : l = [] := List.eq_nil_of_length_eq_zero h0
    subst this
    exact Slc.nil_
  · refine ⟨_, cap, rfl, hn, hm, xs, hels, fun _ => ⟨⟨g, 0, none⟩, rfl, ⟨(hlt g rfl).2, (hb g rfl).1, (hb g rfl).2⟩, hown.cells (g := g) rfl⟩⟩
end
section
variable {P : Program} {α : Type}
theorem run_app (w : World) (R : Rep α) (t ty e : TypeId) (T : List TypeId) (base : Nat) (i : TypeInfo) (z : Value) (bytes : Nat) (ht : P.underlying t = some (.slice e)) (hi : P.info? e = some i)
    (hz : i.zero = some z) (hsize : i.size = R.sz) (hby : i.bytes = bytes) (hzs : z.cells.size = R.sz) (hsz : 0 < R.sz) (hb0 : 0 < bytes)
    (v : Value) (l : List α) (hown : Own R e T base w v l) (So Si : Nat → Prop) (vx : Value) (l2 : List α) (hx : Slc R So Si w vx l2) (hSi : ∀ b, Si b → Typed base T w b)
    (hb : (l.length + l2.length) * bytes ≤ 140737488355328) (hbase : base ≤ w.heap.size) :
    ∃ v' w', (Builtin.append_ #[t, t] ty #[v, vx]).run P w = .ok v' w' ∧ Own R e T base w' v' (l ++ l2) ∧ Step base [e] w w' ∧ w.grownBy w' v.ownBlock ∧
      (v'.ownBlock = v.ownBlock ∨ v'.ownBlock = some w.heap.size) := by
  obtain ⟨hne, xs, hor, hels⟩ := hown
  obtain ⟨A, c, rfl, hc1, hc2, ys, hels2, hrow⟩ := hx
  have hels2' : Els R (Typed base T w) w l2 ys := hels2.mono (Keep.weaken hSi)
  have h63 : l.length + l2.length ≤ maxLen := by
    have := Nat.le_trans (Nat.le_mul_of_pos_right (l.length + l2.length) hb0) hb
    simp only [maxLen]; omega
  rcases Nat.eq_zero_or_pos l2.length with h0 | h0
  · have : l2 = [] := List.eq_nil_of_length_eq_zero h0
    subst this
    have hy : ys = [] := by simpa [Els] using hels2
    subst hy
    refine ⟨v, w, ?_, ⟨hne, xs, by simpa using hor, by simpa using hels⟩, Step.refl _ _ _, World.grownBy.refl w _, .inl rfl⟩
    rcases hor.2 with ⟨rfl, h00⟩ | ⟨g, cap, cur, rfl, _, _, hnc, _⟩
    · cases A <;> simp [Builtin.append_, run_underlying ht, sizeOf, typeInfo, hi, Builtin.lenOf, Builtin.firstCells, loadCells, loadCellsFrom]
    · cases A <;> simp [Builtin.append_, run_underlying ht, sizeOf, typeInfo, hi, Builtin.lenOf, Builtin.firstCells, hnc, storeCells, loadCells, loadCellsFrom]
  · obtain ⟨a, rfl, _, hcells⟩ := hrow (Nat.mul_pos h0 hsz)
    obtain ⟨v', w', hrun, hown', hgr, _, h5⟩ := run_append_own_at (P := P) w base t ty e i z R.sz bytes ht hi hz hsize hby hzs hsz v l.length xs hor a l2.length c ys
      hels2.length hcells hels2.one h63 hb hbase
    have hst : Step base [e] w w' := Step.of_grown hgr (own_bears hor)
    have hk := Keep.step (T := T) hst (fun t' ht' he => by simp at he; subst he; exact hne ht')
    exact ⟨v', w', hrun, ⟨hne, xs ++ ys, by simpa using hown', (hels.mono hk).append (hels2'.mono hk)⟩, hst, hgr, h5⟩
theorem wpList_app {ops : Array Oper} {rest : List Oper} {o : Oper} {a : Act} {w : World} {Q : Exit → Act → World → Prop} (hgd : o.guard = none) (s x : Operand) (t : TypeId)
    (ho : o.op = .call { callee := .builtin .append, args := #[s, x], argTypes := #[t, t] })
    (R : Rep α) (e : TypeId) (T : List TypeId) (base : Nat) (i : TypeInfo) (z : Value) (bytes : Nat) (ht : P.underlying t = some (.slice e)) (hi : P.info? e = some i)
    (hz : i.zero = some z) (hsize : i.size = R.sz) (hby : i.bytes = bytes) (hzs : z.cells.size = R.sz) (hsz : 0 < R.sz) (hb0 : 0 < bytes)
    (v : Value) (l : List α) (hs : a.eval s = v) (hown : Own R e T base w v l) (So Si : Nat → Prop) (vx : Value) (l2 : List α) (hxe : a.eval x = vx) (hx : Slc R So Si w vx l2)
    (hSi : ∀ b, Si b → Typed base T w b) (hb : (l.length + l2.length) * bytes ≤ 140737488355328) (hbase : base ≤ w.heap.size)
    (h : ∀ v' w', Own R e T base w' v' (l ++ l2) → Step base [e] w w' → wpList P ops Q rest (a.put o.dst v') w') : wpList P ops Q (o :: rest) a w := by
  refine wpList_plain hgd fun _ hK => ?_
  obtain ⟨v', w', hrun, h2, h3, _⟩ := run_app (P := P) w R t o.type e T base i z bytes ht hi hz hsize hby hzs hsz hb0 v l hown So Si vx l2 hx hSi hb hbase
  unfold Oper.wp execOp
  simp only [ho, resolve, invoke, builtin, Sem.run_bind, Sem.run_pure, Result.andThen_ok, List.map_toArray, List.map_cons, List.map_nil, hs, hxe, hrun]
  exact hK _ _ (h v' w' h2 h3)
end
theorem Slc.lit1 {α : Type} {R : Rep α} {Si Si' : Nat → Prop} {w : World} {x : α} {u : List Value} (e : TypeId) (h : R.E Si w u x) (hk : Keep Si w Si' (w.alloc (.cells u.toArray e))) :
    Slc R (fun _ => True) Si' (w.alloc (.cells u.toArray e)) (.slice (some ⟨w.heap.size, 0, none⟩) 1 1) [x] := by
  refine ⟨_, 1, rfl, by simp, by simp [maxLen], u, Els.single (R.mono hk h), fun _ => ⟨_, rfl, trivial, fun j y hy => ?_⟩⟩
  have : (⟨w.heap.size, 0, none⟩ : Addr).add j = ⟨w.heap.size, j, none⟩ := by unfold Addr.add; split <;> simp_all
  rw [this, World.cell?_alloc_new]
  simpa using hy
theorem wf_u8 {n : Int} (h0 : 0 ≤ n) (h1 : n ≤ 255) : (Lit.int .u8 n).wf = true := by
  show (decide (0 ≤ n) && decide (n ≤ 255)) = true
  simp [h0, h1]
theorem wf_i32 {n : Int} (h0 : -2147483648 ≤ n) (h1 : n ≤ 2147483647) : (Lit.int .i32 n).wf = true := by
  show (decide (-2147483648 ≤ n) && decide (n ≤ 2147483647)) = true
  simp [h0, h1]
theorem wf_i64 {n : Int} (h0 : -9223372036854775808 ≤ n) (h1 : n ≤ 9223372036854775807) : (Lit.int .i64 n).wf = true := by
  show (decide (-9223372036854775808 ≤ n) && decide (n ≤ 9223372036854775807)) = true
  simp [h0, h1]
theorem u8_wf {n : Int} (h : (Lit.int .u8 n).wf = true) : 0 ≤ n ∧ n ≤ 255 := by
  have h' : (decide (0 ≤ n) && decide (n ≤ 255)) = true := h
  simpa using h'
theorem i32_wf {n : Int} (h : (Lit.int .i32 n).wf = true) : -2147483648 ≤ n ∧ n ≤ 2147483647 := by
  have h' : (decide (-2147483648 ≤ n) && decide (n ≤ 2147483647)) = true := h
  simpa using h'
theorem i64_wf {n : Int} (h : (Lit.int .i64 n).wf = true) : -9223372036854775808 ≤ n ∧ n ≤ 9223372036854775807 := by
  have h' : (decide (-9223372036854775808 ≤ n) && decide (n ≤ 9223372036854775807)) = true := h
  simpa using h'
theorem Own.lit {α : Type} {R : Rep α} {e : TypeId} {T : List TypeId} {base : Nat} {w : World} {l : List α} {xs : List Value} {n : Nat} (hT : e ∉ T) (h : Els R (Typed base T w) w l xs) (hb : base ≤ w.heap.size) (hn : l.length = n) (hm : n ≤ maxLen) :
    Own R e T base (w.alloc (.cells xs.toArray e)) (.slice (some ⟨w.heap.size, 0, none⟩) n n) l := by
  subst hn
  have hk : Keep (Typed base T w) w (Typed base T (w.alloc (.cells xs.toArray e))) (w.alloc (.cells xs.toArray e)) := Keep.step (es := []) (Step.alloc1 base [] w _) (by simp)
  exact ⟨hT, xs, ⟨h.length, .inr ⟨w.heap.size, l.length, xs.toArray, rfl, hb, heap_alloc_new w _, Nat.le_refl _, hm, by simpa using h.length, by simp [← h.length]⟩⟩, h.mono hk⟩
theorem Slc.ints_wf {k : IntKind} {So Si : Nat → Prop} {w : World} {v : Value} {l : List Int} (h : Slc (Rep.int k) So Si w v l) : ∀ n ∈ l, (Lit.int k n).wf = true := by
  obtain ⟨A, c, rfl, _, _, xs, he, _⟩ := h
  exact (els_ints_wf he).1
theorem run_str {P : Program} {So Si : Nat → Prop} {w : World} {v : Value} {l : List Int} (h : Slc (Rep.int .u8) So Si w v l) (src dst e : TypeId) (hs : P.underlying src = some (.slice e)) (he : P.underlying e = some (.int .u8)) (hd : P.underlying dst = some .string) :
    (convert src dst v).run P w = .ok (.string (strOfNums l)) w := by
  obtain ⟨A, c, rfl, h1, h2, xs, hels, hrow⟩ := h
  obtain ⟨_, rfl⟩ := els_ints_wf hels
  rcases Nat.eq_zero_or_pos l.length with h0 | h0
  · have : l = [] := List.eq_nil_of_length_eq_zero h0
    subst this
    rw [run_convert_bytes_string w src dst e _ _ _ hs he hd]
    cases A with
    | none => rfl
    | some a =>
      have hr := run_bytesToString (P := P) w a 0 c [] (by rfl)
      exact hr
  · obtain ⟨a, rfl, _, hc⟩ := hrow (Nat.mul_pos h0 (by simp [Rep.int]))
    rw [run_convert_bytes_string w src dst e _ _ _ hs he hd]
    have hl := run_loadCells_list (P := P) w a (l.map (Value.int .u8)) hc
    rw [List.length_map] at hl
    rw [run_bytesToString w a l.length c l hl, foldl_push_bytes]
    simp [strOfNums]
theorem strOfNums_inj {l m : List Int} (hl : ∀ n ∈ l, (Lit.int .u8 n).wf = true) (hm : ∀ n ∈ m, (Lit.int .u8 n).wf = true) : ((strOfNums l).toList == (strOfNums m).toList) = decide (l = m) := by
  simp only [ByteArray.toList_eq]
  have key : ∀ (l m : List Int), (∀ n ∈ l, (Lit.int .u8 n).wf = true) → (∀ n ∈ m, (Lit.int .u8 n).wf = true) → (l.map fun n => UInt8.ofNat n.toNat) = (m.map fun n => UInt8.ofNat n.toNat) → l = m := by
    intro l
    induction l with
    | nil => intro m _ _ h; cases m with | nil => rfl | cons => simp at h
    | cons a l ih =>
      intro m hl hm h
      cases m with
      | nil => simp at h
      | cons b m =>
        simp only [List.map_cons, List.cons.injEq] at h
        have ha := u8_wf (hl a (by simp))
        have hb := u8_wf (hm b (by simp))
        have h1 := congrArg UInt8.toNat h.1
        simp only [UInt8.toNat_ofNat'] at h1
        rw [Nat.mod_eq_of_lt (by omega), Nat.mod_eq_of_lt (by omega)] at h1
        have : a = b := by omega
        subst this
        rw [ih m (fun n hn => hl n (by simp [hn])) (fun n hn => hm n (by simp [hn])) h.2]
  by_cases h : l = m
  · subst h; simp
  · simp only [h, decide_false]
    rw [beq_eq_false_iff_ne]
    intro e
    apply h
    apply key l m hl hm
    simpa [strOfNums] using e
theorem ofInt_i64 (a : Nat) (ha : a < 9223372036854775808) : (BitVec.ofInt 64 (a : Int)).toNat = a := by
  rw [BitVec.ofInt_natCast, BitVec.toNat_ofNat]; exact Nat.mod_eq_of_lt (by omega)
theorem i64_and_nat (a b : Nat) (ha : a < 9223372036854775808) (hb : b < 9223372036854775808) : bits .and .i64 (a : Int) (b : Int) = ((a &&& b : Nat) : Int) := by
  have hx : a &&& b < 2 ^ 63 := Nat.and_lt_two_pow _ (by omega)
  show IntKind.i64.wrap ((BitVec.ofInt 64 (a : Int) &&& BitVec.ofInt 64 (b : Int)).toNat : Int) = _
  rw [BitVec.toNat_and, ofInt_i64 a ha, ofInt_i64 b hb, IntKind.wrap_i64]
  omega
theorem i64_or_nat (a b : Nat) (ha : a < 9223372036854775808) (hb : b < 9223372036854775808) : bits .or .i64 (a : Int) (b : Int) = ((a ||| b : Nat) : Int) := by
  have hx : a ||| b < 2 ^ 63 := Nat.or_lt_two_pow (by omega) (by omega)
  show IntKind.i64.wrap ((BitVec.ofInt 64 (a : Int) ||| BitVec.ofInt 64 (b : Int)).toNat : Int) = _
  rw [BitVec.toNat_or, ofInt_i64 a ha, ofInt_i64 b hb, IntKind.wrap_i64]
  omega
theorem i64_mask (b : Int) (k : Nat) (h0 : 0 ≤ b) (h1 : b ≤ 9223372036854775807) (hk : k < 63) (m : Int) (hm : m = ((2 ^ k - 1 : Nat) : Int)) : bits .and .i64 b m = b % ((2 ^ k : Nat) : Int) := by
  obtain ⟨n, rfl⟩ := Int.eq_ofNat_of_zero_le h0
  subst hm
  have h2 : 2 ^ k ≤ 2 ^ 62 := Nat.pow_le_pow_right (by omega) (by omega)
  rw [i64_and_nat n (2 ^ k - 1) (by omega) (by omega), Nat.and_two_pow_sub_one_eq_mod]
  simp
def Blk (w : World) (g : Nat) (t : TypeId) (cs : Array Value) : Prop := w.heap[g]? = some (.cells cs t (0, 0))
section
variable {w w' : World} {g : Nat} {t : TypeId} {cs : Array Value}
theorem Blk.lt (h : Blk w g t cs) : g < w.heap.size := (Array.getElem?_eq_some_iff.1 h).1
theorem Blk.cell (h : Blk w g t cs) (i : Nat) : w.cell? ⟨g, i, none⟩ = cs[i]? := cell_of_row w g i cs t (0, 0) h
theorem Blk.frozen (h : Blk w g t cs) (i : Nat) : w.frozen? ⟨g, i, none⟩ = false := by
  unfold Blk at h
  simp [World.frozen?, h]
theorem Blk.new (w : World) (t : TypeId) (cs : Array Value) : Blk (w.alloc (.cells cs t)) w.heap.size t cs := heap_alloc_new w _
theorem Blk.drewN (h : Blk w g t cs) (n : Nat) : Blk (w.drewN n) g t cs := h
theorem Blk.alloc (h : Blk w g t cs) (o : Obj) : Blk (w.alloc o) g t cs := (Below.heap_alloc w o g h.lt).trans h
theorem Blk.set_ (h : Blk w g t cs) (i : Nat) (u : Value) : Blk (w.setCell ⟨g, i, none⟩ u) g t (cs.setIfInBounds i u) := by
  unfold Blk at h ⊢
  simp [World.setCell, Array.getElem?_modify, h]
theorem Blk.far (h : Blk w g t cs) {p : Addr} (hp : g ≠ p.block) (u : Value) : Blk (w.setCell p u) g t cs := (Below.heap_setCell w p u g hp).trans h
theorem Blk.below {B : Nat} (h : Blk w g t cs) (hb : Below B w w') (hg : g < B) : Blk w' g t cs := (hb.block g hg).trans h
theorem Blk.same (h : Blk w g t cs) (hb : Below w.heap.size w w') : Blk w' g t cs := (hb.block g h.lt).trans h
theorem Blk.grown {row : Option Nat} (h : Blk w g t cs) (hb : w.grownBy w' row) (hg : some g ≠ row) : Blk w' g t cs := (hb.block g h.lt hg).trans h
theorem Blk.step {base : Nat} {es : List TypeId} (h : Blk w g t cs) (hs : Step base es w w') (ht : t ∉ es) : Blk w' g t cs :=
  (hs.block g h.lt (.inr (fun ⟨cs', t', fz', hh', ht'⟩ => by
    unfold Blk at h
    rw [h] at hh'; injection hh' with hh'; injection hh' with _ e'; subst e'; exact ht ht'))).trans h
theorem Blk.bears (h : Blk w g t cs) : Bears [t] w g := ⟨cs, t, _, h, by simp⟩
end
section
variable {a w w' : World} {g : Nat}
theorem gb_refl (w : World) (g : Nat) : w.grownBy w (some g) := World.grownBy.refl w _
theorem gb_set (h : a.grownBy w (some g)) (i : Nat) (u : Value) : a.grownBy (w.setCell ⟨g, i, none⟩ u) (some g) :=
  ⟨h.os, h.tape, h.output, by simpa [World.setCell] using h.size, fun k hk hne => (Below.heap_setCell w _ u k (by rintro rfl; exact hne rfl)).trans (h.block k hk hne)⟩
theorem gb_alloc (h : a.grownBy w (some g)) (o : Obj) : a.grownBy (w.alloc o) (some g) :=
  ⟨h.os, h.tape, h.output, Nat.le_trans h.size (by simp), fun k hk hne => (Below.heap_alloc w o k (Nat.lt_of_lt_of_le hk h.size)).trans (h.block k hk hne)⟩
theorem gb_trans (h : a.grownBy w (some g)) (k : w.grownBy w' (some g)) : a.grownBy w' (some g) :=
  ⟨k.os.trans h.os, k.tape.trans h.tape, k.output.trans h.output, Nat.le_trans h.size k.size, fun i hi hne => (k.block i (Nat.lt_of_lt_of_le hi h.size) hne).trans (h.block i hi hne)⟩
theorem gb_below (h : a.grownBy w (some g)) (k : Below w.heap.size w w') : a.grownBy w' (some g) :=
  ⟨k.os.trans h.os, k.tape.trans h.tape, k.output.trans h.output, Nat.le_trans h.size k.size, fun i hi hne => (k.block i (Nat.lt_of_lt_of_le hi h.size)).trans (h.block i hi hne)⟩
theorem gb_step {es : List TypeId} (h : a.grownBy w (some g)) (k : Step a.heap.size es w w') : a.grownBy w' (some g) :=
  ⟨k.os.trans h.os, k.tape.trans h.tape, k.output.trans h.output, Nat.le_trans h.size k.size, fun i hi hne => (k.block i (Nat.lt_of_lt_of_le hi h.size) (.inl hi)).trans (h.block i hi hne)⟩
theorem Step.of_gb {base : Nat} {es : List TypeId} {t : TypeId} {cs : Array Value} (h : w.grownBy w' (some g)) (hg : base ≤ g) (hb : Blk w g t cs) (ht : t ∈ es) : Step base es w w' :=
  Step.of_grown h fun k hk => by
    injection hk with hk
    subst hk
    exact ⟨hg, cs, t, _, hb, ht⟩
end
theorem Own.ints_step {k : IntKind} {e : TypeId} {T es : List TypeId} {base base' : Nat} {w w' : World} {v : Value} {l : List Int} (h : Own (Rep.int k) e T base w v l) (hs : Step base' es w w') (he : e ∉ es) : Own (Rep.int k) e T base w' v l := by
  obtain ⟨hne, xs, hown, hels⟩ := h
  obtain ⟨hwf, rfl⟩ := els_ints_wf hels
  refine ⟨hne, _, ⟨hown.1, ?_⟩, els_ints _ _ _ _ hwf⟩
  rcases hown.2 with hn | ⟨g, cap, cur, rfl, hb, hg, rest⟩
  · exact .inl hn
  · refine .inr ⟨g, cap, cur, rfl, hb, ?_, rest⟩
    have hlt : g < w.heap.size := (Array.getElem?_eq_some_iff.1 hg).1
    rw [hs.block g hlt (.inr (fun ⟨cs', t', fz', hh', ht'⟩ => by
      rw [hg] at hh'; injection hh' with hh'; injection hh' with _ e'; subst e'; exact he ht'))]
    exact hg
theorem Own.ints_gb {k : IntKind} {e t : TypeId} {T : List TypeId} {base g : Nat} {cs : Array Value} {w w' : World} {v : Value} {l : List Int} (h : Own (Rep.int k) e T base w v l) (hg : w.grownBy w' (some g)) (hb : Blk w g t cs) (he : e ≠ t) : Own (Rep.int k) e T base w' v l :=
  h.ints_step (base' := 0) (es := [t]) (Step.of_gb hg (Nat.zero_le _) hb (by simp)) (by simpa using he)
theorem Slc.ints_any {k : IntKind} {So Si : Nat → Prop} {w : World} {v : Value} {l : List Int} (h : Slc (Rep.int k) So Si w v l) (Si' : Nat → Prop) : Slc (Rep.int k) So Si' w v l := by
  obtain ⟨A, c, rfl, h1, h2, xs, he, hr⟩ := h
  obtain ⟨hwf, rfl⟩ := els_ints_wf he
  exact ⟨A, c, rfl, h1, h2, _, els_ints _ _ _ _ hwf, hr⟩
theorem Own.islc {k : IntKind} {e : TypeId} {T : List TypeId} {base : Nat} {w : World} {v : Value} {l : List Int} (h : Own (Rep.int k) e T base w v l) : Slc (Rep.int k) (fun b => b < w.heap.size ∧ Fresh base [e] w b) (fun _ => False) w v l := h.slc.ints_any _
section
variable {P : Program}
theorem wpList_appi {ops : Array Oper} {rest : List Oper} {o : Oper} {a : Act} {w : World} {Q : Exit → Act → World → Prop} (hgd : o.guard = none) (s x : Operand) (t : TypeId)
    (ho : o.op = .call { callee := .builtin .append, args := #[s, x], argTypes := #[t, t] })
    (k : IntKind) (e : TypeId) (base bytes : Nat) (ht : P.underlying t = some (.slice e)) (hi : (P.info? e).map (fun i => (i.zero, i.size, i.bytes)) = some (some (.int k 0), 1, bytes)) (hb0 : 0 < bytes)
    (v : Value) (l : List Int) (hs : a.eval s = v) (hown : Own (Rep.int k) e [] base w v l) (So Si : Nat → Prop) (vx : Value) (l2 : List Int) (hxe : a.eval x = vx) (hx : Slc (Rep.int k) So Si w vx l2)
    (hb : (l.length + l2.length) * bytes ≤ 140737488355328) (hbase : base ≤ w.heap.size)
    (h : ∀ v' w', Own (Rep.int k) e [] base w' v' (l ++ l2) → Step base [e] w w' → wpList P ops Q rest (a.put o.dst v') w') : wpList P ops Q (o :: rest) a w := by
  obtain ⟨i0, hi0, hz0, hz1, hz2⟩ := info_parts hi
  exact wpList_app hgd s x t ho (Rep.int k) e [] base i0 (.int k 0) bytes ht hi0 hz0 hz1 hz2 rfl (by simp [Rep.int]) hb0 v l hs hown So (fun _ => False) vx l2 hxe (hx.ints_any _) (fun _ h => h.elim) hb hbase h
end
theorem Keep.gb {S : Nat → Prop} {w w' : World} {g : Nat} (h : w.grownBy w' (some g)) (hS : ∀ b, S b → b ≠ g) : Keep S w S w' := by
  intro p u hs hc
  exact ⟨hs, (World.cell?_of_block (h.block p.block (World.block_lt_of_cell? w p hc) (by intro e; injection e with e; exact hS _ hs e))).trans hc⟩
theorem Slc.ints_keep {k : IntKind} {So So' Si : Nat → Prop} {w w' : World} {v : Value} {l : List Int} (h : Slc (Rep.int k) So Si w v l) (hk : Keep So w So' w') : Slc (Rep.int k) So' Si w' v l :=
  ((h.ints_any (fun _ => False)).mono (Si' := fun _ => False) hk (fun _ _ h _ => h.elim)).ints_any _
theorem SlB.ints_keep {k : IntKind} {So So' Si : Nat → Prop} {w w' : World} {A : Option Addr} {l : List Int} (h : SlB (Rep.int k) So Si w A l) (hk : Keep So w So' w') : SlB (Rep.int k) So' Si w' A l := by
  obtain ⟨xs, he, hr⟩ := h
  obtain ⟨hwf, rfl⟩ := els_ints_wf he
  exact ⟨_, els_ints _ _ _ _ hwf, hr.mono hk (by simp [Rep.int])⟩
theorem SlB.ints_wf {k : IntKind} {So Si : Nat → Prop} {w : World} {A : Option Addr} {l : List Int} (h : SlB (Rep.int k) So Si w A l) : ∀ n ∈ l, (Lit.int k n).wf = true := by
  obtain ⟨xs, he, _⟩ := h
  exact (els_ints_wf he).1
theorem below_drewN {B : Nat} {a w : World} (h : Below B a w) (n : Nat) : Below B a (w.drewN n) := ⟨h.os, h.tape, h.output, h.size, h.block⟩
theorem Own.ints_base {k : IntKind} {e : TypeId} {T T' : List TypeId} {base base' : Nat} {w : World} {v : Value} {l : List Int} (h : Own (Rep.int k) e T base w v l) (hb : base' ≤ base) (hT : e ∉ T') : Own (Rep.int k) e T' base' w v l := by
  obtain ⟨hne, xs, hown, hels⟩ := h
  obtain ⟨hwf, rfl⟩ := els_ints_wf hels
  refine ⟨hT, _, ⟨hown.1, ?_⟩, els_ints _ _ _ _ hwf⟩
  rcases hown.2 with hn | ⟨g, cap, cur, rfl, hbg, rest⟩
  · exact .inl hn
  · exact .inr ⟨g, cap, cur, rfl, Nat.le_trans hb hbg, rest⟩
end Go.Proofs.YtdjpdllehhecpaaGreatDoor
namespace Go.Proofs.YtdjpdllehhecpaaGreatDoor
open Go.RowKit
set_option linter.unusedVariables false
theorem Slc.slb {α : Type} {R : Rep α} {So Si : Nat → Prop} {w : World} {A : Option Addr} {n c : Nat} {l : List α} (h : Slc R So Si w (.slice A n c) l) : SlB R So Si w A l := by
  obtain ⟨A', c', he, _, _, hB⟩ := h
  injection he with e1 e2 e3
  subst e1
  exact hB
def Flat {α : Type} (R : Rep α) : Prop := ∀ (S S' : Nat → Prop) (w w' : World) (vs : List Value) (x : α), R.E S w vs x → R.E S' w' vs x
def Rep.flat {α : Type} (n : Nat) (f : α → List Value) (hn : ∀ x, (f x).length = n) (h1 : ∀ x, ∀ u ∈ f x, u.oneCell' = true) : Rep α where
  sz := n
  E := fun _ _ vs x => vs = f x
  len := by rintro _ _ _ x rfl; exact hn x
  one := by rintro _ _ _ x rfl; exact h1 x
  mono := fun _ h => h
section
variable {α : Type} {R : Rep α}
theorem Flat.flat (n : Nat) (f : α → List Value) (hn : ∀ x, (f x).length = n) (h1 : ∀ x, ∀ u ∈ f x, u.oneCell' = true) : Flat (Rep.flat n f hn h1) := fun _ _ _ _ _ _ h => h
theorem Flat.int (k : IntKind) : Flat (Rep.int k) := fun _ _ _ _ _ _ h => h
theorem Els.flat (hR : Flat R) {S S' : Nat → Prop} {w w' : World} : ∀ {l : List α} {xs : List Value}, Els R S w l xs → Els R S' w' l xs
  | [], _, h => h
  | x :: l, _, ⟨u, xs', e, hu, h⟩ => ⟨u, xs', e, hR _ _ _ _ _ _ hu, h.flat hR⟩
theorem Slc.flat_any (hR : Flat R) {So Si : Nat → Prop} {w : World} {v : Value} {l : List α} (h : Slc R So Si w v l) (Si' : Nat → Prop) : Slc R So Si' w v l := by
  obtain ⟨A, c, rfl, h1, h2, xs, he, hr⟩ := h
  exact ⟨A, c, rfl, h1, h2, xs, he.flat hR, hr⟩
theorem Slc.flat_keep (hR : Flat R) {So So' Si Si' : Nat → Prop} {w w' : World} {v : Value} {l : List α} (h : Slc R So Si w v l) (hk : Keep So w So' w') : Slc R So' Si' w' v l :=
  ((h.flat_any hR (fun _ => False)).mono (Si' := fun _ => False) hk (fun _ _ h _ => h.elim)).flat_any hR _
theorem SlB.flat_keep (hR : Flat R) {So So' Si Si' : Nat → Prop} {w w' : World} {A : Option Addr} {l : List α} (h : SlB R So Si w A l) (hk : Keep So w So' w') : SlB R So' Si' w' A l := by
  obtain ⟨xs, he, hr⟩ := h
  exact ⟨xs, he.flat hR, hr.mono hk (by rw [he.length]; exact Nat.le_refl _)⟩
theorem Own.flat_step (hR : Flat R) {e : TypeId} {T es : List TypeId} {base base' : Nat} {w w' : World} {v : Value} {l : List α} (h : Own R e T base w v l) (hs : Step base' es w w') (he : e ∉ es) : Own R e T base w' v l := by
  obtain ⟨hne, xs, hown, hels⟩ := h
  refine ⟨hne, xs, ⟨hown.1, ?_⟩, hels.flat hR⟩
  rcases hown.2 with hn | ⟨g, cap, cur, rfl, hb, hg, rest⟩
  · exact .inl hn
  · refine .inr ⟨g, cap, cur, rfl, hb, ?_, rest⟩
    have hlt : g < w.heap.size := (Array.getElem?_eq_some_iff.1 hg).1
    rw [hs.block g hlt (.inr (fun ⟨cs', t', fz', hh', ht'⟩ => by
      rw [hg] at hh'; injection hh' with hh'; injection hh' with _ e'; subst e'; exact he ht'))]
    exact hg
theorem Own.flat_base (hR : Flat R) {e : TypeId} {T T' : List TypeId} {base base' : Nat} {w : World} {v : Value} {l : List α} (h : Own R e T base w v l) (hb : base' ≤ base) (hT : e ∉ T') : Own R e T' base' w v l := by
  obtain ⟨hne, xs, hown, hels⟩ := h
  refine ⟨hT, xs, ⟨hown.1, ?_⟩, hels.flat hR⟩
  rcases hown.2 with hn | ⟨g, cap, cur, rfl, hbg, rest⟩
  · exact .inl hn
  · exact .inr ⟨g, cap, cur, rfl, Nat.le_trans hb hbg, rest⟩
theorem Own.fslc (hR : Flat R) {e : TypeId} {T : List TypeId} {base : Nat} {w : World} {v : Value} {l : List α} (h : Own R e T base w v l) : Slc R (fun b => b < w.heap.size ∧ Fresh base [e] w b) (fun _ => False) w v l := h.slc.flat_any hR _
theorem Own.lt_ {e : TypeId} {T : List TypeId} {base : Nat} {w : World} {v : Value} {l : List α} (h : Own R e T base w v l) : ∀ k, v.ownBlock = some k → base ≤ k ∧ k < w.heap.size := by
  obtain ⟨_, xs, hown, _⟩ := h
  exact hown.lt
theorem wpList_appg {P : Program} {ops : Array Oper} {rest : List Oper} {o : Oper} {a : Act} {w : World} {Q : Exit → Act → World → Prop} (hgd : o.guard = none) (s x : Operand) (t : TypeId)
    (ho : o.op = .call { callee := .builtin .append, args := #[s, x], argTypes := #[t, t] })
    (R : Rep α) (e : TypeId) (T : List TypeId) (base bytes : Nat) (z : Value) (ht : P.underlying t = some (.slice e)) (hi : (P.info? e).map (fun i => (i.zero, i.size, i.bytes)) = some (some z, R.sz, bytes)) (hzs : z.cells.size = R.sz) (hsz : 0 < R.sz) (hb0 : 0 < bytes)
    (v : Value) (l : List α) (hs : a.eval s = v) (hown : Own R e T base w v l) (So Si : Nat → Prop) (vx : Value) (l2 : List α) (hxe : a.eval x = vx) (hx : Slc R So Si w vx l2) (hSi : ∀ b, Si b → Typed base T w b)
    (hb : (l.length + l2.length) * bytes ≤ 140737488355328) (hbase : base ≤ w.heap.size)
    (h : ∀ v' w', Own R e T base w' v' (l ++ l2) → Step base [e] w w' → w.grownBy w' v.ownBlock → (v'.ownBlock = v.ownBlock ∨ v'.ownBlock = some w.heap.size) → wpList P ops Q rest (a.put o.dst v') w') : wpList P ops Q (o :: rest) a w := by
  obtain ⟨i0, hi0, hz0, hz1, hz2⟩ := info_parts hi
  refine wpList_plain hgd fun _ hK => ?_
  obtain ⟨v', w', hrun, h2, h3, h4, h5⟩ := run_app (P := P) w R t o.type e T base i0 z bytes ht hi0 hz0 hz1 hz2 hzs hsz hb0 v l hown So Si vx l2 hx hSi hb hbase
  unfold Oper.wp execOp
  simp only [ho, resolve, invoke, builtin, Sem.run_bind, Sem.run_pure, Result.andThen_ok, List.map_toArray, List.map_cons, List.map_nil, hs, hxe, hrun]
  exact hK _ _ (h v' w' h2 h3 h4 h5)
theorem wpList_appf {P : Program} {ops : Array Oper} {rest : List Oper} {o : Oper} {a : Act} {w : World} {Q : Exit → Act → World → Prop} (hgd : o.guard = none) (s x : Operand) (t : TypeId)
    (ho : o.op = .call { callee := .builtin .append, args := #[s, x], argTypes := #[t, t] })
    (R : Rep α) (hR : Flat R) (e : TypeId) (base bytes : Nat) (z : Value) (ht : P.underlying t = some (.slice e)) (hi : (P.info? e).map (fun i => (i.zero, i.size, i.bytes)) = some (some z, R.sz, bytes)) (hzs : z.cells.size = R.sz) (hsz : 0 < R.sz) (hb0 : 0 < bytes)
    (v : Value) (l : List α) (hs : a.eval s = v) (hown : Own R e [] base w v l) (So Si : Nat → Prop) (vx : Value) (l2 : List α) (hxe : a.eval x = vx) (hx : Slc R So Si w vx l2)
    (hb : (l.length + l2.length) * bytes ≤ 140737488355328) (hbase : base ≤ w.heap.size)
    (h : ∀ v' w', Own R e [] base w' v' (l ++ l2) → Step base [e] w w' → w.grownBy w' v.ownBlock → wpList P ops Q rest (a.put o.dst v') w') : wpList P ops Q (o :: rest) a w :=
  wpList_appg hgd s x t ho R e [] base bytes z ht hi hzs hsz hb0 v l hs hown So (fun _ => False) vx l2 hxe (hx.flat_any hR _) (fun _ h => h.elim) hb hbase fun v' w' h1 h2 h3 _ => h v' w' h1 h2 h3
theorem Slc.one_flat {n : Nat} {f : α → List Value} {hn : ∀ x, (f x).length = n} {h1 : ∀ x, ∀ u ∈ f x, u.oneCell' = true} (e : TypeId) (w : World) (m : Nat) (hm : m = w.heap.size) (x : α) (cs : Array Value) (hcs : cs = (f x).toArray) :
    Slc (Rep.flat n f hn h1) (fun _ => True) (fun _ => False) (w.alloc (.cells cs e)) (.slice (some ⟨m, 0, none⟩) 1 1) [x] := by
  subst hm; subst hcs
  exact Slc.lit1 (R := Rep.flat n f hn h1) (Si := fun _ => False) e rfl (fun _ _ h => h.elim)
end
end Go.Proofs.YtdjpdllehhecpaaGreatDoor
namespace Go.Proofs.YtdjpdllehhecpaaGreatDoor
open Go.RowKit
set_option linter.unusedVariables false
section
variable {P : Program} {α : Type}
end
def Own2 {α : Type} (R : Rep α) (e : TypeId) (T : List TypeId) (base bi : Nat) (w : World) (v : Value) (l : List α) : Prop :=
  bi ≤ base ∧ e ∉ T ∧ ∃ xs, w.ownsRow base e R.sz v l.length xs ∧ Els R (Typed bi T w) w l xs
section
variable {α : Type} {R : Rep α} {e : TypeId} {T es : List TypeId} {base bi : Nat} {w w' : World} {v : Value} {l : List α}
theorem Own2.nil_ (R : Rep α) (e : TypeId) (T : List TypeId) (base bi : Nat) (w : World) (hb : bi ≤ base) (hT : e ∉ T) : Own2 R e T base bi w (.slice none 0 0) [] :=
  ⟨hb, hT, [], World.ownsRow_nil _ _ _ _, rfl⟩
theorem Own2.step (h : Own2 R e T base bi w v l) (hs : Step base es w w') (he : e ∉ es) (hT : ∀ t ∈ T, t ∉ es) : Own2 R e T base bi w' v l := by
  obtain ⟨hbb, hne, xs, hown, hels⟩ := h
  refine ⟨hbb, hne, xs, ⟨hown.1, ?_⟩, hels.mono (Keep.step (hs.mono hbb (fun _ h => h)) hT)⟩
  rcases hown.2 with hn | ⟨g, cap, cur, rfl, hb, hg, rest⟩
  · exact .inl hn
  · refine .inr ⟨g, cap, cur, rfl, hb, ?_, rest⟩
    have hlt : g < w.heap.size := (Array.getElem?_eq_some_iff.1 hg).1
    rw [hs.block g hlt (.inr (fun ⟨cs', t', fz', hh', ht'⟩ => by
      rw [hg] at hh'; injection hh' with hh'; injection hh' with _ e'; subst e'; exact he ht'))]
    exact hg
theorem Own2.below (h : Own2 R e T base bi w v l) (hb : Below w.heap.size w w') : Own2 R e T base bi w' v l :=
  h.step (es := []) (Step.of_below hb) (by simp) (by simp)
theorem Own2.alloc (h : Own2 R e T base bi w v l) (o : Obj) : Own2 R e T base bi (w.alloc o) v l :=
  h.step (es := []) (Step.alloc1 base [] w o) (by simp) (by simp)
theorem Own2.own (h : Own2 R e T base bi w v l) (b0 : Nat) (h1 : bi ≤ b0) (h2 : b0 ≤ base) : Own R e T b0 w v l := by
  obtain ⟨hbb, hne, xs, hown, hels⟩ := h
  refine ⟨hne, xs, ⟨hown.1, ?_⟩, hels.mono (Keep.weaken (Typed.more h1 (fun _ h => h)))⟩
  rcases hown.2 with hn | ⟨g, cap, cur, rfl, hb, rest⟩
  · exact .inl hn
  · exact .inr ⟨g, cap, cur, rfl, Nat.le_trans h2 hb, rest⟩
theorem Own2.drewN (h : Own2 R e T base bi w v l) (n : Nat) : Own2 R e T base bi (w.drewN n) v l :=
  h.step (es := []) ((Step.refl base [] w).drewN n) (by simp) (by simp)
theorem Own2.dr (h : Own2 R e T base bi w v l) : Own2 R e T base bi w.drew v l :=
  h.step (es := []) ((Step.refl base [] w).drew) (by simp) (by simp)
theorem Own2.slc (h : Own2 R e T base bi w v l) : Slc R (fun b => b < w.heap.size ∧ Fresh base [e] w b) (Typed bi T w) w v l := by
  obtain ⟨_, _, xs, hown, hels⟩ := h
  have hb := own_bears hown
  have hlt := hown.lt
  rcases hown.2 with ⟨rfl, h0⟩ | ⟨g, cap, cur, rfl, hbg, hg, hn, hm, _⟩
  · have : l = [] := List.eq_nil_of_length_eq_zero h0
    subst this
    exact Slc.nil_
  · refine ⟨_, cap, rfl, hn, hm, xs, hels, fun _ => ⟨⟨g, 0, none⟩, rfl, ⟨(hlt g rfl).2, (hb g rfl).1, (hb g rfl).2⟩, hown.cells (g := g) rfl⟩⟩
theorem Own2.down (h : Own2 R e T base bi w v l) (b0 : Nat) (h1 : bi ≤ b0) (h2 : b0 ≤ base) : Own2 R e T b0 bi w v l := by
  obtain ⟨hbb, hne, xs, hown, hels⟩ := h
  refine ⟨h1, hne, xs, ⟨hown.1, ?_⟩, hels⟩
  rcases hown.2 with hn | ⟨g, cap, cur, rfl, hb, rest⟩
  · exact .inl hn
  · exact .inr ⟨g, cap, cur, rfl, Nat.le_trans h2 hb, rest⟩
theorem own2_open (h : Own2 R e T base bi w v l) (hl : 0 < l.length) :
    ∃ g cap xs rest, v = .slice (some ⟨g, 0, none⟩) l.length cap ∧ base ≤ g ∧ Blk w g e (xs ++ rest).toArray ∧ xs.length = l.length * R.sz ∧ Els R (Typed bi T w) w l xs ∧ (xs ++ rest).length = cap * R.sz ∧ l.length ≤ cap ∧ cap ≤ maxLen := by
  obtain ⟨hbb, hT, xs, ⟨hx, hown⟩, hels⟩ := h
  rcases hown with ⟨_, h0⟩ | ⟨g, cap, cur, rfl, hb, hh, hc, hm, hs, ht⟩
  · omega
  · refine ⟨g, cap, xs, cur.toList.drop (l.length * R.sz), rfl, hb, ?_, hx, hels, ?_, hc, hm⟩
    · rw [← ht, List.take_append_drop]; exact hh
    · rw [← ht, List.take_append_drop]; simpa using hs
theorem own2_shut {g cap n : Nat} {xs rest : List Value} (hbb : bi ≤ base) (hT : e ∉ T) (hb : base ≤ g) (hh : Blk w g e (xs ++ rest).toArray) (hels : Els R (Typed bi T w) w l xs)
    (hn : l.length = n) (hs : (xs ++ rest).length = cap * R.sz) (hc : n ≤ cap) (hm : cap ≤ maxLen) : Own2 R e T base bi w (.slice (some ⟨g, 0, none⟩) n cap) l := by
  subst hn
  have hx := hels.length
  refine ⟨hbb, hT, xs, ⟨hx, .inr ⟨g, cap, _, rfl, hb, hh, hc, hm, by simpa using hs, ?_⟩⟩, hels⟩
  rw [← hx]; simp
theorem Own2.lit {xs : List Value} {n : Nat} (hbb : bi ≤ base) (hT : e ∉ T) (h : Els R (Typed bi T w) w l xs) (hb : base ≤ w.heap.size) (hn : l.length = n) (hm : n ≤ maxLen) :
    Own2 R e T base bi (w.alloc (.cells xs.toArray e)) (.slice (some ⟨w.heap.size, 0, none⟩) n n) l := by
  subst hn
  have hk : Keep (Typed bi T w) w (Typed bi T (w.alloc (.cells xs.toArray e))) (w.alloc (.cells xs.toArray e)) := Keep.step (es := []) (Step.alloc1 bi [] w _) (by simp)
  exact ⟨hbb, hT, xs, ⟨h.length, .inr ⟨w.heap.size, l.length, xs.toArray, rfl, hb, heap_alloc_new w _, Nat.le_refl _, hm, by simpa using h.length, by simp [← h.length]⟩⟩, h.mono hk⟩
end
section
variable {P : Program} {α : Type}
theorem wpList_app2 {ops : Array Oper} {rest : List Oper} {o : Oper} {a : Act} {w : World} {Q : Exit → Act → World → Prop} (hgd : o.guard = none) (s x : Operand) (t : TypeId)
    (ho : o.op = .call { callee := .builtin .append, args := #[s, x], argTypes := #[t, t] })
    (R : Rep α) (e : TypeId) (T : List TypeId) (base bi bytes : Nat) (z : Value) (ht : P.underlying t = some (.slice e)) (hi : (P.info? e).map (fun i => (i.zero, i.size, i.bytes)) = some (some z, R.sz, bytes)) (hzs : z.cells.size = R.sz) (hsz : 0 < R.sz) (hb0 : 0 < bytes)
    (v : Value) (l : List α) (hs : a.eval s = v) (hown : Own2 R e T base bi w v l) (base2 : Nat) (ad : Addr) (m c : Nat) (l2 : List α) (hxe : a.eval x = .slice (some ad) m c) (hx : Own2 R e T base2 bi w (.slice (some ad) m c) l2) (hm : 0 < l2.length)
    (hb : (l.length + l2.length) * bytes ≤ 140737488355328) (hbase : base ≤ w.heap.size)
    (h : ∀ v' w', Own2 R e T base bi w' v' (l ++ l2) → Step base [e] w w' → wpList P ops Q rest (a.put o.dst v') w') : wpList P ops Q (o :: rest) a w := by
  obtain ⟨i0, hi0, hz0, hz1, hz2⟩ := info_parts hi
  refine wpList_plain hgd fun _ hK => ?_
  obtain ⟨hbb, hne, xs, hor, hels⟩ := hown
  obtain ⟨_, _, ys, hor2, hels2⟩ := hx
  have h63 : l.length + l2.length ≤ maxLen := by
    have := Nat.le_trans (Nat.le_mul_of_pos_right (l.length + l2.length) hb0) hb
    simp only [maxLen]; omega
  rcases hor2.2 with ⟨hv, h0⟩ | ⟨g, cap, cur, hv, _, _, _, _, _⟩
  · omega
  · injection hv with e1 e2 e3
    injection e1 with e1
    subst e1; subst e2; subst e3
    have hcells := hor2.cells (g := g) rfl
    obtain ⟨v', w', hrun, hown', hgr, _, h5⟩ := run_append_own_at (P := P) w base t o.type e i0 z R.sz bytes ht hi0 hz0 hz1 hz2 hzs hsz v l.length xs hor ⟨g, 0, none⟩ l2.length c ys
      hels2.length hcells hels2.one h63 hb hbase
    have hst : Step base [e] w w' := Step.of_grown hgr (own_bears hor)
    have hk := Keep.step (T := T) (hst.mono hbb (fun _ h => h)) (fun t' ht' he => by simp at he; subst he; exact hne ht')
    unfold Oper.wp execOp
    simp only [ho, resolve, invoke, builtin, Sem.run_bind, Sem.run_pure, Result.andThen_ok, List.map_toArray, List.map_cons, List.map_nil, hs, hxe, hrun]
    exact hK _ _ (h v' w' ⟨hbb, hne, xs ++ ys, by simpa using hown', (hels.mono hk).append (hels2.mono hk)⟩ hst)
end
end Go.Proofs.YtdjpdllehhecpaaGreatDoor
namespace Go.Proofs.YtdjpdllehhecpaaGreatDoor
open Go.RowKit
set_option linter.unusedVariables false
end Go.Proofs.YtdjpdllehhecpaaGreatDoor
namespace Go.Proofs.YtdjpdllehhecpaaGreatDoor
open Go.RowKit
set_option linter.unusedVariables false
theorem step_appg {α : Type} {P : Program} {ops : Array Oper} {o : Oper} {a : Act} {w : World} {K : Act → World → Prop} {Q : Exit → Act → World → Prop} {E : Prop} (hgd : o.guard = none) (s x : Operand) (t : TypeId)
    (ho : o.op = .call { callee := .builtin .append, args := #[s, x], argTypes := #[t, t] })
    (R : Rep α) (e : TypeId) (T : List TypeId) (base bytes : Nat) (z : Value) (ht : P.underlying t = some (.slice e)) (hi : (P.info? e).map (fun i => (i.zero, i.size, i.bytes)) = some (some z, R.sz, bytes)) (hzs : z.cells.size = R.sz) (hsz : 0 < R.sz) (hb0 : 0 < bytes)
    (v : Value) (l : List α) (hs : a.eval s = v) (hown : Own R e T base w v l) (So Si : Nat → Prop) (vx : Value) (l2 : List α) (hxe : a.eval x = vx) (hx : Slc R So Si w vx l2) (hSi : ∀ b, Si b → Typed base T w b)
    (hb : (l.length + l2.length) * bytes ≤ 140737488355328) (hbase : base ≤ w.heap.size)
    (h : ∀ v' w', Own R e T base w' v' (l ++ l2) → Step base [e] w w' → w.grownBy w' v.ownBlock → (v'.ownBlock = v.ownBlock ∨ v'.ownBlock = some w.heap.size) → K (a.put o.dst v') w') :
    if Region.wanted o (yielded ops a.tmps) = true then Oper.wp P o a w K Q else E := by
  have hw : Region.wanted o (yielded ops a.tmps) = true := by simp [Region.wanted, hgd]
  rw [if_pos hw]
  obtain ⟨i0, hi0, hz0, hz1, hz2⟩ := info_parts hi
  obtain ⟨v', w', hrun, h2, h3, h4, h5⟩ := run_app (P := P) w R t o.type e T base i0 z bytes ht hi0 hz0 hz1 hz2 hzs hsz hb0 v l hown So Si vx l2 hx hSi hb hbase
  unfold Oper.wp execOp
  simp only [ho, resolve, invoke, builtin, Sem.run_bind, Sem.run_pure, Result.andThen_ok, List.map_toArray, List.map_cons, List.map_nil, hs, hxe, hrun]
  exact h v' w' h2 h3 h4 h5
def RRow : Rep (List Int) := Rep.slice (Rep.int .i32)
end Go.Proofs.YtdjpdllehhecpaaGreatDoor
namespace Go.Proofs.YtdjpdllehhecpaaGreatDoor
open Go.RowKit
set_option linter.unusedVariables false
set_option linter.unusedSimpArgs false
theorem Own2.lt_ {α : Type} {R : Rep α} {e : TypeId} {T : List TypeId} {base bi : Nat} {w : World} {v : Value} {l : List α} (h : Own2 R e T base bi w v l) : ∀ k, v.ownBlock = some k → base ≤ k ∧ k < w.heap.size := by
  obtain ⟨_, _, xs, hown, _⟩ := h
  exact hown.lt
end Go.Proofs.YtdjpdllehhecpaaGreatDoor
