/-
  A small separation logic over the model's heap: assertions on fragments of the heap, their separate product, and the rules
  for a draw, a new block and a store. Its conditions: none of a program; plain facts on worlds.
-/
import Derived.WalkKit
import Derived.WalkSpells
import Derived.WalkLawsBesides
import Derived.Deep.QuietTactic
import Derived.BigQuiet
import Derived.Lib.Hide
namespace Go.Proofs.YtmemhoiepnlhfaaGreatDoor
open Go.RowKit

/-- A fragment of the heap: some blocks with what they hold. -/
abbrev Frag := Nat → Option Obj
/-- An assertion on a fragment. -/
def HProp := Frag → Prop
def Frag.disj (a b : Frag) : Prop := ∀ k, a k = none ∨ b k = none
def Frag.join (a b : Frag) : Frag := fun k => (a k).or (b k)
def HProp.sep (P Q : HProp) : HProp := fun h => ∃ a b : Frag, Frag.disj a b ∧ h = Frag.join a b ∧ P a ∧ Q b
instance : Mul HProp := ⟨HProp.sep⟩

theorem Frag.join_comm {a b : Frag} (h : Frag.disj a b) : Frag.join a b = Frag.join b a := by
  funext k
  unfold Frag.join
  rcases h k with h | h <;> rw [h] <;> simp
theorem Frag.join_assoc (a b c : Frag) : Frag.join (Frag.join a b) c = Frag.join a (Frag.join b c) := by
  funext k
  unfold Frag.join
  cases a k <;> simp
theorem Frag.disj_symm {a b : Frag} (h : Frag.disj a b) : Frag.disj b a := fun k => (h k).symm

theorem sep_def (P Q : HProp) : P * Q = fun h => ∃ a b : Frag, Frag.disj a b ∧ h = Frag.join a b ∧ P a ∧ Q b := rfl
theorem sep_comm (P Q : HProp) : P * Q = Q * P := by
  funext h
  apply propext
  constructor
  · rintro ⟨a, b, hd, rfl, hp, hq⟩; exact ⟨b, a, Frag.disj_symm hd, Frag.join_comm hd, hq, hp⟩
  · rintro ⟨a, b, hd, rfl, hp, hq⟩; exact ⟨b, a, Frag.disj_symm hd, Frag.join_comm hd, hq, hp⟩
theorem sep_assoc (P Q R : HProp) : P * Q * R = P * (Q * R) := by
  funext h
  apply propext
  constructor
  · rintro ⟨ab, c, hd, rfl, ⟨a, b, hd', rfl, hp, hq⟩, hr⟩
    refine ⟨a, Frag.join b c, fun k => ?_, (Frag.join_assoc a b c), hp, b, c, fun k => ?_, rfl, hq, hr⟩
    · rcases hd k with h | h
      · left; unfold Frag.join at h; cases ha : a k <;> simp_all
      · rcases hd' k with h' | h'
        · left; exact h'
        · right; unfold Frag.join; simp [h, h']
    · rcases hd k with h | h
      · left; unfold Frag.join at h; cases ha : a k <;> simp_all
      · right; exact h
  · rintro ⟨a, bc, hd, rfl, hp, b, c, hd', rfl, hq, hr⟩
    refine ⟨Frag.join a b, c, fun k => ?_, (Frag.join_assoc a b c).symm, ⟨a, b, fun k => ?_, rfl, hp, hq⟩, hr⟩
    · rcases hd' k with h | h
      · rcases hd k with h' | h'
        · left; unfold Frag.join; simp [h, h']
        · right; unfold Frag.join at h'; simp [h] at h'; exact h'
      · right; exact h
    · rcases hd k with h | h
      · left; exact h
      · right; unfold Frag.join at h; cases hb : b k <;> simp_all
instance : Std.Associative (α := HProp) (· * ·) := ⟨sep_assoc⟩
instance : Std.Commutative (α := HProp) (· * ·) := ⟨sep_comm⟩

/-- One block. -/
def pts (b : Nat) (o : Obj) : HProp := fun h => h = fun k => if k = b then some o else none
/-- Nothing, and a plain fact. -/
def fact (p : Prop) : HProp := fun h => p ∧ h = fun _ => none
/-- There is .. -/
def hex {α : Type} (f : α → HProp) : HProp := fun h => ∃ a, f a h
/-- All blocks of a world, as they are. -/
def old (w : World) : HProp := fun h => h = fun k => w.heap[k]?

theorem sep_hex {α : Type} (f : α → HProp) (R : HProp) : hex f * R = hex fun a => f a * R := by
  funext h
  apply propext
  constructor
  · rintro ⟨a, b, hd, rfl, ⟨x, hx⟩, hr⟩; exact ⟨x, a, b, hd, rfl, hx, hr⟩
  · rintro ⟨x, a, b, hd, rfl, hx, hr⟩; exact ⟨a, b, hd, rfl, ⟨x, hx⟩, hr⟩
theorem fact_sep (p : Prop) (R : HProp) : fact p * R = fun h => p ∧ R h := by
  funext h
  apply propext
  constructor
  · rintro ⟨a, b, hd, rfl, ⟨hp, rfl⟩, hr⟩
    refine ⟨hp, ?_⟩
    have : Frag.join (fun _ => none) b = b := by funext k; simp [Frag.join]
    rw [this]; exact hr
  · rintro ⟨hp, hr⟩
    exact ⟨fun _ => none, h, fun _ => .inl rfl, by funext k; simp [Frag.join], ⟨hp, rfl⟩, hr⟩

/-- The world holds a fragment that meets the assertion. -/
def Sat (w : World) (P : HProp) : Prop := ∃ h : Frag, (∀ k o, h k = some o → w.heap[k]? = some o) ∧ P h

theorem Sat.cast {w : World} {P Q : HProp} (h : Sat w P) (e : P = Q) : Sat w Q := e ▸ h
theorem Sat.mono {w : World} {P Q : HProp} (h : Sat w P) (e : ∀ x, P x → Q x) : Sat w Q :=
  let ⟨f, hf, hp⟩ := h; ⟨f, hf, e _ hp⟩
theorem Sat.swap {w : World} {P Q : HProp} (h : Sat w (P * Q)) : Sat w (Q * P) := h.cast (sep_comm _ _)
theorem Sat.left {w : World} {P Q : HProp} (h : Sat w (P * Q)) : Sat w P := by
  obtain ⟨f, hf, a, b, hd, rfl, hp, hq⟩ := h
  refine ⟨a, fun k o hk => hf k o ?_, hp⟩
  unfold Frag.join; rw [hk]; rfl
theorem Sat.right {w : World} {P Q : HProp} (h : Sat w (P * Q)) : Sat w Q := h.swap.left
theorem Sat.fact {w : World} {p : Prop} {R : HProp} (h : Sat w (fact p * R)) : p ∧ Sat w R := by
  rw [fact_sep] at h
  obtain ⟨f, hf, hp, hr⟩ := h
  exact ⟨hp, f, hf, hr⟩
theorem Sat.of_fact {w : World} {p : Prop} {R : HProp} (hp : p) (h : Sat w R) : Sat w (Proofs.YtmemhoiepnlhfaaGreatDoor.fact p * R) := by
  rw [fact_sep]
  obtain ⟨f, hf, hr⟩ := h
  exact ⟨f, hf, hp, hr⟩
theorem Sat.hex {w : World} {α : Type} {f : α → HProp} {R : HProp} (h : Sat w (hex f * R)) : ∃ a, Sat w (f a * R) := by
  rw [sep_hex] at h
  obtain ⟨g, hg, a, ha⟩ := h
  exact ⟨a, g, hg, ha⟩
theorem Sat.of_hex {w : World} {α : Type} {f : α → HProp} {R : HProp} (a : α) (h : Sat w (f a * R)) : Sat w (Proofs.YtmemhoiepnlhfaaGreatDoor.hex f * R) := by
  rw [sep_hex]
  obtain ⟨g, hg, ha⟩ := h
  exact ⟨g, hg, a, ha⟩
theorem Sat.block {w : World} {b : Nat} {o : Obj} {R : HProp} (h : Sat w (pts b o * R)) : w.heap[b]? = some o := by
  obtain ⟨f, hf, rfl⟩ := h.left
  exact hf b o (by simp)
theorem Sat.lt {w : World} {b : Nat} {o : Obj} {R : HProp} (h : Sat w (pts b o * R)) : b < w.heap.size := by
  have := h.block
  exact (Array.getElem?_eq_some_iff.1 this).1
theorem Sat.ne {w : World} {b c : Nat} {o u : Obj} {R : HProp} (h : Sat w (pts b o * (pts c u * R))) : b ≠ c := by
  rintro rfl
  obtain ⟨f, hf, x, y, hd, rfl, hx, z, t, hd', rfl, hz, ht⟩ := h
  have h1 : x b = some o := by rw [hx]; simp
  have h2 : z b = some u := by rw [hz]; simp
  rcases hd b with h | h
  · rw [h1] at h; cases h
  · unfold Frag.join at h; rw [h2] at h; cases h
theorem Sat.oldBlock {W w : World} {R : HProp} (h : Sat w (old W * R)) {k : Nat} (hk : k < W.heap.size) : w.heap[k]? = W.heap[k]? := by
  obtain ⟨f, hf, rfl⟩ := h.left
  obtain ⟨o, ho⟩ : ∃ o, W.heap[k]? = some o := ⟨W.heap[k], Array.getElem?_eq_getElem hk⟩
  rw [ho]; exact hf k o ho
theorem Sat.start (w : World) : Sat w (old w) := ⟨_, fun _ _ h => h, rfl⟩

/-- What a step leaves alone: whatever was there and is none of 'b' is as it was. -/
theorem Sat.step {w w' : World} {P : HProp} (h : Sat w P) (e : ∀ (k : Nat) (o : Obj), w.heap[k]? = some o → w'.heap[k]? = some o) : Sat w' P :=
  let ⟨f, hf, hp⟩ := h; ⟨f, fun k o hk => e k o (hf k o hk), hp⟩
theorem Sat.write {w w' : World} {b : Nat} {o o' : Obj} {R : HProp} (h : Sat w (pts b o * R)) (hb : w'.heap[b]? = some o')
    (e : ∀ (k : Nat), k ≠ b → ∀ u : Obj, w.heap[k]? = some u → w'.heap[k]? = some u) : Sat w' (pts b o' * R) := by
  obtain ⟨f, hf, x, y, hd, rfl, hx, hy⟩ := h
  refine ⟨Frag.join (fun k => if k = b then some o' else none) y, fun k u hk => ?_, _, y, fun k => ?_, rfl, rfl, hy⟩
  · by_cases hkb : k = b
    · subst hkb
      simp [Frag.join] at hk
      rw [← hk]; exact hb
    · simp [Frag.join, hkb] at hk
      refine e k hkb u (hf k u ?_)
      have : x k = none := by rw [hx]; simp [hkb]
      unfold Frag.join; rw [this, hk]; rfl
  · by_cases hkb : k = b
    · subst hkb
      right
      rcases hd k with h | h
      · rw [hx] at h; simp at h
      · exact h
    · left; simp [hkb]
theorem Sat.new {w w' : World} {o : Obj} {R : HProp} (h : Sat w R) (hb : w'.heap[w.heap.size]? = some o)
    (e : ∀ (k : Nat) (u : Obj), w.heap[k]? = some u → w'.heap[k]? = some u) : Sat w' (pts w.heap.size o * R) := by
  obtain ⟨f, hf, hr⟩ := h
  refine ⟨Frag.join (fun k => if k = w.heap.size then some o else none) f, fun k u hk => ?_, _, f, fun k => ?_, rfl, rfl, hr⟩
  · by_cases hkb : k = w.heap.size
    · subst hkb
      simp [Frag.join] at hk
      rw [← hk]; exact hb
    · simp [Frag.join, hkb] at hk
      exact e k u (hf k u hk)
  · by_cases hkb : k = w.heap.size
    · subst hkb
      right
      cases hfk : f w.heap.size with
      | none => rfl
      | some u => have := hf _ _ hfk; simp at this
    · left; simp [hkb]

theorem Sat.drew {w : World} {P : HProp} (h : Sat w P) : Sat w.drew P := h
theorem Sat.drewN {w : World} {P : HProp} (n : Nat) (h : Sat w P) : Sat (w.drewN n) P := h
theorem Sat.alloc {w : World} {P : HProp} (h : Sat w P) (o : Obj) : Sat (w.alloc o) P :=
  h.step fun k u hk => by rw [Below.heap_alloc _ _ _ (Array.getElem?_eq_some_iff.1 hk).1]; exact hk
theorem heap_alloc_new (w : World) (o : Obj) : (w.alloc o).heap[w.heap.size]? = some o := by
  show (w.heap.push o)[w.heap.size]? = _
  simp
theorem Sat.allocNew {w : World} {P : HProp} (h : Sat w P) (o : Obj) : Sat (w.alloc o) (pts w.heap.size o * P) :=
  h.new (heap_alloc_new w o) fun k u hk => by rw [Below.heap_alloc _ _ _ (Array.getElem?_eq_some_iff.1 hk).1]; exact hk
theorem Sat.setCell {w : World} {R : HProp} {b i : Nat} {c : Array Value} {e : TypeId} {z : Nat × Nat} (h : Sat w (pts b (.cells c e z) * R)) (v : Value) :
    Sat (w.setCell ⟨b, i, none⟩ v) (pts b (.cells (c.setIfInBounds i v) e z) * R) :=
  h.write (by simp only [World.setCell, Array.getElem?_modify]; rw [if_pos trivial, h.block]; rfl) fun k hk u hu => by
    rw [Below.heap_setCell _ _ _ _ hk]; exact hu
/-- A cell, and its mark, off its block. -/
theorem Sat.cell {w : World} {R : HProp} {b i : Nat} {c : Array Value} {e : TypeId} {z : Nat × Nat} (h : Sat w (pts b (.cells c e z) * R)) :
    w.cell? ⟨b, i, none⟩ = c[i]? := by simp [World.cell?, h.block]
theorem Sat.free {w : World} {R : HProp} {b : Nat} {c : Array Value} {e : TypeId} (h : Sat w (pts b (.cells c e) * R)) (i : Nat) :
    w.frozen? ⟨b, i, none⟩ = false := by simp [World.frozen?, h.block]

/-- The streams and the tape are as they were; no block has gone. -/
structure Ext (w w' : World) : Prop where
  os : w'.os = w.os
  tape : w'.tape = w.tape
  output : w'.output = w.output
  size : w.heap.size ≤ w'.heap.size
theorem Ext.refl (w : World) : Ext w w := ⟨rfl, rfl, rfl, Nat.le_refl _⟩
theorem Ext.trans {a b c : World} (h : Ext a b) (k : Ext b c) : Ext a c :=
  ⟨k.os.trans h.os, k.tape.trans h.tape, k.output.trans h.output, Nat.le_trans h.size k.size⟩
theorem Ext.drew {a w : World} (h : Ext a w) : Ext a w.drew := ⟨h.os, h.tape, h.output, h.size⟩
theorem Ext.drewN {a w : World} (n : Nat) (h : Ext a w) : Ext a (w.drewN n) := ⟨h.os, h.tape, h.output, h.size⟩
theorem Ext.alloc {a w : World} (h : Ext a w) (o : Obj) : Ext a (w.alloc o) := h.trans ⟨rfl, rfl, rfl, by simp⟩
theorem Ext.setCell {a w : World} (h : Ext a w) (p : Addr) (v : Value) : Ext a (w.setCell p v) := h.trans ⟨rfl, rfl, rfl, by simp [World.setCell]⟩
theorem Ext.grown {a w w' : World} {row : Option Nat} (h : Ext a w) (hg : w.grownBy w' row) : Ext a w' := h.trans ⟨hg.os, hg.tape, hg.output, hg.size⟩
theorem Ext.below {W w : World} {R : HProp} (h : Ext W w) (hs : Sat w (old W * R)) : Below W.heap.size W w :=
  ⟨h.os, h.tape, h.output, h.size, fun _ hk => hs.oldBlock hk⟩
end Go.Proofs.YtmemhoiepnlhfaaGreatDoor
