/-
  What a call leaves as it was. No condition of a program.
-/
import Derived.Test.YtacjgkpncdnbgaaDoorSep
import Derived.Test.YtacjgkpncdnbgaaDoorRows
namespace Go.Proofs.YtacjgkpncdnbgaaDoor
open Go.RowKit

/-- Everything that was there is as it was. -/
structure Kept (w w' : World) : Prop where
  ext : Ext w w'
  keep : ∀ (k : Nat) (o : Obj), w.heap[k]? = some o → w'.heap[k]? = some o
theorem Kept.refl (w : World) : Kept w w := ⟨Ext.refl w, fun _ _ h => h⟩
theorem Kept.trans {a b c : World} (h : Kept a b) (k : Kept b c) : Kept a c := ⟨h.ext.trans k.ext, fun i o ho => k.keep i o (h.keep i o ho)⟩
theorem Kept.alloc {a w : World} (h : Kept a w) (o : Obj) : Kept a (w.alloc o) :=
  h.trans ⟨(Ext.refl _).alloc o, fun k u hk => by rw [Below.heap_alloc _ _ _ (Array.getElem?_eq_some_iff.1 hk).1]; exact hk⟩
theorem Kept.drew {a w : World} (h : Kept a w) : Kept a w.drew := ⟨h.ext.drew, h.keep⟩
theorem Kept.drewN {a w : World} (n : Nat) (h : Kept a w) : Kept a (w.drewN n) := ⟨h.ext.drewN n, h.keep⟩
/-- A store into a block that the call has made. -/
theorem Kept.setCell {a w : World} (h : Kept a w) {p : Addr} (hp : a.heap.size ≤ p.block) (v : Value) : Kept a (w.setCell p v) :=
  ⟨h.ext.setCell p v, fun k o hk => by
    rw [Below.heap_setCell _ _ _ _ (by have := (Array.getElem?_eq_some_iff.1 hk).1; omega)]; exact h.keep k o hk⟩
theorem Sat.kept {w w' : World} {P : HProp} (h : Sat w P) (k : Kept w w') : Sat w' P := h.step k.keep
theorem Kept.cell {w w' : World} (k : Kept w w') {p : Addr} {v : Value} (h : w.cell? p = some v) : w'.cell? p = some v := by
  have hlt := World.block_lt_of_cell? w p h
  have := k.keep p.block _ (Array.getElem?_eq_getElem hlt)
  rw [World.cell?_of_block (w := w) (by rw [this, Array.getElem?_eq_getElem hlt])]; exact h

end Go.Proofs.YtacjgkpncdnbgaaDoor
