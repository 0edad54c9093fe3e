/-
  The frame of the ratio laws' rows, for the struct of two integers and a text. No condition.
-/
import Derived.Test.YtacjgkpncdnbgaaDoorFr
namespace Go.Proofs.YtacjgkpncdnbgaaDoor
open Go.ChangeShapes Go.WideShapes Go.ChangeAt Go.RowKit

theorem Tryd.cellsRaw : Tryd.prog.cellsOf 41 = 3 := by kernel_rfl
section
variable {H : Type} {enc : TypeId × Value → H} {W : World} {base : Nat} {sp : Nat → Bool} {held : Bool}
theorem open_raw {fuel : Nat} {r : Reach} {b0 : Nat} {v : Value} {x : DataW H × List MemPlace} (h : DataW.trod enc Tryd.prog W base sp held fuel 41 v.cells.toList = some x)
    (hv : Value.okWide Tryd.prog W r b0 41 v) : ∃ (n m : Int) (s : ByteArray), v = .agg #[.int .i64 n, .int .i64 m, .string s] ∧ (Q.mk n m).wf ∧ s.size ≤ 9223372036854775807 := by
  obtain ⟨cs, rfl, _⟩ := okWide_struct Tryd.underlying41 hv
  obtain ⟨xs, n, e, rfl, hl, hxl, hf⟩ := DataW.trod_struct Tryd.underlying41 h
  rw [Tryd.cellsRaw] at hl
  have e : cs.toList.length = 3 := hl
  obtain ⟨l⟩ := cs
  match xs, hxl, l, e, hf with
  | [y0, y1, y2], _, [v0, v1, v2], _, hf =>
    have g0 := hf 0 _ rfl
    have g1 := hf 1 _ rfl
    have g2 := hf 2 _ rfl
    simp [Tryd.cellsInt, Tryd.cellsString, Value.cells] at g0 g1 g2
    obtain ⟨i0, e0, _, w0⟩ := DataW.trod_int Tryd.underlying3 g0
    obtain ⟨i1, e1, _, w1⟩ := DataW.trod_int Tryd.underlying3 g1
    obtain ⟨s, e2, _, hs⟩ := DataW.trod_string Tryd.underlying9 g2
    simp only [List.cons.injEq, and_true] at e0 e1 e2
    subst e0 e1 e2
    exact ⟨i0, i1, s, rfl, ⟨(int_le w0).1, (int_le w0).2, (int_le w1).1, (int_le w1).2⟩, by unfold maxLen at hs; omega⟩
end
end Go.Proofs.YtacjgkpncdnbgaaDoor
