/-
  From a law's walk to its row: lists of operations opened out of memory. Its condition: the argument reads as data.
-/
import Derived.Test.YtcjocajpnebecaaP1
import Derived.ProofKit
import Derived.Deep.Slices
namespace Go.Proofs.Ytcjocajpnebecaa
open Go.ChangeShapes Go.WideShapes Go.ChangeAt Go.RowKit Go.Deep

theorem Try.own : ownKnob Try.prog.godebug = none := by kernel_rfl
theorem Try.laidOut : laidOutB Try.prog = true := by kernel_rfl
theorem Try.cellsAct : Try.prog.cellsOf 34 = 6 := by kernel_rfl
theorem Try.cellsInt : Try.prog.cellsOf 3 = 1 := by kernel_rfl
theorem Try.cellsString : Try.prog.cellsOf 9 = 1 := by kernel_rfl
theorem Try.cellsBool : Try.prog.cellsOf 4 = 1 := by kernel_rfl

theorem int_le {x : Int} (h : (Lit.int .i64 x).wf = true) : -9223372036854775808 ≤ x ∧ x ≤ 9223372036854775807 := by
  simp [Lit.wf, IntKind.min, IntKind.max, IntKind.signed, IntKind.bits] at h
  exact ⟨by omega, by omega⟩
theorem byte_of {x : Int} (h : (Lit.int .u8 x).wf = true) : ∃ r : Nat, x = (r : Int) ∧ r < 256 := by
  simp [Lit.wf, IntKind.min, IntKind.max, IntKind.signed, IntKind.bits] at h
  exact ⟨x.toNat, by omega, by omega⟩

instance : Inhabited AC := ⟨⟨0, 0, 0, ⟨#[]⟩, false, 0⟩⟩
section
variable {H : Type} {enc : TypeId × Value → H} {W : World} {base : Nat} {sp : Nat → Bool} {held : Bool}
theorem open_act {fuel : Nat} {cs : List Value} {x : DataW H × List MemPlace} (h : DataW.trod enc Try.prog W base sp held fuel 34 cs = some x) : ∃ a : AC, cs = a.cells.toList ∧ a.wf := by
  obtain ⟨xs, n, rfl, rfl, hl, hxl, hf⟩ := DataW.trod_struct Try.underlying34 h
  rw [Try.cellsAct] at hl
  match xs, hxl, cs, hl with
  | [y0, y1, y2, y3, y4, y5], _, [v0, v1, v2, v3, v4, v5], _ =>
    have g0 := hf 0 _ rfl
    have g1 := hf 1 _ rfl
    have g2 := hf 2 _ rfl
    have g3 := hf 3 _ rfl
    have g4 := hf 4 _ rfl
    have g5 := hf 5 _ rfl
    simp [Try.cellsInt, Try.cellsString, Try.cellsBool] at g0 g1 g2 g3 g4 g5
    obtain ⟨i0, e0, _, _⟩ := DataW.trod_int Try.underlying3 g0
    obtain ⟨i1, e1, _, _⟩ := DataW.trod_int Try.underlying3 g1
    obtain ⟨i2, e2, _, _⟩ := DataW.trod_int Try.underlying3 g2
    obtain ⟨s, e3, _, hs⟩ := DataW.trod_string Try.underlying9 g3
    obtain ⟨b, e4, _⟩ := DataW.trod_bool Try.underlying4 g4
    obtain ⟨i5, e5, _, w5⟩ := DataW.trod_int Try.underlying3 g5
    simp only [List.cons.injEq, and_true] at e0 e1 e2 e3 e4 e5
    subst e0 e1 e2 e3 e4 e5
    exact ⟨⟨i0, i1, i2, s, b, i5⟩, rfl, ⟨(int_le w5).2, by unfold maxLen at hs; omega⟩⟩

theorem spot_none {a : Addr} {u : Value} (hu : W.cell? a = some u) : a = ⟨a.block, a.off, none⟩ := by
  obtain ⟨b, off, spot⟩ := a
  cases spot with
  | none => rfl
  | some s =>
    exfalso
    unfold World.cell? at hu
    split at hu
    · simp at hu
    · cases hu
theorem add_cell {a : Addr} {n : Nat} {v : Value} (h : W.cell? (a.add n) = some v) : W.cell? ⟨a.block, a.off + n, none⟩ = some v := by
  unfold Addr.add at h
  split at h
  · rename_i hn
    subst hn
    rw [spot_none h] at h; exact h
  · exact h

theorem open_acts {fuel : Nat} {v : Value} {x : DataW H × List MemPlace} (h : DataW.trod enc Try.prog W base sp held fuel 22 [v] = some x) : ∃ l : List AC, actsAt W v l := by
  rcases open_slice Try.underlying22 h with ⟨h0, _⟩ | ⟨a, len, cap, m, n, D, Pl, hv, hb, hl, hm, hmm, _, hx⟩
  · obtain rfl : v = .slice none 0 0 := by simpa using h0
    exact ⟨[], none, 0, rfl, by simp, fun i a hi => by simp at hi⟩
  · obtain rfl : v = .slice (some a) len cap := by simpa using hv
    have hlm : len ≤ m := by rw [hmm]; split <;> omega
    have each : ∀ i, i < len → ∃ q : AC, q.wf ∧ a = ⟨a.block, a.off, none⟩ ∧ ∀ j x, q.cells[j]? = some x → W.cell? ⟨a.block, a.off + i * 6 + j, none⟩ = some x := by
      intro i hi
      obtain ⟨cs', h1, h2⟩ := hx i (by omega)
      obtain ⟨cs0, k1, k2⟩ := hx 0 (by omega)
      rw [Try.cellsAct] at h1 k1
      obtain ⟨_, hlen, hcell⟩ := World.cells?_some h1
      obtain ⟨_, hlen0, hcell0⟩ := World.cells?_some k1
      obtain ⟨q, rfl, hwf⟩ := open_act h2
      have u0 := hcell0 0 (by omega)
      rw [add_add, Nat.zero_mul, Nat.add_zero] at u0
      have u1 : W.cell? a = some (cs0[0]'(by omega)) := by
        have : a.add 0 = a := by simp [Addr.add]
        rw [this] at u0
        rw [u0]; simp
      refine ⟨q, hwf, spot_none u1, fun j x hj => ?_⟩
      have hj6 : j < 6 := by have := (Array.getElem?_eq_some_iff.1 hj).1; simpa [AC.cells] using this
      have := hcell j hj6
      rw [add_add] at this
      have h3 := add_cell (v := x) (by rw [this]; simpa using hj)
      rw [Nat.add_assoc]; exact h3
    obtain ⟨f, hf⟩ := choose_lt (α := AC) (n := len) (p := fun i q => q.wf ∧ a = ⟨a.block, a.off, none⟩ ∧ ∀ j x, q.cells[j]? = some x → W.cell? ⟨a.block, a.off + i * 6 + j, none⟩ = some x) each
    refine ⟨(List.range len).map f, some a, cap, by simp, by unfold maxLen at hm; simp; omega, fun i q hi => ?_⟩
    have hil : i < len := by have := (List.getElem?_eq_some_iff.1 hi).1; simpa using this
    obtain rfl : f i = q := by simpa [hil] using hi
    exact ⟨(hf i hil).1, a.block, a.off, congrArg some (hf i hil).2.1, (hf i hil).2.2⟩
end
end Go.Proofs.Ytcjocajpnebecaa
