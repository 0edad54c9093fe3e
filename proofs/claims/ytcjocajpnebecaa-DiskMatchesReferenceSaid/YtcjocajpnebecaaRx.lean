/-
  The row's frame, for any parameters: what read as data below the heap's old size reads so again.
-/
import Derived.Test.YtcjocajpnebecaaRw
import Derived.Test.YtcjocajpnebecaaD7
namespace Go.Proofs.Ytcjocajpnebecaa
open Go.ChangeShapes Go.WideShapes Go.ChangeAt Go.RowKit Go.Deep

theorem trodAll_below {H : Type} {enc : TypeId × Value → H} {P : Program} (hl : laidOutB P = true) {W W' : World} (hb : Below W.heap.size W W') :
    ∀ (ts : List TypeId) (vs : List Value) (ds : List (DataW H)) (ps : List MemPlace), (∀ t ∈ ts, P.readableRec t = true ∧ t < P.types.size) → (∀ x ∈ ps, x.block < W.heap.size) →
      DataW.TrodAll enc P W 0 (fun _ => true) true ts vs ds ps → DataW.TrodAll enc P W' 0 (fun b => decide (b < W.heap.size)) true ts vs ds ps
  | [], vs, ds, ps, _, _, h => by
    obtain ⟨rfl, rfl, rfl⟩ := trodAll_nil h
    exact trodAll_mk0
  | t :: ts, vs, ds, ps, ht, hlt, h => by
    obtain ⟨v, vs', d, ds', p, q, rfl, rfl, rfl, h1, h2⟩ := trodAll_cons h
    have ht1 := ht t (by simp)
    exact ⟨p, q, Below.trod hl ht1.1 ht1.2 h1 hb (fun x hx => hlt x (by simp [hx])),
      trodAll_below hl hb ts vs' ds' q (fun t' h' => ht t' (by simp [h'])) (fun x hx => hlt x (by simp [hx])) h2, rfl⟩
theorem Kept.below {w w' : World} (h : Kept w w') : Below w.heap.size w w' := ⟨h.ext.os, h.ext.tape, h.ext.output, h.ext.size, fun k hkk => by
  rw [h.keep k _ (Array.getElem?_eq_getElem hkk), Array.getElem?_eq_getElem hkk]⟩
theorem args_cons {args : Array Value} {v : Value} {vs : List Value} (h : args.toList = v :: vs) : args = (v :: vs).toArray := by
  cases args; simp_all
section
variable {H : Type} {enc : TypeId × Value → H} {W : World} {base : Nat} {sp : Nat → Bool} {held : Bool}
theorem open_actval {fuel : Nat} {r : Reach} {b0 : Nat} {v : Value} {x : DataW H × List MemPlace} (h : DataW.trod enc Try.prog W base sp held fuel 34 v.cells.toList = some x)
    (hv : Value.okWide Try.prog W r b0 34 v) : ∃ a : AC, v = a.val ∧ a.wf := by
  obtain ⟨cs, rfl, _⟩ := okWide_struct Try.underlying34 hv
  obtain ⟨a, ha, hw⟩ := open_act h
  refine ⟨a, ?_, hw⟩
  have h2 : cs.toList = a.cells.toList := ha
  rw [show cs = a.cells from by cases cs; cases h3 : a.cells; simp_all]; rfl
end
end Go.Proofs.Ytcjocajpnebecaa
