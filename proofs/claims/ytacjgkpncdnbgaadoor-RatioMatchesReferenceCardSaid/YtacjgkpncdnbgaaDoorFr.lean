/-
  The frame of the ratio laws' rows: what the listed variables give the walks; what read as data below the heap's old size reads so again. No condition.
-/
import Derived.Test.YtacjgkpncdnbgaaDoorVB
import Derived.Test.YtacjgkpncdnbgaaDoorTie
import Derived.Test.YtacjgkpncdnbgaaDoorCards
import Derived.ProofKit
import Derived.LaidMore
import Derived.OpenShut
import Derived.Stop.LaidErr
import Derived.Stop.Joined
import Derived.HandedShaped
import Derived.SevenTiedAt
namespace Go.Proofs.YtacjgkpncdnbgaaDoor
open Go.ChangeShapes Go.WideShapes Go.ChangeAt Go.RowKit

theorem Tryd.own : ownKnob Tryd.prog.godebug = none := by kernel_rfl
theorem Tryd.laidOut : laidOutB Tryd.prog = true := by kernel_rfl
theorem Tryd.cellsRatio : Tryd.prog.cellsOf 24 = 2 := by kernel_rfl
theorem Tryd.cellsInt : Tryd.prog.cellsOf 3 = 1 := by kernel_rfl
theorem Tryd.cellsString : Tryd.prog.cellsOf 9 = 1 := by kernel_rfl
theorem Tryd.cellsErr : Tryd.prog.cellsOf 96 = 1 := by kernel_rfl
theorem Tryd.gES : Tryd.prog.globalNamed "strconv.ErrSyntax" = some 1 := by kernel_rfl
theorem Tryd.gESType : (Tryd.prog.globals[1]?).map (·.type) = some 53 := by kernel_rfl
theorem Tryd.gER : Tryd.prog.globalNamed "strconv.ErrRange" = some 2 := by kernel_rfl
theorem Tryd.gERType : (Tryd.prog.globals[2]?).map (·.type) = some 53 := by kernel_rfl
theorem Tryd.gTab : Tryd.prog.globalNamed "internal/strconv.uint64pow10" = some 3 := by kernel_rfl
theorem Tryd.star : "*" ++ "errors.errorString" = "*errors.errorString" := by decide
theorem Tryd.rowErr (u : TypeId) (h : Tryd.prog.typeName? 3 u = some "*errors.errorString") : u = 94 :=
  typeName_ptr_named (nm := "errors.errorString") (by rw [Tryd.star]; kernel_rfl) (by kernel_rfl) (by decide) u (by rw [Tryd.star]; exact h)

abbrev lay : List (String × DataW Unit) := Rows.ratioLowestRow.laid
theorem lay_eq : lay = [("math/bits.deBruijn32tab", Rows.laid_math_bits_deBruijn32tab), ("math/bits.deBruijn64tab", Rows.laid_math_bits_deBruijn64tab), ("internal/strconv.uint64pow10", Lib.tabData .u64 Lib.pow10Tab),
  ("strconv.ErrRange", Rows.laid_strconv_ErrRange), ("strconv.ErrSyntax", Rows.laid_strconv_ErrSyntax)] := rfl
theorem door_met (os : Os) (args : Array Value) : laidMetH Tryd.prog lay ((World.doorLaid Tryd.prog 62 os).forCall (fun _ _ => 0) ⟨#[], args, []⟩).memory :=
  laidMetH_of_parts3 (fuel := 8) (laidMet_of_run' 8 (by kernel_rfl) (by kernel_rfl)) (by kernel_rfl) (by kernel_rfl)
theorem env_of {W : World} (h : laidMetH Tryd.prog lay W) (hs : W.ShapedOpen Tryd.prog) : Env W := by
  rw [MakeChecks.laidMetH_plain _ _ _ (by kernel_rfl), lay_eq] at h
  have h3 := h.tail.tail
  have ht : Lib.TabIs Tryd.prog W "internal/strconv.uint64pow10" .u64 Lib.pow10Tab := by
    refine Lib.tabIs_of_head Tryd.gTab (t := 86) (e := 28) (n := 20) (by kernel_rfl) Tryd.underlying86 Tryd.underlying28 (by kernel_rfl) (by kernel_rfl) h3
  obtain ⟨a0, s0, hv0, -, -, -⟩ := laid_sentinel h3.tail Tryd.gER Tryd.gERType Tryd.underlying53 Tryd.rowErr Tryd.underlying94 Tryd.underlying96 rfl rfl Tryd.underlying9 Tryd.cellsErr Tryd.cellsString
  obtain ⟨a1, s1, hv1, -, -, -⟩ := laid_sentinel h3.tail.tail Tryd.gES Tryd.gESType Tryd.underlying53 Tryd.rowErr Tryd.underlying94 Tryd.underlying96 rfl rfl Tryd.underlying9 Tryd.cellsErr Tryd.cellsString
  exact ⟨ht, Tryd.laysM145.s1_3 W hs, ⟨_, _, by have h0 := World.var?_cell Tryd.gES hv1 0; simpa using h0⟩, ⟨_, _, by have h0 := World.var?_cell Tryd.gER hv0 0; simpa using h0⟩⟩

/-- From a call's contract to the row's, the listed variables and the world's shape at hand. -/
theorem handed {H : Type} {enc : TypeId × Value → H} {C : Checked} {os : Os} {f : FuncId} {fn : Func} {s : ChangeSpec} {conds : List PathCond} {apart fresh handsOn again : Bool} {X : World → Array Value → Prop}
    (hX : ∀ (w w' : World) (args : Array Value), w.heap = w'.heap → X w args → X w' args)
    (own : ownKnob C.prog.godebug = none) (started : os.Started) (noInit : C.prog.inits.idxOf? f = none) (hfn : C.prog.funcs[f]? = some fn)
    (witness : ∃ (w : World) (tape : Tape) (i : Input), w.os = os ∧ (w.forCall tape i).Shaped C.prog ∧ i.vars = [] ∧ Input.okWide C.prog (w.forCall tape i) .any w.heap.size f i ∧
      ((s.pre enc C.prog fn conds apart (w.forCall tape i).memory i.args ∧ X (w.forCall tape i).memory i.args) ∧ sizedMet enc C.prog fn (OpenSpec.ofChange s) apart (w.forCall tape i).memory i.args) ∧ ({} : Assume).holds C.prog (lone (Frame.enter C.prog f i.args .normal) [] (w.forCall tape i)))
    (contract : ∀ (W : World) (base : Nat) (args : Array Value) (ds gs : List (DataW H)) (before : List MemPlace),
      (∀ (j : Nat) t v, fn.params[j]? = some t → args[j]? = some v → Value.okWide C.prog W .any base t v) →
      DataW.Whole enc C.prog fn.params.toList s.vars apart W args.toList ds gs before →
      X W args → W.ShapedOpen C.prog →
      Calls C.prog f args W fun e W' => ∃ v, e = .returned v ∧ s.post enc C.prog fn apart fresh handsOn again W args v W') :
    ReturnsInHanded {} C os f .any (fun w args => (s.pre enc C.prog fn conds apart w args ∧ X w args) ∧ sizedMet enc C.prog fn (OpenSpec.ofChange s) apart w args) (s.post enc C.prog fn apart fresh handsOn again) := by
  refine returnsInHanded_of_calls own started noInit witness ?_
  intro w tape i _ hsh _ hok hpre _
  obtain ⟨_, _, _, fn', hfn', _, _, _, _, hval⟩ := hok
  obtain rfl := Option.some.inj (hfn'.symm.trans hfn)
  obtain ⟨⟨⟨ds, gs, before, hw, _⟩, hx⟩, _⟩ := hpre
  refine (contract (w.forCall tape i) w.heap.size i.args ds gs before hval (DataW.Whole.of_heap (w' := w.forCall tape i) (by rfl) hw) (hX _ _ _ (by rfl) hx) hsh).mono fun e W' ⟨v, he, hp⟩ => ?_
  subst he
  exact ChangeSpec.post_blind hp

theorem int_le {x : Int} (h : (Lit.int .i64 x).wf = true) : -9223372036854775808 ≤ x ∧ x ≤ 9223372036854775807 := by
  simp [Lit.wf, IntKind.min, IntKind.max, IntKind.signed, IntKind.bits] at h
  exact ⟨by omega, by omega⟩
theorem trodAll_below {H : Type} {enc : TypeId × Value → H} {P : Program} (hl : laidOutB P = true) {W W' : World} (hb : Below W.heap.size W W') :
    ∀ (ts : List TypeId) (vs : List Value) (ds : List (DataW H)) (ps : List MemPlace), (∀ t ∈ ts, P.readableRec t = true ∧ t < P.types.size) → (∀ x ∈ ps, x.block < W.heap.size) →
      DataW.TrodAll enc P W 0 (fun _ => true) true ts vs ds ps → DataW.TrodAll enc P W' 0 (fun b => decide (b < W.heap.size)) true ts vs ds ps
  | [], vs, ds, ps, _, _, h => by
    obtain ⟨rfl, rfl, rfl⟩ := trodAll_nil h
    exact trodAll_mk0
  | t :: ts, vs, ds, ps, ht, hlt, h => by
    obtain ⟨v, vs', d, ds', p, q, rfl, rfl, rfl, h1, h2⟩ := trodAll_cons h
    have ht1 := ht t (by simp)
    exact ⟨p, q, Below.trod hl ht1.1 ht1.2 h1 hb (fun x hx => hlt x (by simp [hx])),
      trodAll_below hl hb ts vs' ds' q (fun t' h' => ht t' (by simp [h'])) (fun x hx => hlt x (by simp [hx])) h2, rfl⟩
theorem Kept.under {w w' : World} (h : Kept w w') : Below w.heap.size w w' := ⟨h.ext.os, h.ext.tape, h.ext.output, h.ext.size, fun k hkk => by
  rw [h.keep k _ (Array.getElem?_eq_getElem hkk), Array.getElem?_eq_getElem hkk]⟩
theorem args_cons {args : Array Value} {v : Value} {vs : List Value} (h : args.toList = v :: vs) : args = (v :: vs).toArray := by
  cases args; simp_all
section
variable {H : Type} {enc : TypeId × Value → H} {W : World} {base : Nat} {sp : Nat → Bool} {held : Bool}
theorem open_ratio {fuel : Nat} {r : Reach} {b0 : Nat} {v : Value} {x : DataW H × List MemPlace} (h : DataW.trod enc Tryd.prog W base sp held fuel 24 v.cells.toList = some x)
    (hv : Value.okWide Tryd.prog W r b0 24 v) : ∃ a : Q, v = a.val ∧ a.wf := by
  obtain ⟨cs, rfl, _⟩ := okWide_struct Tryd.underlying24 hv
  obtain ⟨xs, n, e, rfl, hl, hxl, hf⟩ := DataW.trod_struct Tryd.underlying24 h
  rw [Tryd.cellsRatio] at hl
  have e : cs.toList.length = 2 := hl
  obtain ⟨l⟩ := cs
  match xs, hxl, l, e, hf with
  | [y0, y1], _, [v0, v1], _, hf =>
    have g0 := hf 0 _ rfl
    have g1 := hf 1 _ rfl
    simp [Tryd.cellsInt, Value.cells] at g0 g1
    obtain ⟨i0, e0, _, w0⟩ := DataW.trod_int Tryd.underlying3 g0
    obtain ⟨i1, e1, _, w1⟩ := DataW.trod_int Tryd.underlying3 g1
    simp only [List.cons.injEq, and_true] at e0 e1
    subst e0 e1
    exact ⟨⟨i0, i1⟩, rfl, ⟨(int_le w0).1, (int_le w0).2, (int_le w1).1, (int_le w1).2⟩⟩
end
end Go.Proofs.YtacjgkpncdnbgaaDoor
