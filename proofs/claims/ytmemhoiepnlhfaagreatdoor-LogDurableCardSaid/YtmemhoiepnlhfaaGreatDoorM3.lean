/-
  The frame of the log laws' rows: what the listed variables give the walks; operations opened out of memory; what read as data below the heap's old size reads so again. No condition. And what builds upon it.
-/
import Derived.Test.YtmemhoiepnlhfaaGreatDoorM2
import Derived.Test.YtmemhoiepnlhfaaGreatDoorTie
import Derived.Test.YtmemhoiepnlhfaaGreatDoorCards
import Derived.ProofKit
import Derived.Deep.Slices
import Derived.LaidMore
import Derived.OpenShut
import Derived.Stop.LaidErr
import Derived.Stop.Joined
import Derived.HandedShaped
import Derived.SevenTiedAt

/-! The frame of the log laws' rows: what the listed variables give the walks; operations opened out of memory; what read as data below the heap's old size reads so again. No condition. -/
namespace Go.Proofs.YtmemhoiepnlhfaaGreatDoor
open Go.ChangeShapes Go.WideShapes Go.ChangeAt Go.RowKit Go.Deep
set_option maxRecDepth 100000

theorem Tryz.own : ownKnob Tryz.prog.godebug = none := by kernel_rfl
theorem Tryz.laidOut : laidOutB Tryz.prog = true := by kernel_rfl
theorem Tryz.cellsOp : Tryz.prog.cellsOf 43 = 6 := by kernel_rfl
theorem Tryz.cellsInt : Tryz.prog.cellsOf 3 = 1 := by kernel_rfl
theorem Tryz.cellsU8 : Tryz.prog.cellsOf 5 = 1 := by kernel_rfl
theorem Tryz.cellsString : Tryz.prog.cellsOf 9 = 1 := by kernel_rfl
theorem Tryz.cellsStrs : Tryz.prog.cellsOf 22 = 1 := by kernel_rfl
theorem Tryz.gTab : Tryz.prog.globalNamed "internal/strconv.uint64pow10" = some 3 := by kernel_rfl

abbrev lay : List (String × DataW Unit) := Rows.logDurableRow.laid
theorem lay_eq : lay = [("math/bits.deBruijn32tab", Rows.laid_math_bits_deBruijn32tab), ("math/bits.deBruijn64tab", Rows.laid_math_bits_deBruijn64tab), ("internal/strconv.uint64pow10", Lib.tabData .u64 Lib.pow10Tab),
  ("strconv.ErrRange", Rows.laid_strconv_ErrRange), ("strconv.ErrSyntax", Rows.laid_strconv_ErrSyntax)] := rfl
theorem door_met (os : Os) (args : Array Value) : laidMetH Tryz.prog lay ((World.doorLaid Tryz.prog 62 os).forCall (fun _ _ => 0) ⟨#[], args, []⟩).memory :=
  laidMetH_of_parts3 (fuel := 8) (laidMet_of_run' 8 (by kernel_rfl) (by kernel_rfl)) (by kernel_rfl) (by kernel_rfl)
theorem env_of {W : World} (h : laidMetH Tryz.prog lay W) (hs : W.ShapedOpen Tryz.prog) : Env W := by
  rw [MakeChecks.laidMetH_plain _ _ _ (by kernel_rfl), lay_eq] at h
  have h3 := h.tail.tail
  exact ⟨Lib.tabIs_of_head Tryz.gTab (t := 158) (e := 127) (n := 20) (by kernel_rfl) Tryz.underlying158 Tryz.underlying127 (by kernel_rfl) (by kernel_rfl) h3, Tryz.laysM145.s1_3 W hs⟩

/-- From a call's contract to the row's, the listed variables and the world's shape at hand. -/
theorem handed {H : Type} {enc : TypeId × Value → H} {C : Checked} {os : Os} {f : FuncId} {fn : Func} {s : ChangeSpec} {conds : List PathCond} {apart fresh handsOn again : Bool} {X : World → Array Value → Prop}
    (hX : ∀ (w w' : World) (args : Array Value), w.heap = w'.heap → X w args → X w' args)
    (own : ownKnob C.prog.godebug = none) (started : os.Started) (noInit : C.prog.inits.idxOf? f = none) (hfn : C.prog.funcs[f]? = some fn)
    (witness : ∃ (w : World) (tape : Tape) (i : Input), w.os = os ∧ (w.forCall tape i).Shaped C.prog ∧ i.vars = [] ∧ Input.okWide C.prog (w.forCall tape i) .any w.heap.size f i ∧
      ((s.pre enc C.prog fn conds apart (w.forCall tape i).memory i.args ∧ X (w.forCall tape i).memory i.args) ∧ sizedMet enc C.prog fn (OpenSpec.ofChange s) apart (w.forCall tape i).memory i.args) ∧ ({} : Assume).holds C.prog (lone (Frame.enter C.prog f i.args .normal) [] (w.forCall tape i)))
    (contract : ∀ (W : World) (base : Nat) (args : Array Value) (ds gs : List (DataW H)) (before : List MemPlace),
      (∀ (j : Nat) t v, fn.params[j]? = some t → args[j]? = some v → Value.okWide C.prog W .any base t v) →
      DataW.Whole enc C.prog fn.params.toList s.vars apart W args.toList ds gs before →
      X W args → W.ShapedOpen C.prog →
      Calls C.prog f args W fun e W' => ∃ v, e = .returned v ∧ s.post enc C.prog fn apart fresh handsOn again W args v W') :
    ReturnsInHanded {} C os f .any (fun w args => (s.pre enc C.prog fn conds apart w args ∧ X w args) ∧ sizedMet enc C.prog fn (OpenSpec.ofChange s) apart w args) (s.post enc C.prog fn apart fresh handsOn again) := by
  refine returnsInHanded_of_calls own started noInit witness ?_
  intro w tape i _ hsh _ hok hpre _
  obtain ⟨_, _, _, fn', hfn', _, _, _, _, hval⟩ := hok
  obtain rfl := Option.some.inj (hfn'.symm.trans hfn)
  obtain ⟨⟨⟨ds, gs, before, hw, _⟩, hx⟩, _⟩ := hpre
  refine (contract (w.forCall tape i) w.heap.size i.args ds gs before hval (DataW.Whole.of_heap (w' := w.forCall tape i) (by rfl) hw) (hX _ _ _ (by rfl) hx) hsh).mono fun e W' ⟨v, he, hp⟩ => ?_
  subst he
  exact ChangeSpec.post_blind hp

theorem byte_of {x : Int} (h : (Lit.int .u8 x).wf = true) : ∃ r : Nat, x = (r : Int) ∧ r < 256 := by
  simp [Lit.wf, IntKind.min, IntKind.max, IntKind.signed, IntKind.bits] at h
  exact ⟨x.toNat, by omega, by omega⟩
theorem trodAll_below {H : Type} {enc : TypeId × Value → H} {P : Program} (hl : laidOutB P = true) {W W' : World} (hb : Below W.heap.size W W') :
    ∀ (ts : List TypeId) (vs : List Value) (ds : List (DataW H)) (ps : List MemPlace), (∀ t ∈ ts, P.readableRec t = true ∧ t < P.types.size) → (∀ x ∈ ps, x.block < W.heap.size) →
      DataW.TrodAll enc P W 0 (fun _ => true) true ts vs ds ps → DataW.TrodAll enc P W' 0 (fun b => decide (b < W.heap.size)) true ts vs ds ps
  | [], vs, ds, ps, _, _, h => by
    obtain ⟨rfl, rfl, rfl⟩ := trodAll_nil h
    exact trodAll_mk0
  | t :: ts, vs, ds, ps, ht, hlt, h => by
    obtain ⟨v, vs', d, ds', p, q, rfl, rfl, rfl, h1, h2⟩ := trodAll_cons h
    have ht1 := ht t (by simp)
    exact ⟨p, q, Below.trod hl ht1.1 ht1.2 h1 hb (fun x hx => hlt x (by simp [hx])),
      trodAll_below hl hb ts vs' ds' q (fun t' h' => ht t' (by simp [h'])) (fun x hx => hlt x (by simp [hx])) h2, rfl⟩
theorem args_cons {args : Array Value} {v : Value} {vs : List Value} (h : args.toList = v :: vs) : args = (v :: vs).toArray := by
  cases args; simp_all

instance : Inhabited OpL := ⟨⟨0, ⟨#[]⟩, [], 0, 0, 0⟩⟩
section
variable {H : Type} {enc : TypeId × Value → H} {W : World} {base : Nat} {sp : Nat → Bool} {held : Bool}
theorem spot_none {a : Addr} {u : Value} (hu : W.cell? a = some u) : a = ⟨a.block, a.off, none⟩ := by
  obtain ⟨b, off, spot⟩ := a
  cases spot with
  | none => rfl
  | some s =>
    exfalso
    unfold World.cell? at hu
    split at hu
    · simp at hu
    · cases hu
theorem add_cell {a : Addr} {n : Nat} {v : Value} (h : W.cell? (a.add n) = some v) : W.cell? ⟨a.block, a.off + n, none⟩ = some v := by
  unfold Addr.add at h
  split at h
  · rename_i hn
    subst hn
    rw [spot_none h] at h; exact h
  · exact h
theorem open_strs {fuel : Nat} {v : Value} {x : DataW H × List MemPlace} (h : DataW.trod enc Tryz.prog W base sp held fuel 22 [v] = some x) : ∃ vb c l, v = .slice vb (l : List ByteArray).length c ∧ RecsIn W vb l ∧ l.length ≤ 9223372036854775807 := by
  rcases open_slice Tryz.underlying22 h with ⟨h0, _⟩ | ⟨a, len, cap, m, n, D, Pl, hv, hb, hl, hm, hmm, _, hx⟩
  · obtain rfl : v = .slice none 0 0 := by simpa using h0
    exact ⟨none, 0, [], rfl, fun i x hi => by simp at hi, by simp⟩
  · obtain rfl : v = .slice (some a) len cap := by simpa using hv
    have hlm : len ≤ m := by rw [hmm]; split <;> omega
    have each : ∀ i, i < len → ∃ s : ByteArray, a = ⟨a.block, a.off, none⟩ ∧ W.cell? ⟨a.block, a.off + i, none⟩ = some (.string s) := by
      intro i hi
      obtain ⟨cs', h1, h2⟩ := hx i (by omega)
      obtain ⟨cs0, k1, k2⟩ := hx 0 (by omega)
      rw [Tryz.cellsString] at h1 k1
      obtain ⟨_, hlen, hcell⟩ := World.cells?_some h1
      obtain ⟨_, hlen0, hcell0⟩ := World.cells?_some k1
      obtain ⟨s, rfl, _, _⟩ := DataW.trod_string Tryz.underlying9 h2
      have u0 := hcell0 0 (by omega)
      have u1 : W.cell? a = some (cs0[0]'(by omega)) := by
        have : ((a.add (0 * 1)).add 0) = a := by simp [Addr.add]
        rw [this] at u0
        rw [u0]; simp
      have := hcell 0 (by simp)
      rw [add_add] at this
      refine ⟨s, spot_none u1, ?_⟩
      have h3 := add_cell (v := .string s) (by rw [this]; simp)
      simpa using h3
    obtain ⟨f, hf⟩ := choose_lt (α := ByteArray) (n := len) (p := fun i s => a = ⟨a.block, a.off, none⟩ ∧ W.cell? ⟨a.block, a.off + i, none⟩ = some (.string s)) each
    refine ⟨some a, cap, (List.range len).map f, by simp, fun i s hi => ?_, by unfold maxLen at hm; simp; omega⟩
    have hil : i < len := by have := (List.getElem?_eq_some_iff.1 hi).1; simpa using this
    obtain rfl : f i = s := by simpa [hil] using hi
    exact ⟨a.block, a.off, congrArg some (hf i hil).1, (hf i hil).2⟩
end
end Go.Proofs.YtmemhoiepnlhfaaGreatDoor

/-! The log laws' rows: lists of operations opened out of memory. No condition. -/
namespace Go.Proofs.YtmemhoiepnlhfaaGreatDoor
open Go.ChangeShapes Go.WideShapes Go.ChangeAt Go.RowKit Go.Deep
set_option maxRecDepth 100000
section
variable {H : Type} {enc : TypeId × Value → H} {W : World} {base : Nat} {sp : Nat → Bool} {held : Bool}
/-- An operation's cells, as values. -/
structure OpVal (W : World) (cs : List Value) (o : OpL) (vb : Option Addr) (c : Nat) : Prop where
  cells : cs = [.int .u8 (o.kind : Int), .string o.body, .slice vb o.list.length c, .int .i64 o.after, .int .i64 o.writes, .int .i64 o.bytes]
  recs : RecsIn W vb o.list
  less : o.kind < 256
  len : o.list.length ≤ 9223372036854775807
theorem open_op {fuel : Nat} {cs : List Value} {x : DataW H × List MemPlace} (h : DataW.trod enc Tryz.prog W base sp held fuel 43 cs = some x) : ∃ o vb c, OpVal W cs o vb c := by
  obtain ⟨xs, n, rfl, rfl, hl, hxl, hf⟩ := DataW.trod_struct Tryz.underlying43 h
  rw [Tryz.cellsOp] at hl
  match xs, hxl, cs, hl with
  | [y0, y1, y2, y3, y4, y5], _, [v0, v1, v2, v3, v4, v5], _ =>
    have g0 := hf 0 _ rfl
    have g1 := hf 1 _ rfl
    have g2 := hf 2 _ rfl
    have g3 := hf 3 _ rfl
    have g4 := hf 4 _ rfl
    have g5 := hf 5 _ rfl
    simp [Tryz.cellsInt, Tryz.cellsString, Tryz.cellsU8, Tryz.cellsStrs] at g0 g1 g2 g3 g4 g5
    obtain ⟨i0, e0, _, w0⟩ := DataW.trod_int Tryz.underlying5 g0
    obtain ⟨s, e1, _, _⟩ := DataW.trod_string Tryz.underlying9 g1
    obtain ⟨vb, c, l, e2, hr, hn⟩ := open_strs g2
    obtain ⟨i3, e3, _, _⟩ := DataW.trod_int Tryz.underlying3 g3
    obtain ⟨i4, e4, _, _⟩ := DataW.trod_int Tryz.underlying3 g4
    obtain ⟨i5, e5, _, _⟩ := DataW.trod_int Tryz.underlying3 g5
    obtain ⟨k, rfl, hk⟩ := byte_of w0
    simp only [List.cons.injEq, and_true] at e0 e1 e3 e4 e5
    subst e0 e1 e2 e3 e4 e5
    exact ⟨⟨k, s, l, i3, i4, i5⟩, vb, c, rfl, hr, hk, hn⟩
theorem open_ops {fuel : Nat} {v : Value} {x : DataW H × List MemPlace} (h : DataW.trod enc Tryz.prog W base sp held fuel 35 [v] = some x) : ∃ vo cap l, v = .slice vo (l : List OpL).length cap ∧ OpsIn W vo l ∧ l.length ≤ 9223372036854775807 := by
  rcases open_slice Tryz.underlying35 h with ⟨h0, _⟩ | ⟨a, len, cap, m, n, D, Pl, hv, hb, hl, hm, hmm, _, hx⟩
  · obtain rfl : v = .slice none 0 0 := by simpa using h0
    exact ⟨none, 0, [], rfl, fun i x hi => by simp at hi, by simp⟩
  · obtain rfl : v = .slice (some a) len cap := by simpa using hv
    have hlm : len ≤ m := by rw [hmm]; split <;> omega
    have each : ∀ i, i < len → ∃ o : OpL, a = ⟨a.block, a.off, none⟩ ∧ ∃ vb c, OpIn W a.block (a.off + i * 6) o vb c := by
      intro i hi
      obtain ⟨cs', h1, h2⟩ := hx i (by omega)
      obtain ⟨cs0, k1, k2⟩ := hx 0 (by omega)
      rw [Tryz.cellsOp] at h1 k1
      obtain ⟨_, hlen, hcell⟩ := World.cells?_some h1
      obtain ⟨_, hlen0, hcell0⟩ := World.cells?_some k1
      obtain ⟨o, vb, c, ho⟩ := open_op h2
      have u0 := hcell0 0 (by omega)
      rw [add_add, Nat.zero_mul, Nat.add_zero] at u0
      have u1 : W.cell? a = some (cs0[0]'(by omega)) := by
        have : a.add 0 = a := by simp [Addr.add]
        rw [this] at u0
        rw [u0]; simp
      have hc : ∀ j x, cs'[j]? = some x → W.cell? ⟨a.block, a.off + i * 6 + j, none⟩ = some x := fun j x hj => by
        have hj6 : j < 6 := by have := (List.getElem?_eq_some_iff.1 hj).1; omega
        have := hcell j hj6
        rw [add_add] at this
        have h3 := add_cell (v := x) (by rw [this]; exact hj)
        rw [Nat.add_assoc]; exact h3
      rw [ho.cells] at hc
      exact ⟨o, spot_none u1, vb, c, hc 0 _ rfl, hc 1 _ rfl, hc 2 _ rfl, hc 3 _ rfl, hc 4 _ rfl, hc 5 _ rfl, ho.recs, ho.less, ho.len⟩
    obtain ⟨f, hf⟩ := choose_lt (α := OpL) (n := len) (p := fun i o => a = ⟨a.block, a.off, none⟩ ∧ ∃ vb c, OpIn W a.block (a.off + i * 6) o vb c) each
    refine ⟨some a, cap, (List.range len).map f, by simp, fun i o hi => ?_, by unfold maxLen at hm; simp; omega⟩
    have hil : i < len := by have := (List.getElem?_eq_some_iff.1 hi).1; simpa using this
    obtain rfl : f i = o := by simpa [hil] using hi
    obtain ⟨vb, c, ho⟩ := (hf i hil).2
    exact ⟨a.block, a.off, vb, c, congrArg some (hf i hil).1, ho⟩
end
end Go.Proofs.YtmemhoiepnlhfaaGreatDoor
