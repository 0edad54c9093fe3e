/-
  The closure that attempt defers, walked: of a frame that returns, of a frame that panics. Its condition: what it has captured lies in memory.
-/
import Derived.Test.YtmemhoiepnlhfaaGreatDoorJH
import Derived.Recover
import Derived.Tactics2
import Derived.Laws.Pointers
namespace Go.Proofs.YtmemhoiepnlhfaaGreatDoor
open Go.RowKit
set_option maxRecDepth 100000

theorem catch_idle (bb bl be : Nat) (w : World) :
    CallsD Tryz.prog 64 #[.pointer (some ⟨bb, 0, none⟩), .pointer (some ⟨bl, 0, none⟩), .pointer (some ⟨be, 0, none⟩)] .returning w fun e u' w' => e = .returned (.tuple #[]) ∧ u' = .returning ∧ w' = w := by
  refine callsD_of_wpS Tryz.func64 rfl fun c₀ cs hu => ?_
  apply wpS_seq
  apply wpS_region
  simp [wpOpsS, go_sem, recoverD, hu, Tryz.ntmps64, Exit.thenS]
  apply wpS_seq
  apply wpS_region
  simp [wpOpsS, go_sem, Exit.thenS]
  refine wpS_cond (t := false) (by simp [Act.eval, Array.replicate]) ?_
  simp only [Bool.false_eq_true, if_false]
  refine wpS_of_wp (wp_skip ?_)
  cases c₀
  simp_all [bodyPostS, results, Tryz.results64]

theorem assert_errno (w : World) (v : Value) : (Instr.typeAssert (.iface 27 v) 20 27 true).run Tryz.prog w = .ok (.tuple #[v, .bool true]) w := by kernel_rfl
theorem Sat.cells8 {w : World} {b : Nat} {v0 v1 v2 v3 v4 v5 v6 v7 : Value} {t : TypeId} {R : HProp} (h : Sat w (pts b (.cells #[v0, v1, v2, v3, v4, v5, v6, v7] t) * R)) :
    w.cell? ⟨b, 0, none⟩ = some v0 ∧ w.cell? ⟨b, 1, none⟩ = some v1 ∧ w.cell? ⟨b, 2, none⟩ = some v2 ∧ w.cell? ⟨b, 3, none⟩ = some v3 ∧ w.cell? ⟨b, 4, none⟩ = some v4 ∧ w.cell? ⟨b, 5, none⟩ = some v5 ∧ w.cell? ⟨b, 6, none⟩ = some v6 ∧ w.cell? ⟨b, 7, none⟩ = some v7 :=
  ⟨by rw [h.cell]; rfl, by rw [h.cell]; rfl, by rw [h.cell]; rfl, by rw [h.cell]; rfl, by rw [h.cell]; rfl, by rw [h.cell]; rfl, by rw [h.cell]; rfl, by rw [h.cell]; rfl⟩
set_option maxHeartbeats 1600000 in
theorem catch_panic (bb bl be l d n a : Nat) (s : St) (lb : Option Addr) (lm lc : Nat) (v0 v1 v2 v3 v4 v5 v6 v7 : Value) (x err : Int) (older : List PanicEntry) (X : HProp) (w : World)
    (h : Sat w (pts bb (.cells (logCells s d n a (.slice lb lm lc) false) 69) * (pts bl (.cells #[.pointer (some ⟨l, 0, none⟩)] 29) * (pts be (.cells #[.int .i64 x] 27) * (pts l (.cells #[v0, v1, v2, v3, v4, v5, v6, v7] 69) * X))))) :
    CallsD Tryz.prog 64 #[.pointer (some ⟨bb, 0, none⟩), .pointer (some ⟨bl, 0, none⟩), .pointer (some ⟨be, 0, none⟩)] (.panicking ({ v := .iface 27 (.int .i64 err), recovered := false } :: older)) w fun e u' w' =>
      e = .returned (.tuple #[]) ∧ u' = .panicking ({ v := .iface 27 (.int .i64 err), recovered := true } :: older) ∧ Ext w w' ∧
      Sat w' (pts bb (.cells (logCells s d n a (.slice lb lm lc) false) 69) * (pts bl (.cells #[.pointer (some ⟨l, 0, none⟩)] 29) * (pts be (.cells #[.int .i64 err] 27) * (pts l (.cells (logCells s d n a (.slice lb lm lc) true) 69) * X)))) := by
  have hb := h.log
  obtain ⟨b0, b1, b2, b3, b4, b5, b6, b7, tb⟩ := hb
  have hl1 := h.right
  have cl : w.cell? ⟨bl, 0, none⟩ = some (.pointer (some ⟨l, 0, none⟩)) := by rw [hl1.cell]; rfl
  have tl := hl1.lt
  have hl2 := hl1.right
  have ze := hl2.free 0
  have ce : w.cell? ⟨be, 0, none⟩ = some (.int .i64 x) := by rw [hl2.cell]; rfl
  have te := hl2.lt
  have hl3 := hl2.right
  have z0 := hl3.free 0
  have z1 := hl3.free 1
  have z2 := hl3.free 2
  have z3 := hl3.free 3
  have z4 := hl3.free 4
  have z5 := hl3.free 5
  have z6 := hl3.free 6
  have z7 := hl3.free 7
  obtain ⟨q0, q1, q2, q3, q4, q5, q6, q7⟩ := hl3.cells8
  have tq := hl3.lt
  have ne1 : bl ≠ l := (hl1.cast (show _ = pts bl (.cells #[.pointer (some ⟨l, 0, none⟩)] 29) * (pts l (.cells #[v0, v1, v2, v3, v4, v5, v6, v7] 69) * (pts be (.cells #[.int .i64 x] 27) * X)) by ac_rfl)).ne
  have ne2 : be ≠ l := hl2.ne
  have H := Lib.hid h
  clear h hl1 hl2 hl3
  refine callsD_of_wpS Tryz.func64 rfl fun c₀ cs hu => ?_
  apply wpS_seq
  apply wpS_region
  simp [wpOpsS, go_sem, recoverD, hu, Tryz.ntmps64, Exit.thenS]
  refine wpS_of_wp ?_
  simp only [Array.replicate_succ, Array.replicate_zero, List.push_toArray, List.append_toArray, List.setIfInBounds_toArray, List.nil_append, List.cons_append, List.set_cons_zero, List.set_cons_succ]
  have hta := assert_errno w (.int .i64 err)
  go_wp2_with fail
  have HF : Hid (Ext w ((((((((((w.setCell ⟨l, 0, none⟩ (.int .i64 (s.number : Int))).setCell ⟨l, 1, none⟩ (.int .i64 (s.generation : Int))).setCell ⟨l, 2, none⟩ (.int .i64 (s.length : Int))).setCell ⟨l, 3, none⟩ (.pointer (some ⟨d, 0, none⟩))).setCell ⟨l, 4, none⟩ (.int .i64 (n : Int))).setCell ⟨l, 5, none⟩ (.int .i64 (a : Int))).setCell ⟨l, 6, none⟩ (.slice lb lm lc)).setCell ⟨l, 7, none⟩ (.bool false)).setCell ⟨l, 7, none⟩ (.bool true)).setCell ⟨be, 0, none⟩ (.int .i64 err)) ∧
      Sat ((((((((((w.setCell ⟨l, 0, none⟩ (.int .i64 (s.number : Int))).setCell ⟨l, 1, none⟩ (.int .i64 (s.generation : Int))).setCell ⟨l, 2, none⟩ (.int .i64 (s.length : Int))).setCell ⟨l, 3, none⟩ (.pointer (some ⟨d, 0, none⟩))).setCell ⟨l, 4, none⟩ (.int .i64 (n : Int))).setCell ⟨l, 5, none⟩ (.int .i64 (a : Int))).setCell ⟨l, 6, none⟩ (.slice lb lm lc)).setCell ⟨l, 7, none⟩ (.bool false)).setCell ⟨l, 7, none⟩ (.bool true)).setCell ⟨be, 0, none⟩ (.int .i64 err))
        (pts bb (.cells (logCells s d n a (.slice lb lm lc) false) 69) * (pts bl (.cells #[.pointer (some ⟨l, 0, none⟩)] 29) * (pts be (.cells #[.int .i64 err] 27) * (pts l (.cells (logCells s d n a (.slice lb lm lc) true) 69) * X))))) := Lib.hid (by
    refine ⟨((((((((((Ext.refl w).setCell _ _).setCell _ _).setCell _ _).setCell _ _).setCell _ _).setCell _ _).setCell _ _).setCell _ _).setCell _ _).setCell _ _, ?_⟩
    have h0 := H.out.cast (show _ = pts l (.cells #[v0, v1, v2, v3, v4, v5, v6, v7] 69) * (pts be (.cells #[.int .i64 x] 27) * (pts bb (.cells (logCells s d n a (.slice lb lm lc) false) 69) * (pts bl (.cells #[.pointer (some ⟨l, 0, none⟩)] 29) * X))) by ac_rfl)
    have h1 := ((((((((h0.setCell (i := 0) (.int .i64 (s.number : Int))).setCell (i := 1) (.int .i64 (s.generation : Int))).setCell (i := 2) (.int .i64 (s.length : Int))).setCell (i := 3) (.pointer (some ⟨d, 0, none⟩))).setCell (i := 4) (.int .i64 (n : Int))).setCell (i := 5) (.int .i64 (a : Int))).setCell (i := 6) (.slice lb lm lc)).setCell (i := 7) (.bool false)).setCell (i := 7) (.bool true)
    have h2 := h1.comm3.setCell (i := 0) (.int .i64 err)
    exact h2.cast (show _ = _ by
      have e : ((((((((((#[v0, v1, v2, v3, v4, v5, v6, v7] : Array Value).setIfInBounds 0 (.int .i64 (s.number : Int))).setIfInBounds 1 (.int .i64 (s.generation : Int))).setIfInBounds 2 (.int .i64 (s.length : Int))).setIfInBounds 3 (.pointer (some ⟨d, 0, none⟩))).setIfInBounds 4 (.int .i64 (n : Int))).setIfInBounds 5 (.int .i64 (a : Int))).setIfInBounds 6 (.slice lb lm lc)).setIfInBounds 7 (.bool false)).setIfInBounds 7 (.bool true)) = logCells s d n a (.slice lb lm lc) true := by
        simp only [List.setIfInBounds_toArray, List.set_cons_zero, List.set_cons_succ, logCells]
      have e2 : (#[Value.int .i64 x] : Array Value).setIfInBounds 0 (.int .i64 err) = #[.int .i64 err] := rfl
      rw [e, e2]; ac_rfl))
  clear H hta b0 b1 b2 b3 b4 b5 b6 b7 cl ce ze z0 z1 z2 z3 z4 z5 z6 z7 q0 q1 q2 q3 q4 q5 q6 q7
  generalize World.setCell _ ⟨be, 0, none⟩ _ = w9 at *
  have h1 := HF.out.1
  have h2 := HF.out.2
  simp [bodyPostS, results, Tryz.results64]
  exact ⟨h1, h2⟩
end Go.Proofs.YtmemhoiepnlhfaaGreatDoor
