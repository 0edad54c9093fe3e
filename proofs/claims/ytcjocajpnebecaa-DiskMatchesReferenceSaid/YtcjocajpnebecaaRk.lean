/-
  A disk of the reference implementation in memory, as an assertion of the separation logic, over the same state. Its condition: none; it speaks of a pointer to a struct of eight fields.
-/
import Derived.Test.YtcjocajpnebecaaP3
import Derived.Test.YtcjocajpnebecaaD6
namespace Go.Proofs.Ytcjocajpnebecaa
open Go.RowKit

def secs (n : Nat) (L : List UInt8) : List ByteArray := (List.range n).map fun i => ⟨(sec L i).toArray⟩
theorem secs_len (n : Nat) (L : List UInt8) : (secs n L).length = n := by simp [secs]
theorem secs_get (n : Nat) (L : List UInt8) (i : Nat) (hi : i < n) : (secs n L)[i]? = some ⟨(sec L i).toArray⟩ := by
  unfold secs; rw [List.getElem?_map, List.getElem?_range hi]; rfl
/-- A part of a sector's new text: the sector then. -/
theorem secs_set (n : Nat) (L : List UInt8) (i : Nat) (t : List UInt8) (h : L.length = 64 * n) (hi : i < n) (ht : t.length ≤ 64) :
    secs n (splice L (64 * i) t) = (secs n L).set i ⟨(t ++ (sec L i).drop t.length).toArray⟩ := by
  apply List.ext_getElem?
  intro j
  rw [List.getElem?_set]
  by_cases hj : j < n
  · rw [secs_get n _ j hj, sec_set h hi hj ht]
    by_cases hij : i = j
    · subst hij; rw [if_pos rfl, if_pos rfl, if_pos (by rw [secs_len]; exact hi)]
    · rw [if_neg hij, if_neg hij, secs_get n _ j hj]
  · rw [List.getElem?_eq_none (by rw [secs_len]; omega)]
    split
    · rw [if_neg (by rw [secs_len]; omega)]
    · rw [List.getElem?_eq_none (by rw [secs_len]; omega)]
def pCell (p : Nat × ByteArray) : List Value := [.int .i64 (p.1 : Int), .string p.2]
def pCells (q : List (Nat × ByteArray)) : List Value := q.flatMap pCell
theorem pCells_len (q : List (Nat × ByteArray)) : (pCells q).length = q.length * 2 := by
  induction q with
  | nil => rfl
  | cons p q ih => simp [pCells, pCell, List.length_flatMap] at ih ⊢; omega
theorem pCells_get (q : List (Nat × ByteArray)) (i j : Nat) (p : Nat × ByteArray) (hi : q[i]? = some p) (hj : j < 2) : (pCells q)[2 * i + j]? = (pCell p)[j]? := by
  induction q generalizing i with
  | nil => simp at hi
  | cons x q ih =>
    cases i with
    | zero =>
      simp at hi; subst hi
      show (pCell x ++ pCells q)[2 * 0 + j]? = _
      rw [List.getElem?_append_left (by simp [pCell]; omega)]
      simp
    | succ i =>
      show (pCell x ++ pCells q)[2 * (i + 1) + j]? = _
      rw [List.getElem?_append_right (by simp [pCell]; omega)]
      have : 2 * (i + 1) + j - (pCell x).length = 2 * i + j := by simp [pCell]; omega
      rw [this]; exact ih i (by simpa using hi)
/-- What the struct says besides. -/
structure RA where
  sv : Value
  ev : Value
  pv : Value
  am : Bool
  a : Int
  w : Int
  b : Int
def RA.fits (x : RA) (S : DS) : Prop := S.arm = if x.am then some (x.a, x.w, x.b) else none
def RA.cells (x : RA) (off : Bool) : Array Value := #[x.sv, x.ev, x.pv, .bool (!off), .bool x.am, .int .i64 x.a, .int .i64 x.w, .int .i64 x.b]
def refIn (m : Nat) (S : DS) (x : RA) (R : HProp) : HProp :=
  pts m (.cells (x.cells S.off) 64) * (strRow x.sv (secs S.n S.st) * (strRow x.ev (secs S.n S.el) * (rowP 73 2 x.pv S.q.length (pCells S.q) * R)))
def refP (m : Nat) (S : DS) : HProp := fun h => S.ok ∧ ∃ x : RA, x.fits S ∧ refIn m S x emp h
theorem refIn_sep (m : Nat) (S : DS) (x : RA) (R : HProp) : refIn m S x emp * R = refIn m S x R := by
  unfold refIn; simp only [sep_assoc]; rw [emp_sep]
theorem Sat.ref {w : World} {m : Nat} {S : DS} {R : HProp} (h : Sat w (refP m S * R)) : S.ok ∧ ∃ x : RA, x.fits S ∧ Sat w (refIn m S x R) := by
  obtain ⟨f, hf, a, b, hd, rfl, ⟨hok, x, hx, hp⟩, hr⟩ := h
  refine ⟨hok, x, hx, ?_⟩
  rw [← refIn_sep]
  exact ⟨_, hf, a, b, hd, rfl, hp, hr⟩
theorem Sat.mkRef {w : World} {m : Nat} {S : DS} {R : HProp} {x : RA} (hok : S.ok) (hx : x.fits S) (h : Sat w (refIn m S x R)) : Sat w (refP m S * R) := by
  rw [← refIn_sep] at h
  obtain ⟨f, hf, a, b, hd, rfl, hp, hr⟩ := h
  exact ⟨_, hf, a, b, hd, rfl, ⟨hok, x, hx, hp⟩, hr⟩
/-- The struct's cells. -/
theorem Sat.ref8 {w : World} {m : Nat} {x : RA} {off : Bool} {R : HProp} (h : Sat w (pts m (.cells (x.cells off) 64) * R)) :
    w.cell? ⟨m, 0, none⟩ = some x.sv ∧ w.cell? ⟨m, 1, none⟩ = some x.ev ∧ w.cell? ⟨m, 2, none⟩ = some x.pv ∧ w.cell? ⟨m, 3, none⟩ = some (.bool (!off)) ∧
    w.cell? ⟨m, 4, none⟩ = some (.bool x.am) ∧ w.cell? ⟨m, 5, none⟩ = some (.int .i64 x.a) ∧ w.cell? ⟨m, 6, none⟩ = some (.int .i64 x.w) ∧ w.cell? ⟨m, 7, none⟩ = some (.int .i64 x.b) ∧ m < w.heap.size :=
  ⟨h.cell.trans rfl, h.cell.trans rfl, h.cell.trans rfl, h.cell.trans rfl, h.cell.trans rfl, h.cell.trans rfl, h.cell.trans rfl, h.cell.trans rfl, h.lt⟩

set_option maxHeartbeats 400000 in
theorem rstart_any (m : Nat) (S : DS) (R : HProp) (w : World) (h : Sat w (refP m S * R)) :
    Calls Try.prog 35 #[.pointer (some ⟨m, 0, none⟩)] w fun e w' => e = .returned (.tuple #[]) ∧ Ext w w' ∧ Sat w' (refP m S.start * R) := by
  obtain ⟨hok, x, hx, hs⟩ := h.ref
  obtain ⟨sv, ev, pv, am, a, wr, b⟩ := x
  unfold refIn at hs
  obtain ⟨c0, c1, c2, c3, c4, c5, c6, c7, hm⟩ := hs.ref8
  have f0 := fun i => hs.free (i := i)
  have h1 := (hs.setCell (i := 3) (.bool true)).setCell (i := 4) (.bool false)
  have HS := Lib.hid h1
  have HO := Lib.hid hok
  clear h hs h1 hok hx
  go_enter Try.func35, Try.ntmps35
  go_wp2_with fail
  go_end0
  exact ⟨rfl, (by repeat (first | with_reducible assumption | with_reducible exact Ext.refl _ | with_reducible refine Ext.alloc ?_ _ | with_reducible refine Ext.drew ?_ | with_reducible refine Ext.drewN _ ?_ | with_reducible refine Ext.setCell ?_ _ _)), Sat.mkRef (x := ⟨sv, ev, pv, false, a, wr, b⟩) HO.out.start rfl HS.out⟩
set_option maxHeartbeats 400000 in
theorem rarm_any (m : Nat) (S : DS) (a' w' b' : Int) (ha : a' ≤ 9223372036854775807) (R : HProp) (w : World) (h : Sat w (refP m S * R)) :
    Calls Try.prog 36 #[.pointer (some ⟨m, 0, none⟩), .int .i64 a', .int .i64 w', .int .i64 b'] w fun e w2 => e = .returned (.tuple #[]) ∧ Ext w w2 ∧ Sat w2 (refP m (S.armed a' w' b') * R) := by
  obtain ⟨hok, x, hx, hs⟩ := h.ref
  obtain ⟨sv, ev, pv, am, a, wr, b⟩ := x
  unfold refIn at hs
  obtain ⟨c0, c1, c2, c3, c4, c5, c6, c7, hm⟩ := hs.ref8
  have f0 := fun i => hs.free (i := i)
  have HO := Lib.hid (hok.armed ha w' b')
  have HH := Lib.hid h
  cases hoff : S.off with
  | true =>
    rw [hoff] at c3
    have E : Hid (S.armed a' w' b' = S) := Lib.hid (by simp [DS.armed, hoff])
    clear h hs hok hx hoff
    go_enter Try.func36, Try.ntmps36
    go_wp2_with fail
    refine bodyPost_ret (results_none rfl _ _ _) rfl ⟨rfl, Ext.refl _, ?_⟩
    rw [E.out]; exact HH.out
  | false =>
    rw [hoff] at c3
    have h1 := (((hs.setCell (i := 4) (.bool (decide (0 ≤ a')))).setCell (i := 5) (.int .i64 a')).setCell (i := 6) (.int .i64 w')).setCell (i := 7) (.int .i64 b')
    have HS := Lib.hid h1
    have E : Hid (S.armed a' w' b' = { S with arm := if 0 ≤ a' then some (a', w', b') else none }) := Lib.hid (by
      unfold DS.armed; rw [if_neg (by simp [hoff])]; split <;> rfl)
    clear h hs h1 hok hx hoff
    go_enter Try.func36, Try.ntmps36
    go_wp2_with fail
    go_end0
    have he := HO.out
    rw [E.out] at he ⊢
    exact ⟨rfl, (by repeat (first | with_reducible assumption | with_reducible exact Ext.refl _ | with_reducible refine Ext.alloc ?_ _ | with_reducible refine Ext.drew ?_ | with_reducible refine Ext.drewN _ ?_ | with_reducible refine Ext.setCell ?_ _ _)), Sat.mkRef (x := ⟨sv, ev, pv, decide (0 ≤ a'), a', w', b'⟩) he (by simp [RA.fits]) HS.out⟩
end Go.Proofs.Ytcjocajpnebecaa
