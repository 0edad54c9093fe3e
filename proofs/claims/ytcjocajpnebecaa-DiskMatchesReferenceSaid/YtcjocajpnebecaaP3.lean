/-
  What the disk's laws have in common besides: a row of marks, a list's operation as six cells. Its condition: none.
-/
import Derived.Test.YtcjocajpnebecaaP2
import Derived.Test.YtcjocajpnebecaaD7
namespace Go.Proofs.Ytcjocajpnebecaa
open Go.RowKit

theorem Try.infoBool : (Try.prog.info? 4).map (fun i => (i.zero, i.size, i.bytes)) = some (some (.bool false), 1, 1) := by kernel_rfl
/-- Which sectors were written. -/
def marks (n : Nat) (q : List (Nat × ByteArray)) : Array Value := ((List.range n).map fun i => Value.bool (q.any fun p => p.1 == i)).toArray
theorem marks_made (n : Nat) : madeCells (Value.cells (.bool false)) n = marks n [] := by
  apply Array.ext
  · simp [size_madeCells, marks, Value.cells]
  · intro i h1 h2
    simp [madeCells, marks, Value.cells, Nat.mod_one]
theorem make_marks (n : Nat) (hn : n ≤ 4000) (w : World) : (Instr.makeSlice 42 (.int .i64 (n : Int)) (.int .i64 (n : Int))).run Try.prog w =
    .ok (.slice (some ⟨w.heap.size, 0, none⟩) n n) (w.alloc (.cells (marks n []) 4)) := by
  obtain ⟨i0, hi0, hz0, hz1, hz2⟩ := info_parts Try.infoBool
  rw [run_make (P := Try.prog) w 42 4 i0 _ (by kernel_rfl) hi0 hz0 .i64 .i64 _ _ (by omega) (Int.le_refl _) (by rw [hz2]; omega) (by omega)]
  have e : (n : Int).toNat = n := by omega
  rw [e, hz1, Nat.mul_one, marks_made]
theorem marks_get (n : Nat) (q : List (Nat × ByteArray)) (i : Nat) (hi : i < n) : (marks n q)[i]? = some (.bool (q.any fun p => p.1 == i)) := by
  unfold marks
  rw [List.getElem?_toArray, List.getElem?_map, List.getElem?_range hi]; rfl
theorem marks_set (n : Nat) (q : List (Nat × ByteArray)) (s : Nat) (t : ByteArray) : (marks n q).setIfInBounds s (.bool true) = marks n (q ++ [(s, t)]) := by
  unfold marks
  rw [List.setIfInBounds_toArray]
  congr 1
  apply List.ext_getElem?
  intro j
  rw [List.getElem?_set]
  by_cases hj : j < n
  · rw [List.getElem?_map, List.getElem?_map, List.getElem?_range hj]
    by_cases hs : s = j
    · subst hs; simp [hj]
    · simp [hs]
  · have h0 : (List.range n)[j]? = none := List.getElem?_eq_none (by simp; omega)
    rw [List.getElem?_map, List.getElem?_map, h0]
    by_cases hs : s = j
    · subst hs; simp [hj]
    · simp [hs]
theorem actsAt.six {w : World} {v : Value} {l : List AC} (h : actsAt w v l) {k b off cap : Nat} {a : AC} (ha : l[k]? = some a) (hv : v = .slice (some ⟨b, off, none⟩) l.length cap) :
    w.cell? ⟨b, off + k * 6, none⟩ = some (.int .i64 a.kind) ∧ w.cell? ⟨b, off + k * 6 + 1, none⟩ = some (.int .i64 a.sector) ∧ w.cell? ⟨b, off + k * 6 + 2, none⟩ = some (.int .i64 a.bytes) ∧
    w.cell? ⟨b, off + k * 6 + 3, none⟩ = some (.string a.text) ∧ w.cell? ⟨b, off + k * 6 + 4, none⟩ = some (.bool a.odd) ∧ w.cell? ⟨b, off + k * 6 + 5, none⟩ = some (.int .i64 a.after) := by
  have hk : k < l.length := (List.getElem?_eq_some_iff.1 ha).1
  obtain ⟨a', b', off', ha', _, hao, hx⟩ := h.get hk hv
  obtain rfl : a = a' := Option.some.inj (ha.symm.trans ha')
  obtain ⟨rfl, rfl⟩ : b = b' ∧ off = off' := by simpa using hao
  exact ⟨hx 0 _ rfl, hx 1 _ rfl, hx 2 _ rfl, hx 3 _ rfl, hx 4 _ rfl, hx 5 _ rfl⟩
theorem good_iff (n : Nat) (a : AC) : good n a = true ↔ (0 ≤ a.sector ∧ a.sector < (n : Int)) ∧ a.write.size = 64 := by
  simp [good]
theorem fail_n (S : DS) (x b : Int) : (S.fail x b).n = S.n := (goes_fail S x b).n
end Go.Proofs.Ytcjocajpnebecaa
