/-
  Appends onto a row of bytes of the call's own: the bytes of a string; zeros.
  Their condition: the row is not nil.
-/
import Derived.Test.YtmemhoiepnlhfaaGreatDoorJ3
import Derived.Lib.AppendStr
import Derived.Lib.AppendZerosOnto
namespace Go.Proofs.YtmemhoiepnlhfaaGreatDoor
open Go.RowKit
set_option maxRecDepth 100000

theorem growslice_one (n cap : Nat) (h : n ≤ 1000000) (hc : cap < n) : Builtin.nextslicecap n cap * 1 ≤ 281474976710656 := growslice_fits (by omega) (by omega)
theorem Sat.grewRow {w : World} {e : TypeId} {g n cap m c : Nat} {xs ys : List Value} {pad : Array Value} {R : HProp} (h : Sat w (rowP e 1 (.slice (some ⟨g, 0, none⟩) n cap) n xs * R))
    (hy : ys.length = m) (hc : n + m ≤ c) (hm : c ≤ maxLen) (hp : pad.size = c - (n + m)) :
    Sat (w.drew.alloc (.cells (xs.toArray ++ ys.toArray ++ pad) e)) (rowP e 1 (.slice (some ⟨w.heap.size, 0, none⟩) (n + m) c) (n + m) (xs ++ ys) * R) := by
  obtain ⟨hl, ⟨h0, _⟩ | ⟨g', cap', cur, hv, h1, h2, h3, h4, hs⟩⟩ := h.row
  · cases h0
  have hl' : xs.length = n := by simpa using hl
  have h5 : Sat w.drew R := hs.right.drew
  have h6 := h5.allocNew (.cells (xs.toArray ++ ys.toArray ++ pad) e)
  refine Sat.mkRow (by rw [List.length_append, hl', hy, Nat.mul_one]) hc hm ?_ ?_ h6
  · simp [hl', hy, hp]; omega
  · have : (xs.toArray ++ ys.toArray ++ pad).toList = (xs ++ ys) ++ pad.toList := by simp
    rw [this, Nat.mul_one, List.take_left' (by rw [List.length_append, hl', hy])]

theorem append_str_row (i0 : TypeInfo) (hi0 : Tryz.prog.info? 5 = some i0) (hz0 : i0.zero = some (.int .u8 0)) (hz1 : i0.size = 1) (hz2 : i0.bytes = 1)
    (w : World) (v : Value) (n : Nat) (xs : List Value) (R : HProp) (h : Sat w (rowP 5 1 v n xs * R)) (hn : 0 < n) (s : ByteArray) (hs : n + s.size ≤ 1000000) (ty : TypeId) :
    ∃ v' w', (Builtin.append_ #[54, 9] ty #[v, .string s]).run Tryz.prog w = .ok v' w' ∧ Ext w w' ∧ Sat w' (rowP 5 1 v' (n + s.size) (xs ++ Lib.strCells s) * R) := by
  obtain ⟨hl, ⟨_, h0, _⟩ | ⟨g, cap, cur, rfl, h1, h2, h3, h4, hs'⟩⟩ := h.row
  · omega
  have hl' : xs.length = n := by simpa using hl
  by_cases room : n + s.size ≤ cap
  · have hr := Lib.run_append_room_string (P := Tryz.prog) w 54 9 ty 5 i0 (by kernel_rfl) (by kernel_rfl) hi0 hz1 g n cap cur hs'.block s room (by omega)
    refine ⟨_, _, hr, (Ext.refl w).setRow _ _, Sat.mkRow (by rw [List.length_append, hl', Lib.strCells_length]; omega) room h2 ?_ ?_ (hs'.setRow _)⟩
    · simp [Lib.strCells_length]; omega
    · have : cur.toList.take n = xs := by simpa using h4
      rw [this, Nat.mul_one]
      exact List.take_left' (by rw [List.length_append, hl', Lib.strCells_length])
  · have hr := Lib.run_append_grow_string (P := Tryz.prog) w 54 9 ty 5 i0 (.int .u8 0) (by kernel_rfl) (by kernel_rfl) hi0 hz0 ⟨g, 0, none⟩ n cap xs (by rw [hz1, hl', Nat.mul_one])
      (fun j u hj => by rw [Addr.add_lit, Nat.zero_add]; exact h.rowCell hj) s (by omega) (by omega) (by rw [hz2]; exact growslice_one _ _ hs (by omega))
    refine ⟨_, _, hr, ((Ext.refl w).drew).alloc _, Sat.grewRow h (Lib.strCells_length s) (grownCap_ge ..) (grownCap_le_maxLen _ _ _ _ (by unfold maxLen; omega)) ?_⟩
    rw [size_zeroCells]
    show (_ : Nat) * 1 = _
    omega

theorem u8s_zeros (k : Nat) : Builtin.zeroCells (Value.int .u8 0).cells k = (u8s (List.replicate k 0)).toArray := by
  apply Array.ext'
  apply List.ext_getElem
  · rw [Array.length_toList, size_zeroCells]
    show k * 1 = _
    simp [u8s]
  · intro i h1 h2
    have e : ∀ j : Nat, (Value.int .u8 0).cells[j % (Value.int .u8 0).cells.size]! = Value.int .u8 0 := by
      intro j
      show #[Value.int .u8 0][j % 1]! = _
      rw [Nat.mod_one]; rfl
    simp [Builtin.zeroCells, u8s, e]

theorem append_zero_row (i0 : TypeInfo) (hi0 : Tryz.prog.info? 5 = some i0) (hz0 : i0.zero = some (.int .u8 0)) (hz1 : i0.size = 1) (hz2 : i0.bytes = 1)
    (w : World) (v : Value) (n : Nat) (xs : List Value) (R : HProp) (h : Sat w (rowP 5 1 v n xs * R)) (hn : 0 < n) (k : Nat) (hs : n + k ≤ 1000000) (ty : TypeId) :
    ∃ v' w', (Builtin.append_ #[54, 3] ty #[v, .int .i64 k]).run Tryz.prog w = .ok v' w' ∧ Ext w w' ∧ Sat w' (rowP 5 1 v' (n + k) (xs ++ u8s (List.replicate k 0)) * R) := by
  obtain ⟨hl, ⟨_, h0, _⟩ | ⟨g, cap, cur, rfl, h1, h2, h3, h4, hs'⟩⟩ := h.row
  · omega
  have hl' : xs.length = n := by simpa using hl
  have hrl : (u8s (List.replicate k 0)).length = k := by simp [u8s]
  by_cases room : n + k ≤ cap
  · have hst := run_storeCells_at Tryz.prog g n 5 (u8s (List.replicate k 0)) 0 cur w hs'.block (by rw [hrl]; omega) (u8s_one _)
    simp only [Nat.add_zero, hrl] at hst
    have hw : IntKind.i64.wrap (k : Int) = k := by rw [IntKind.wrap_i64]; omega
    have hr : (Builtin.append_ #[54, 3] ty #[.slice (some ⟨g, 0, none⟩) n cap, .int .i64 k]).run Tryz.prog w =
        .ok (.slice (some ⟨g, 0, none⟩) (n + k) cap) (w.setRow g (cur.toList.take n ++ u8s (List.replicate k 0) ++ cur.toList.drop (n + k)).toArray) := by
      have h48i : ¬ (281474976710656 < (k : Int)) := by omega
      have hneg : ¬ ((k : Int) < 0) := by omega
      by_cases k0 : k = 0
      · subst k0
        simp [u8s] at hst
        simp [Builtin.append_, run_underlying (show Tryz.prog.underlying 54 = some (.slice 5) by kernel_rfl), run_underlying (show Tryz.prog.underlying 3 = some (.int .i64) by kernel_rfl), sizeOf, typeInfo, zeroValue, hi0, hz0, hz1, hz2, asInt, asIntOf, h1, Addr.add_lit, IntKind.wrap_i64, hst, u8s]
      · simp [Builtin.append_, run_underlying (show Tryz.prog.underlying 54 = some (.slice 5) by kernel_rfl), run_underlying (show Tryz.prog.underlying 3 = some (.int .i64) by kernel_rfl), sizeOf, typeInfo, zeroValue, hi0, hz0, hz1, hz2, asInt, asIntOf, hw, hneg, h48i, k0, room, Addr.add_lit, u8s_zeros, hst]
    refine ⟨_, _, hr, (Ext.refl w).setRow _ _, Sat.mkRow (by rw [List.length_append, hl', hrl]; omega) room h2 ?_ ?_ (hs'.setRow _)⟩
    · simp [hrl]; omega
    · have : cur.toList.take n = xs := by simpa using h4
      rw [this, Nat.mul_one]
      exact List.take_left' (by rw [List.length_append, hl', hrl])
  · have hr := Lib.run_append_grow_zeros (P := Tryz.prog) w 54 3 ty 5 i0 (.int .u8 0) .i64 .i64 (by kernel_rfl) (by kernel_rfl) hi0 hz0 (some ⟨g, 0, none⟩) n cap xs
      (run_firstCells_some (P := Tryz.prog) w.drew i0.size n ⟨g, 0, none⟩ n cap xs (by rw [hz1, hl', Nat.mul_one]) (fun j u hj => by rw [Addr.add_lit, Nat.zero_add]; exact h.rowCell hj)) k (by omega) (by omega) (by omega) (by omega) (by rw [hz2]; omega) (by rw [hz2]; exact growslice_one _ _ hs (by omega))
    rw [u8s_zeros k] at hr
    refine ⟨_, _, hr, ((Ext.refl w).drew).alloc _, Sat.grewRow h hrl (grownCap_ge ..) (grownCap_le_maxLen _ _ _ _ (by unfold maxLen; omega)) ?_⟩
    rw [size_zeroCells]
    show (_ : Nat) * 1 = _
    omega
end Go.Proofs.YtmemhoiepnlhfaaGreatDoor
