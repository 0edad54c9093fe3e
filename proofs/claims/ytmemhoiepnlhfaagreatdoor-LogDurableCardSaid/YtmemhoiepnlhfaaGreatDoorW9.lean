/-
  disk.New, walked, whatever the number of sectors. No condition.
-/
import Derived.Test.YtmemhoiepnlhfaaGreatDoorW8
namespace Go.Proofs.YtmemhoiepnlhfaaGreatDoor
open Go.RowKit
set_option maxRecDepth 100000

theorem Tryz.infoByte : (Tryz.prog.info? 5).map (fun i => (i.zero, i.size, i.bytes)) = some (some (.int .u8 0), 1, 1) := by kernel_rfl
theorem made_bytes (m : Nat) : madeCells (Value.cells (.int .u8 0)) m = (u8s (List.replicate m 0)).toArray := by
  apply Array.ext
  · simp [size_madeCells, u8s]
  · intro i h1 h2
    simp [madeCells, u8s, Value.cells, Nat.mod_one]
theorem make_bytes (n : Nat) (hn : n ≤ 4000) (w : World) : (Instr.makeSlice 54 (.int .i64 ((n : Int) * 64)) (.int .i64 ((n : Int) * 64))).run Tryz.prog w =
    .ok (.slice (some ⟨w.heap.size, 0, none⟩) (64 * n) (64 * n)) (w.alloc (.cells (u8s (List.replicate (64 * n) 0)).toArray 5)) := by
  obtain ⟨i0, hi0, hz0, hz1, hz2⟩ := info_parts Tryz.infoByte
  rw [run_make (P := Tryz.prog) w 54 5 i0 _ (by kernel_rfl) hi0 hz0 .i64 .i64 _ _ (by omega) (Int.le_refl _) (by rw [hz2]; omega) (by omega)]
  have e : ((n : Int) * 64).toNat = 64 * n := by omega
  rw [e, hz1, Nat.mul_one, made_bytes]

theorem new_no (s : Int) (h : s < 1 ∨ 4000 < s) (w : World) : Calls Tryz.prog 11 #[.int .i64 s] w fun e w' => e = .returned (.pointer none) ∧ w = w' := by
  rcases h with h | h
  · go_enter Tryz.func11, Tryz.ntmps11
    go_wp2_with fail
    go_ret
    exact ⟨rfl, rfl⟩
  · have h1 : ¬ s < 1 := by omega
    go_enter Tryz.func11, Tryz.ntmps11
    go_wp2_with fail
    go_ret
    exact ⟨rfl, rfl⟩

theorem DS.fresh_ok (n : Nat) (h1 : 1 ≤ n) (h2 : n ≤ 4000) : (DS.fresh n).ok :=
  ⟨h1, h2, by simp [DS.fresh], by simp [DS.fresh], fun _ hp => by simp [DS.fresh] at hp, fun _ _ _ e => by cases e⟩

theorem new_fin {n bs be d : Nat} {R : HProp} {w : World} (h : Sat w (pts d (.cells (coreCells n bs be (.slice none 0 0) false (.pointer none)) 58) * (pts bs (.cells (u8s (List.replicate (64 * n) 0)).toArray 5) * (pts be (.cells (u8s (List.replicate (64 * n) 0)).toArray 5) * R)))) :
    Sat w (diskIn d (DS.fresh n) bs be (.slice none 0 0) (.pointer none) R) := by
  have h1 : Sat w (rowP 64 3 (.slice none 0 0) 0 [] * (armP (.pointer none) none * _)) := Sat.nilRow (Sat.of_fact rfl h)
  exact h1.cast (by unfold diskIn DS.fresh; simp only [List.length_nil, qCells, List.flatMap_nil]; ac_rfl)

set_option maxRecDepth 100000 in
set_option maxHeartbeats 800000 in
theorem new_yes (n : Nat) (h1 : 1 ≤ n) (h2 : n ≤ 4000) (R : HProp) (w : World) (h : Sat w R) : Calls Tryz.prog 11 #[.int .i64 (n : Int)] w fun e w' =>
    ∃ d, e = .returned (.pointer (some ⟨d, 0, none⟩)) ∧ Ext w w' ∧ Sat w' (diskP d (DS.fresh n) * R) := by
  have hmk := fun wx => make_bytes n h2 wx
  have H := Lib.hid h
  clear h
  have hb1 : ¬ ((n : Int) < 1) := by omega
  have hb2 : ¬ ((4000 : Int) < n) := by omega
  go_enter Tryz.func11, Tryz.ntmps11
  go_wp2_with fail
  go_region
  · have hs := (((H.out.allocNew (.cells (u8s (List.replicate (64 * n) 0)).toArray 5)).allocNew (.cells (u8s (List.replicate (64 * n) 0)).toArray 5)).allocNew
      (.cells (coreCells n w.heap.size (w.heap.size + 1) (.slice none 0 0) false (.pointer none)) 58)).drew
    simp only [World.size_alloc] at hs
    have HS := Lib.hid hs
    clear hs hmk
    go_wp2_with fail
    go_ret
    refine ⟨w.heap.size + 1 + 1, rfl, (by repeat (first | with_reducible assumption | with_reducible exact Ext.refl _ | with_reducible refine Ext.alloc ?_ _ | with_reducible refine Ext.drew ?_ | with_reducible refine Ext.drewN _ ?_ | with_reducible refine Ext.setCell ?_ _ _)), Sat.mkDisk (DS.fresh_ok n h1 h2) (bs := w.heap.size) (be := w.heap.size + 1) (qv := .slice none 0 0) (av := .pointer none) (new_fin ?_)⟩
    exact HS.out.cast (by ac_rfl)
  · have hs := (((H.out.allocNew (.cells (u8s (List.replicate (64 * n) 0)).toArray 5)).allocNew (.cells (u8s (List.replicate (64 * n) 0)).toArray 5)).allocNew
      (.cells (coreCells n (w.heap.size + 1) w.heap.size (.slice none 0 0) false (.pointer none)) 58)).drew
    simp only [World.size_alloc] at hs
    have HS := Lib.hid hs
    clear hs hmk
    go_wp2_with fail
    go_ret
    refine ⟨w.heap.size + 1 + 1, rfl, (by repeat (first | with_reducible assumption | with_reducible exact Ext.refl _ | with_reducible refine Ext.alloc ?_ _ | with_reducible refine Ext.drew ?_ | with_reducible refine Ext.drewN _ ?_ | with_reducible refine Ext.setCell ?_ _ _)), Sat.mkDisk (DS.fresh_ok n h1 h2) (bs := w.heap.size + 1) (be := w.heap.size) (qv := .slice none 0 0) (av := .pointer none) (new_fin ?_)⟩
    exact HS.out
end Go.Proofs.YtmemhoiepnlhfaaGreatDoor
