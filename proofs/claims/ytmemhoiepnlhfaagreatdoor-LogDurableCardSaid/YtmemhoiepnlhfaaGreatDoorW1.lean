/-
  The disk's small methods, walked: place, at, Start, Arm. Their condition: the receiver is a disk in memory, or nil where said.
-/
import Derived.Test.YtmemhoiepnlhfaaGreatDoorDk
namespace Go.Proofs.YtmemhoiepnlhfaaGreatDoor
open Go.RowKit

/-- A range of bytes, as a value. -/
def spotV (i : Nat) : Value := .agg #[.int .i64 ((i : Int) * 64), .int .i64 (((i : Int) + 1) * 64)]
def noSpot : Value := .agg #[.int .i64 0, .int .i64 0]

set_option maxHeartbeats 400000 in
theorem place_yes (d : Nat) (i n bs : Nat) (w : World) (h0 : w.cell? ⟨d, 0, none⟩ = some (.slice (some ⟨bs, 0, none⟩) (64 * n) (64 * n))) (hd : d < w.heap.size) (hi : i < n) (hn : n ≤ 4000) :
    Calls Tryz.prog 47 #[.pointer (some ⟨d, 0, none⟩), .int .i64 (i : Int)] w fun e w' => e = .returned (.tuple #[spotV i, .bool true]) ∧ Kept w w' := by
  go_enter Tryz.func47, Tryz.ntmps47
  go_wp2
  exact bodyPost_ret (v := .tuple #[spotV i, .bool true]) (by simp [results, Tryz.results47, go_sem, spotV]) rfl ⟨rfl, (Kept.refl _).alloc _⟩

set_option maxHeartbeats 400000 in
theorem place_no (d : Nat) (s : Int) (n bs : Nat) (w : World) (h0 : w.cell? ⟨d, 0, none⟩ = some (.slice (some ⟨bs, 0, none⟩) (64 * n) (64 * n))) (hd : d < w.heap.size) (hi : s < 0 ∨ (n : Int) ≤ s) (hn : n ≤ 4000) :
    Calls Tryz.prog 47 #[.pointer (some ⟨d, 0, none⟩), .int .i64 s] w fun e w' => e = .returned (.tuple #[noSpot, .bool false]) ∧ Kept w w' := by
  rcases hi with hi | hi
  · go_enter Tryz.func47, Tryz.ntmps47
    go_wp2
    exact bodyPost_ret (v := .tuple #[noSpot, .bool false]) (by simp [results, Tryz.results47, go_sem, noSpot]) rfl ⟨rfl, (Kept.refl _).alloc _⟩
  · have h1 : 0 ≤ s := by omega
    go_enter Tryz.func47, Tryz.ntmps47
    go_wp2
    exact bodyPost_ret (v := .tuple #[noSpot, .bool false]) (by simp [results, Tryz.results47, go_sem, noSpot]) rfl ⟨rfl, (Kept.refl _).alloc _⟩

set_option maxHeartbeats 400000 in
theorem place_nil (s : Int) (w : World) :
    Calls Tryz.prog 47 #[.pointer none, .int .i64 s] w fun e w' => e = .returned (.tuple #[noSpot, .bool false]) ∧ Kept w w' := by
  go_enter Tryz.func47, Tryz.ntmps47
  go_wp2
  exact bodyPost_ret (v := .tuple #[noSpot, .bool false]) (by simp [results, Tryz.results47, go_sem, noSpot]) rfl ⟨rfl, (Kept.refl _).alloc _⟩

set_option maxHeartbeats 400000 in
theorem at_off (d : Nat) (s : Int) (w : World) (h3 : w.cell? ⟨d, 3, none⟩ = some (.bool true)) (hd : d < w.heap.size) :
    Calls Tryz.prog 30 #[.pointer (some ⟨d, 0, none⟩), .int .i64 s] w fun e w' => e = .returned (.tuple #[noSpot, .int .i64 19]) ∧ Kept w w' := by
  go_enter Tryz.func30, Tryz.ntmps30
  go_wp2_with fail
  exact bodyPost_ret (v := .tuple #[noSpot, .int .i64 19]) (by simp [results, Tryz.results30, go_sem, noSpot]) rfl ⟨rfl, (Kept.refl _).alloc _⟩

/-- A new block of two cells, behind a call that keeps it. -/
theorem Kept.two {w w1 : World} {a b : Value} {t : TypeId} (hk : Kept (w.alloc (.cells #[a, b] t)) w1) :
    w1.cell? ⟨w.heap.size, 0, none⟩ = some a ∧ w1.cell? ⟨w.heap.size, 1, none⟩ = some b ∧ w1.frozen? ⟨w.heap.size, 0, none⟩ = false ∧ w1.frozen? ⟨w.heap.size, 1, none⟩ = false ∧ w.heap.size < w1.heap.size := by
  have h := hk.keep _ _ (heap_alloc_new w _)
  refine ⟨by simp [World.cell?, h], by simp [World.cell?, h], by simp [World.frozen?, h], by simp [World.frozen?, h], (Array.getElem?_eq_some_iff.1 h).1⟩

set_option maxHeartbeats 400000 in
theorem at_yes (d : Nat) (i n bs : Nat) (w : World) (h0 : w.cell? ⟨d, 0, none⟩ = some (.slice (some ⟨bs, 0, none⟩) (64 * n) (64 * n))) (h3 : w.cell? ⟨d, 3, none⟩ = some (.bool false)) (hd : d < w.heap.size) (hi : i < n) (hn : n ≤ 4000) :
    Calls Tryz.prog 30 #[.pointer (some ⟨d, 0, none⟩), .int .i64 (i : Int)] w fun e w' => e = .returned (.tuple #[spotV i, .int .i64 0]) ∧ Kept w w' := by
  go_enter Tryz.func30, Tryz.ntmps30
  go_wp2_with fail
  refine (place_yes d i n bs _ ?_ (by simp; omega) hi hn).mono ?_
  · rw [World.cell?_alloc_past _ _ _ hd]; exact h0
  rintro e w1 ⟨rfl, hk⟩
  obtain ⟨c0, c1, f0, f1, hlt⟩ := hk.two
  have hk1 := ((Kept.refl w).alloc _).trans hk
  unfold spotV
  go_wp2_with fail
  exact bodyPost_ret (v := .tuple #[spotV i, .int .i64 0]) (by simp [results, Tryz.results30, go_sem, spotV, c0, c1, hlt]) rfl ⟨rfl, (by repeat (first | with_reducible assumption | with_reducible exact Kept.refl _ | with_reducible refine Kept.alloc ?_ _ | with_reducible refine Kept.drew ?_ | with_reducible refine Kept.drewN _ ?_ | refine Kept.setCell ?_ (Nat.le_refl _) _))⟩

set_option maxHeartbeats 400000 in
theorem at_no (d : Nat) (s : Int) (n bs : Nat) (w : World) (h0 : w.cell? ⟨d, 0, none⟩ = some (.slice (some ⟨bs, 0, none⟩) (64 * n) (64 * n))) (h3 : w.cell? ⟨d, 3, none⟩ = some (.bool false)) (hd : d < w.heap.size) (hi : s < 0 ∨ (n : Int) ≤ s) (hn : n ≤ 4000) :
    Calls Tryz.prog 30 #[.pointer (some ⟨d, 0, none⟩), .int .i64 s] w fun e w' => e = .returned (.tuple #[noSpot, .int .i64 1]) ∧ Kept w w' := by
  have HI := Lib.hid hi
  clear hi
  go_enter Tryz.func30, Tryz.ntmps30
  go_wp2_with fail
  refine (place_no d s n bs _ ?_ (by simp; omega) HI.out hn).mono ?_
  · rw [World.cell?_alloc_past _ _ _ hd]; exact h0
  rintro e w1 ⟨rfl, hk⟩
  obtain ⟨c0, c1, f0, f1, hlt⟩ := hk.two
  have hk1 := ((Kept.refl w).alloc _).trans hk
  unfold noSpot
  go_wp2_with fail
  exact bodyPost_ret (v := .tuple #[noSpot, .int .i64 1]) (by simp [results, Tryz.results30, go_sem, noSpot, c0, c1, hlt]) rfl ⟨rfl, (by repeat (first | with_reducible assumption | with_reducible exact Kept.refl _ | with_reducible refine Kept.alloc ?_ _ | with_reducible refine Kept.drew ?_ | with_reducible refine Kept.drewN _ ?_ | refine Kept.setCell ?_ (Nat.le_refl _) _))⟩

set_option maxHeartbeats 400000 in
theorem at_nil (s : Int) (w : World) :
    Calls Tryz.prog 30 #[.pointer none, .int .i64 s] w fun e w' => e = .returned (.tuple #[noSpot, .int .i64 1]) ∧ Kept w w' := by
  go_enter Tryz.func30, Tryz.ntmps30
  go_wp2_with fail
  refine (place_nil s _).mono ?_
  rintro e w1 ⟨rfl, hk⟩
  obtain ⟨c0, c1, f0, f1, hlt⟩ := hk.two
  have hk1 := ((Kept.refl w).alloc _).trans hk
  unfold noSpot
  go_wp2_with fail
  exact bodyPost_ret (v := .tuple #[noSpot, .int .i64 1]) (by simp [results, Tryz.results30, go_sem, noSpot, c0, c1, hlt]) rfl ⟨rfl, (by repeat (first | with_reducible assumption | with_reducible exact Kept.refl _ | with_reducible refine Kept.alloc ?_ _ | with_reducible refine Kept.drew ?_ | with_reducible refine Kept.drewN _ ?_ | refine Kept.setCell ?_ (Nat.le_refl _) _))⟩

theorem DS.ok.start {S : DS} (h : S.ok) : S.start.ok := ⟨h.pos, h.most, h.st, h.el, h.q, fun _ _ _ h => by cases h⟩
set_option maxHeartbeats 400000 in
theorem start_any (d : Nat) (S : DS) (R : HProp) (w : World) (h : Sat w (diskP d S * R)) :
    Calls Tryz.prog 24 #[.pointer (some ⟨d, 0, none⟩)] w fun e w' => e = .returned (.tuple #[]) ∧ Ext w w' ∧ Sat w' (diskP d S.start * R) := by
  obtain ⟨hok, bs, be, qv, av, hs⟩ := h.disk
  have HS := Lib.hid hs
  obtain ⟨c0, c1, c2, c3, c4, hd⟩ := hs.core
  have f3 := hs.free 3
  have f4 := hs.free 4
  have HO := Lib.hid hok
  clear hs h hok
  go_enter Tryz.func24, Tryz.ntmps24
  go_wp2
  go_end0
  refine ⟨rfl, (by repeat (first | with_reducible assumption | with_reducible exact Ext.refl _ | with_reducible refine Ext.alloc ?_ _ | with_reducible refine Ext.drew ?_ | with_reducible refine Ext.drewN _ ?_ | with_reducible refine Ext.setCell ?_ _ _)), Sat.mkDisk HO.out.start (bs := bs) (be := be) (qv := qv) (av := .pointer none) ?_⟩
  have h2 := ((HS.out.setCell (i := 3) (.bool false)).setCell (i := 4) (.pointer none)).noArm
  rw [core_set3, core_set4] at h2
  exact h2

set_option maxHeartbeats 400000 in
theorem start_nil (w : World) : Calls Tryz.prog 24 #[.pointer none] w fun e w' => e = .returned (.tuple #[]) ∧ Kept w w' := by
  go_enter Tryz.func24, Tryz.ntmps24
  go_wp2
  go_end0
  exact ⟨rfl, Kept.refl _⟩

set_option maxHeartbeats 400000 in
theorem arm_nil (a b c : Int) (w : World) : Calls Tryz.prog 28 #[.pointer none, .int .i64 a, .int .i64 b, .int .i64 c] w fun e w' => e = .returned (.tuple #[]) ∧ Kept w w' := by
  go_enter Tryz.func28, Tryz.ntmps28
  go_wp2
  exact bodyPost_ret (results_none rfl _ _ _) rfl ⟨rfl, Kept.refl _⟩

theorem DS.ok.armed {S : DS} (h : S.ok) {a : Int} (ha : a ≤ 9223372036854775807) (b c : Int) : (S.armed a b c).ok := by
  unfold DS.armed
  split
  · exact h
  · split
    · exact ⟨h.pos, h.most, h.st, h.el, h.q, fun _ _ _ e => by simp at e; omega⟩
    · exact ⟨h.pos, h.most, h.st, h.el, h.q, fun _ _ _ e => by cases e⟩
set_option maxHeartbeats 800000 in
theorem arm_any (d : Nat) (S : DS) (a b c : Int) (ha : a ≤ 9223372036854775807) (R : HProp) (w : World) (h : Sat w (diskP d S * R)) :
    Calls Tryz.prog 28 #[.pointer (some ⟨d, 0, none⟩), .int .i64 a, .int .i64 b, .int .i64 c] w fun e w' => e = .returned (.tuple #[]) ∧ Ext w w' ∧ Sat w' (diskP d (S.armed a b c) * R) := by
  obtain ⟨hok, bs, be, qv, av, hs⟩ := h.disk
  have HK := Lib.hid (hok.armed ha b c)
  have HH := Lib.hid h
  have HS := Lib.hid hs
  obtain ⟨c0, c1, c2, c3, c4, hd⟩ := hs.core
  have f4 := hs.free 4
  clear hs h hok ha
  cases ho : S.off
  · rw [ho] at c3
    by_cases hpos : 0 ≤ a
    · have E : Hid (S.armed a b c = { S with arm := some (a, b, c) }) := Lib.hid (by simp [DS.armed, ho, hpos])
      have HO := Lib.hid ho
      clear ho
      go_enter Tryz.func28, Tryz.ntmps28
      go_wp2
      go_end0
      refine ⟨rfl, (by repeat (first | with_reducible assumption | with_reducible exact Ext.refl _ | with_reducible refine Ext.alloc ?_ _ | with_reducible refine Ext.drew ?_ | with_reducible refine Ext.drewN _ ?_ | with_reducible refine Ext.setCell ?_ _ _)), ?_⟩
      have h2 := (((HS.out.setCell (i := 4) (.pointer none)).setCell (i := 4) (.pointer (some ⟨w.heap.size, 0, none⟩))).allocNew (.cells #[.int .i64 a, .int .i64 b, .int .i64 c] 86))
      rw [core_set4, core_set4] at h2
      have hk := HK.out
      rw [E.out] at hk ⊢
      refine Sat.mkDisk (bs := bs) (be := be) (qv := qv) (av := .pointer (some ⟨w.heap.size, 0, none⟩)) hk ?_
      have e : ((w.setCell ⟨d, 4, none⟩ (.pointer none)).setCell ⟨d, 4, none⟩ (.pointer (some ⟨w.heap.size, 0, none⟩))).heap.size = w.heap.size := by simp [World.setCell]
      rw [e] at h2
      exact h2.newArm
    · have E : Hid (S.armed a b c = { S with arm := none }) := Lib.hid (by simp [DS.armed, ho, hpos])
      have HO := Lib.hid ho
      clear ho
      go_enter Tryz.func28, Tryz.ntmps28
      go_wp2
      go_end0
      have h2 := (HS.out.setCell (i := 4) (.pointer none)).noArm
      rw [core_set4] at h2
      refine ⟨rfl, (by repeat (first | with_reducible assumption | with_reducible exact Ext.refl _ | with_reducible refine Ext.alloc ?_ _ | with_reducible refine Ext.drew ?_ | with_reducible refine Ext.drewN _ ?_ | with_reducible refine Ext.setCell ?_ _ _)), ?_⟩
      have hk := HK.out
      rw [E.out] at hk ⊢
      exact Sat.mkDisk hk h2
  · rw [ho] at c3
    have E : Hid (S.armed a b c = S) := Lib.hid (by simp [DS.armed, ho])
    clear ho
    go_enter Tryz.func28, Tryz.ntmps28
    go_wp2
    refine bodyPost_ret (results_none rfl _ _ _) rfl ⟨rfl, Ext.refl _, ?_⟩
    rw [E.out]; exact HH.out
end Go.Proofs.YtmemhoiepnlhfaaGreatDoor
