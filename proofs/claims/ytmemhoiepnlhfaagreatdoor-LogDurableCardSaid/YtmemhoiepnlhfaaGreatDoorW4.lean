/-
  The disk's method Fail, walked. Its condition: the receiver is a disk in memory, or nil where said.
-/
import Derived.Test.YtmemhoiepnlhfaaGreatDoorW3
namespace Go.Proofs.YtmemhoiepnlhfaaGreatDoor
open Go.RowKit
set_option maxRecDepth 100000

theorem Sat.rowForm {w : World} {e : TypeId} {size : Nat} {v : Value} {n : Nat} {xs : List Value} {R : HProp} (h : Sat w (rowP e size v n xs * R)) :
    ∃ ao cap, v = .slice ao n cap ∧ n ≤ cap ∧ cap ≤ maxLen ∧ ∀ m, m ≤ n → headOf v n ao m := by
  obtain ⟨_, ⟨rfl, rfl, _⟩ | ⟨g, cap, cur, rfl, h1, h2, _⟩⟩ := h.row
  · exact ⟨none, 0, rfl, Nat.le_refl _, Nat.zero_le _, fun m hm => ⟨hm, fun h => by omega⟩⟩
  · exact ⟨some ⟨g, 0, none⟩, cap, rfl, h1, h2, fun m hm => ⟨hm, fun _ => ⟨g, cap, rfl, rfl⟩⟩⟩
theorem slice_head (ao : Option Addr) (n cap x : Nat) (h1 : x ≤ cap) (w : World) :
    (Instr.slice 55 (.slice ao n cap) none (some (.int .i64 (x : Int))) none).run Tryz.prog w = .ok (.slice ao x cap) w := by
  rw [run_slice_h (P := Tryz.prog) (w := w) 55 ao n cap (by kernel_rfl) .i64 _ (by omega) (by omega)]
  have hs : (sizeOf (Tryz.prog.elem 55)).run Tryz.prog w = .ok 3 w := by kernel_rfl
  rw [hs]
  simp only [Result.andThen_ok, sliced, Int.toNat_natCast, Nat.sub_zero, Nat.zero_mul]
  congr 2
  split
  · rfl
  · cases ao <;> simp [Addr.add]

set_option maxRecDepth 100000 in
set_option maxHeartbeats 400000 in
theorem fail_nil (a b : Int) (w : World) : Calls Tryz.prog 23 #[.pointer none, .int .i64 a, .int .i64 b] w fun e w' => e = .returned (.tuple #[]) ∧ Kept w w' := by
  go_enter Tryz.func23, Tryz.ntmps23
  go_wp2_with fail
  exact bodyPost_ret (results_none rfl _ _ _) rfl ⟨rfl, Kept.refl _⟩

/-- The three stores at the end of Fail. -/
theorem Sat.deadIn {w : World} {d : Nat} {S : DS} {bs be : Nat} {qv av : Value} {R : HProp} (h : Sat w (diskIn d S bs be qv av R)) :
    Sat (((w.setCell ⟨d, 2, none⟩ (.slice none 0 0)).setCell ⟨d, 3, none⟩ (.bool true)).setCell ⟨d, 4, none⟩ (.pointer none)) (diskIn d S.dead bs be (.slice none 0 0) (.pointer none) R) := by
  unfold diskIn at h
  have h2 := (((h.setCell (i := 2) (.slice none 0 0)).setCell (i := 3) (.bool true)).setCell (i := 4) (.pointer none)).noArm
  rw [core_set2, core_set3, core_set4] at h2
  exact h2.noQueue
theorem Sat.in_core {w : World} {d : Nat} {S : DS} {bs be : Nat} {qv av : Value} {R : HProp} (h : Sat w (diskIn d S bs be qv av R)) :
    w.cell? ⟨d, 2, none⟩ = some qv ∧ w.cell? ⟨d, 3, none⟩ = some (.bool S.off) ∧ w.cell? ⟨d, 4, none⟩ = some av ∧ w.frozen? ⟨d, 2, none⟩ = false ∧ w.frozen? ⟨d, 3, none⟩ = false ∧ w.frozen? ⟨d, 4, none⟩ = false ∧ d < w.heap.size :=
  ⟨h.core.2.2.1, h.core.2.2.2.1, h.core.2.2.2.2.1, h.free 2, h.free 3, h.free 4, h.lt⟩
/-- A pending write's cells. -/
theorem Sat.qCell {w : World} {d : Nat} {S : DS} {bs be : Nat} {av : Value} {R : HProp} {g cap : Nat} (h : Sat w (diskIn d S bs be (.slice (some ⟨g, 0, none⟩) S.q.length cap) av R)) {k : Nat} {p : Nat × ByteArray} (hp : S.q[k]? = some p) :
    w.cell? ⟨g, k * 3, none⟩ = some (.int .i64 ((p.1 : Int) * 64)) ∧ w.cell? ⟨g, k * 3 + 1, none⟩ = some (.int .i64 (((p.1 : Int) + 1) * 64)) ∧ w.cell? ⟨g, k * 3 + 2, none⟩ = some (.string p.2) := by
  have h2 : Sat w (rowP 64 3 (.slice (some ⟨g, 0, none⟩) S.q.length cap) S.q.length (qCells S.q) * _) := h.right.right.right
  have key : ∀ j x, (Proofs.YtmemhoiepnlhfaaGreatDoor.qCell p)[j]? = some x → w.cell? ⟨g, k * 3 + j, none⟩ = some x := by
    intro j x hx
    have hj : j < 3 := by have := (List.getElem?_eq_some_iff.1 hx).1; simpa [Proofs.YtmemhoiepnlhfaaGreatDoor.qCell] using this
    refine h2.rowCell ?_
    rw [show k * 3 + j = 3 * k + j by omega, qCells_get S.q k j p hp hj]; exact hx
  exact ⟨key 0 _ rfl, key 1 _ rfl, key 2 _ rfl⟩
theorem fail_eq (S : DS) (x b : Int) (m : Nat) (hoff : S.off = false) (hm : m = cut x S.q.length) : S.fail x b = ((S.settle (S.q.take m)).torn S.q[m]? b).dead := by
  simp [DS.fail, hoff, hm]

set_option maxRecDepth 100000 in
set_option maxHeartbeats 800000 in
theorem fail_on (d : Nat) (S : DS) (x b : Int) (bs be : Nat) (qv av : Value) (hoff : S.off = false) (hq : S.q.length ≤ 1000000) (R : HProp) (w : World) (hok : S.ok) (hs : Sat w (diskIn d S bs be qv av R)) :
    Calls Tryz.prog 23 #[.pointer (some ⟨d, 0, none⟩), .int .i64 x, .int .i64 b] w fun e w' => e = .returned (.tuple #[]) ∧ Ext w w' ∧ Sat w' (diskIn d (S.fail x b) bs be (.slice none 0 0) (.pointer none) R) := by
  have HS := Lib.hid hs
  have HO := Lib.hid hok
  obtain ⟨ao, cap, rfl, hcap, hmax, hhead⟩ := (show Sat w (rowP 64 3 qv S.q.length (qCells S.q) * _) from hs.right.right.right).rowForm
  obtain ⟨c0, c1, c2, c3, c4, hd⟩ := hs.core
  rw [hoff] at c3
  have HH := Lib.hid hhead
  have HF := Lib.hid hoff
  clear hs hok hhead hoff
  unfold maxLen at hmax
  obtain ⟨mx, hmx, hmx'⟩ : ∃ mx : Nat, (if x < 0 then 0 else x) = (mx : Int) ∧ mx = x.toNat := ⟨x.toNat, by split <;> omega, rfl⟩
  obtain ⟨m, hmn, hm', hmc⟩ : ∃ m : Nat, (if S.q.length < mx then (S.q.length : Int) else (mx : Int)) = (m : Int) ∧ m ≤ S.q.length ∧ m = cut x S.q.length :=
    ⟨cut x S.q.length, by unfold cut; split <;> omega, by unfold cut; omega, rfl⟩
  have hsl := fun wx => slice_head ao S.q.length cap m (by omega) wx
  have HM := Lib.hid hmc
  clear hmc hmx'
  go_enter Tryz.func23, Tryz.ntmps23
  go_wp2_with fail
  refine (settle_in d S bs be _ av ao m cap (HH.out m hm') hq R _ HO.out HS.out).mono ?_
  rintro e w2 ⟨rfl, hx2, hs2⟩
  rw [← (settle_n S (S.q.take m)).2.1] at hs2
  have hs2' := hs2
  rw [(settle_n S (S.q.take m)).2.1] at hs2
  obtain ⟨e2, e3, e4, f2, f3, f4, hd2⟩ := hs2.in_core
  have HR2 := Lib.hid (And.intro hx2 hs2)
  clear hx2 hs2 c0 c1 c2 c3 c4 hs2'
  by_cases hlt : m < S.q.length
  · obtain ⟨p, hp⟩ : ∃ p, S.q[m]? = some p := ⟨_, List.getElem?_eq_getElem hlt⟩
    obtain ⟨g, cap', rfl, hqv⟩ := (HH.out S.q.length (Nat.le_refl _)).2 (by omega)
    clear hqv cap'
    have hp' : (S.settle (S.q.take m)).q[m]? = some p := by rw [(settle_n S _).2.1]; exact hp
    obtain ⟨g0, g1, g2⟩ := Sat.qCell (S := S.settle (S.q.take m)) (show Sat w2 (diskIn d _ bs be (.slice (some ⟨g, 0, none⟩) (S.settle (S.q.take m)).q.length cap) av R) by rw [(settle_n S _).2.1]; exact HR2.out.2) hp'
    have hpok := HO.out.q p (List.mem_of_getElem? hp)
    have hg : g < w2.heap.size := World.block_lt_of_cell? w2 _ g0
    have HP := Lib.hid hp
    have HPO := Lib.hid hpok
    have hsz : 64 ≤ p.2.size := by have := hpok.2; omega
    clear hp hp' hpok
    by_cases hb0 : 0 < b
    · obtain ⟨k, hbk, hk', hk0, hkc⟩ : ∃ k : Nat, (if (64 : Int) < b then (64 : Int) else b) = (k : Int) ∧ k ≤ 64 ∧ 0 < k ∧ k = cut b 64 :=
        ⟨cut b 64, by unfold cut; split <;> omega, by unfold cut; omega, by unfold cut; omega, rfl⟩
      have HK := Lib.hid hkc
      clear hkc
      have hks : k ≤ p.2.size := by omega
      go_wp2_with fail
      (refine wp_region_still_tail 7 (by kernel_rfl) (by kernel_rfl) ?_; simp only [List.take_succ_cons, List.take_zero, List.drop_succ_cons, List.drop_zero]; change wpStill _ _ (World.drew _) _ _ _; (repeat (refine wpStill_step (fun K hK => ?_); go_simp; refine hK _ ?_; clear hK K)); refine wpStill_nil ?_; change wpList _ _ _ _ _ (World.drew _))
      go_wp2_with fail
      have hs3 := (HR2.out.2.alloc (.cells #[.int .i64 ((p.1 : Int) * 64), .int .i64 (((p.1 : Int) + 1) * 64), .string p.2] 64)).drew
      have hx3 := (HR2.out.1.alloc (.cells #[.int .i64 ((p.1 : Int) * 64), .int .i64 (((p.1 : Int) + 1) * 64), .string p.2] 64)).drew
      have hok3 := HO.out.settle (S.q.take m) (fun x hx => HO.out.q x (List.mem_of_mem_take hx))
      refine (set_in d (S.settle (S.q.take m)) p.1 (p.2.extract 0 k) bs be _ av (by rw [(settle_n S _).1]; exact HPO.out.1) (by simp; omega) R _ hok3 hs3).mono ?_
      rintro e w4 ⟨rfl, hx4, hs4⟩
      have hx5 := hx3.trans hx4
      obtain ⟨e2', e3', e4', f2', f3', f4', hd4⟩ := hs4.in_core
      have HR4 := Lib.hid (And.intro hx5 hs4)
      clear hs3 hx3 hok3 hx4 hs4 hx5
      have E : Hid (S.fail x b = ((S.settle (S.q.take m)).set p.1 (p.2.extract 0 k).data.toList).dead) := Lib.hid (by
        rw [fail_eq S x b m HF.out HM.out, HP.out, show DS.torn _ (some p) b = _ from if_pos (HK.out ▸ hk0), ← HK.out, Lib.extract_data, List.drop_zero, Nat.sub_zero])
      go_wp2_with fail
      go_end0
      refine ⟨rfl, ?_, ?_⟩
      · have hx := HR4.out.1
        exact (by repeat (first | with_reducible assumption | with_reducible exact Ext.refl _ | with_reducible refine Ext.alloc ?_ _ | with_reducible refine Ext.drew ?_ | with_reducible refine Ext.drewN _ ?_ | with_reducible refine Ext.setCell ?_ _ _))
      · rw [E.out]; exact HR4.out.2.deadIn
    · have hbz : (if b < 0 then 0 else b) = 0 := by split <;> omega
      have E : Hid (S.fail x b = (S.settle (S.q.take m)).dead) := Lib.hid (by rw [fail_eq S x b m HF.out HM.out, HP.out]; rw [show DS.torn _ (some p) b = _ from if_neg (by unfold cut; omega)])
      clear hb0
      go_wp2_with fail
      go_end0
      refine ⟨rfl, ?_, ?_⟩
      · have hx := HR2.out.1
        exact (by repeat (first | with_reducible assumption | with_reducible exact Ext.refl _ | with_reducible refine Ext.alloc ?_ _ | with_reducible refine Ext.drew ?_ | with_reducible refine Ext.drewN _ ?_ | with_reducible refine Ext.setCell ?_ _ _))
      · rw [E.out]; exact HR2.out.2.deadIn.alloc _
  · have E : Hid (S.fail x b = (S.settle (S.q.take m)).dead) := Lib.hid (by rw [fail_eq S x b m HF.out HM.out, List.getElem?_eq_none (by omega)]; rfl)
    go_wp2_with fail
    go_end0
    refine ⟨rfl, ?_, ?_⟩
    · have hx := HR2.out.1
      exact (by repeat (first | with_reducible assumption | with_reducible exact Ext.refl _ | with_reducible refine Ext.alloc ?_ _ | with_reducible refine Ext.drew ?_ | with_reducible refine Ext.drewN _ ?_ | with_reducible refine Ext.setCell ?_ _ _))
    · rw [E.out]; exact HR2.out.2.deadIn
end Go.Proofs.YtmemhoiepnlhfaaGreatDoor
