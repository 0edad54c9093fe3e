/-
  The disk's method settle, walked: a loop over pending writes. Its condition: the receiver is a disk in memory, the argument a head of its own queue.
-/
import Derived.Test.YtmemhoiepnlhfaaGreatDoorW2
namespace Go.Proofs.YtmemhoiepnlhfaaGreatDoor
open Go.RowKit

theorem settle_n (S : DS) (l : List (Nat × ByteArray)) : (S.settle l).n = S.n ∧ (S.settle l).q = S.q ∧ (S.settle l).off = S.off ∧ (S.settle l).arm = S.arm := by
  unfold DS.settle
  induction l generalizing S with
  | nil => exact ⟨rfl, rfl, rfl, rfl⟩
  | cons p l ih => exact ih (S.set p.1 p.2.data.toList)
theorem DS.ok.settle {S : DS} (h : S.ok) (l : List (Nat × ByteArray)) (hl : ∀ p ∈ l, p.1 < S.n ∧ p.2.size = 64) : (S.settle l).ok := by
  unfold DS.settle
  induction l generalizing S with
  | nil => exact h
  | cons p l ih =>
    have hp := hl p (by simp)
    exact ih (h.set p.1 p.2.data.toList hp.1 (by rw [← Lib.size_eq]; omega)) fun x hx => hl x (by simp [hx])
theorem settle_snoc (S : DS) (l : List (Nat × ByteArray)) (p : Nat × ByteArray) : S.settle (l ++ [p]) = (S.settle l).set p.1 p.2.data.toList := by
  simp [DS.settle, List.foldl_append]

/-- The value l is a head of the row that qv owns: m elements. -/
def headOf (qv : Value) (n : Nat) (ao : Option Addr) (m : Nat) : Prop := m ≤ n ∧ (0 < m → ∃ g cap, ao = some ⟨g, 0, none⟩ ∧ qv = .slice (some ⟨g, 0, none⟩) n cap)

set_option maxRecDepth 100000 in
set_option maxHeartbeats 800000 in
theorem settle_in (d : Nat) (S : DS) (bs be : Nat) (qv av : Value) (ao : Option Addr) (m c : Nat) (hv : headOf qv S.q.length ao m) (hq : S.q.length ≤ 1000000) (R : HProp) (w : World) (hok : S.ok) (hs : Sat w (diskIn d S bs be qv av R)) :
    Calls Tryz.prog 48 #[.pointer (some ⟨d, 0, none⟩), .slice ao m c] w fun e w' => e = .returned (.tuple #[]) ∧ Ext w w' ∧ Sat w' (diskIn d (S.settle (S.q.take m)) bs be qv av R) := by
  have HS := Lib.hid hs
  have HO := Lib.hid hok
  have HV := Lib.hid hv
  have hm : m ≤ 1000000 := by have := hv.1; omega
  clear hs hok hv
  go_enter Tryz.func48, Tryz.ntmps48
  go_wp2
  go_loopw [8] (fun i wr => ∃ k : Nat, k ≤ m ∧ i = .int .i64 k ∧ Hid (Ext w wr ∧ Sat wr (diskIn d (S.settle (S.q.take k)) bs be qv av R))) (fun i _ => m - (intOf i).toNat)
  case atStart => exact ⟨0, Nat.zero_le _, rfl, Ext.refl _, HS.out⟩
  case round =>
    obtain ⟨k, hk, rfl, HR⟩ := hrel
    by_cases hlt : k < m
    · obtain ⟨g, cap, rfl, hqv⟩ := HV.out.2 (by omega)
      obtain ⟨p, hp⟩ : ∃ p, S.q[k]? = some p := ⟨_, List.getElem?_eq_getElem (by have := HV.out.1; omega)⟩
      have hlt' : k < S.q.length := (List.getElem?_eq_some_iff.1 hp).1
      have hcell : ∀ j x, (qCell p)[j]? = some x → wr.cell? ⟨g, k * 3 + j, none⟩ = some x := by
        intro j x hx
        have hj : j < 3 := by have := (List.getElem?_eq_some_iff.1 hx).1; simpa [qCell] using this
        have h1 := HR.out.2
        unfold diskIn at h1
        rw [(settle_n S _).2.1, hqv] at h1
        have h2 : Sat wr (rowP 64 3 (.slice (some ⟨g, 0, none⟩) S.q.length cap) S.q.length (qCells S.q) * _) := (h1.right.right.right)
        refine h2.rowCell ?_
        rw [show k * 3 + j = 3 * k + j by omega, qCells_get S.q k j p hp hj]; exact hx
      have e0 : wr.cell? ⟨g, k * 3, none⟩ = some (.int .i64 ((p.1 : Int) * 64)) := hcell 0 _ rfl
      have e1 : wr.cell? ⟨g, k * 3 + 1, none⟩ = some (.int .i64 (((p.1 : Int) + 1) * 64)) := hcell 1 _ rfl
      have e2 : wr.cell? ⟨g, k * 3 + 2, none⟩ = some (.string p.2) := hcell 2 _ rfl
      have hok2 := HO.out.settle (S.q.take k) (fun x hx => HO.out.q x (List.mem_of_mem_take hx))
      have hp1 := HO.out.q p (List.mem_of_getElem? hp)
      have HP := Lib.hid hp
      have HQ := Lib.hid hqv
      have HK2 := Lib.hid hok2
      have HP1 := Lib.hid hp1
      clear hp hqv hcell hok2 hp1
      go_wp2_with fail
      refine (set_in d (S.settle (S.q.take k)) p.1 p.2 bs be qv av (by rw [(settle_n S _).1]; exact HP1.out.1) (by have := HP1.out.2; omega) R _ HK2.out (HR.out.2.alloc _)).mono ?_
      rintro e w2 ⟨rfl, hx2, hs2⟩
      have HR2 := Lib.hid (And.intro hx2 hs2)
      clear hx2 hs2
      go_wp2_with fail
      go_roundw
      case rel =>
        refine ⟨k + 1, by omega, by go_num, (HR.out.1.alloc _).trans HR2.out.1, ?_⟩
        have := HR2.out.2
        rw [← settle_snoc] at this
        rw [List.take_add_one, HP.out]; exact this
      case measure => simp [intOf]; omega
    · have hkm : k = m := by omega
      have HR2 := Lib.hid (show Ext w wr ∧ Sat wr (diskIn d (S.settle (S.q.take m)) bs be qv av R) from hkm ▸ HR.out)
      clear hkm
      go_wp2_with fail
      go_end0
      exact ⟨rfl, HR2.out⟩
end Go.Proofs.YtmemhoiepnlhfaaGreatDoor
