/-
  The disk's method Read, walked. Its condition: the receiver is a disk in memory; few pending writes.
-/
import Derived.Test.YtmemhoiepnlhfaaGreatDoorW6
namespace Go.Proofs.YtmemhoiepnlhfaaGreatDoor
open Go.RowKit
set_option maxRecDepth 100000

theorem lastOf_nil (i : Nat) : lastOf [] i = none := rfl
theorem lastOf_snoc (q : List (Nat × ByteArray)) (p : Nat × ByteArray) (i : Nat) : lastOf (q ++ [p]) i = if p.1 = i then some p.2 else lastOf q i := by
  unfold lastOf
  rw [List.reverse_append, List.reverse_singleton, List.singleton_append, List.find?_cons]
  by_cases h : p.1 = i
  · simp [h]
  · have : (p.1 == i) = false := by simp [h]
    simp [h, this]
theorem Sat.bytes {w : World} {b : Nat} {L : List UInt8} {R : HProp} (h : Sat w (pts b (.cells (u8s L).toArray 5) * R)) (n i : Nat) (hL : L.length = 64 * n) (hi : i < n) (c : Nat) :
    (convert 54 9 (.slice (some ⟨b, 64 * i, none⟩) 64 c)).run Tryz.prog w = .ok (.string ⟨(sec L i).toArray⟩) w := by
  have := run_convert_bytes_back (P := Tryz.prog) w 54 9 5 ⟨b, 64 * i, none⟩ c (sec L i) (by kernel_rfl) (by kernel_rfl) (by kernel_rfl) (fun j hj => by
    have hj' : j < 64 := by rw [sec_len hL hi] at hj; exact hj
    rw [Addr.add_lit, h.cell]
    have h1 : (sec L i)[j]? = some (sec L i)[j] := List.getElem?_eq_getElem hj
    rw [sec_get _ _ _ hj'] at h1
    rw [List.getElem?_toArray, u8s_get, h1]; rfl)
  rw [sec_len hL hi] at this
  exact this

set_option maxRecDepth 100000 in
set_option maxHeartbeats 1600000 in
theorem read_on (d : Nat) (S : DS) (i : Nat) (hoff : S.off = false) (hi : i < S.n) (hq : S.q.length ≤ 1000000) (R : HProp) (w : World) (h : Sat w (diskP d S * R)) :
    Calls Tryz.prog 21 #[.pointer (some ⟨d, 0, none⟩), .int .i64 (i : Int)] w fun e w' =>
      e = .returned (.tuple #[.string (S.secNow i), .int .i64 0]) ∧ Kept w w' := by
  obtain ⟨hok, bs, be, qv, av, hs⟩ := h.disk
  have HO := Lib.hid hok
  obtain ⟨c0, c1, c2, c3, c4, hd⟩ := hs.core
  rw [hoff] at c3
  have HS := Lib.hid hs
  have hn := hok.most
  obtain ⟨ao, cap, rfl, hcap, hmax, hhead⟩ := (show Sat w (rowP 64 3 qv S.q.length (qCells S.q) * _) from hs.right.right.right).rowForm
  have HH := Lib.hid (hhead _ (Nat.le_refl _))
  clear h hok hoff hs hhead hmax
  go_enter Tryz.func21, Tryz.ntmps21
  go_wp2_with fail
  refine (at_yes d i S.n bs _ c0 c3 hd hi hn).mono ?_
  rintro e w1 ⟨rfl, hk⟩
  unfold spotV
  have hd1 := (HS.out.kept hk).in_core.2.2.2.2.2.2
  have d2 := hk.cell c2
  have hs1 := ((HS.out.kept hk).allocNew (.cells #[.int .i64 ((i : Int) * 64), .int .i64 (((i : Int) + 1) * 64)] 60))
  have hk1 := hk.alloc (.cells #[.int .i64 ((i : Int) * 64), .int .i64 (((i : Int) + 1) * 64)] 60)
  have HK := Lib.hid (And.intro hk1 hs1)
  clear hk c0 c1 c2 c3 c4 hd hs1 hk1
  go_wp2_with fail
  generalize w1.heap.size = B at *
  generalize w1.alloc _ = W1 at *
  go_loopw [8] (fun x wr => ∃ j : Nat, j ≤ S.q.length ∧ x = .int .i64 ((j : Int) - 1) ∧ Hid (lastOf (S.q.take j) i = lastOf S.q i) ∧ Hid (Kept W1 wr)) (fun x _ => (intOf x + 1).toNat)
  case atStart => exact ⟨S.q.length, Nat.le_refl _, rfl, by rw [List.take_of_length_le (Nat.le_refl _)]; rfl, Kept.refl _⟩
  case round =>
    obtain ⟨j, hj, rfl, HL, HW⟩ := hrel
    have hsr := HK.out.2.kept HW.out
    have b0 : wr.cell? ⟨B, 0, none⟩ = some (.int .i64 ((i : Int) * 64)) := (hsr.cell (i := 0)).trans rfl
    have b1 : wr.cell? ⟨B, 1, none⟩ = some (.int .i64 (((i : Int) + 1) * 64)) := (hsr.cell (i := 1)).trans rfl
    have e2 := hsr.right.in_core.1
    have e0 := hsr.right.core.1
    have HSR := Lib.hid hsr
    clear hsr d2
    cases j with
    | zero =>
      have hcv := fun c => HSR.out.right.drew.cast (by unfold diskIn; ac_rfl : _ = pts bs (.cells (u8s S.st).toArray 5) * (pts d (.cells (coreCells S.n bs be (.slice ao S.q.length cap) S.off av) 58) * (pts be (.cells (u8s S.el).toArray 5) * (rowP 64 3 (.slice ao S.q.length cap) S.q.length (qCells S.q) * (armP av S.arm * R))))) |>.bytes S.n i HO.out.st hi c
      have hsl := fun b wx => slice_sec b S.n i hi wx
      have E : Hid (S.secNow i = ⟨(sec S.st i).toArray⟩) := Lib.hid (by unfold DS.secNow; rw [← HL.out]; rfl)
      go_wp2_with fail
      (refine wp_region_still_tail 11 (by kernel_rfl) (by kernel_rfl) ?_; simp only [List.take_succ_cons, List.take_zero, List.drop_succ_cons, List.drop_zero]; change wpStill _ _ (World.drew _) _ _ _; (repeat (refine wpStill_step (fun K hK => ?_); go_simp; refine hK _ ?_; clear hK K)); refine wpStill_nil ?_; change wpList _ _ _ _ _ (World.drew _))
      go_wp2_with fail
      go_ret2
      rw [E.out]
      exact ⟨rfl, HK.out.1.trans HW.out.drew⟩
    | succ m =>
      rw [show ((m + 1 : Nat) : Int) - 1 = (m : Int) by omega]
      obtain ⟨g, cap', rfl, hqv⟩ := HH.out.2 (by omega)
      clear hqv cap'
      obtain ⟨p, hp⟩ : ∃ p, S.q[m]? = some p := ⟨_, List.getElem?_eq_getElem (by omega)⟩
      obtain ⟨g0, g1, g2⟩ := Sat.qCell HSR.out.right hp
      have hml : m < S.q.length := by omega
      have HP := Lib.hid hp
      clear hp
      by_cases hpi : p.1 = i
      · have ht : ((p.1 : Int) * 64 == (i : Int) * 64) = true := by simp [hpi]
        have E : Hid (S.secNow i = p.2) := Lib.hid (by
          unfold DS.secNow; rw [← HL.out, List.take_add_one, HP.out, Option.toList_some, lastOf_snoc, if_pos hpi]; rfl)
        clear hpi
        go_wp2_with fail
        (refine wp_region_still_tail 11 (by kernel_rfl) (by kernel_rfl) ?_; simp only [List.take_succ_cons, List.take_zero, List.drop_succ_cons, List.drop_zero]; change wpStill _ _ (World.drew _) _ _ _; (repeat (refine wpStill_step (fun K hK => ?_); go_simp; refine hK _ ?_; clear hK K)); refine wpStill_nil ?_; change wpList _ _ _ _ _ (World.drew _))
        go_wp2_with fail
        go_ret2
        rw [E.out]
        exact ⟨rfl, HK.out.1.trans HW.out.drew⟩
      · have ht : ((p.1 : Int) * 64 == (i : Int) * 64) = false := by simp; omega
        have HPI := Lib.hid hpi
        clear hpi
        go_wp2_with fail
        (refine wp_region_still_tail 11 (by kernel_rfl) (by kernel_rfl) ?_; simp only [List.take_succ_cons, List.take_zero, List.drop_succ_cons, List.drop_zero]; change wpStill _ _ (World.drew _) _ _ _; (repeat (refine wpStill_step (fun K hK => ?_); go_simp; refine hK _ ?_; clear hK K)); refine wpStill_nil ?_; change wpList _ _ _ _ _ (World.drew _))
        go_wp2_with fail
        refine ⟨⟨m, by omega, rfl, ?_, HW.out.drew⟩, by simp [intOf]⟩
        have h1 := HL.out
        rw [List.take_add_one, HP.out, Option.toList_some, lastOf_snoc, if_neg HPI.out] at h1
        exact h1

set_option maxRecDepth 100000 in
set_option maxHeartbeats 800000 in
theorem read_any (d : Nat) (S : DS) (s : Int) (hq : S.q.length ≤ 1000000) (R : HProp) (w : World) (h : Sat w (diskP d S * R)) :
    Calls Tryz.prog 21 #[.pointer (some ⟨d, 0, none⟩), .int .i64 s] w fun e w' =>
      e = .returned (.tuple #[.string (S.read s).1, .int .i64 (S.read s).2]) ∧ Kept w w' := by
  obtain ⟨hok, bs, be, qv, av, hs⟩ := h.disk
  obtain ⟨c0, c1, c2, c3, c4, hd⟩ := hs.core
  have HH := Lib.hid h
  have hn := hok.most
  cases hoff : S.off with
  | true =>
    rw [hoff] at c3
    have E : Hid (S.read s = (⟨#[]⟩, 19)) := Lib.hid (by simp [DS.read, hoff])
    clear hs h hok hoff
    go_enter Tryz.func21, Tryz.ntmps21
    go_wp2_with fail
    refine (at_off d s _ c3 hd).mono ?_
    rintro e w1 ⟨rfl, hk⟩
    unfold noSpot
    go_wp2_with fail
    go_ret2
    rw [E.out]
    exact ⟨rfl, hk.alloc _⟩
  | false =>
    cases hv : S.valid s with
    | false =>
      rw [hoff] at c3
      have E : Hid (S.read s = (⟨#[]⟩, 1)) := Lib.hid (by simp [DS.read, hoff, hv])
      have HI := Lib.hid (valid_no S s hv)
      clear hs h hok hoff hv
      go_enter Tryz.func21, Tryz.ntmps21
      go_wp2_with fail
      refine (at_no d s S.n bs _ c0 c3 hd HI.out hn).mono ?_
      rintro e w1 ⟨rfl, hk⟩
      unfold noSpot
      go_wp2_with fail
      go_ret2
      rw [E.out]
      exact ⟨rfl, hk.alloc _⟩
    | true =>
      obtain ⟨h1, h2⟩ := (valid_iff S s).1 hv
      obtain ⟨i, rfl⟩ := Int.eq_ofNat_of_zero_le h1
      have E : S.read (i : Int) = (S.secNow i, 0) := by simp [DS.read, hoff, hv]
      rw [E]
      exact read_on d S i hoff (by omega) hq R w h
end Go.Proofs.YtmemhoiepnlhfaaGreatDoor
