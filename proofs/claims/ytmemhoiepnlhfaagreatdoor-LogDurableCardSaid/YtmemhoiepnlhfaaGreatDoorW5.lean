/-
  The disk's methods count, Write and Sync, walked. Their condition: the receiver is a disk in memory, or nil where said; few pending writes.
-/
import Derived.Test.YtmemhoiepnlhfaaGreatDoorW4
namespace Go.Proofs.YtmemhoiepnlhfaaGreatDoor
open Go.RowKit
set_option maxRecDepth 100000

theorem DS.ok.dead {S : DS} (h : S.ok) : S.dead.ok := ⟨h.pos, h.most, h.st, h.el, fun _ hp => by simp [DS.dead] at hp, fun _ _ _ e => by cases e⟩
theorem DS.ok.torn {S : DS} (h : S.ok) (p : Option (Nat × ByteArray)) (b : Int) (hp : ∀ x, p = some x → x.1 < S.n ∧ x.2.size = 64) : (S.torn p b).ok := by
  unfold DS.torn
  cases p with
  | none => exact h
  | some x =>
    have := hp x rfl
    simp only
    split
    · exact h.set _ _ this.1 (by simp [cut]; omega)
    · exact h
theorem DS.ok.fail {S : DS} (h : S.ok) (x b : Int) : (S.fail x b).ok := by
  unfold DS.fail
  split
  · exact h
  · refine DS.ok.dead (DS.ok.torn (h.settle _ fun p hp => h.q p (List.mem_of_mem_take hp)) _ _ fun p hp => ?_)
    rw [(settle_n S _).1]; exact h.q p (List.mem_of_getElem? hp)
theorem DS.ok.count {S : DS} (h : S.ok) : S.count.2.ok := by
  unfold DS.count
  split
  · exact h
  · rename_i a w b ha
    split
    · refine ⟨h.pos, h.most, h.st, h.el, h.q, fun a' w' b' e => ?_⟩
      have := h.arm a w b ha
      simp at e; omega
    · exact h.fail _ _
theorem Sat.of_in {w : World} {d : Nat} {S : DS} {bs be : Nat} {qv av : Value} {R : HProp} (hok : S.ok) (h : Sat w (diskIn d S bs be qv av R)) : Sat w (diskP d S * R) := Sat.mkDisk hok h

set_option maxRecDepth 100000 in
set_option maxHeartbeats 800000 in
theorem count_any (d : Nat) (S : DS) (hoff : S.off = false) (hq : S.q.length ≤ 1000000) (R : HProp) (w : World) (h : Sat w (diskP d S * R)) :
    Calls Tryz.prog 31 #[.pointer (some ⟨d, 0, none⟩)] w fun e w' => e = .returned (.int .i64 S.count.1) ∧ Ext w w' ∧ Sat w' (diskP d S.count.2 * R) := by
  obtain ⟨hok, bs, be, qv, av, hs⟩ := h.disk
  have HC := Lib.hid hok.count
  obtain ⟨e2, e3, e4, f2, f3, f4, hd⟩ := hs.in_core
  have HF := Lib.hid hoff
  have HH := Lib.hid h
  have HO := Lib.hid hok
  cases ha : S.arm with
  | none =>
    have hav : av = .pointer none := by
      have h1 := hs.right.right.right.right
      rw [ha] at h1
      exact h1.fact.1
    subst hav
    have E : Hid (S.count = (0, S)) := Lib.hid (by simp [DS.count, ha])
    clear hs h ha hok hoff
    go_enter Tryz.func31, Tryz.ntmps31
    go_wp2_with fail
    go_ret
    rw [E.out]
    exact ⟨rfl, Ext.refl _, HH.out⟩
  | some t =>
    obtain ⟨a, x, b⟩ := t
    have hab := hok.arm a x b ha
    have h1 : Sat w (armP av (some (a, x, b)) * (pts d (.cells (coreCells S.n bs be qv S.off av) 58) * (pts bs (.cells (u8s S.st).toArray 5) * (pts be (.cells (u8s S.el).toArray 5) *
      (rowP 64 3 qv S.q.length (qCells S.q) * R))))) := by
      rw [← ha]
      exact hs.cast (by unfold diskIn; ac_rfl)
    obtain ⟨g, rfl, h2⟩ := h1.armOpen
    have a0 : w.cell? ⟨g, 0, none⟩ = some (.int .i64 a) := by rw [h2.cell]; rfl
    have a1 : w.cell? ⟨g, 1, none⟩ = some (.int .i64 x) := by rw [h2.cell]; rfl
    have a2 : w.cell? ⟨g, 2, none⟩ = some (.int .i64 b) := by rw [h2.cell]; rfl
    have k0 := h2.free 0
    have H2 := Lib.hid h2
    have HS := Lib.hid hs
    by_cases hpos : 0 < a
    · have E : Hid (S.count = (0, { S with arm := some (a - 1, x, b) })) := Lib.hid (by simp [DS.count, ha, hpos])
      have hlo : a ≤ 9223372036854775807 := hab.2
      clear hs h ha hok hoff h1 h2 hab
      go_enter Tryz.func31, Tryz.ntmps31
      go_wp2_with fail
      go_ret
      have hc := HC.out
      rw [E.out] at hc ⊢
      refine ⟨rfl, (by repeat (first | with_reducible assumption | with_reducible exact Ext.refl _ | with_reducible refine Ext.alloc ?_ _ | with_reducible refine Ext.drew ?_ | with_reducible refine Ext.drewN _ ?_ | with_reducible refine Ext.setCell ?_ _ _)), ?_⟩
      refine Sat.mkDisk (bs := bs) (be := be) (qv := qv) (av := .pointer (some ⟨g, 0, none⟩)) hc ?_
      have h3 := (H2.out.setCell (i := 0) (.int .i64 (a - 1))).armClose (a := a - 1)
      exact h3.cast (by unfold diskIn; ac_rfl)
    · have E : Hid (S.count = (19, S.fail x b)) := Lib.hid (by simp [DS.count, ha, hpos])
      clear hs h ha hok hoff h1 h2 hab
      go_enter Tryz.func31, Tryz.ntmps31
      go_wp2_with fail
      (refine wp_region_still_tail 15 (by kernel_rfl) (by kernel_rfl) ?_; simp only [List.take_succ_cons, List.take_zero, List.drop_succ_cons, List.drop_zero]; change wpStill _ _ (World.drew _) _ _ _; (repeat (refine wpStill_step (fun K hK => ?_); go_simp; refine hK _ ?_; clear hK K)); refine wpStill_nil ?_; change wpList _ _ _ _ _ (World.drew _))
      go_wp2_with fail
      refine (fail_on d S x b bs be qv _ HF.out hq R _ HO.out HS.out.drew).mono ?_
      rintro e w2 ⟨rfl, hx2, hs2⟩
      have HR2 := Lib.hid (And.intro hx2 hs2)
      clear hx2 hs2
      go_wp2_with fail
      go_ret
      have hc := HC.out
      rw [E.out] at hc ⊢
      exact ⟨rfl, (Ext.refl _).drew.trans HR2.out.1, Sat.mkDisk hc HR2.out.2⟩
theorem count_cases (S : DS) : (S.count.1 = 0 ∧ S.count.2.q = S.q ∧ S.count.2.n = S.n ∧ S.count.2.off = S.off) ∨ S.count.1 = 19 := by
  unfold DS.count
  split
  · exact .inl ⟨rfl, rfl, rfl, rfl⟩
  · split
    · exact .inl ⟨rfl, rfl, rfl, rfl⟩
    · exact .inr rfl
theorem DS.ok.flush {S : DS} (h : S.ok) : S.flush.ok := by
  have := h.settle S.q h.q
  exact ⟨this.pos, this.most, this.st, this.el, fun _ hp => by simp [DS.flush] at hp, this.arm⟩
theorem DS.ok.sync {S : DS} (h : S.ok) : S.sync.2.ok := by
  unfold DS.sync
  split
  · exact h
  · split
    · exact h.count.flush
    · exact h.count

set_option maxRecDepth 100000 in
set_option maxHeartbeats 400000 in
theorem sync_nil (w : World) : Calls Tryz.prog 67 #[.pointer none] w fun e w' => e = .returned (.int .i64 1) ∧ Kept w w' := by
  go_enter Tryz.func67, Tryz.ntmps67
  go_wp2_with fail
  go_ret
  exact ⟨rfl, Kept.refl _⟩

set_option maxRecDepth 100000 in
set_option maxHeartbeats 800000 in
theorem sync_any (d : Nat) (S : DS) (hq : S.q.length ≤ 1000000) (R : HProp) (w : World) (h : Sat w (diskP d S * R)) :
    Calls Tryz.prog 67 #[.pointer (some ⟨d, 0, none⟩)] w fun e w' => e = .returned (.int .i64 S.sync.1) ∧ Ext w w' ∧ Sat w' (diskP d S.sync.2 * R) := by
  obtain ⟨hok, bs, be, qv, av, hs⟩ := h.disk
  obtain ⟨e2, e3, e4, f2, f3, f4, hd⟩ := hs.in_core
  have HH := Lib.hid h
  have HO := Lib.hid hok
  cases hoff : S.off with
  | true =>
    have E : Hid (S.sync = (19, S)) := Lib.hid (by simp [DS.sync, hoff])
    rw [hoff] at e3
    clear hs h hok hoff
    go_enter Tryz.func67, Tryz.ntmps67
    go_wp2_with fail
    go_ret
    rw [E.out]
    exact ⟨rfl, Ext.refl _, HH.out⟩
  | false =>
    rw [hoff] at e3
    have HF := Lib.hid hoff
    clear hs h hok hoff
    go_enter Tryz.func67, Tryz.ntmps67
    go_wp2_with fail
    refine (count_any d S HF.out hq R _ HH.out).mono ?_
    rintro e w2 ⟨rfl, hx2, hs2⟩
    rcases count_cases S with ⟨h0, h1, h2, h3⟩ | h0
    · have E : Hid (S.sync = (0, S.count.2.flush)) := Lib.hid (by simp [DS.sync, HF.out, h0])
      obtain ⟨hok2, bs2, be2, qv2, av2, hs3⟩ := hs2.disk
      obtain ⟨ao, cap, rfl, hcap, hmax, hhead⟩ := (show Sat w2 (rowP 64 3 qv2 S.count.2.q.length (qCells S.count.2.q) * _) from hs3.right.right.right).rowForm
      obtain ⟨e2', e3', e4', f2', f3', f4', hd2⟩ := hs3.in_core
      have HR2 := Lib.hid (And.intro hx2 (And.intro hok2 hs3))
      have HH2 := Lib.hid (hhead _ (Nat.le_refl _))
      have HQ := Lib.hid (show S.count.2.q.length ≤ 1000000 by rw [h1]; exact hq)
      clear hx2 hs2 hok2 hs3 hhead h1 h2 h3 hmax
      rw [h0]
      clear h0
      generalize S.count.2 = S2 at *
      go_wp2_with fail
      refine (settle_in d S2 bs2 be2 _ av2 ao S2.q.length cap HH2.out HQ.out R _ HR2.out.2.1 HR2.out.2.2).mono ?_
      rintro e w3 ⟨rfl, hx3, hs3⟩
      obtain ⟨-, -, -, f2'', -, -, hd3⟩ := hs3.in_core
      have e2'' := hs3.in_core.1
      have HR3 := Lib.hid (And.intro hx3 hs3)
      clear hx3 hs3
      go_wp2_with fail
      go_ret
      rw [E.out]
      refine ⟨rfl, ?_, ?_⟩
      · have hx := HR2.out.1.trans HR3.out.1
        exact (by repeat (first | with_reducible assumption | with_reducible exact Ext.refl _ | with_reducible refine Ext.alloc ?_ _ | with_reducible refine Ext.drew ?_ | with_reducible refine Ext.drewN _ ?_ | with_reducible refine Ext.setCell ?_ _ _))
      · have hs4 := HR3.out.2
        rw [List.take_of_length_le (Nat.le_refl _)] at hs4
        refine Sat.mkDisk (bs := bs2) (be := be2) (qv := .slice none 0 0) (av := av2) HR2.out.2.1.flush ?_
        have h5 := hs4.setCell (i := 2) (.slice none 0 0)
        rw [core_set2] at h5
        exact h5.noQueue
    · have E : Hid (S.sync = (19, S.count.2)) := Lib.hid (by simp [DS.sync, HF.out, h0]; rw [← h0])
      have HR2 := Lib.hid (And.intro hx2 hs2)
      clear hx2 hs2
      rw [h0]
      clear h0
      go_wp2_with fail
      go_ret
      rw [E.out]
      exact ⟨rfl, HR2.out⟩
end Go.Proofs.YtmemhoiepnlhfaaGreatDoor
