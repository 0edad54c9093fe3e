/-
  The disk's methods Rot and Stale, and New, walked. Their condition: the receiver is a disk in memory, or nil where said.
-/
import Derived.Test.YtmemhoiepnlhfaaGreatDoorW7
namespace Go.Proofs.YtmemhoiepnlhfaaGreatDoor
open Go.RowKit
set_option maxRecDepth 100000

theorem DS.ok.rot {S : DS} (h : S.ok) (s k m : Int) : (S.rot s k m).ok := by
  unfold DS.rot
  split
  · exact ⟨h.pos, h.most, by simp [h.st], h.el, h.q, h.arm⟩
  · exact h
theorem DS.ok.stale {S : DS} (h : S.ok) (s : Int) : (S.stale s).ok := by
  unfold DS.stale
  split
  · rename_i hv
    obtain ⟨h1, h2⟩ := (valid_iff S s).1 hv
    refine ⟨h.pos, h.most, ?_, h.el, h.q, h.arm⟩
    show (splice S.st (64 * s.toNat) (sec S.el s.toNat)).length = _
    rw [length_splice _ _ _ (by rw [sec_len h.el (by omega), h.st]; omega)]; exact h.st
  · exact h

set_option maxRecDepth 100000 in
set_option maxHeartbeats 400000 in
theorem stale_nil (s : Int) (w : World) : Calls Tryz.prog 19 #[.pointer none, .int .i64 s] w fun e w' => e = .returned (.tuple #[]) ∧ Kept w w' := by
  go_enter Tryz.func19, Tryz.ntmps19
  go_wp2_with fail
  refine (place_nil s _).mono ?_
  rintro e w1 ⟨rfl, hk⟩
  unfold noSpot
  go_wp2_with fail
  go_end0
  exact ⟨rfl, hk.alloc _⟩

set_option maxRecDepth 100000 in
set_option maxHeartbeats 800000 in
theorem stale_any (d : Nat) (S : DS) (s : Int) (R : HProp) (w : World) (h : Sat w (diskP d S * R)) :
    Calls Tryz.prog 19 #[.pointer (some ⟨d, 0, none⟩), .int .i64 s] w fun e w' => e = .returned (.tuple #[]) ∧ Ext w w' ∧ Sat w' (diskP d (S.stale s) * R) := by
  obtain ⟨hok, bs, be, qv, av, hs⟩ := h.disk
  obtain ⟨c0, c1, c2, c3, c4, hd⟩ := hs.core
  have HH := Lib.hid h
  have HO := Lib.hid hok
  have HS := Lib.hid hs
  have hn := hok.most
  cases hv : S.valid s with
  | false =>
    have E : Hid (S.stale s = S) := Lib.hid (by simp [DS.stale, hv])
    have HI := Lib.hid (valid_no S s hv)
    clear hs h hok hv
    go_enter Tryz.func19, Tryz.ntmps19
    go_wp2_with fail
    refine (place_no d s S.n bs _ c0 hd HI.out hn).mono ?_
    rintro e w1 ⟨rfl, hk⟩
    unfold noSpot
    go_wp2_with fail
    go_end0
    rw [E.out]
    exact ⟨rfl, hk.ext.alloc _, (HH.out.kept hk).alloc _⟩
  | true =>
    obtain ⟨h1, h2⟩ := (valid_iff S s).1 hv
    obtain ⟨i, rfl⟩ := Int.eq_ofNat_of_zero_le h1
    have hi : i < S.n := by omega
    have E : Hid (S.stale (i : Int) = { S with st := splice S.st (64 * i) (sec S.el i) }) := Lib.hid (by simp [DS.stale, hv])
    have HE := Lib.hid (hok.stale (i : Int))
    clear hs h hok hv h1 h2
    go_enter Tryz.func19, Tryz.ntmps19
    go_wp2_with fail
    refine (place_yes d i S.n bs _ c0 hd hi hn).mono ?_
    rintro e w1 ⟨rfl, hk⟩
    unfold spotV
    have hs1 := (HS.out.kept hk).allocNew (.cells #[.int .i64 ((i : Int) * 64), .int .i64 (((i : Int) + 1) * 64)] 60)
    have hk1 := hk.alloc (.cells #[.int .i64 ((i : Int) * 64), .int .i64 (((i : Int) + 1) * 64)] 60)
    have HK := Lib.hid (And.intro hk1 hs1)
    have hd1 := (HS.out.kept hk).in_core.2.2.2.2.2.2
    have d0 := hk.cell c0
    have d1 := hk.cell c1
    have hsl := fun b wx => slice_sec b S.n i hi wx
    clear hk c0 c1 c2 c3 c4 hd hs1 hk1
    go_wp2_with fail
    (refine wp_region_still_tail 18 (by kernel_rfl) (by kernel_rfl) ?_; simp only [List.take_succ_cons, List.take_zero, List.drop_succ_cons, List.drop_zero]; change wpStill _ _ (World.drew _) _ _ _; (repeat (refine wpStill_step (fun K hK => ?_); go_simp; refine hK _ ?_; clear hK K)); refine wpStill_nil ?_; change wpList _ _ _ _ _ (World.drew _))
    have h2 : Sat (w1.alloc (.cells #[.int .i64 ((i : Int) * 64), .int .i64 (((i : Int) + 1) * 64)] 60)).drew (pts bs (.cells (u8s S.st).toArray 5) * (pts be (.cells (u8s S.el).toArray 5) * (pts d (.cells (coreCells S.n bs be qv S.off av) 58) *
      (rowP 64 3 qv S.q.length (qCells S.q) * (armP av S.arm * (R * pts w1.heap.size (.cells #[.int .i64 ((i : Int) * 64), .int .i64 (((i : Int) + 1) * 64)] 60))))))) := HK.out.2.drew.cast (by unfold diskIn; ac_rfl)
    have hx2 := HK.out.1.ext.drew
    have hst := HO.out.st
    have hel := HO.out.el
    generalize w1.heap.size = B at *
    generalize (w1.alloc _).drew = W2 at *
    refine wpList_copy_own rfl (.tmp 21) (.tmp 30) 54 54 rfl 5 (by kernel_rfl) (by kernel_rfl) bs (64 * i) 64 _ ⟨be, 64 * i, none⟩ 64 _ rfl rfl (u8s S.st).toArray 5 h2.block (u8s (sec S.el i)) ?_ ?_ ?_ (u8s_one _) ?_
    · rw [u8s_len, sec_len hel hi]; rfl
    · intro j v hj
      have hj' : j < 64 := by
        have := (List.getElem?_eq_some_iff.1 hj).1
        rw [u8s_len, sec_len hel hi] at this; exact this
      rw [u8s_get, sec_get _ _ _ hj', ← u8s_get] at hj
      rw [Addr.add_lit, h2.right.cell]
      simpa using hj
    · rw [u8s_len, sec_len hel hi]; simp [u8s_len, hst]; omega
    have h3 := h2.setRow (u8s (splice S.st (64 * i) (sec S.el i))).toArray
    have hx3 := hx2.setRow bs (u8s (splice S.st (64 * i) (sec S.el i))).toArray
    rw [u8s_splice]
    generalize W2.setRow bs _ = W3 at *
    have H3 := Lib.hid (And.intro hx3 h3)
    clear h2 hx2 h3 hx3
    go_wp2_with fail
    go_end0
    refine ⟨rfl, H3.out.1, ?_⟩
    have he := HE.out
    rw [E.out] at he ⊢
    refine Sat.mkDisk (bs := bs) (be := be) (qv := qv) (av := av) he ?_
    have h9 : Sat W3 (pts B (.cells #[.int .i64 ((i : Int) * 64), .int .i64 (((i : Int) + 1) * 64)] 60) * diskIn d { S with st := splice S.st (64 * i) (sec S.el i) } bs be qv av R) := H3.out.2.cast (by unfold diskIn; ac_rfl)
    exact h9.right

set_option maxRecDepth 100000 in
set_option maxHeartbeats 400000 in
theorem rot_nil (s k m : Int) (w : World) : Calls Tryz.prog 20 #[.pointer none, .int .i64 s, .int .i64 k, .int .i64 m] w fun e w' => e = .returned (.tuple #[]) ∧ Kept w w' := by
  go_enter Tryz.func20, Tryz.ntmps20
  go_wp2_with fail
  refine (place_nil s _).mono ?_
  rintro e w1 ⟨rfl, hk⟩
  unfold noSpot
  go_wp2_with fail
  go_end0
  exact ⟨rfl, hk.alloc _⟩
theorem u8_xor_wrap (b : UInt8) (m : Nat) (hm : m < 256) : bits .xor .u8 (b.toNat : Int) (IntKind.u8.wrap (m : Int)) = (((b ^^^ UInt8.ofNat m).toNat : Nat) : Int) := by
  have h1 : IntKind.u8.wrap (m : Int) = (m : Int) := by rw [IntKind.wrap_u8']; omega
  rw [h1, u8_xor_nat _ _ b.toNat_lt hm, UInt8.toNat_xor, UInt8.toNat_ofNat_of_lt' hm]
theorem u8s_set (L : List UInt8) (i : Nat) (b : UInt8) : (u8s L).toArray.setIfInBounds i (.int .u8 (b.toNat : Int)) = (u8s (L.set i b)).toArray := by
  simp [u8s, List.map_set]

set_option maxRecDepth 100000 in
set_option maxHeartbeats 800000 in
theorem rot_any (d : Nat) (S : DS) (s k m : Int) (R : HProp) (w : World) (h : Sat w (diskP d S * R)) :
    Calls Tryz.prog 20 #[.pointer (some ⟨d, 0, none⟩), .int .i64 s, .int .i64 k, .int .i64 m] w fun e w' => e = .returned (.tuple #[]) ∧ Ext w w' ∧ Sat w' (diskP d (S.rot s k m) * R) := by
  obtain ⟨hok, bs, be, qv, av, hs⟩ := h.disk
  obtain ⟨c0, c1, c2, c3, c4, hd⟩ := hs.core
  have HH := Lib.hid h
  have HO := Lib.hid hok
  have HS := Lib.hid hs
  have hn := hok.most
  cases hv : S.valid s with
  | false =>
    have E : Hid (S.rot s k m = S) := Lib.hid (by simp [DS.rot, rotOk, hv])
    have HI := Lib.hid (valid_no S s hv)
    clear hs h hok hv
    go_enter Tryz.func20, Tryz.ntmps20
    go_wp2_with fail
    refine (place_no d s S.n bs _ c0 hd HI.out hn).mono ?_
    rintro e w1 ⟨rfl, hk⟩
    unfold noSpot
    go_wp2_with fail
    go_end0
    rw [E.out]
    exact ⟨rfl, hk.ext.alloc _, (HH.out.kept hk).alloc _⟩
  | true =>
    obtain ⟨h1, h2⟩ := (valid_iff S s).1 hv
    obtain ⟨i, rfl⟩ := Int.eq_ofNat_of_zero_le h1
    have hi : i < S.n := by omega
    by_cases hkm : (0 ≤ k ∧ k < 64) ∧ 0 < m ∧ m < 256
    · obtain ⟨⟨k0, k1⟩, m0, m1⟩ := hkm
      obtain ⟨k, rfl⟩ := Int.eq_ofNat_of_zero_le k0
      obtain ⟨m, rfl⟩ := Int.eq_ofNat_of_zero_le (Int.le_of_lt m0)
      obtain ⟨b, hb⟩ : ∃ b, S.st[64 * i + k]? = some b := ⟨_, List.getElem?_eq_getElem (by rw [hok.st]; omega)⟩
      have E : Hid (S.rot (i : Int) (k : Int) (m : Int) = { S with st := S.st.set (64 * i + k) (b ^^^ UInt8.ofNat m) }) := Lib.hid (by
        have : rotOk S (i : Int) (k : Int) (m : Int) = true := by simp [rotOk, hv]; omega
        simp [DS.rot, this, List.getD, hb])
      have HE := Lib.hid (hok.rot (i : Int) (k : Int) (m : Int))
      have HB := Lib.hid hb
      clear hs h hok hv h1 h2 hb
      go_enter Tryz.func20, Tryz.ntmps20
      go_wp2_with fail
      refine (place_yes d i S.n bs _ c0 hd hi hn).mono ?_
      rintro e w1 ⟨rfl, hk⟩
      unfold spotV
      have hs1 := (HS.out.kept hk).allocNew (.cells #[.int .i64 ((i : Int) * 64), .int .i64 (((i : Int) + 1) * 64)] 60)
      have hk1 := hk.alloc (.cells #[.int .i64 ((i : Int) * 64), .int .i64 (((i : Int) + 1) * 64)] 60)
      have HK := Lib.hid (And.intro hk1 hs1)
      have hd1 := (HS.out.kept hk).in_core.2.2.2.2.2.2
      have d0 := hk.cell c0
      have hb0 : Sat w1 (pts bs (.cells (u8s S.st).toArray 5) * (pts d (.cells (coreCells S.n bs be qv S.off av) 58) * (pts be (.cells (u8s S.el).toArray 5) *
        (rowP 64 3 qv S.q.length (qCells S.q) * (armP av S.arm * R))))) := (HS.out.kept hk).cast (by unfold diskIn; ac_rfl)
      have hbs := hb0.lt
      have HB0 := Lib.hid (And.intro hk.ext hb0)
      have b0 : w1.cell? ⟨bs, i * 64 + k, none⟩ = some (.int .u8 (b.toNat : Int)) := by
        rw [hb0.cell, show i * 64 + k = 64 * i + k by omega, List.getElem?_toArray, u8s_get, HB.out]; rfl
      have f0 := hb0.free (i * 64 + k)
      have hix : ∀ wx : World, (Instr.indexAt 54 (.slice (some ⟨bs, 0, none⟩) (64 * S.n) (64 * S.n)) (.int .i64 ((i : Int) * 64 + (k : Int)))).run Tryz.prog wx = .ok (.pointer (some ⟨bs, i * 64 + k, none⟩)) wx := by
        intro wx
        rw [run_indexAt_slice (P := Tryz.prog) (w := wx) 54 ⟨bs, 0, none⟩ (64 * S.n) (64 * S.n) .i64 _ (by kernel_rfl), if_pos (by omega)]
        have hs : (sizeOf (Tryz.prog.elem 54)).run Tryz.prog wx = .ok 1 wx := by kernel_rfl
        rw [hs]
        have e1 : ((i : Int) * 64 + (k : Int)).toNat = i * 64 + k := by omega
        simp only [Result.andThen_ok, e1, Nat.mul_one, Addr.add_lit, Nat.zero_add]
      have hw : IntKind.i64.wrap ((i : Int) * 64 + (k : Int)) = (i : Int) * 64 + (k : Int) := IntWalk.i64_in _ (by omega)
      clear hk c0 c1 c2 c3 c4 hd hs1 hk1 hb0
      go_wp2_with fail
      (refine wp_region_still_tail 14 (by kernel_rfl) (by kernel_rfl) ?_; simp only [List.take_succ_cons, List.take_zero, List.drop_succ_cons, List.drop_zero]; change wpStill _ _ (World.drew _) _ _ _; (repeat (refine wpStill_step (fun K hK => ?_); go_simp; refine hK _ ?_; clear hK K)); refine wpStill_nil ?_; change wpList _ _ _ _ _ (World.drew _))
      rw [u8_xor_wrap b m (by omega)]
      go_wp2_with fail
      go_end0
      refine ⟨rfl, ?_, ?_⟩
      · have hx := HB0.out.1
        exact (by repeat (first | with_reducible assumption | with_reducible exact Ext.refl _ | with_reducible refine Ext.alloc ?_ _ | with_reducible refine Ext.drew ?_ | with_reducible refine Ext.drewN _ ?_ | with_reducible refine Ext.setCell ?_ _ _))
      · have he := HE.out
        rw [E.out] at he ⊢
        refine Sat.mkDisk (bs := bs) (be := be) (qv := qv) (av := av) he ?_
        have h4 := HB0.out.2.setCell (i := i * 64 + k) (.int .u8 ((b ^^^ UInt8.ofNat m).toNat : Int))
        rw [u8s_set, show i * 64 + k = 64 * i + k by omega] at h4
        have h5 := h4.cast (show _ = diskIn d { S with st := S.st.set (64 * i + k) (b ^^^ UInt8.ofNat m) } bs be qv av R by unfold diskIn; ac_rfl)
        rw [show i * 64 + k = 64 * i + k by omega]
        exact (h5.alloc _).drew
    · have E : Hid (S.rot (i : Int) k m = S) := Lib.hid (by
        have : rotOk S (i : Int) k m = false := by simp [rotOk, hv]; omega
        simp [DS.rot, this])
      have hcase : k < 0 ∨ (0 ≤ k ∧ 64 ≤ k) ∨ (0 ≤ k ∧ k < 64 ∧ m ≤ 0) ∨ (0 ≤ k ∧ k < 64 ∧ 0 < m ∧ 256 ≤ m) := by omega
      clear hs h hok hv h1 h2 hkm
      rcases hcase with g0 | ⟨g0, g1⟩ | ⟨g0, g1, g2⟩ | ⟨g0, g1, g2, g3⟩
      all_goals
        go_enter Tryz.func20, Tryz.ntmps20
        go_wp2_with fail
        refine (place_yes d i S.n bs _ c0 hd hi hn).mono ?_
        rintro e w1 ⟨rfl, hk⟩
        unfold spotV
        go_wp2_with fail
        go_end0
        rw [E.out]
        exact ⟨rfl, hk.ext.alloc _, (HH.out.kept hk).alloc _⟩
end Go.Proofs.YtmemhoiepnlhfaaGreatDoor
