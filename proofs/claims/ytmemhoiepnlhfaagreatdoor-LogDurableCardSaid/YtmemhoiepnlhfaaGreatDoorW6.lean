/-
  The disk's method Write, walked. Its condition: the receiver is a disk in memory, or nil where said; few pending writes.
-/
import Derived.Test.YtmemhoiepnlhfaaGreatDoorW5
namespace Go.Proofs.YtmemhoiepnlhfaaGreatDoor
open Go.RowKit
set_option maxRecDepth 100000

theorem DS.ok.push {S : DS} (h : S.ok) (i : Nat) (t : ByteArray) (hi : i < S.n) (ht : t.size = 64) : ({ S with q := S.q ++ [(i, t)] } : DS).ok :=
  ⟨h.pos, h.most, h.st, h.el, fun p hp => by
    rcases List.mem_append.1 hp with hp | hp
    · exact h.q p hp
    · obtain rfl := List.mem_singleton.1 hp
      exact ⟨hi, ht⟩, h.arm⟩
theorem qCells_snoc (q : List (Nat × ByteArray)) (p : Nat × ByteArray) : qCells (q ++ [p]) = qCells q ++ qCell p := by simp [qCells]
theorem qCell_one (p : Nat × ByteArray) : ∀ u ∈ qCell p, u.oneCell' = true := by
  intro u hu
  simp only [qCell, List.mem_cons, List.not_mem_nil, or_false] at hu
  rcases hu with rfl | rfl | rfl <;> rfl
theorem Tryz.infoPending : (Tryz.prog.info? 64).map (fun i => (i.zero, i.size, i.bytes)) = some (some (.agg #[.int .i64 0, .int .i64 0, .string ⟨#[]⟩]), 3, 32) := by kernel_rfl

set_option maxRecDepth 100000 in
set_option maxHeartbeats 1600000 in
theorem write_on (d : Nat) (S : DS) (i : Nat) (t : ByteArray) (hoff : S.off = false) (hi : i < S.n) (ht : t.size = 64) (hq : S.q.length < 1000000) (R : HProp) (w : World) (h : Sat w (diskP d S * R)) :
    Calls Tryz.prog 13 #[.pointer (some ⟨d, 0, none⟩), .int .i64 (i : Int), .string t] w fun e w' =>
      e = .returned (.int .i64 ({ S with q := S.q ++ [(i, t)] } : DS).count.1) ∧ Ext w w' ∧ Sat w' (diskP d ({ S with q := S.q ++ [(i, t)] } : DS).count.2 * R) := by
  obtain ⟨hok, bs, be, qv, av, hs⟩ := h.disk
  have HO := Lib.hid hok
  obtain ⟨c0, c1, c2, c3, c4, hd⟩ := hs.core
  rw [hoff] at c3
  have HF := Lib.hid hoff
  have HS := Lib.hid hs
  have hn := hok.most
  have HT := Lib.hid ht
  obtain ⟨i0, hi0, hz0, hz1, hz2⟩ := info_parts Tryz.infoPending
  clear h hok hoff hs
  go_enter Tryz.func13, Tryz.ntmps13
  go_wp2_with fail
  refine (at_yes d i S.n bs _ c0 c3 hd hi hn).mono ?_
  rintro e w1 ⟨rfl, hk⟩
  unfold spotV
  have hs1 := HS.out.kept hk
  have d2 := hs1.in_core.1
  have g2 := hs1.in_core.2.2.2.1
  have hd1 := hs1.in_core.2.2.2.2.2.2
  have HS1 := Lib.hid (And.intro hk.ext hs1)
  clear c0 c1 c2 c3 c4 hs1 hk hd
  have ht2 : ((t.size : Int) == 64) = true := by simp [ht]
  clear ht
  go_wp2_with fail
  have hs2 := ((HS1.out.2.alloc (.cells #[.int .i64 ((i : Int) * 64), .int .i64 (((i : Int) + 1) * 64)] 60)).allocNew (.cells #[.int .i64 ((i : Int) * 64), .int .i64 (((i : Int) + 1) * 64), .string t] 64)).drew
  have hx2 := ((HS1.out.1.alloc (.cells #[.int .i64 ((i : Int) * 64), .int .i64 (((i : Int) + 1) * 64)] 60)).alloc (.cells #[.int .i64 ((i : Int) * 64), .int .i64 (((i : Int) + 1) * 64), .string t] 64)).drew
  rw [World.size_alloc] at hs2
  have hs3 : Sat _ (rowP 64 3 qv S.q.length (qCells S.q) * (pts d (.cells (coreCells S.n bs be qv S.off av) 58) * (pts bs (.cells (u8s S.st).toArray 5) * (pts be (.cells (u8s S.el).toArray 5) * (armP av S.arm * (R * pts (w1.heap.size + 1) (.cells #[.int .i64 ((i : Int) * 64), .int .i64 (((i : Int) + 1) * 64), .string t] 64))))))) := hs2.cast (by unfold diskIn; ac_rfl)
  have HS3 := Lib.hid (And.intro hx2 hs3)
  have HN := Lib.hid (World.news_of_block hs2.block)
  clear hs2 hs3 hx2
  go_region_law (refine step_append_lies _ rfl (.tmp 25) (.tmp 29) 55 rfl 0 64 i0 (.agg #[.int .i64 0, .int .i64 0, .string ⟨#[]⟩]) 3 32 (by kernel_rfl) hi0 hz0 hz1 hz2 rfl (by decide) qv S.q.length (qCells S.q) rfl HS3.out.2.owns ⟨w1.heap.size + 1, 0, none⟩ 1 1 [.int .i64 ((i : Int) * 64), .int .i64 (((i : Int) + 1) * 64), .string t] rfl rfl HN.out (qCell_one (i, t)) (by decide) (by unfold maxLen; omega) (by omega) (Nat.zero_le _) _ rfl ?_; intro g cap w2 hown hgrow hat hlt; have hs4 := HS3.out.2.appended hown hgrow hat; have q2 : w2.cell? ⟨d, 2, none⟩ = some qv := (hs4.right.cell (i := 2)).trans rfl; have f2 := hs4.right.free 2)
  all_goals
    have hs5 : Sat w2 (pts d (.cells (coreCells S.n bs be qv S.off av) 58) * (pts bs (.cells (u8s S.st).toArray 5) * (pts be (.cells (u8s S.el).toArray 5) * (rowP 64 3 (.slice (some ⟨g, 0, none⟩) (S.q.length + 1) cap) (S.q.length + 1) (qCells S.q ++ qCell (i, t)) * (armP av S.arm * (R * pts (w1.heap.size + 1) (.cells #[.int .i64 ((i : Int) * 64), .int .i64 (((i : Int) + 1) * 64), .string t] 64))))))) := hs4.cast (by unfold qCell; ac_rfl)
    have hs51 := hs5.setCell (i := 2) (.slice (some ⟨g, 0, none⟩) (S.q.length + 1) cap)
    rw [core_set2] at hs51
    have hs52 : Sat _ (pts (w1.heap.size + 1) (.cells #[.int .i64 ((i : Int) * 64), .int .i64 (((i : Int) + 1) * 64), .string t] 64) * (pts d (.cells (coreCells S.n bs be (.slice (some ⟨g, 0, none⟩) (S.q.length + 1) cap) S.off av) 58) * (pts bs (.cells (u8s S.st).toArray 5) * (pts be (.cells (u8s S.el).toArray 5) * (rowP 64 3 (.slice (some ⟨g, 0, none⟩) (S.q.length + 1) cap) (S.q.length + 1) (qCells S.q ++ qCell (i, t)) * (armP av S.arm * R)))))) := hs51.cast (by ac_rfl)
    have hx5 := (HS3.out.1.grown hgrow).setCell ⟨d, 2, none⟩ (.slice (some ⟨g, 0, none⟩) (S.q.length + 1) cap)
    have hs6 : Sat (w2.setCell ⟨d, 2, none⟩ (.slice (some ⟨g, 0, none⟩) (S.q.length + 1) cap)) (diskP d { S with q := S.q ++ [(i, t)] } * R) := by
      refine Sat.mkDisk (bs := bs) (be := be) (qv := .slice (some ⟨g, 0, none⟩) (S.q.length + 1) cap) (av := av) (HO.out.push i t hi HT.out) ?_
      have := hs52.right
      unfold diskIn
      simp only [List.length_append, List.length_singleton, qCells_snoc]
      exact this
    have H6 := Lib.hid (And.intro hx5 hs6)
    clear hs5 hs51 hs52 hx5 hs6 hs4 hown hgrow hat hlt q2 f2 HN HS3 hi0 hz0 hz1 hz2
    generalize w2.setCell _ _ = w3 at *
    go_wp2_with fail
    refine (count_any d { S with q := S.q ++ [(i, t)] } HF.out (by simp; omega) R _ H6.out.2).mono ?_
    rintro e w4 ⟨rfl, hx7, hs7⟩
    have H7 := Lib.hid (And.intro (H6.out.1.trans hx7) hs7)
    clear hx7 hs7
    go_wp2_with fail
    go_ret
    exact ⟨rfl, H7.out⟩
theorem DS.ok.write {S : DS} (h : S.ok) (s : Int) (t : ByteArray) : (S.write s t).2.ok := by
  unfold DS.write
  split
  · exact h
  · split
    · rename_i hv
      simp only [DS.valid, Bool.and_eq_true, decide_eq_true_eq] at hv
      exact (h.push s.toNat t (by omega) hv.2).count
    · exact h
theorem valid_iff (S : DS) (s : Int) : S.valid s = true ↔ 0 ≤ s ∧ s < (S.n : Int) := by simp [DS.valid]
theorem valid_no (S : DS) (s : Int) (h : S.valid s = false) : s < 0 ∨ (S.n : Int) ≤ s := by
  by_cases h' : 0 ≤ s ∧ s < (S.n : Int)
  · rw [← valid_iff, h] at h'; cases h'
  · omega

set_option maxRecDepth 100000 in
set_option maxHeartbeats 800000 in
theorem write_any (d : Nat) (S : DS) (s : Int) (t : ByteArray) (hq : S.q.length < 1000000) (R : HProp) (w : World) (h : Sat w (diskP d S * R)) :
    Calls Tryz.prog 13 #[.pointer (some ⟨d, 0, none⟩), .int .i64 s, .string t] w fun e w' =>
      e = .returned (.int .i64 (S.write s t).1) ∧ Ext w w' ∧ Sat w' (diskP d (S.write s t).2 * R) := by
  obtain ⟨hok, bs, be, qv, av, hs⟩ := h.disk
  obtain ⟨c0, c1, c2, c3, c4, hd⟩ := hs.core
  have HH := Lib.hid h
  have hn := hok.most
  cases hoff : S.off with
  | true =>
    rw [hoff] at c3
    have E : Hid (S.write s t = (19, S)) := Lib.hid (by simp [DS.write, hoff])
    clear hs h hok hoff
    go_enter Tryz.func13, Tryz.ntmps13
    go_wp2_with fail
    refine (at_off d s _ c3 hd).mono ?_
    rintro e w1 ⟨rfl, hk⟩
    unfold noSpot
    go_wp2_with fail
    go_ret
    rw [E.out]
    exact ⟨rfl, hk.ext.alloc _, (HH.out.kept hk).alloc _⟩
  | false =>
    cases hv : S.valid s with
    | false =>
      rw [hoff] at c3
      have E : Hid (S.write s t = (1, S)) := Lib.hid (by simp [DS.write, hoff, hv])
      have HI := Lib.hid (valid_no S s hv)
      clear hs h hok hoff hv
      go_enter Tryz.func13, Tryz.ntmps13
      go_wp2_with fail
      refine (at_no d s S.n bs _ c0 c3 hd HI.out hn).mono ?_
      rintro e w1 ⟨rfl, hk⟩
      unfold noSpot
      go_wp2_with fail
      go_ret
      rw [E.out]
      exact ⟨rfl, hk.ext.alloc _, (HH.out.kept hk).alloc _⟩
    | true =>
      obtain ⟨h1, h2⟩ := (valid_iff S s).1 hv
      obtain ⟨i, rfl⟩ := Int.eq_ofNat_of_zero_le h1
      by_cases ht : t.size = 64
      · have E : S.write (i : Int) t = ({ S with q := S.q ++ [(i, t)] } : DS).count := by simp [DS.write, hoff, hv, ht]
        rw [E]
        exact write_on d S i t hoff (by omega) ht hq R w h
      · rw [hoff] at c3
        have E : Hid (S.write (i : Int) t = (1, S)) := Lib.hid (by simp [DS.write, hoff, hv, ht])
        have ht2 : ((t.size : Int) == 64) = false := by simp; omega
        have hi : i < S.n := by omega
        clear hs h hok hoff hv ht h1 h2
        go_enter Tryz.func13, Tryz.ntmps13
        go_wp2_with fail
        refine (at_yes d i S.n bs _ c0 c3 hd hi hn).mono ?_
        rintro e w1 ⟨rfl, hk⟩
        unfold spotV
        go_wp2_with fail
        go_ret
        rw [E.out]
        exact ⟨rfl, hk.ext.alloc _, (HH.out.kept hk).alloc _⟩

set_option maxRecDepth 100000 in
set_option maxHeartbeats 400000 in
theorem write_nil (s : Int) (t : ByteArray) (w : World) : Calls Tryz.prog 13 #[.pointer none, .int .i64 s, .string t] w fun e w' => e = .returned (.int .i64 1) ∧ Kept w w' := by
  go_enter Tryz.func13, Tryz.ntmps13
  go_wp2_with fail
  refine (at_nil s _).mono ?_
  rintro e w1 ⟨rfl, hk⟩
  unfold noSpot
  go_wp2_with fail
  go_ret
  exact ⟨rfl, hk.alloc _⟩
end Go.Proofs.YtmemhoiepnlhfaaGreatDoor
