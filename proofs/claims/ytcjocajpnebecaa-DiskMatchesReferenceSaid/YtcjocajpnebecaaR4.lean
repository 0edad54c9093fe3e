/-
  The ref disk's count, Sync and Write, walked. Their condition: at most 1000000 pending writes.
-/
import Derived.Test.YtcjocajpnebecaaR3
namespace Go.Proofs.Ytcjocajpnebecaa
open Go.RowKit

set_option maxHeartbeats 800000 in
theorem rcount_any (m : Nat) (S : DS) (hq : S.q.length ≤ 1000000) (R : HProp) (w : World) (h : Sat w (refP m S * R)) :
    Calls Try.prog 44 #[.pointer (some ⟨m, 0, none⟩)] w fun e w' => e = .returned (.int .i64 S.count.1) ∧ Ext w w' ∧ Sat w' (refP m S.count.2 * R) := by
  obtain ⟨hok, x, hx, hs⟩ := h.ref
  obtain ⟨sv, ev, pv, am, a, wr, b⟩ := x
  obtain ⟨c0, c1, c2, c3, c4, c5, c6, c7, hm⟩ := hs.refFlat.ref8
  have f0 := fun i => hs.refFlat.free (i := i)
  have HH := Lib.hid h
  have HS := Lib.hid hs
  have HO := Lib.hid hok.count
  have harm : S.arm = if am then some (a, wr, b) else none := hx
  have hpos := hok.arm
  clear h hs hok hx
  cases am with
  | false =>
    have E : Hid (S.count = (0, S)) := Lib.hid (by simp [DS.count, harm])
    clear harm hpos
    go_enter Try.func44, Try.ntmps44
    go_wp2_with fail
    go_ret
    rw [E.out]
    exact ⟨rfl, Ext.refl _, HH.out⟩
  | true =>
    have ha := hpos a wr b harm
    by_cases h0 : a = 0
    · subst h0
      have E : Hid (S.count = (19, S.fail wr b)) := Lib.hid (by simp [DS.count, harm])
      clear harm hpos ha
      go_enter Try.func44, Try.ntmps44
      go_wp2_with fail
      (refine wp_region_still_tail 9 (by kernel_rfl) (by kernel_rfl) ?_; simp only [List.take_succ_cons, List.take_zero, List.drop_succ_cons, List.drop_zero]; change wpStill _ _ (World.drew _) _ _ _; (repeat (refine wpStill_step (fun K hK => ?_); go_simp; refine hK _ ?_; clear hK K)); refine wpStill_nil ?_; change wpList _ _ _ _ _ (World.drew _))
      go_wp2_with fail
      refine (rfail_any m S wr b hq R _ HH.out.drew).mono ?_
      rintro e w2 ⟨rfl, hx2, hs2⟩
      have H2 := Lib.hid (And.intro ((Ext.refl w).drew.trans hx2) hs2)
      clear hx2 hs2
      go_wp2_with fail
      go_ret
      rw [E.out]
      exact ⟨rfl, H2.out⟩
    · have E : Hid (S.count = (0, { S with arm := some (a - 1, wr, b) })) := Lib.hid (by simp [DS.count, harm]; omega)
      have haf : (a == 0) = false := by simpa using h0
      have h1 := HS.out.refFlat.setCell (i := 5) (.int .i64 (a - 1))
      have H1 := Lib.hid h1
      clear harm hpos h0 h1
      go_enter Try.func44, Try.ntmps44
      go_wp2_with fail
      go_ret
      have ho := HO.out
      rw [E.out] at ho ⊢
      exact ⟨rfl, (Ext.refl w).setCell _ _, Sat.mkRef (x := ⟨sv, ev, pv, true, a - 1, wr, b⟩) ho rfl H1.out⟩

theorem count_code (S : DS) : S.count.1 = 0 ∨ S.count.1 = 19 := by
  unfold DS.count; split
  · exact .inl rfl
  · split
    · exact .inl rfl
    · exact .inr rfl
theorem count_q (S : DS) : S.count.2.q.length ≤ S.q.length := by
  have := (goes_count S).q; omega
set_option maxHeartbeats 800000 in
theorem rsync_any (m : Nat) (S : DS) (hq : S.q.length ≤ 1000000) (R : HProp) (w : World) (h : Sat w (refP m S * R)) :
    Calls Try.prog 33 #[.pointer (some ⟨m, 0, none⟩)] w fun e w' => e = .returned (.int .i64 S.sync.1) ∧ Ext w w' ∧ Sat w' (refP m S.sync.2 * R) := by
  obtain ⟨hok, x, hx, hs⟩ := h.ref
  obtain ⟨sv, ev, pv, am, a, wr, b⟩ := x
  obtain ⟨c0, c1, c2, c3, c4, c5, c6, c7, hm⟩ := hs.refFlat.ref8
  have HH := Lib.hid h
  have HO := Lib.hid hok.sync
  clear h hs hx hok
  cases hoff : S.off with
  | true =>
    rw [hoff] at c3
    have E : Hid (S.sync = (19, S)) := Lib.hid (by simp [DS.sync, hoff])
    clear hoff
    go_enter Try.func33, Try.ntmps33
    go_wp2_with fail
    go_ret
    rw [E.out]
    exact ⟨rfl, Ext.refl _, HH.out⟩
  | false =>
    rw [hoff] at c3
    rcases count_code S with h0 | h0
    · have E : Hid (S.sync = (0, S.count.2.flush)) := Lib.hid (by simp [DS.sync, hoff, h0])
      have HQ := Lib.hid (count_q S)
      have H0 := Lib.hid h0
      clear hoff h0
      go_enter Try.func33, Try.ntmps33
      go_wp2_with fail
      refine (rcount_any m S hq R _ HH.out).mono ?_
      rintro e w2 ⟨rfl, hx2, hs2⟩
      rw [H0.out]
      have hq2 : S.count.2.q.length ≤ 1000000 := by have := HQ.out; omega
      generalize S.count.2 = U at *
      obtain ⟨hok2, y, hy, hs3⟩ := hs2.ref
      obtain ⟨sv', ev', pv', am', a', wr', b'⟩ := y
      obtain ⟨ao, cap, hpv, _, _⟩ := hs3.pends
      simp only at hpv
      subst hpv
      clear c0 c1 c2 c3 c4 c5 c6 c7 hm
      obtain ⟨c0, c1, c2, c3, c4, c5, c6, c7, hm⟩ := hs3.refFlat.ref8
      have H2 := Lib.hid (And.intro hx2 (And.intro hok2 (And.intro hy hs3)))
      clear hx2 hok2 hy hs3 hs2
      go_wp2_with fail
      refine (rsettle_in m U U.q.length (Nat.le_refl _) _ R _ H2.out.2.1 H2.out.2.2.2).mono ?_
      rintro e w3 ⟨rfl, hx3, hs3⟩
      rw [List.take_of_length_le (Nat.le_refl _)] at hs3
      clear c0 c1 c2 c3 c4 c5 c6 c7 hm
      obtain ⟨c0, c1, c2, c3, c4, c5, c6, c7, hm⟩ := hs3.refFlat.ref8
      have f0 := fun i => hs3.refFlat.free (i := i)
      have hn := settle_n U U.q
      have h1 := hs3.refFlat.setCell (i := 2) (.slice none 0 0)
      have h2 : Sat _ (rowP 73 2 (.slice ao U.q.length cap) (U.settle U.q).q.length (pCells (U.settle U.q).q) * (pts m (.cells (RA.cells ⟨sv', ev', .slice none 0 0, am', a', wr', b'⟩ (U.settle U.q).off) 64) * (strRow sv' (secs (U.settle U.q).n (U.settle U.q).st) * (strRow ev' (secs (U.settle U.q).n (U.settle U.q).el) * R)))) :=
        h1.cast (show pts m (.cells (RA.cells ⟨sv', ev', .slice none 0 0, am', a', wr', b'⟩ (U.settle U.q).off) 64) * (strRow sv' (secs (U.settle U.q).n (U.settle U.q).st) * (strRow ev' (secs (U.settle U.q).n (U.settle U.q).el) * (rowP 73 2 (.slice ao U.q.length cap) (U.settle U.q).q.length (pCells (U.settle U.q).q) * R))) = _ by ac_rfl)
      have h4 : Sat _ (rowP 73 2 (.slice none 0 0) 0 [] * _) := Sat.nilRow h2.right
      have h5 : Sat _ (refIn m U.flush ⟨sv', ev', .slice none 0 0, am', a', wr', b'⟩ R) := h4.cast (show _ = pts m (.cells (RA.cells ⟨sv', ev', .slice none 0 0, am', a', wr', b'⟩ (U.settle U.q).off) 64) * (strRow sv' (secs (U.settle U.q).n (U.settle U.q).st) * (strRow ev' (secs (U.settle U.q).n (U.settle U.q).el) * (rowP 73 2 (.slice none 0 0) 0 [] * R))) by ac_rfl)
      have hfit : RA.fits ⟨sv', ev', .slice none 0 0, am', a', wr', b'⟩ U.flush := by
        show U.flush.arm = _
        rw [show U.flush.arm = (U.settle U.q).arm from rfl, hn.2.2.2]; exact H2.out.2.2.1
      have H5 := Lib.hid (And.intro (H2.out.1.trans hx3) (And.intro hfit h5))
      clear hx3 hs3 hn h1 h2 h4 h5 hfit
      go_wp2_with fail
      go_ret
      have ho := HO.out
      rw [E.out] at ho ⊢
      exact ⟨rfl, H5.out.1.setCell _ _, Sat.mkRef ho H5.out.2.1 H5.out.2.2⟩
    · have E : Hid (S.sync = (19, S.count.2)) := Lib.hid (by
        simp only [DS.sync, hoff, h0]; simp; rw [← h0])
      have H0 := Lib.hid h0
      clear hoff h0
      go_enter Try.func33, Try.ntmps33
      go_wp2_with fail
      refine (rcount_any m S hq R _ HH.out).mono ?_
      rintro e w2 ⟨rfl, hx2, hs2⟩
      rw [H0.out]
      have H2 := Lib.hid (And.intro hx2 hs2)
      clear hx2 hs2
      go_wp2_with fail
      go_ret
      rw [E.out]
      exact ⟨rfl, H2.out⟩
end Go.Proofs.Ytcjocajpnebecaa
