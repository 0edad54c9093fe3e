/-
  want, walked: an operation on the reference implementation's disk. Its condition: the operation reads as data.
-/
import Derived.Test.YtcjocajpnebecaaR8
namespace Go.Proofs.Ytcjocajpnebecaa
open Go.RowKit

set_option maxRecDepth 100000 in
set_option maxHeartbeats 1600000 in
theorem want_any (m : Nat) (S : DS) (a : AC) (hwf : a.wf) (h100 : a.text.size ≤ 100) (hq : S.q.length < 1000000) (R : HProp) (w : World) (h : Sat w (refP m S * R)) :
    Calls Try.prog 16 #[.pointer (some ⟨m, 0, none⟩), a.val] w fun e w' => e = .returned (.tuple #[.string (S.act a).1.1, .int .i64 (S.act a).1.2]) ∧ Ext w w' ∧ Sat w' (refP m (S.act a).2 * R) := by
  obtain ⟨k, s, b, t, odd, af⟩ := a
  have haf : af ≤ 9223372036854775807 := hwf.after
  have HH := Lib.hid h
  have hq' : S.q.length ≤ 1000000 := by omega
  clear hwf
  have hbox := (h.allocNew (.cells #[.int .i64 k, .int .i64 s, .int .i64 b, .string t, .bool odd, .int .i64 af] 34)).cast (show _ = refP m S * (R * pts w.heap.size (.cells #[.int .i64 k, .int .i64 s, .int .i64 b, .string t, .bool odd, .int .i64 af] 34)) by ac_rfl)
  have HB := Lib.hid hbox
  have hx0 : Ext w (w.alloc (.cells #[.int .i64 k, .int .i64 s, .int .i64 b, .string t, .bool odd, .int .i64 af] 34)) := (by repeat (first | with_reducible assumption | with_reducible exact Ext.refl _ | with_reducible refine Ext.alloc ?_ _ | with_reducible refine Ext.drew ?_ | with_reducible refine Ext.drewN _ ?_ | with_reducible refine Ext.setCell ?_ _ _))
  clear h hbox
  rcases AC.kinds ⟨k, s, b, t, odd, af⟩ with hk | hk | hk | hk | hk | hk | hk | hk | hk
  · simp only at hk
    subst hk
    have E : Hid (S.act ⟨0, s, b, t, odd, af⟩ = ((⟨#[]⟩, (S.write s (AC.write ⟨0, s, b, t, odd, af⟩)).1), (S.write s (AC.write ⟨0, s, b, t, odd, af⟩)).2)) := Lib.hid (by simp [DS.act])
    unfold AC.val AC.cells
    simp only
    go_enter Try.func16, Try.ntmps16
    go_wp2_with fail
    generalize w.heap.size = B at *
    generalize w.alloc _ = W1 at *
    have hall : ∀ wx, Sat wx (pts B (.cells #[.int .i64 0, .int .i64 s, .int .i64 b, .string t, .bool odd, .int .i64 af] 34)) → (wx.cell? ⟨B, 0, none⟩ = some (.int .i64 0) ∧ wx.cell? ⟨B, 1, none⟩ = some (.int .i64 s) ∧ wx.cell? ⟨B, 2, none⟩ = some (.int .i64 b) ∧ wx.cell? ⟨B, 3, none⟩ = some (.string t) ∧ wx.cell? ⟨B, 4, none⟩ = some (.bool odd) ∧ wx.cell? ⟨B, 5, none⟩ = some (.int .i64 af)) := by
      intro wx hx
      have hx' := hx.cast (sep_emp _).symm
      exact ⟨hx'.cell.trans rfl, hx'.cell.trans rfl, hx'.cell.trans rfl, hx'.cell.trans rfl, hx'.cell.trans rfl, hx'.cell.trans rfl⟩
    have HAll := Lib.hid hall
    have f0 := Lib.hid (hall _ HB.out.right.right.drew)
    clear hall
    go_region_held3 (fun wx => wx.cell? ⟨B, 0, none⟩ = some (.int .i64 0) ∧ wx.cell? ⟨B, 1, none⟩ = some (.int .i64 s) ∧ wx.cell? ⟨B, 2, none⟩ = some (.int .i64 b) ∧ wx.cell? ⟨B, 3, none⟩ = some (.string t) ∧ wx.cell? ⟨B, 4, none⟩ = some (.bool odd) ∧ wx.cell? ⟨B, 5, none⟩ = some (.int .i64 af))
      (first | exact f0.out | exact f2.out | exact f3.out)
      (first
        | (go_at_call 23; refine (text_any ⟨0, s, b, t, odd, af⟩ h100 _).mono ?_; rintro e w2 ⟨rfl, hk2⟩; have H2 := Lib.hid (And.intro (hx0.drew.trans hk2.ext) (HB.out.drew.kept hk2)); have f2 := Lib.hid (HAll.out _ H2.out.2.right.right); clear hk2)
        | (go_at_call 32; refine (rwrite_any m S s (AC.write ⟨0, s, b, t, odd, af⟩) hq _ _ H2.out.2).mono ?_; rintro e w3 ⟨rfl, hx3, hs3⟩; have H3 := Lib.hid (And.intro (H2.out.1.trans hx3) hs3); have f3 := Lib.hid (HAll.out _ H3.out.2.right.right); clear hx3 hs3))
    all_goals
      go_wp2_with fail
      go_ret2
      rw [E.out]
      exact ⟨rfl, H3.out.1, H3.out.2.cast (sep_assoc _ _ _).symm |>.left⟩
  · simp only at hk
    subst hk
    have E : Hid (S.act ⟨1, s, b, t, odd, af⟩ = (S.read s, S)) := Lib.hid (by simp [DS.act])
    unfold AC.val AC.cells
    simp only
    go_enter Try.func16, Try.ntmps16
    go_wp2_with fail
    refine (rread_any m S s hq' _ _ HB.out).mono ?_
    rintro e w2 ⟨rfl, hk2⟩
    have H2 := Lib.hid (And.intro (hx0.trans hk2.ext) (HB.out.kept hk2))
    clear hk2
    go_wp2_with fail
    go_ret2
    rw [E.out]
    exact ⟨rfl, H2.out.1, H2.out.2.cast (sep_assoc _ _ _).symm |>.left⟩
  · simp only at hk
    subst hk
    have E : Hid (S.act ⟨2, s, b, t, odd, af⟩ = ((⟨#[]⟩, S.sync.1), S.sync.2)) := Lib.hid (by simp [DS.act])
    unfold AC.val AC.cells
    simp only
    go_enter Try.func16, Try.ntmps16
    go_wp2_with fail
    refine (rsync_any m S hq' _ _ HB.out).mono ?_
    rintro e w2 ⟨rfl, hx2, hs2⟩
    have H2 := Lib.hid (And.intro (hx0.trans hx2) hs2)
    clear hx2 hs2
    go_wp2_with fail
    go_ret2
    rw [E.out]
    exact ⟨rfl, H2.out.1, H2.out.2.cast (sep_assoc _ _ _).symm |>.left⟩
  · simp only at hk
    subst hk
    have E : Hid (S.act ⟨3, s, b, t, odd, af⟩ = ((⟨#[]⟩, 0), S.fail s b)) := Lib.hid (by simp [DS.act])
    unfold AC.val AC.cells
    simp only
    go_enter Try.func16, Try.ntmps16
    go_wp2_with fail
    refine (rfail_any m S s b hq' _ _ HB.out).mono ?_
    rintro e w2 ⟨rfl, hx2, hs2⟩
    have H2 := Lib.hid (And.intro (hx0.trans hx2) hs2)
    clear hx2 hs2
    go_wp2_with fail
    go_ret2
    rw [E.out]
    exact ⟨rfl, H2.out.1, H2.out.2.cast (sep_assoc _ _ _).symm |>.left⟩
  · simp only at hk
    subst hk
    have E : Hid (S.act ⟨4, s, b, t, odd, af⟩ = ((⟨#[]⟩, 0), S.start)) := Lib.hid (by simp [DS.act])
    unfold AC.val AC.cells
    simp only
    go_enter Try.func16, Try.ntmps16
    go_wp2_with fail
    refine (rstart_any m S _ _ HB.out).mono ?_
    rintro e w2 ⟨rfl, hx2, hs2⟩
    have H2 := Lib.hid (And.intro (hx0.trans hx2) hs2)
    clear hx2 hs2
    go_wp2_with fail
    go_ret2
    rw [E.out]
    exact ⟨rfl, H2.out.1, H2.out.2.cast (sep_assoc _ _ _).symm |>.left⟩
  · simp only at hk
    subst hk
    have E : Hid (S.act ⟨5, s, b, t, odd, af⟩ = ((⟨#[]⟩, 0), S.armed af s b)) := Lib.hid (by simp [DS.act])
    unfold AC.val AC.cells
    simp only
    go_enter Try.func16, Try.ntmps16
    go_wp2_with fail
    refine (rarm_any m S af s b haf _ _ HB.out).mono ?_
    rintro e w2 ⟨rfl, hx2, hs2⟩
    have H2 := Lib.hid (And.intro (hx0.trans hx2) hs2)
    clear hx2 hs2
    go_wp2_with fail
    go_ret2
    rw [E.out]
    exact ⟨rfl, H2.out.1, H2.out.2.cast (sep_assoc _ _ _).symm |>.left⟩
  · simp only at hk
    subst hk
    have E : Hid (S.act ⟨6, s, b, t, odd, af⟩ = ((⟨#[]⟩, 0), S.rot s b af)) := Lib.hid (by simp [DS.act])
    unfold AC.val AC.cells
    simp only
    go_enter Try.func16, Try.ntmps16
    go_wp2_with fail
    refine (rrot_any m S s b af _ _ HB.out).mono ?_
    rintro e w2 ⟨rfl, hx2, hs2⟩
    have H2 := Lib.hid (And.intro (hx0.trans hx2) hs2)
    clear hx2 hs2
    go_wp2_with fail
    go_ret2
    rw [E.out]
    exact ⟨rfl, H2.out.1, H2.out.2.cast (sep_assoc _ _ _).symm |>.left⟩
  · simp only at hk
    subst hk
    have E : Hid (S.act ⟨7, s, b, t, odd, af⟩ = ((⟨#[]⟩, 0), S.stale s)) := Lib.hid (by simp [DS.act])
    unfold AC.val AC.cells
    simp only
    go_enter Try.func16, Try.ntmps16
    go_wp2_with fail
    refine (rstale_any m S s _ _ HB.out).mono ?_
    rintro e w2 ⟨rfl, hx2, hs2⟩
    have H2 := Lib.hid (And.intro (hx0.trans hx2) hs2)
    clear hx2 hs2
    go_wp2_with fail
    go_ret2
    rw [E.out]
    exact ⟨rfl, H2.out.1, H2.out.2.cast (sep_assoc _ _ _).symm |>.left⟩
  · simp only at hk
    have E : Hid (S.act ⟨k, s, b, t, odd, af⟩ = ((⟨#[]⟩, 0), S)) := Lib.hid (by
      obtain ⟨h0, h1, h2, h3, h4, h5, h6, h7⟩ := hk
      simp [DS.act, h0, h1, h2, h3, h4, h5, h6, h7])
    obtain ⟨h0, h1, h2, h3, h4, h5, h6, h7⟩ := hk
    have g0 : (k == 0) = false := by simp [h0]
    have g1 : (k == 1) = false := by simp [h1]
    have g2 : (k == 2) = false := by simp [h2]
    have g3 : (k == 3) = false := by simp [h3]
    have g4 : (k == 4) = false := by simp [h4]
    have g5 : (k == 5) = false := by simp [h5]
    have g6 : (k == 6) = false := by simp [h6]
    have g7 : (k == 7) = false := by simp [h7]
    clear h0 h1 h2 h3 h4 h5 h6 h7
    unfold AC.val AC.cells
    simp only
    go_enter Try.func16, Try.ntmps16
    go_wp2_with fail
    go_ret2
    rw [E.out]
    exact ⟨rfl, hx0, HB.out.cast (sep_assoc _ _ _).symm |>.left⟩
end Go.Proofs.Ytcjocajpnebecaa
