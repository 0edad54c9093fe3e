/-
  log's head and commit, walked. Their condition: a state that a head can say.
-/
import Derived.Test.YtmemhoiepnlhfaaGreatDoorJF
namespace Go.Proofs.YtmemhoiepnlhfaaGreatDoor
open Go.RowKit
set_option maxRecDepth 100000

def headR (S : DS) (a : Nat) (s : St) : Int × DS := eachR S [(a, strOf (headL a s))]
def commitR (S : DS) (a : Nat) (s : St) : Int × DS := andR (headR S (1 - a) s) fun T => headR T a s

set_option maxHeartbeats 3200000 in
theorem head_log (W : World) (hE : Env W) (l d a n a0 : Nat) (s : St) (lv : Value) (br : Bool) (hs : s.ok) (ha : a < 4000) (S : DS) (hq : S.q.length ≤ 90000) (R : HProp) (w : World)
    (h : Sat w (diskP d S * (pts l (.cells (logCells s d n a0 lv br) 69) * (old W * R)))) :
    Calls Tryz.prog 46 #[.pointer (some ⟨l, 0, none⟩), .int .i64 (a : Int)] w fun r w' =>
      Ends (headR S a s).1 r ∧ Ext w w' ∧ Sat w' (diskP d (headR S a s).2 * (pts l (.cells (logCells s d n a0 lv br) 69) * (old W * R))) := by
  have hmf := Tryz.makeFn
  have H := Lib.hid (And.intro ((((Ext.refl w).alloc (.cells #[.pointer (some ⟨l, 0, none⟩)] 29)).alloc (.cells #[.int .i64 (a : Int)] 3)).alloc (.cells #[.int .i64 (a : Int)] 3))
    (((h.allocNew (.cells #[.pointer (some ⟨l, 0, none⟩)] 29)).allocNew (.cells #[.int .i64 (a : Int)] 3)).allocNew (.cells #[.int .i64 (a : Int)] 3)))
  simp only [World.size_alloc] at H
  obtain ⟨LC, hLC⟩ : ∃ LC, pts l (.cells (logCells s d n a0 lv br) 69) = LC := ⟨_, rfl⟩
  have HLC : Hid (∀ wx X, Sat wx (LC * X) → wx.cell? ⟨l, 0, none⟩ = some (.int .i64 (s.number : Int)) ∧ wx.cell? ⟨l, 1, none⟩ = some (.int .i64 (s.generation : Int)) ∧ wx.cell? ⟨l, 2, none⟩ = some (.int .i64 (s.length : Int)) ∧ wx.cell? ⟨l, 3, none⟩ = some (.pointer (some ⟨d, 0, none⟩)) ∧ l < wx.heap.size) := Lib.hid (by
    intro wx X hx
    rw [← hLC] at hx
    have := hx.log
    exact ⟨this.1, this.2.1, this.2.2.1, this.2.2.2.1, this.2.2.2.2.2.2.2.2⟩)
  rw [hLC] at H ⊢
  obtain ⟨E, hE'⟩ : ∃ E, headR S a s = E := ⟨_, rfl⟩
  have hEE : Hid (eachR S [(a, strOf (headL a s))] = E) := Lib.hid hE'
  rw [hE']
  have HE := Lib.hid hE
  clear hLC hE' h hE
  go_enter Tryz.func46, Tryz.ntmps46
  go_wp2_with fail
  generalize w.heap.size = B at *
  obtain ⟨w0, hw0⟩ : ∃ w0, ((w.alloc (.cells #[.pointer (some ⟨l, 0, none⟩)] 29)).alloc (.cells #[.int .i64 (a : Int)] 3)).alloc (.cells #[.int .i64 (a : Int)] 3) = w0 := ⟨_, rfl⟩
  rw [hw0] at H ⊢
  clear hw0
  obtain ⟨G, hG⟩ : ∃ G, pts (B + 1) (.cells #[.int .i64 (a : Int)] 3) * pts B (.cells #[.pointer (some ⟨l, 0, none⟩)] 29) = G := ⟨_, rfl⟩
  have HG : Hid (∀ wx X, Sat wx (G * X) → wx.cell? ⟨B, 0, none⟩ = some (.pointer (some ⟨l, 0, none⟩)) ∧ wx.cell? ⟨B + 1, 0, none⟩ = some (.int .i64 (a : Int))) := Lib.hid (by
    intro wx X hx
    rw [← hG] at hx
    refine ⟨?_, ?_⟩
    · rw [(hx.cast (show _ = pts B (.cells #[.pointer (some ⟨l, 0, none⟩)] 29) * (pts (B + 1) (.cells #[.int .i64 (a : Int)] 3) * X) by ac_rfl)).cell]; rfl
    · rw [(hx.cast (show _ = pts (B + 1) (.cells #[.int .i64 (a : Int)] 3) * (pts B (.cells #[.pointer (some ⟨l, 0, none⟩)] 29) * X) by ac_rfl)).cell]; rfl)
  have hrow : Sat w0 (intRow (.slice (some ⟨B + 1 + 1, 0, none⟩) 1 1) ([(a, strOf (headL a s))].map (·.1)) * (diskP d S * ((LC * (G * old W)) * R))) :=
    Sat.mkRow rfl (Nat.le_refl _) (by unfold maxLen; decide) rfl rfl (H.out.2.cast (show _ = pts (B + 1 + 1) (.cells #[.int .i64 (a : Int)] 3) * (diskP d S * ((LC * (G * old W)) * R)) by rw [← hG]; ac_rfl))
  have HX := Lib.hid H.out.1
  clear H hG
  refine (each_any l d 68 #[] #[.pointer (some ⟨B, 0, none⟩), .pointer (some ⟨B + 1, 0, none⟩)] (LC * (G * old W)) [(a, strOf (headL a s))] (by simp) (enters_of Tryz.func68 (by kernel_rfl) rfl)
    (fun wx X h => (HLC.out wx (G * (old W * X)) (h.cast (by ac_rfl))).2.2.2) (fun i p hp wx X h => ?_) S (by simp; omega) _ R w0 hrow).mono ?_
  · have hp2 : p = (a, strOf (headL a s)) := by
      have := List.mem_of_getElem? hp
      simpa using this
    subst hp2
    have h1 := HLC.out wx (G * (old W * X)) (h.cast (by ac_rfl))
    have h2 := HG.out wx (LC * (old W * X)) (h.cast (by ac_rfl))
    have h3 := env_old HE.out (h.cast (show _ = old W * (LC * (G * X)) by ac_rfl))
    exact head1_any B (B + 1) l a s hs ha wx h3 h2.1 h2.2 h1.1 h1.2.1 h1.2.2.1 _
  rintro r w2 ⟨hr, hx, hs2⟩
  rw [hEE.out] at hr hs2
  have HZ := Lib.hid (And.intro (HX.out.trans hx) ((hs2.cast (show _ = intRow (.slice (some ⟨B + 1 + 1, 0, none⟩) 1 1) ([(a, strOf (headL a s))].map (·.1)) * (G * (diskP d E.2 * (LC * (old W * R)))) by ac_rfl)).right.right))
  clear hx hs2 hrow HX
  by_cases he2 : E.1 = 0
  · have hr2 := hr
    unfold Ends at hr2
    rw [if_pos he2] at hr2
    subst hr2
    go_wp2_with fail
    go_end0
    exact ⟨hr, HZ.out⟩
  · have hr2 := hr
    unfold Ends at hr2
    rw [if_neg he2] at hr2
    subst hr2
    go_wp2_with fail
    exact ⟨rfl, hr, HZ.out⟩

set_option maxHeartbeats 3200000 in
theorem commit_log (W : World) (hE : Env W) (l d n a g ln : Nat) (s : St) (lv : Value) (br : Bool) (hs : (⟨s.number + 1, g, ln⟩ : St).ok) (ha : a ≤ 1) (S : DS) (hq : S.q.length ≤ 90000) (R : HProp) (w : World)
    (h : Sat w (diskP d S * (pts l (.cells (logCells s d n a lv br) 69) * (old W * R)))) :
    Calls Tryz.prog 43 #[.pointer (some ⟨l, 0, none⟩), .int .i64 (g : Int), .int .i64 (ln : Int)] w fun r w' =>
      Ends (commitR S a ⟨s.number + 1, g, ln⟩).1 r ∧ Ext w w' ∧ ∃ a', ((commitR S a ⟨s.number + 1, g, ln⟩).1 = 0 → a' = 0) ∧ Sat w' (diskP d (commitR S a ⟨s.number + 1, g, ln⟩).2 * (pts l (.cells (logCells ⟨s.number + 1, g, ln⟩ d n a' lv br) 69) * (old W * R))) := by
  have H0 := h.cast (show _ = pts l (.cells (logCells s d n a lv br) 69) * (diskP d S * (old W * R)) by ac_rfl)
  obtain ⟨c0, c1, c2, c3, c4, c5, c6, c7, lt⟩ := H0.log
  have z0 := H0.free 0
  have z1 := H0.free 1
  have z2 := H0.free 2
  have H := Lib.hid H0
  obtain ⟨num, g0, l0⟩ := s
  dsimp only at *
  have hnum : num < 1000000000 := by have := hs.1; dsimp only at this; omega
  obtain ⟨s', hs'⟩ : ∃ s' : St, (⟨num + 1, g, ln⟩ : St) = s' := ⟨_, rfl⟩
  have HS' := Lib.hid hs'
  rw [hs'] at hs ⊢
  obtain ⟨E, hE'⟩ : ∃ E, commitR S a s' = E := ⟨_, rfl⟩
  have hEE : Hid (andR (headR S (1 - a) s') (fun T => headR T a s') = E) := Lib.hid hE'
  rw [hE']
  clear hE' hs' h H0
  go_enter Tryz.func43, Tryz.ntmps43
  go_wp2_with fail
  have e1 : (1 : Int) - (a : Int) = ((1 - a : Nat) : Int) := by omega
  rw [e1]
  have hs1 : Sat (((w.setCell ⟨l, 0, none⟩ (.int .i64 ((num : Int) + 1))).setCell ⟨l, 1, none⟩ (.int .i64 (g : Int))).setCell ⟨l, 2, none⟩ (.int .i64 (ln : Int))) (diskP d S * (pts l (.cells (logCells ⟨num + 1, g, ln⟩ d n a lv br) 69) * (old W * R))) :=
    (((H.out.setCell _).setCell _).setCell _).cast (by
      have : (((logCells ⟨num, g0, l0⟩ d n a lv br).setIfInBounds 0 (.int .i64 ((num : Int) + 1))).setIfInBounds 1 (.int .i64 (g : Int))).setIfInBounds 2 (.int .i64 (ln : Int)) = logCells ⟨num + 1, g, ln⟩ d n a lv br := rfl
      rw [this]; ac_rfl)
  have H1 := Lib.hid (And.intro ((((Ext.refl w).setCell ⟨l, 0, none⟩ (.int .i64 ((num : Int) + 1))).setCell ⟨l, 1, none⟩ (.int .i64 (g : Int))).setCell ⟨l, 2, none⟩ (.int .i64 (ln : Int))) hs1)
  clear hs1 H c0 c1 c2 c3 c4 c5 c6 c7 z0 z1 z2 lt
  generalize ((w.setCell ⟨l, 0, none⟩ (.int .i64 ((num : Int) + 1))).setCell ⟨l, 1, none⟩ (.int .i64 (g : Int))).setCell ⟨l, 2, none⟩ (.int .i64 (ln : Int)) = w1 at *
  rw [HS'.out] at H1
  refine (head_log W hE l d (1 - a) n a s' lv br hs (by omega) S hq R w1 H1.out.2).mono ?_
  rintro r w2 ⟨hr, hx, hs2⟩
  have hq1 := each_q S [(1 - a, strOf (headL (1 - a) s'))]
  obtain ⟨E1, hE1⟩ : ∃ E1, headR S (1 - a) s' = E1 := ⟨_, rfl⟩
  have hE1' : eachR S [(1 - a, strOf (headL (1 - a) s'))] = E1 := hE1
  rw [hE1] at hr hs2 hEE
  rw [hE1'] at hq1
  have H2 := Lib.hid (And.intro (H1.out.1.trans hx) hs2)
  clear hx hs2 H1 hE1 hE1'
  by_cases he : E1.1 = 0
  · have hr2 := hr
    unfold Ends at hr2
    rw [if_pos he] at hr2
    subst hr2
    have hq2 := hq1 he
    have hEE2 : Hid (headR E1.2 a s' = E) := Lib.hid (by rw [← hEE.out, andR, if_pos he])
    have hlog := (H2.out.2.cast (show _ = pts l (.cells (logCells s' d n a lv br) 69) * (diskP d E1.2 * (old W * R)) by ac_rfl)).log
    have c5 := hlog.2.2.2.2.2.1
    have lt := hlog.2.2.2.2.2.2.2.2
    clear hlog hq1 hEE hr
    go_wp2_with fail
    refine (head_log W hE l d a n a s' lv br hs (by omega) E1.2 (by rw [hq2]; simp) R w2 H2.out.2).mono ?_
    rintro r w3 ⟨hr, hx, hs3⟩
    rw [hEE2.out] at hr hs3
    have H3 := Lib.hid (And.intro (H2.out.1.trans hx) hs3)
    clear hx hs3 H2 c5 lt
    by_cases he2 : E.1 = 0
    · have hr2 := hr
      unfold Ends at hr2
      rw [if_pos he2] at hr2
      subst hr2
      have hl3 := H3.out.2.cast (show _ = pts l (.cells (logCells s' d n a lv br) 69) * (diskP d E.2 * (old W * R)) by ac_rfl)
      have c5 := hl3.log.2.2.2.2.2.1
      have lt := hl3.log.2.2.2.2.2.2.2.2
      have z5 := hl3.free 5
      have H4 : Hid (Ext w (w3.setCell ⟨l, 5, none⟩ (.int .i64 0)) ∧ Sat (w3.setCell ⟨l, 5, none⟩ (.int .i64 0)) (diskP d E.2 * (pts l (.cells (logCells s' d n 0 lv br) 69) * (old W * R)))) :=
        Lib.hid ⟨H3.out.1.setCell _ _, (hl3.setCell _).cast (by
          have : (logCells s' d n a lv br).setIfInBounds 5 (.int .i64 0) = logCells s' d n 0 lv br := rfl
          rw [this]; ac_rfl)⟩
      clear hl3 H3
      go_wp2_with fail
      go_end0
      exact ⟨hr, H4.out.1, 0, fun _ => rfl, H4.out.2⟩
    · have hr2 := hr
      unfold Ends at hr2
      rw [if_neg he2] at hr2
      subst hr2
      go_wp2_with fail
      exact ⟨rfl, hr, H3.out.1, a, fun h => absurd h he2, H3.out.2⟩
  · have hEE2 : Hid (E1 = E) := Lib.hid (by rw [← hEE.out, andR, if_neg he])
    rw [hEE2.out] at he hr H2
    have hr2 := hr
    unfold Ends at hr2
    rw [if_neg he] at hr2
    subst hr2
    clear hEE hq1 hEE2
    go_wp2_with fail
    exact ⟨rfl, hr, H2.out.1, a, fun h => absurd h he, H2.out.2⟩
end Go.Proofs.YtmemhoiepnlhfaaGreatDoor
