/-
  Append's closure, walked (some 5 minutes to build). Its condition: what it has captured lies in memory.
-/
import Derived.Test.YtmemhoiepnlhfaaGreatDoorJH
namespace Go.Proofs.YtmemhoiepnlhfaaGreatDoor
open Go.RowKit
set_option maxRecDepth 100000

theorem append_fin {w : World} {l d n : Nat} {s : St} {lv V : Value} {bk : Bool} {list : List ByteArray} {rec : ByteArray} {D : DS} {W : World} {R B C P Y : HProp}
    (h : Sat w (pts l (.cells ((logCells s d n 0 lv bk).setIfInBounds 6 V) 69) * (C * (rowP 9 1 V (list.length + 1) (list.map Value.string ++ [.string rec]) * (B * (P * Y)))))) (hY : diskP d D * (old W * R) = Y) :
    Sat w (diskP d D * (pts l (.cells (logCells s d n 0 V bk) 69) * (strRow V (list ++ [rec]) * (old W * R)))) := by
  have e1 : (logCells s d n 0 lv bk).setIfInBounds 6 V = logCells s d n 0 V bk := rfl
  have e2 : rowP 9 1 V (list.length + 1) (list.map Value.string ++ [.string rec]) = strRow V (list ++ [rec]) := by unfold strRow; simp
  rw [e1, e2, ← hY] at h
  exact (h.cast (show _ = C * (B * (P * (diskP d D * (pts l (.cells (logCells s d n 0 V bk) 69) * (strRow V (list ++ [rec]) * (old W * R)))))) by ac_rfl)).right.right.right

set_option maxHeartbeats 6400000 in
theorem append1_log (W : World) (hE : Env W) (l d n a bl bp br : Nat) (s : St) (lv pv : Value) (bk : Bool) (list parts : List ByteArray) (rec : ByteArray) (hs : (⟨s.number + 1, s.generation, s.length + parts.length⟩ : St).ok) (ha : a ≤ 1) (hn : 2 ≤ n ∧ n ≤ 4000)
    (hll : list.length ≤ 100000) (S : DS) (hq : S.q.length ≤ 80000) (R : HProp) (w : World)
    (h : Sat w (diskP d S * (pts l (.cells (logCells s d n a lv bk) 69) * (appCap l bl bp br pv rec parts * (strRow lv list * (old W * R)))))) :
    Calls Tryz.prog 50 #[.pointer (some ⟨bl, 0, none⟩), .pointer (some ⟨bp, 0, none⟩), .pointer (some ⟨br, 0, none⟩)] w fun r w' =>
      Ends (appendBody S a n s parts).1 r ∧ Ext w w' ∧
      ((appendBody S a n s parts).1 = 0 → ∃ lv', Sat w' (diskP d (appendBody S a n s parts).2 * (pts l (.cells (logCells ⟨s.number + 1, s.generation, s.length + parts.length⟩ d n 0 lv' bk) 69) * (strRow lv' (list ++ [rec]) * (old W * R))))) ∧
      ((appendBody S a n s parts).1 ≠ 0 → ∃ s' a', Sat w' (diskP d (appendBody S a n s parts).2 * (pts l (.cells (logCells s' d n a' lv bk) 69) * (strRow lv list * (old W * R))))) := by
  obtain ⟨num, g, ln⟩ := s
  dsimp only at *
  have hb : num < 1000000000 ∧ g < 1000000 ∧ ln + parts.length < 10000 := ⟨by have := hs.1; dsimp only at this; omega, hs.2.1, hs.2.2⟩
  obtain ⟨hb1, hb2, hb3⟩ := hb
  obtain ⟨E, hE'⟩ : ∃ E, appendBody S a n ⟨num, g, ln⟩ parts = E := ⟨_, rfl⟩
  have hEE : Hid (andR (writeR S (startN n g + ln) g parts) (fun T => commitR T a ⟨num + 1, g, ln + parts.length⟩) = E) := Lib.hid hE'
  rw [hE']
  obtain ⟨vb, vc, rfl, hvb⟩ := (h.cast (show _ = appCap l bl bp br pv rec parts * (diskP d S * (pts l (.cells (logCells ⟨num, g, ln⟩ d n a lv bk) 69) * (strRow lv list * (old W * R)))) by ac_rfl)).appCap.2.2.2.2.2.2.strForm
  obtain ⟨C, hC⟩ : ∃ C, appCap l bl bp br (.slice vb parts.length vc) rec parts = C := ⟨_, rfl⟩
  have HC : Hid (∀ wx X, Sat wx (C * X) → wx.cell? ⟨bl, 0, none⟩ = some (.pointer (some ⟨l, 0, none⟩)) ∧ wx.cell? ⟨bp, 0, none⟩ = some (.slice vb parts.length vc) ∧ wx.cell? ⟨br, 0, none⟩ = some (.string rec) ∧ bl < wx.heap.size ∧ bp < wx.heap.size ∧ br < wx.heap.size ∧ Sat wx (strRow (.slice vb parts.length vc) parts * X)) := Lib.hid (by
    intro wx X hx
    rw [← hC] at hx
    exact hx.appCap)
  have HB : Hid (∀ (i : Nat) x, parts[i]? = some x → ∃ b o, vb = some ⟨b, o, none⟩ ∧ ∀ wx X, Sat wx ((pts l (.cells (logCells ⟨num, g, ln⟩ d n a lv bk) 69) * C) * X) → wx.cell? ⟨b, o + i, none⟩ = some (.string x)) := Lib.hid (by
    intro i x hi
    obtain ⟨g', rfl⟩ := hvb i x hi
    refine ⟨g', 0, rfl, fun wx X hx => ?_⟩
    rw [← hC] at hx
    exact (hx.cast (show _ = appCap l bl bp br (.slice (some ⟨g', 0, none⟩) parts.length vc) rec parts * (pts l (.cells (logCells ⟨num, g, ln⟩ d n a lv bk) 69) * X) by ac_rfl)).appCap.2.2.2.2.2.2.strCell i x hi)
  rw [hC] at h
  have H := Lib.hid (And.intro (Ext.refl w) h)
  clear hE' h hC
  have hl0 := (H.out.2.cast (show _ = pts l (.cells (logCells ⟨num, g, ln⟩ d n a lv bk) 69) * (diskP d S * (C * (strRow lv list * (old W * R)))) by ac_rfl)).log
  have hc0 := HC.out w (diskP d S * (pts l (.cells (logCells ⟨num, g, ln⟩ d n a lv bk) 69) * (strRow lv list * (old W * R)))) (H.out.2.cast (by ac_rfl))
  have f0 : Hid (w.drew.cell? ⟨bl, 0, none⟩ = some (.pointer (some ⟨l, 0, none⟩)) ∧ w.drew.cell? ⟨bp, 0, none⟩ = some (.slice vb parts.length vc) ∧ w.drew.cell? ⟨l, 1, none⟩ = some (.int .i64 (g : Int)) ∧ w.drew.cell? ⟨l, 2, none⟩ = some (.int .i64 (ln : Int)) ∧ w.drew.cell? ⟨l, 4, none⟩ = some (.int .i64 (n : Int))) :=
    Lib.hid ⟨hc0.1, hc0.2.1, hl0.2.1, hl0.2.2.1, hl0.2.2.2.2.1⟩
  have lt0 := hl0.2.2.2.2.2.2.2.2
  have lt1 := hc0.2.2.2.1
  have lt2 := hc0.2.2.2.2.1
  have HS := Lib.hid (fun wx h => lstart_any l n g hn (by omega) wx h)
  have hst : startN n g ≤ 8000 := by
    unfold startN halfN
    have hm : g % 2 = 0 ∨ g % 2 = 1 := by omega
    rcases hm with hm | hm <;> rw [hm] <;> omega
  obtain ⟨st, hst'⟩ : ∃ st, startN n g = st := ⟨_, rfl⟩
  rw [hst'] at HS hst hEE
  have hwr : IntKind.i64.wrap ((st : Int) + (ln : Int)) = (st : Int) + (ln : Int) := by rw [IntKind.wrap_i64]; omega
  have hPW : Hid (∀ wx, Sat wx (diskP d S * ((pts l (.cells (logCells ⟨num, g, ln⟩ d n a lv bk) 69) * C) * (strRow lv list * (old W * R)))) → Calls Tryz.prog 42 #[.pointer (some ⟨l, 0, none⟩), .int .i64 ((st : Int) + (ln : Int)), .int .i64 (g : Int), .slice vb parts.length vc] wx fun r w' =>
      Ends (writeR S (st + ln) g parts).1 r ∧ Ext wx w' ∧ Sat w' (diskP d (writeR S (st + ln) g parts).2 * ((pts l (.cells (logCells ⟨num, g, ln⟩ d n a lv bk) 69) * C) * (strRow lv list * (old W * R))))) := Lib.hid (by
    intro wx hx
    have := write_log l d (st + ln) g vb vc parts (pts l (.cells (logCells ⟨num, g, ln⟩ d n a lv bk) 69) * C) (by omega) (fun wy X h => by
      have := (h.cast (show _ = pts l (.cells (logCells ⟨num, g, ln⟩ d n a lv bk) 69) * (C * X) by ac_rfl)).log
      exact ⟨this.2.2.2.1, this.2.2.2.2.2.2.2.2⟩) HB.out S (by omega) (strRow lv list * (old W * R)) wx hx
    rwa [show ((st + ln : Nat) : Int) = (st : Int) + (ln : Int) by omega] at this)
  have hq0 := write_q0 S (st + ln) g parts
  obtain ⟨E1, hE1⟩ : ∃ E1, writeR S (st + ln) g parts = E1 := ⟨_, rfl⟩
  rw [hE1] at hPW hEE hq0
  have H0 := Lib.hid (And.intro H.out.1.drew (H.out.2.drew.cast (show _ = diskP d S * ((pts l (.cells (logCells ⟨num, g, ln⟩ d n a lv bk) 69) * C) * (strRow lv list * (old W * R))) by ac_rfl)))
  clear hst' hE1 hl0 hc0 H HB
  go_enter Tryz.func50, Tryz.ntmps50
  go_wp2_with fail
  by_cases he : E1.1 = 0
  · go_region_held3 (fun wx => wx.cell? ⟨bl, 0, none⟩ = some (.pointer (some ⟨l, 0, none⟩)) ∧ wx.cell? ⟨bp, 0, none⟩ = some (.slice vb parts.length vc) ∧ wx.cell? ⟨l, 1, none⟩ = some (.int .i64 (g : Int)) ∧ wx.cell? ⟨l, 2, none⟩ = some (.int .i64 (ln : Int)) ∧ wx.cell? ⟨l, 4, none⟩ = some (.int .i64 (n : Int)))
      (first | exact f0.out | exact f1.out)
      (first
        | (go_at_call 34; refine (HS.out _ f0.out.2.2.2.2).mono ?_; rintro r w1 ⟨rfl, rfl⟩)
        | (go_at_call 42; refine (hPW.out _ H0.out.2).mono ?_; rintro r w1 ⟨hr, hx, hs1⟩; have hr2 := ends_zero hr he; subst hr2; have H1 := Lib.hid (And.intro (H0.out.1.trans hx) hs1);
           have hl1 := (hs1.cast (show _ = pts l (.cells (logCells ⟨num, g, ln⟩ d n a lv bk) 69) * (C * (diskP d E1.2 * (strRow lv list * (old W * R)))) by ac_rfl)).log;
           have hc1 := HC.out _ (pts l (.cells (logCells ⟨num, g, ln⟩ d n a lv bk) 69) * (diskP d E1.2 * (strRow lv list * (old W * R)))) (hs1.cast (by ac_rfl));
           have f1 := Lib.hid (And.intro hc1.1 (And.intro hc1.2.1 (And.intro hl1.2.1 (And.intro hl1.2.2.1 hl1.2.2.2.2.1)))); have lt3 := hl1.2.2.2.2.2.2.2.2; have lt4 := hc1.2.2.2.1; have lt5 := hc1.2.2.2.2.1; clear hl1 hc1 hs1 hx))
    go_wp2_with fail
    have hq1 := hq0 he
    have hEE2 : Hid (commitR E1.2 a ⟨num + 1, g, ln + parts.length⟩ = E) := Lib.hid (by rw [← hEE.out, andR, if_pos he])
    have hwr2 : IntKind.i64.wrap ((ln : Int) + (parts.length : Int)) = (ln : Int) + (parts.length : Int) := by rw [IntKind.wrap_i64]; omega
    have hPC : Hid (∀ wx, Sat wx (diskP d E1.2 * ((pts l (.cells (logCells ⟨num, g, ln⟩ d n a lv bk) 69) * C) * (strRow lv list * (old W * R)))) → Calls Tryz.prog 43 #[.pointer (some ⟨l, 0, none⟩), .int .i64 (g : Int), .int .i64 ((ln : Int) + (parts.length : Int))] wx fun r w' =>
        Ends E.1 r ∧ Ext wx w' ∧ ∃ a', (E.1 = 0 → a' = 0) ∧ Sat w' (diskP d E.2 * (pts l (.cells (logCells ⟨num + 1, g, ln + parts.length⟩ d n a' lv bk) 69) * (C * (strRow lv list * (old W * R)))))) := Lib.hid (by
      intro wx hx
      have := commit_log W hE l d n a g (ln + parts.length) ⟨num, g, ln⟩ lv bk hs ha E1.2 (by rw [hq1]; simp) (C * (strRow lv list * R)) wx (hx.cast (by ac_rfl))
      rw [show ((ln + parts.length : Nat) : Int) = (ln : Int) + (parts.length : Int) by omega] at this
      rw [hEE2.out] at this
      refine this.mono ?_
      rintro r w' ⟨h1, h2, a', h3, h4⟩
      exact ⟨h1, h2, a', h3, h4.cast (by ac_rfl)⟩)
    have f2 : Hid (w1.drew.cell? ⟨bl, 0, none⟩ = some (.pointer (some ⟨l, 0, none⟩)) ∧ w1.drew.cell? ⟨bp, 0, none⟩ = some (.slice vb parts.length vc) ∧ w1.drew.cell? ⟨l, 1, none⟩ = some (.int .i64 (g : Int)) ∧ w1.drew.cell? ⟨l, 2, none⟩ = some (.int .i64 (ln : Int))) :=
      Lib.hid ⟨f1.out.1, f1.out.2.1, f1.out.2.2.1, f1.out.2.2.2.1⟩
    have H2 := Lib.hid (And.intro H1.out.1.drew H1.out.2.drew)
    clear f0 f1 H0 H1 hPW HS hEE hq0 hr
    obtain ⟨q0, q1, q2, q3⟩ := f2.out
    (refine wp_region_still_tail 14 (by kernel_rfl) (by kernel_rfl) ?_; simp only [List.take_succ_cons, List.take_zero, List.drop_succ_cons, List.drop_zero]; change wpStill _ _ (World.drew _) _ _ _; (repeat (refine wpStill_step (fun K hK => ?_); go_simp; refine hK _ ?_; clear hK K)); refine wpStill_nil ?_; change wpList _ _ _ _ _ (World.drew _))
    go_wp2_with fail
    clear q0 q1 q2 q3 f2 hst hwr hwr2
    refine (hPC.out _ H2.out.2).mono ?_
    rintro r w2 ⟨hr, hx, a', ha', hs1⟩
    have HZ0 := Lib.hid (And.intro (H2.out.1.trans hx) hs1)
    clear hx hs1 H2 hPC hEE2
    by_cases he2 : E.1 = 0
    · have hr2 := ends_zero hr he2
      subst hr2
      have ha0 := ha' he2
      subst ha0
      have hs1 := HZ0.out.2
      have hl1 := (hs1.cast (show _ = pts l (.cells (logCells ⟨num + 1, g, ln + parts.length⟩ d n 0 lv bk) 69) * (C * (diskP d E.2 * (strRow lv list * (old W * R)))) by ac_rfl)).log
      have hc1 := HC.out _ (pts l (.cells (logCells ⟨num + 1, g, ln + parts.length⟩ d n 0 lv bk) 69) * (diskP d E.2 * (strRow lv list * (old W * R)))) (hs1.cast (by ac_rfl))
      have q0 := hc1.1
      have q1 := hc1.2.2.1
      have q2 := hl1.2.2.2.2.2.2.1
      have t0 := hl1.2.2.2.2.2.2.2.2
      have t1 := hc1.2.2.2.1
      have t2 := hc1.2.2.2.2.2.1
      clear hs1 hl1 hc1
      go_wp2_with fail
      have HX : Hid (∀ wx Y, Sat wx (pts l (.cells (logCells ⟨num + 1, g, ln + parts.length⟩ d n 0 lv bk) 69) * (C * Y)) → wx.cell? ⟨bl, 0, none⟩ = some (.pointer (some ⟨l, 0, none⟩)) ∧ wx.cell? ⟨br, 0, none⟩ = some (.string rec) ∧ wx.cell? ⟨l, 6, none⟩ = some lv ∧ wx.frozen? ⟨l, 6, none⟩ = false ∧ l < wx.heap.size ∧ bl < wx.heap.size ∧ br < wx.heap.size) := Lib.hid (by
        intro wx Y h
        have h1 := h.log
        have h2 := HC.out wx _ h.comm3
        exact ⟨h2.1, h2.2.2.1, h1.2.2.2.2.2.2.1, h.free 6, h.lt, h2.2.2.2.1, h2.2.2.2.2.2.1⟩)
      have HA := Lib.hid (HZ0.out.2.drew.cast (show _ = strRow lv list * (pts l (.cells (logCells ⟨num + 1, g, ln + parts.length⟩ d n 0 lv bk) 69) * (C * (diskP d E.2 * (old W * R)))) by ac_rfl))
      have HB := Lib.hid ((HZ0.out.2.drew.allocNew (.cells #[.string rec] 9)).cast (show _ = strRow lv list * (pts w2.drew.heap.size (.cells #[.string rec] 9) * (pts l (.cells (logCells ⟨num + 1, g, ln + parts.length⟩ d n 0 lv bk) 69) * (C * (diskP d E.2 * (old W * R))))) by ac_rfl))
      have HCl := Lib.hid (fun X w h => clone_log lv list hll X w h)
      obtain ⟨i0, hi0, hz0, hz1, hz2⟩ := info_parts Tryz.infoString
      have hex := HZ0.out.1
      obtain ⟨Y1, hY1⟩ : ∃ Y1, diskP d E.2 * (old W * R) = Y1 := ⟨_, rfl⟩
      rw [hY1] at HA HB
      have HY := Lib.hid hY1
      clear hY1 HZ0 HC
      go_region_law (first
        | (go_simp; go_at_call 37; refine (HCl.out _ _ HA.out).mono ?_; rintro r w3 ⟨v', rfl, hk3, hs3⟩;
           obtain ⟨p0, p1, p2, p3, p4, p5, p6⟩ := HX.out w3 _ hs3.rot4;
           have H5 := Lib.hid (And.intro ((hex.drew.trans hk3.ext).alloc (.cells #[.string rec] 9)) (hs3.allocNew (.cells #[.string rec] 9)).comm3);
           have HN := Lib.hid (World.news_of_block (heap_alloc_new w3 (.cells #[.string rec] 9)));
           clear HA HB hs3 hk3 hex; go_simp)
        | (go_simp; go_at_call 37; refine (HCl.out _ _ HB.out).mono ?_; rintro r w3 ⟨v', rfl, hk3, hs3⟩;
           obtain ⟨p0, p1, p2, p3, p4, p5, p6⟩ := HX.out w3 _ hs3.rot5;
           have H5 := Lib.hid (And.intro ((hex.drew.alloc (.cells #[.string rec] 9)).trans hk3.ext) hs3.swap23);
           have HN := Lib.hid (World.news_of_block (hk3.keep _ _ (heap_alloc_new w2.drew (.cells #[.string rec] 9))));
           clear HA HB hs3 hk3 hex; go_simp)
        | (refine step_append_lies _ rfl (.tmp 44) (.tmp 46) 22 rfl 0 9 i0 (.string ⟨#[]⟩) 1 16 (by kernel_rfl) hi0 hz0 hz1 hz2 rfl (by decide) v' list.length (list.map Value.string) rfl H5.out.2.owns _ 1 1 [.string rec] rfl rfl HN.out (by simp [Value.oneCell']) (by decide) (by unfold maxLen; omega) (by omega) (Nat.zero_le _) _ rfl ?_; intro gg cap w4 hown hgrow hat hlt4; have hl4 := (H5.out.2.appended hown hgrow hat).rot5;
           clear p0 p1 p2 p3 p4 p5 p6; obtain ⟨p0, p1, p2, p3, p4, p5, p6⟩ := HX.out w4 _ hl4;
           have H6 := Lib.hid (And.intro ((H5.out.1.grown hgrow).setCell ⟨l, 6, none⟩ (.slice (some ⟨gg, 0, none⟩) (list.length + 1) cap)) (hl4.setCell (i := 6) (.slice (some ⟨gg, 0, none⟩) (list.length + 1) cap))); clear hown hgrow hat hlt4 hl4 HN H5))
      all_goals
        clear p0 p1 p2 p3 p4 p5 p6
        go_wp2_with fail
        go_end0
        exact ⟨hr, H6.out.1, fun _ => ⟨_, append_fin H6.out.2 HY.out⟩, fun h => absurd he2 h⟩
    · have hr2 := ends_dead hr he2
      subst hr2
      go_wp2_with fail
      exact ⟨rfl, hr, HZ0.out.1, fun h => absurd h he2, fun _ => ⟨_, _, (HZ0.out.2.cast (show _ = C * (diskP d E.2 * (pts l (.cells (logCells ⟨num + 1, g, ln + parts.length⟩ d n a' lv bk) 69) * (strRow lv list * (old W * R)))) by ac_rfl)).right⟩⟩
  · have hEE2 : Hid (E1 = E) := Lib.hid (by rw [← hEE.out, andR, if_neg he])
    rw [hEE2.out] at he hPW
    clear hEE hq0 hEE2
    refine Code.wp_mono (Q := Dies E.1 (fun w' => Ext w w' ∧ Sat w' (diskP d E.2 * ((pts l (.cells (logCells ⟨num, g, ln⟩ d n a lv bk) 69) * C) * (strRow lv list * (old W * R)))))) (fun e a' w' h => ?_) ?_
    · cases e with
      | panic c =>
        obtain ⟨hd, rfl, hx, hs⟩ := h
        exact ⟨hd, ends_no he, hx, fun h => absurd h he, fun _ => ⟨_, _, (hs.cast (show _ = C * (diskP d E.2 * (pts l (.cells (logCells ⟨num, g, ln⟩ d n a lv bk) 69) * (strRow lv list * (old W * R)))) by ac_rfl)).right⟩⟩
      | _ => exact (h : False).elim
    go_region_held2 (fun wx => wx.cell? ⟨bl, 0, none⟩ = some (.pointer (some ⟨l, 0, none⟩)) ∧ wx.cell? ⟨bp, 0, none⟩ = some (.slice vb parts.length vc) ∧ wx.cell? ⟨l, 1, none⟩ = some (.int .i64 (g : Int)) ∧ wx.cell? ⟨l, 2, none⟩ = some (.int .i64 (ln : Int)) ∧ wx.cell? ⟨l, 4, none⟩ = some (.int .i64 (n : Int)))
      (first | exact f0.out | exact hno.out.elim)
      (first
        | (go_at_call 34; refine (HS.out _ f0.out.2.2.2.2).mono ?_; rintro r w1 ⟨rfl, rfl⟩)
        | (go_at_call 42; refine (hPW.out _ H0.out.2).mono ?_; rintro r w1 ⟨hr, hx, hs1⟩; rcases ends_either hr he with ⟨rfl, hno⟩ | rfl; rotate_left; (exact ⟨rfl, rfl, H0.out.1.trans hx, hs1⟩)))
    exact hno.out.elim
end Go.Proofs.YtmemhoiepnlhfaaGreatDoor
