/-
  log's attempt, walked. Its condition: the contract of the closure that it is handed.
-/
import Derived.Test.YtmemhoiepnlhfaaGreatDoorJK
namespace Go.Proofs.YtmemhoiepnlhfaaGreatDoor
open Go.RowKit
set_option maxRecDepth 100000

set_option maxHeartbeats 3200000 in
theorem attempt_full (l d n a parts used : Nat) (s : St) (lv f : Value) (hn : 2 ≤ n ∧ n ≤ 4000) (hp : parts ≤ 1000000 ∧ used ≤ 1000000) (h9 : halfN n < used + parts ∨ s.number = 999999999) (X : HProp) (w : World)
    (h : Sat w (pts l (.cells (logCells s d n a lv false) 69) * X)) :
    Calls Tryz.prog 40 #[.pointer (some ⟨l, 0, none⟩), .int .i64 (parts : Int), .int .i64 (used : Int), f] w fun r w' => r = .returned (.int .i64 18) ∧ Kept w w' := by
  obtain ⟨c0, c1, c2, c3, c4, c5, c6, c7, lt⟩ := h.log
  have HH := Lib.hid (fun w h => half_any l n hn w h)
  have hh : halfN n ≤ 4000 := by unfold halfN; omega
  have H := Lib.hid h
  clear h
  by_cases hc : halfN n < used + parts
  · generalize halfN n = hf at *
    have hc' : (hf : Int) < (used : Int) + (parts : Int) := by omega
    go_enter_defers Tryz.func40, Tryz.ntmps40
    go_wp2_with (go_at_call 33; refine (HH.out _ (by simp [World.cell?_alloc_some, c4])).mono ?_; rintro r w1 ⟨rfl, rfl⟩)
    simp [bodyPostD, Leaves, results, Tryz.results40, go_sem]
    exact ((Kept.refl w).alloc _).alloc _
  · have h9' : s.number = 999999999 := h9.resolve_left hc
    generalize halfN n = hf at *
    have hc' : ¬ (hf : Int) < (used : Int) + (parts : Int) := by omega
    rw [h9'] at c0
    go_enter_defers Tryz.func40, Tryz.ntmps40
    go_wp2_with (go_at_call 33; refine (HH.out _ (by simp [World.cell?_alloc_some, c4])).mono ?_; rintro r w1 ⟨rfl, rfl⟩)
    simp [bodyPostD, Leaves, results, Tryz.results40, go_sem]
    exact ((Kept.refl w).alloc _).alloc _

set_option maxHeartbeats 3200000 in
theorem attempt_run (l d n a parts used g : Nat) (cap : Array Value) (s : St) (lb : Option Addr) (lm lc : Nat) (hn : 2 ≤ n ∧ n ≤ 4000) (hp : parts ≤ 1000000 ∧ used ≤ 1000000) (h8 : used + parts ≤ halfN n) (h9 : s.number ≠ 999999999)
    (eg : ∀ args w, (callFunc g args).run Tryz.prog w = .ok (.enter g args) w) (S : DS) (E : Int × DS) (F F1 : HProp) (POST : Value → HProp)
    (hf : ∀ wx X, Sat wx (diskP d S * (pts l (.cells (logCells s d n a (.slice lb lm lc) false) 69) * (F * X))) → Calls Tryz.prog g cap wx fun r w' => Ends E.1 r ∧ Ext wx w' ∧
      (E.1 = 0 → ∃ v, Sat w' (POST v * X)) ∧ (E.1 ≠ 0 → ∃ s' a', Sat w' (diskP d E.2 * (pts l (.cells (logCells s' d n a' (.slice lb lm lc) false) 69) * (F1 * X)))))
    (R : HProp) (w : World) (h : Sat w (diskP d S * (pts l (.cells (logCells s d n a (.slice lb lm lc) false) 69) * (F * R)))) :
    Calls Tryz.prog 40 #[.pointer (some ⟨l, 0, none⟩), .int .i64 (parts : Int), .int .i64 (used : Int), .func (.func g) #[] cap] w fun r w' => r = .returned (.int .i64 E.1) ∧ Ext w w' ∧
      (E.1 = 0 → ∃ v, Sat w' (POST v * R)) ∧ (E.1 ≠ 0 → Sat w' (diskP d E.2 * (pts l (.cells (logCells s d n a (.slice lb lm lc) true) 69) * (F1 * R)))) := by
  have hmf := Tryz.makeFn
  have h0 := h.cast (show _ = pts l (.cells (logCells s d n a (.slice lb lm lc) false) 69) * (diskP d S * (F * R)) by ac_rfl)
  obtain ⟨c0, c1, c2, c3, c4, c5, c6, c7, lt⟩ := h0.log
  have HH := Lib.hid (fun w h => half_any l n hn w h)
  have hh : halfN n ≤ 4000 := by unfold halfN; omega
  have HF := Lib.hid hf
  have H := Lib.hid h
  have h9' : ((s.number : Int) == 999999999) = false := by rw [beq_eq_false_iff_ne]; omega
  clear h hf h0
  generalize halfN n = hv at *
  have hc' : ¬ (hv : Int) < (used : Int) + (parts : Int) := by omega
  go_enter_defers Tryz.func40, Tryz.ntmps40
  go_wp2_with (go_at_call 33; refine (HH.out _ (by simp [World.cell?_alloc_some, c4])).mono ?_; rintro r w1 ⟨rfl, rfl⟩)
  have hx0 := ((((Ext.refl w).alloc (.cells #[.pointer (some ⟨l, 0, none⟩)] 29)).alloc (.cells #[.int .i64 0] 27)).alloc (.cells (logCells s d n a (.slice lb lm lc) false) 69))
  have hs0 := (((H.out.allocNew (.cells #[.pointer (some ⟨l, 0, none⟩)] 29)).allocNew (.cells #[.int .i64 0] 27)).allocNew (.cells (logCells s d n a (.slice lb lm lc) false) 69))
  simp only [World.size_alloc] at hs0
  have hs1 := hs0.cast (show _ = diskP d S * (pts l (.cells (logCells s d n a (.slice lb lm lc) false) 69) * (F * (pts (w.heap.size + 1 + 1) (.cells (logCells s d n a (.slice lb lm lc) false) 69) * (pts (w.heap.size + 1) (.cells #[.int .i64 0] 27) * (pts w.heap.size (.cells #[.pointer (some ⟨l, 0, none⟩)] 29) * R))))) by ac_rfl)
  refine (HF.out _ _ hs1).mono ?_
  rintro r w1 ⟨hr, hx, hok, hno⟩
  have HX := Lib.hid (hx0.trans hx)
  clear hx0 hs0 hs1 hx HF H c0 c1 c2 c3 c4 c5 c6 c7 lt HH
  by_cases he : E.1 = 0
  · have hr2 := ends_zero hr he
    subst hr2
    obtain ⟨v, hv'⟩ := hok he
    have hs2 := hv'.cast (show _ = pts (w.heap.size + 1) (.cells #[.int .i64 0] 27) * (pts (w.heap.size + 1 + 1) (.cells (logCells s d n a (.slice lb lm lc) false) 69) * (pts w.heap.size (.cells #[.pointer (some ⟨l, 0, none⟩)] 29) * (POST v * R))) by ac_rfl)
    have ce : w1.cell? ⟨w.heap.size + 1, 0, none⟩ = some (.int .i64 0) := by rw [hs2.cell]; rfl
    have ze := hs2.free 0
    have te := hs2.lt
    have hs3 := hs2.setCell (i := 0) (.int .i64 0)
    have HS := Lib.hid hs3
    have hce : (w1.setCell ⟨w.heap.size + 1, 0, none⟩ (.int .i64 0)).cell? ⟨w.heap.size + 1, 0, none⟩ = some (.int .i64 0) := by rw [hs3.cell]; rfl
    have HX2 := Lib.hid (HX.out.setCell ⟨w.heap.size + 1, 0, none⟩ (.int .i64 0))
    clear hok hno hv' hs2 hs3 HX
    go_wp2_with fail
    clear ce ze te
    refine leaves_cons (f := 64) (args := #[.pointer (some ⟨w.heap.size + 1 + 1, 0, none⟩), .pointer (some ⟨w.heap.size, 0, none⟩), .pointer (some ⟨w.heap.size + 1, 0, none⟩)]) (by simp) (by simp [go_sem]) ?_
    refine (catch_idle _ _ _ _).mono ?_
    rintro e u' w'' ⟨rfl, rfl, rfl⟩
    rw [he]
    generalize w1.setCell _ _ = w2 at *
    simp [Leaves, settle, results, Tryz.results40, go_sem, hce]
    exact ⟨HX2.out, v, (HS.out.cast (show _ = (pts (w.heap.size + 1) (.cells _ 27)) * (pts (w.heap.size + 1 + 1) (.cells (logCells s d n a (.slice lb lm lc) false) 69) * (pts w.heap.size (.cells #[.pointer (some ⟨l, 0, none⟩)] 29) * (POST v * R))) from rfl)).right.right.right⟩
  · have hr2 := ends_dead hr he
    subst hr2
    obtain ⟨s', a', hs2⟩ := hno he
    have hs3 := hs2.cast (show _ = pts (w.heap.size + 1 + 1) (.cells (logCells s d n a (.slice lb lm lc) false) 69) * (pts w.heap.size (.cells #[.pointer (some ⟨l, 0, none⟩)] 29) * (pts (w.heap.size + 1) (.cells #[.int .i64 0] 27) * (pts l (.cells (logCells s' d n a' (.slice lb lm lc) false) 69) * (diskP d E.2 * (F1 * R))))) by ac_rfl)
    clear hok hno hs2
    go_wp2_with fail
    refine leaves_cons (f := 64) (args := #[.pointer (some ⟨w.heap.size + 1 + 1, 0, none⟩), .pointer (some ⟨w.heap.size, 0, none⟩), .pointer (some ⟨w.heap.size + 1, 0, none⟩)]) (by simp) (by simp [go_sem]) ?_
    refine (catch_panic _ _ _ l d n a s lb lm lc _ _ _ _ _ _ _ _ 0 E.1 [] _ w1 hs3).mono ?_
    rintro e u' w2 ⟨rfl, rfl, hx2, hs4⟩
    have hs5 := hs4.cast (show _ = pts (w.heap.size + 1) (.cells #[.int .i64 E.1] 27) * (pts (w.heap.size + 1 + 1) (.cells (logCells s d n a (.slice lb lm lc) false) 69) * (pts w.heap.size (.cells #[.pointer (some ⟨l, 0, none⟩)] 29) * (diskP d E.2 * (pts l (.cells (logCells s d n a (.slice lb lm lc) true) 69) * (F1 * R))))) by ac_rfl)
    have hce : w2.cell? ⟨w.heap.size + 1, 0, none⟩ = some (.int .i64 E.1) := by rw [hs5.cell]; rfl
    simp [Leaves, settle, results, Tryz.results40, go_sem, hce, he]
    exact ⟨HX.out.trans hx2, hs5.right.right.right⟩
end Go.Proofs.YtmemhoiepnlhfaaGreatDoor
