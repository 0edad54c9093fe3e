/-
  The ref disk's Write and Read, walked. Their condition: less than 1000000 pending writes.
-/
import Derived.Test.YtcjocajpnebecaaR4
namespace Go.Proofs.Ytcjocajpnebecaa
open Go.RowKit

theorem pCells_snoc (q : List (Nat × ByteArray)) (p : Nat × ByteArray) : pCells (q ++ [p]) = pCells q ++ pCell p := by simp [pCells]
theorem pCell_one (p : Nat × ByteArray) : ∀ u ∈ pCell p, u.oneCell' = true := by
  intro u hu
  simp only [pCell, List.mem_cons, List.not_mem_nil, or_false] at hu
  rcases hu with rfl | rfl <;> rfl
theorem Try.infoRefPending : (Try.prog.info? 73).map (fun i => (i.zero, i.size, i.bytes)) = some (some (.agg #[.int .i64 0, .string ⟨#[]⟩]), 2, 24) := by kernel_rfl

set_option maxRecDepth 100000 in
set_option maxHeartbeats 1600000 in
theorem rwrite_on (m : Nat) (S : DS) (i : Nat) (t : ByteArray) (hoff : S.off = false) (hi : i < S.n) (ht : t.size = 64) (hq : S.q.length < 1000000) (R : HProp) (w : World) (h : Sat w (refP m S * R)) :
    Calls Try.prog 32 #[.pointer (some ⟨m, 0, none⟩), .int .i64 (i : Int), .string t] w fun e w' =>
      e = .returned (.int .i64 ({ S with q := S.q ++ [(i, t)] } : DS).count.1) ∧ Ext w w' ∧ Sat w' (refP m ({ S with q := S.q ++ [(i, t)] } : DS).count.2 * R) := by
  obtain ⟨hok, x, hx, hs⟩ := h.ref
  obtain ⟨sv, ev, pv, am, a, wr, b⟩ := x
  obtain ⟨gs, cs, rfl⟩ := (hs.refFlat.cast (show _ = strRow sv (secs S.n S.st) * (pts m (.cells (RA.cells ⟨sv, ev, pv, am, a, wr, b⟩ S.off) 64) * (strRow ev (secs S.n S.el) * (rowP 73 2 pv S.q.length (pCells S.q) * R))) by ac_rfl)).strBlock S.n (secs_len _ _) (by have := hok.pos; omega)
  obtain ⟨c0, c1, c2, c3, c4, c5, c6, c7, hm⟩ := hs.refFlat.ref8
  rw [hoff] at c3
  have HF := Lib.hid (And.intro hok (And.intro hx (And.intro hoff ht)))
  have ht2 : ((t.size : Int) != 64) = false := by simp [ht]
  have hin : (i : Int) < (S.n : Int) := by omega
  obtain ⟨i0, hi0, hz0, hz1, hz2⟩ := info_parts Try.infoRefPending
  have hs1 := (hs.refFlat.allocNew (.cells #[.int .i64 (i : Int), .string t] 73)).cast (show _ = rowP 73 2 pv S.q.length (pCells S.q) * (pts m (.cells (RA.cells ⟨.slice (some ⟨gs, 0, none⟩) S.n cs, ev, pv, am, a, wr, b⟩ S.off) 64) * (strRow (.slice (some ⟨gs, 0, none⟩) S.n cs) (secs S.n S.st) * (strRow ev (secs S.n S.el) * (R * pts w.heap.size (.cells #[.int .i64 (i : Int), .string t] 73))))) by ac_rfl)
  have H3 := Lib.hid (And.intro ((Ext.refl w).alloc (.cells #[.int .i64 (i : Int), .string t] 73)) hs1)
  have HN := Lib.hid (World.news_of_block (heap_alloc_new w (.cells #[.int .i64 (i : Int), .string t] 73)))
  clear h hok hx hs hoff ht hs1
  go_enter Try.func32, Try.ntmps32
  go_wp2_with (at_builtin; refine wpList_append_lies _ rfl (.tmp 32) (.tmp 36) 62 rfl 0 73 i0 (.agg #[.int .i64 0, .string ⟨#[]⟩]) 2 24 (by kernel_rfl) hi0 hz0 hz1 hz2 rfl (by decide) pv S.q.length (pCells S.q) rfl H3.out.2.owns ⟨w.heap.size, 0, none⟩ 1 1 [.int .i64 (i : Int), .string t] rfl rfl HN.out (pCell_one (i, t)) (by decide) (by unfold maxLen; omega) (by omega) (Nat.zero_le _) _ rfl ?_)
  intro g cap w2 hown hgrow hat hlt
  have hs4 := H3.out.2.appended hown hgrow (by rw [World.size_alloc]; exact hat)
  have hs5 := hs4.cast (show _ = pts m (.cells (RA.cells ⟨.slice (some ⟨gs, 0, none⟩) S.n cs, ev, pv, am, a, wr, b⟩ S.off) 64) * (strRow (.slice (some ⟨gs, 0, none⟩) S.n cs) (secs S.n S.st) * (strRow ev (secs S.n S.el) * (rowP 73 2 (.slice (some ⟨g, 0, none⟩) (S.q.length + 1) cap) (S.q.length + 1) (pCells S.q ++ pCell (i, t)) * (R * pts w.heap.size (.cells #[.int .i64 (i : Int), .string t] 73))))) by (show rowP 73 2 (.slice (some ⟨g, 0, none⟩) (S.q.length + 1) cap) (S.q.length + 1) (pCells S.q ++ pCell (i, t)) * _ = _; ac_rfl))
  have f0 := fun i => hs5.free (i := i)
  have hm2 := hs5.lt
  have hs6 := hs5.setCell (i := 2) (.slice (some ⟨g, 0, none⟩) (S.q.length + 1) cap)
  have hs7 : Sat _ (pts w.heap.size (.cells #[.int .i64 (i : Int), .string t] 73) * (pts m (.cells (RA.cells ⟨.slice (some ⟨gs, 0, none⟩) S.n cs, ev, .slice (some ⟨g, 0, none⟩) (S.q.length + 1) cap, am, a, wr, b⟩ S.off) 64) * (strRow (.slice (some ⟨gs, 0, none⟩) S.n cs) (secs S.n S.st) * (strRow ev (secs S.n S.el) * (rowP 73 2 (.slice (some ⟨g, 0, none⟩) (S.q.length + 1) cap) (S.q.length + 1) (pCells S.q ++ pCell (i, t)) * R))))) :=
    hs6.cast (show pts m (.cells (RA.cells ⟨.slice (some ⟨gs, 0, none⟩) S.n cs, ev, .slice (some ⟨g, 0, none⟩) (S.q.length + 1) cap, am, a, wr, b⟩ S.off) 64) * (strRow (.slice (some ⟨gs, 0, none⟩) S.n cs) (secs S.n S.st) * (strRow ev (secs S.n S.el) * (rowP 73 2 (.slice (some ⟨g, 0, none⟩) (S.q.length + 1) cap) (S.q.length + 1) (pCells S.q ++ pCell (i, t)) * (R * pts w.heap.size (.cells #[.int .i64 (i : Int), .string t] 73))))) = _ by ac_rfl)
  have hs8 := hs7.right
  have hs9 : Sat _ (refP m ({ S with q := S.q ++ [(i, t)] } : DS) * R) := Sat.mkRef (x := ⟨.slice (some ⟨gs, 0, none⟩) S.n cs, ev, .slice (some ⟨g, 0, none⟩) (S.q.length + 1) cap, am, a, wr, b⟩) (HF.out.1.push i t hi HF.out.2.2.2) HF.out.2.1 (by
    unfold refIn
    simp only [List.length_append, List.length_singleton, pCells_snoc]
    exact hs8)
  have H4 := Lib.hid (And.intro ((H3.out.1.grown hgrow).setCell ⟨m, 2, none⟩ (.slice (some ⟨g, 0, none⟩) (S.q.length + 1) cap)) hs9)
  have d2 := hs5.ref8.2.2.1
  clear hs4 hs5 hs6 hs7 hs8 hs9 hown hgrow hat hlt hi0 hz0 hz1 hz2 c0 c1 c2 c3 c4 c5 c6 c7
  go_wp2_with fail
  clear d2 f0 hm2 HN H3
  generalize w2.setCell _ _ = w3 at *
  refine (rcount_any m { S with q := S.q ++ [(i, t)] } (by simp; omega) R _ H4.out.2).mono ?_
  rintro e w4 ⟨rfl, hx7, hs7⟩
  have H7 := Lib.hid (And.intro (H4.out.1.trans hx7) hs7)
  clear hx7 hs7
  go_wp2_with fail
  go_ret
  exact ⟨rfl, H7.out⟩
end Go.Proofs.Ytcjocajpnebecaa
