/-
  The ref disk's inner operations, walked: set, settle, Fail, count. Their conditions: a sector that is there, a whole text.
-/
import Derived.Test.YtcjocajpnebecaaRk
import Derived.Deep.QuietTactic
import Derived.BigQuiet
namespace Go.Proofs.Ytcjocajpnebecaa
open Go.RowKit

/-- A row of texts lies in a block of its own. -/
theorem Sat.strBlock {w : World} {v : Value} {l : List ByteArray} {R : HProp} (h : Sat w (strRow v l * R)) (n : Nat) (hn : l.length = n) (hl : 0 < n) : ∃ g c, v = .slice (some ⟨g, 0, none⟩) n c := by
  subst hn
  obtain ⟨ao, cap, rfl, _, hc⟩ := h.strForm
  obtain ⟨g, rfl, _⟩ := hc 0 _ (List.getElem?_eq_getElem hl)
  exact ⟨g, cap, rfl⟩
set_option maxRecDepth 100000 in
set_option maxHeartbeats 1600000 in
/-- Sector i becomes t ++ (the rest of what it was). -/
theorem rset_in (m : Nat) (S : DS) (i : Nat) (t : List UInt8) (u : ByteArray) (hu : u = ⟨(t ++ (sec S.st i).drop t.length).toArray⟩) (x : RA) (hi : i < S.n) (ht : t.length ≤ 64) (R : HProp) (w : World) (hok : S.ok) (hs : Sat w (refIn m S x R)) :
    Calls Try.prog 46 #[.pointer (some ⟨m, 0, none⟩), .int .i64 (i : Int), .string u] w fun e w' => e = .returned (.tuple #[]) ∧ Ext w w' ∧ Sat w' (refIn m (S.set i t) x R) := by
  obtain ⟨sv, ev, pv, am, a, wr, b⟩ := x
  change Sat w (pts m (.cells (RA.cells ⟨sv, ev, pv, am, a, wr, b⟩ S.off) 64) * (strRow sv (secs S.n S.st) * (strRow ev (secs S.n S.el) * (rowP 73 2 pv S.q.length (pCells S.q) * R)))) at hs
  obtain ⟨c0, c1, c2, c3, c4, c5, c6, c7, hm⟩ := hs.ref8
  have s1 := hs.cast (show _ = strRow sv (secs S.n S.st) * (pts m (.cells (RA.cells ⟨sv, ev, pv, am, a, wr, b⟩ S.off) 64) * (strRow ev (secs S.n S.el) * (rowP 73 2 pv S.q.length (pCells S.q) * R))) by ac_rfl)
  obtain ⟨gs, cs, rfl⟩ := s1.strBlock S.n (secs_len _ _) (by have := hok.pos; omega)
  have s2 := hs.cast (show _ = strRow ev (secs S.n S.el) * (pts m (.cells (RA.cells ⟨_, ev, pv, am, a, wr, b⟩ S.off) 64) * (strRow _ (secs S.n S.st) * (rowP 73 2 pv S.q.length (pCells S.q) * R))) by ac_rfl)
  obtain ⟨ge, ce, rfl⟩ := s2.strBlock S.n (secs_len _ _) (by have := hok.pos; omega)
  have y1 := s1.strCell i _ (secs_get S.n S.st i hi)
  have y2 := s2.strCell i _ (secs_get S.n S.el i hi)
  obtain ⟨z1, z2⟩ := s1.strFree i
  obtain ⟨z3, z4⟩ := s2.strFree i
  have h1 := s2.strSet (i := i) ⟨(sec S.st i).toArray⟩
  have h2 := (h1.cast (show _ = strRow (.slice (some ⟨gs, 0, none⟩) S.n cs) (secs S.n S.st) * (pts m (.cells (RA.cells ⟨.slice (some ⟨gs, 0, none⟩) S.n cs, .slice (some ⟨ge, 0, none⟩) S.n ce, pv, am, a, wr, b⟩ S.off) 64) * (strRow (.slice (some ⟨ge, 0, none⟩) S.n ce) ((secs S.n S.el).set i ⟨(sec S.st i).toArray⟩) * (rowP 73 2 pv S.q.length (pCells S.q) * R))) by ac_rfl)).drew
  obtain ⟨z5, z6⟩ := h2.strFree i
  have y3 := h2.strCell i _ (secs_get S.n S.st i hi)
  obtain ⟨d0, d1, d2, d3, d4, d5, d6, d7, dm⟩ := (h2.cast (show _ = pts m (.cells (RA.cells ⟨.slice (some ⟨gs, 0, none⟩) S.n cs, .slice (some ⟨ge, 0, none⟩) S.n ce, pv, am, a, wr, b⟩ S.off) 64) * (strRow (.slice (some ⟨gs, 0, none⟩) S.n cs) (secs S.n S.st) * (strRow (.slice (some ⟨ge, 0, none⟩) S.n ce) ((secs S.n S.el).set i ⟨(sec S.st i).toArray⟩) * (rowP 73 2 pv S.q.length (pCells S.q) * R))) by ac_rfl)).ref8
  have h3 := h2.strSet (i := i) u
  have HS := Lib.hid h3
  have hn := hok.most
  have hin : (i : Int) < (S.n : Int) := by omega
  have E1 := Lib.hid (secs_set S.n S.el i (sec S.st i) hok.el hi (by rw [sec_len hok.st hi]; omega))
  have E2 := Lib.hid (secs_set S.n S.st i t hok.st hi ht)
  have E3 := Lib.hid (And.intro (sec_len hok.st hi) (sec_len hok.el hi))
  have HU := Lib.hid hu
  clear hs s1 s2 h1 h2 h3 hok hu
  go_enter Try.func46, Try.ntmps46
  go_wp2_with fail
  (refine wp_region_still_tail 13 (by kernel_rfl) (by kernel_rfl) ?_; simp only [List.take_succ_cons, List.take_zero, List.drop_succ_cons, List.drop_zero]; change wpStill _ _ (World.drew _) _ _ _; (repeat (refine wpStill_step (fun K hK => ?_); go_simp; refine hK _ ?_; clear hK K)); refine wpStill_nil ?_; change wpList _ _ _ _ _ (World.drew _))
  go_wp2_with fail
  go_end0
  refine ⟨rfl, ?_, ?_⟩
  · have hx := Ext.refl w
    exact (by repeat (first | with_reducible assumption | with_reducible exact Ext.refl _ | with_reducible refine Ext.alloc ?_ _ | with_reducible refine Ext.drew ?_ | with_reducible refine Ext.drewN _ ?_ | with_reducible refine Ext.setCell ?_ _ _))
  · have h4 := HS.out
    have e1 := E1.out
    rw [E3.out.1, List.drop_eq_nil_of_le (by rw [E3.out.2]; omega), List.append_nil] at e1
    have e2 := E2.out
    rw [← HU.out] at e2
    rw [← e2, ← e1] at h4
    exact h4.cast (show _ = refIn m (S.set i t) ⟨.slice (some ⟨gs, 0, none⟩) S.n cs, .slice (some ⟨ge, 0, none⟩) S.n ce, pv, am, a, wr, b⟩ R by
      show _ = pts m (.cells (RA.cells ⟨.slice (some ⟨gs, 0, none⟩) S.n cs, .slice (some ⟨ge, 0, none⟩) S.n ce, pv, am, a, wr, b⟩ S.off) 64) * (strRow (.slice (some ⟨gs, 0, none⟩) S.n cs) (secs S.n (splice S.st (64 * i) t)) * (strRow (.slice (some ⟨ge, 0, none⟩) S.n ce) (secs S.n (splice S.el (64 * i) (sec S.st i))) * (rowP 73 2 pv S.q.length (pCells S.q) * R)))
      ac_rfl)
end Go.Proofs.Ytcjocajpnebecaa
