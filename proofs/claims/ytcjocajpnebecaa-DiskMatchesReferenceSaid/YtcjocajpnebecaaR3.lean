/-
  The ref disk's Fail, walked. Its condition: at most 1000000 pending writes.
-/
import Derived.Test.YtcjocajpnebecaaR2
namespace Go.Proofs.Ytcjocajpnebecaa
open Go.RowKit

theorem str_lo (s : ByteArray) (y n : Nat) (hn : s.size = n) (h : y ≤ n) (w : World) : (Instr.slice 9 (.string s) none (some (.int .i64 (y : Int))) none).run Try.prog w = .ok (.string (s.extract 0 y)) w := by
  subst hn
  simp [Instr.slice, Instr.sliceBounds, Instr.sliceBound, asIntOf, run_underlying Try.underlying9]
  omega
theorem str_hi (s : ByteArray) (y n : Nat) (hn : s.size = n) (h : y ≤ n) (w : World) : (Instr.slice 9 (.string s) (some (.int .i64 (y : Int))) none none).run Try.prog w = .ok (.string (s.extract y n)) w := by
  subst hn
  simp [Instr.slice, Instr.sliceBounds, Instr.sliceBound, asIntOf, run_underlying Try.underlying9]
  omega
theorem Sat.refFlat {w : World} {m : Nat} {S : DS} {sv ev pv : Value} {am : Bool} {a wr b : Int} {R : HProp} (h : Sat w (refIn m S ⟨sv, ev, pv, am, a, wr, b⟩ R)) :
    Sat w (pts m (.cells (RA.cells ⟨sv, ev, pv, am, a, wr, b⟩ S.off) 64) * (strRow sv (secs S.n S.st) * (strRow ev (secs S.n S.el) * (rowP 73 2 pv S.q.length (pCells S.q) * R)))) := h
theorem rdead {w : World} {m : Nat} {S : DS} {sv ev pv : Value} {am : Bool} {a wr b : Int} {R : HProp} (h : Sat w (refIn m S ⟨sv, ev, pv, am, a, wr, b⟩ R)) :
    Sat (((w.setCell ⟨m, 2, none⟩ (.slice none 0 0)).setCell ⟨m, 3, none⟩ (.bool false)).setCell ⟨m, 4, none⟩ (.bool false)) (refIn m S.dead ⟨sv, ev, .slice none 0 0, false, a, wr, b⟩ R) := by
  have h1 := ((h.refRows.setCell (i := 2) (.slice none 0 0)).setCell (i := 3) (.bool false)).setCell (i := 4) (.bool false)
  have h2 : Sat _ (rowP 73 2 pv S.q.length (pCells S.q) * (pts m (.cells (RA.cells ⟨sv, ev, .slice none 0 0, false, a, wr, b⟩ true) 64) * (strRow sv (secs S.n S.st) * (strRow ev (secs S.n S.el) * R)))) := h1.cast (show pts m (.cells (RA.cells ⟨sv, ev, .slice none 0 0, false, a, wr, b⟩ true) 64) * (strRow sv (secs S.n S.st) * (strRow ev (secs S.n S.el) * (rowP 73 2 pv S.q.length (pCells S.q) * R))) = _ by ac_rfl)
  have h3 : Sat _ (rowP 73 2 (.slice none 0 0) 0 [] * _) := Sat.nilRow h2.right
  exact h3.cast (show _ = pts m (.cells (RA.cells ⟨sv, ev, .slice none 0 0, false, a, wr, b⟩ true) 64) * (strRow sv (secs S.n S.st) * (strRow ev (secs S.n S.el) * (rowP 73 2 (.slice none 0 0) 0 [] * R))) by ac_rfl)

set_option maxRecDepth 100000 in
set_option maxHeartbeats 3200000 in
theorem rfail_any (m : Nat) (S : DS) (y b : Int) (hq : S.q.length ≤ 1000000) (R : HProp) (w : World) (h : Sat w (refP m S * R)) :
    Calls Try.prog 34 #[.pointer (some ⟨m, 0, none⟩), .int .i64 y, .int .i64 b] w fun e w' => e = .returned (.tuple #[]) ∧ Ext w w' ∧ Sat w' (refP m (S.fail y b) * R) := by
  obtain ⟨hok, x, hx, hs⟩ := h.ref
  obtain ⟨sv, ev, pv, am, a, wr, bb⟩ := x
  have HH := Lib.hid h
  have HO := Lib.hid hok
  have HOF := Lib.hid (hok.fail y b)
  cases hoff : S.off with
  | true =>
    obtain ⟨c0, c1, c2, c3, c4, c5, c6, c7, hm⟩ := hs.refRows.ref8
    rw [hoff] at c3
    have E : Hid (S.fail y b = S) := Lib.hid (by simp [DS.fail, hoff])
    clear h hs hok hx hoff
    go_enter Try.func34, Try.ntmps34
    go_wp2_with fail
    refine bodyPost_ret (results_none rfl _ _ _) rfl ⟨rfl, Ext.refl _, ?_⟩
    rw [E.out]; exact HH.out
  | false =>
    obtain ⟨ao, cap, hpv, _, _⟩ := hs.pends
    simp only at hpv
    subst hpv
    obtain ⟨gs, cs, rfl⟩ := (hs.refFlat.cast (show _ = strRow sv (secs S.n S.st) * (pts m (.cells (RA.cells ⟨sv, ev, .slice ao S.q.length cap, am, a, wr, bb⟩ S.off) 64) * (strRow ev (secs S.n S.el) * (rowP 73 2 (.slice ao S.q.length cap) S.q.length (pCells S.q) * R))) by ac_rfl)).strBlock S.n (secs_len _ _) (by have := hok.pos; omega)
    obtain ⟨c0, c1, c2, c3, c4, c5, c6, c7, hm⟩ := hs.refRows.ref8
    rw [hoff] at c3
    have HS := Lib.hid hs
    have HF := Lib.hid hoff
    clear h hs hok hx hoff
    obtain ⟨z, hz⟩ : ∃ z, (if (S.q.length : Int) < y then (S.q.length : Int) else y) = z := ⟨_, rfl⟩
    obtain ⟨c, hc1, hc2, hcc⟩ : ∃ c : Nat, (if 0 < z then z else 0) = (c : Int) ∧ c ≤ S.q.length ∧ c = cut y S.q.length :=
      ⟨cut y S.q.length, by rw [← hz]; unfold cut; split <;> split <;> omega, by unfold cut; omega, rfl⟩
    have HCC := Lib.hid hcc
    clear hcc
    go_enter Try.func34, Try.ntmps34
    go_wp2_with fail
    refine (rsettle_in m S c hc2 _ R _ HO.out HS.out).mono ?_
    rintro e w2 ⟨rfl, hx2, hs2⟩
    clear c0 c1 c2 c3 c4 c5 c6 c7 hz hc1
    have hok2 := HO.out.settle (S.q.take c) (fun x hx => HO.out.q x (List.mem_of_mem_take hx))
    obtain ⟨q1, q2, q3, q4⟩ := settle_n S (S.q.take c)
    have hfe := fail_eq S y b c HF.out HCC.out
    have HFE := Lib.hid hfe
    clear hfe
    generalize S.settle (S.q.take c) = S2 at *
    obtain ⟨c0, c1, c2, c3, c4, c5, c6, c7, hm2⟩ := hs2.refRows.ref8
    have f0 := fun i => hs2.refRows.free (i := i)
    have HR := Lib.hid (And.intro hx2 hs2)
    have HO2 := Lib.hid (And.intro hok2 (And.intro q1 (And.intro q2 q3)))
    have hfit : ∀ u v : Value, RA.fits ⟨u, v, .slice none 0 0, false, a, wr, bb⟩ (S.fail y b) := fun u v => by
      show (S.fail y b).arm = none
      rw [HFE.out]; rfl
    have HFIT := Lib.hid hfit
    clear hx2 hok2 q1 q2 q3 q4 hfit
    by_cases hlt : c < S.q.length
    · obtain ⟨p, hp⟩ : ∃ p, S.q[c]? = some p := ⟨_, List.getElem?_eq_getElem hlt⟩
      obtain ⟨ao', cap', hpv', _, hcell⟩ := hs2.pends
      obtain ⟨g, rfl, e0, e1⟩ := hcell c p (by rw [HO2.out.2.2.1]; exact hp)
      obtain ⟨rfl, _, rfl⟩ : ao = some ⟨g, 0, none⟩ ∧ S.q.length = S2.q.length ∧ cap = cap' := by
        have := hpv'
        simpa using this
      have hgl : g < w2.heap.size := World.block_lt_of_cell? w2 _ e0
      have hpo := HO.out.q p (List.mem_of_getElem? hp)
      have hi : p.1 < S2.n := by rw [HO2.out.2.1]; exact hpo.1
      have s1 := hs2.refFlat.cast (show _ = strRow (.slice (some ⟨gs, 0, none⟩) S.n cs) (secs S2.n S2.st) * (pts m (.cells (RA.cells ⟨.slice (some ⟨gs, 0, none⟩) S.n cs, ev, .slice (some ⟨g, 0, none⟩) S.q.length cap, am, a, wr, bb⟩ S2.off) 64) * (strRow ev (secs S2.n S2.el) * (rowP 73 2 (.slice (some ⟨g, 0, none⟩) S.q.length cap) S2.q.length (pCells S2.q) * R))) by ac_rfl)
      have y1 := s1.strCell p.1 _ (secs_get S2.n S2.st p.1 hi)
      have hgs := (s1.strFree p.1).2
      have HP := Lib.hid (And.intro hp hpo)
      have hin : (p.1 : Int) < (S.n : Int) := by have := hpo.1; omega
      have hz1 : p.2.size = 64 := hpo.2
      have hz2 : (⟨(sec S2.st p.1).toArray⟩ : ByteArray).size = 64 := by rw [ba_size, sec_len HO2.out.1.st hi]
      clear s1 hs2 hcell hpv' hp hpo
      obtain ⟨z2, hzz⟩ : ∃ z2, (if (64 : Int) < b then (64 : Int) else b) = z2 := ⟨_, rfl⟩
      obtain ⟨k, hk1, hk2, hkc⟩ : ∃ k : Nat, (if 0 < z2 then z2 else 0) = (k : Int) ∧ k ≤ 64 ∧ k = cut b 64 :=
        ⟨cut b 64, by rw [← hzz]; unfold cut; split <;> split <;> omega, by unfold cut; omega, rfl⟩
      have HKC := Lib.hid hkc
      clear hkc
      have hsl1 := fun wx => str_lo p.2 k 64 hz1 hk2 wx
      have hsl2 := fun wx => str_hi ⟨(sec S2.st p.1).toArray⟩ k 64 hz2 hk2 wx
      have HZ := Lib.hid (And.intro hz1 hz2)
      clear hz1 hz2
      by_cases hk0 : 0 < k
      · have e : z2 = (k : Int) := by
          by_cases h : 0 < z2
          · rw [if_pos h] at hk1; exact hk1
          · rw [if_neg h] at hk1; omega
        subst e
        have hlen : ((p.2.extract 0 k).data.toList).length = k := by have hz1 := HZ.out.1; rw [← Lib.size_eq]; simp; omega
        have htx : p.2.extract 0 k ++ (⟨(sec S2.st p.1).toArray⟩ : ByteArray).extract k 64 = ⟨((p.2.extract 0 k).data.toList ++ (sec S2.st p.1).drop ((p.2.extract 0 k).data.toList).length).toArray⟩ := by
          rw [hlen]
          apply ByteArray.ext
          rw [← Array.toList_inj, ByteArray.data_append, Array.toList_append, Lib.extract_data (⟨(sec S2.st p.1).toArray⟩ : ByteArray)]
          rw [List.take_of_length_le]
          rw [List.length_drop]
          show (sec S2.st p.1).length - k ≤ _
          rw [sec_len HO2.out.1.st hi]; omega
        have HTX := Lib.hid (And.intro hlen htx)
        have hadd := fun wx => run_string_add_sum (P := Try.prog) (w := wx) (p.2.extract 0 k) ((⟨(sec S2.st p.1).toArray⟩ : ByteArray).extract k 64) (by have h1 := HZ.out.1; have h2 := HZ.out.2; simp only [ByteArray.size_extract]; omega)
        clear hlen htx
        go_wp2_with fail
        (refine wp_region_still_tail 18 (by kernel_rfl) (by kernel_rfl) ?_; simp only [List.take_succ_cons, List.take_zero, List.drop_succ_cons, List.drop_zero]; change wpStill _ _ (World.drew _) _ _ _; (repeat (refine wpStill_step (fun K hK => ?_); go_simp; refine hK _ ?_; clear hK K)); refine wpStill_nil ?_; change wpList _ _ _ _ _ (World.drew _))
        go_wp2_with fail
        refine (rset_in m S2 p.1 (p.2.extract 0 k).data.toList _ HTX.out.2 _ hi (by rw [HTX.out.1]; exact hk2) R _ HO2.out.1 (HR.out.2.alloc _).drew).mono ?_
        rintro e w4 ⟨rfl, hx4, hs4⟩
        have H4 := Lib.hid (And.intro ((HR.out.1.alloc _).drew.trans hx4) hs4)
        clear hx4 c0 c1 c2 c3 c4 c5 c6 c7 hm2 f0
        obtain ⟨c0, c1, c2, c3, c4, c5, c6, c7, hm2⟩ := hs4.refRows.ref8
        have f0 := fun i => hs4.refRows.free (i := i)
        clear hs4
        have E : Hid (S.fail y b = (S2.set p.1 (p.2.extract 0 k).data.toList).dead) := Lib.hid (by
          rw [HFE.out, HP.out.1, show DS.torn _ (some p) b = _ from if_pos (HKC.out ▸ hk0), ← HKC.out, Lib.extract_data, List.drop_zero, Nat.sub_zero])
        go_wp2_with fail
        go_end0
        have he := HOF.out
        have hf := HFIT.out (.slice (some ⟨gs, 0, none⟩) S.n cs) ev
        rw [E.out] at he hf ⊢
        exact ⟨rfl, ((H4.out.1.setCell _ _).setCell _ _).setCell _ _, Sat.mkRef he hf (rdead H4.out.2)⟩
      · have E : Hid (S.fail y b = S2.dead) := Lib.hid (by rw [HFE.out, HP.out.1]; rw [show DS.torn _ (some p) b = _ from if_neg (by rw [← HKC.out]; exact hk0)])
        go_wp2_with fail
        go_end0
        have he := HOF.out
        have hf := HFIT.out (.slice (some ⟨gs, 0, none⟩) S.n cs) ev
        rw [E.out] at he hf ⊢
        exact ⟨rfl, (((HR.out.1.setCell _ _).setCell _ _).setCell _ _).alloc _, Sat.mkRef he hf ((rdead HR.out.2).alloc _)⟩
    · have E : Hid (S.fail y b = S2.dead) := Lib.hid (by rw [HFE.out, List.getElem?_eq_none (by omega)]; rfl)
      go_wp2_with fail
      go_end0
      have he := HOF.out
      have hf := HFIT.out (.slice (some ⟨gs, 0, none⟩) S.n cs) ev
      rw [E.out] at he hf ⊢
      exact ⟨rfl, ((HR.out.1.setCell _ _).setCell _ _).setCell _ _, Sat.mkRef he hf (rdead HR.out.2)⟩
end Go.Proofs.Ytcjocajpnebecaa
