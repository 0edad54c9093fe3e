/-
  The ref disk's Write, Read and Stale, walked, whatever the arguments. Their condition: less than 1000000 pending writes.
-/
import Derived.Test.YtcjocajpnebecaaR5
namespace Go.Proofs.Ytcjocajpnebecaa
open Go.RowKit

theorem Sat.refStable {w : World} {m : Nat} {S : DS} {sv ev pv : Value} {am : Bool} {a wr b : Int} {R : HProp} (h : Sat w (refIn m S ⟨sv, ev, pv, am, a, wr, b⟩ R)) (hok : S.ok) :
    ∃ gs cs ge ce, sv = .slice (some ⟨gs, 0, none⟩) S.n cs ∧ ev = .slice (some ⟨ge, 0, none⟩) S.n ce ∧
      Sat w (strRow (.slice (some ⟨gs, 0, none⟩) S.n cs) (secs S.n S.st) * (pts m (.cells (RA.cells ⟨sv, ev, pv, am, a, wr, b⟩ S.off) 64) * (strRow (.slice (some ⟨ge, 0, none⟩) S.n ce) (secs S.n S.el) * (rowP 73 2 pv S.q.length (pCells S.q) * R)))) := by
  obtain ⟨gs, cs, rfl⟩ := (h.refFlat.cast (show _ = strRow sv (secs S.n S.st) * (pts m (.cells (RA.cells ⟨sv, ev, pv, am, a, wr, b⟩ S.off) 64) * (strRow ev (secs S.n S.el) * (rowP 73 2 pv S.q.length (pCells S.q) * R))) by ac_rfl)).strBlock S.n (secs_len _ _) (by have := hok.pos; omega)
  obtain ⟨ge, ce, rfl⟩ := (h.refFlat.cast (show _ = strRow ev (secs S.n S.el) * (pts m (.cells (RA.cells ⟨_, ev, pv, am, a, wr, b⟩ S.off) 64) * (strRow _ (secs S.n S.st) * (rowP 73 2 pv S.q.length (pCells S.q) * R))) by ac_rfl)).strBlock S.n (secs_len _ _) (by have := hok.pos; omega)
  exact ⟨gs, cs, ge, ce, rfl, rfl, h.refFlat.cast (by ac_rfl)⟩

set_option maxHeartbeats 800000 in
theorem rwrite_any (m : Nat) (S : DS) (s : Int) (t : ByteArray) (hq : S.q.length < 1000000) (R : HProp) (w : World) (h : Sat w (refP m S * R)) :
    Calls Try.prog 32 #[.pointer (some ⟨m, 0, none⟩), .int .i64 s, .string t] w fun e w' =>
      e = .returned (.int .i64 (S.write s t).1) ∧ Ext w w' ∧ Sat w' (refP m (S.write s t).2 * R) := by
  obtain ⟨hok, x, hx, hs⟩ := h.ref
  obtain ⟨sv, ev, pv, am, a, wr, b⟩ := x
  obtain ⟨gs, cs, ge, ce, rfl, rfl, _⟩ := hs.refStable hok
  obtain ⟨c0, c1, c2, c3, c4, c5, c6, c7, hm⟩ := hs.refFlat.ref8
  have HH := Lib.hid h
  cases hoff : S.off with
  | true =>
    rw [hoff] at c3
    have E : Hid (S.write s t = (19, S)) := Lib.hid (by simp [DS.write, hoff])
    clear hs h hok hoff hx
    go_enter Try.func32, Try.ntmps32
    go_wp2_with fail
    go_ret
    rw [E.out]
    exact ⟨rfl, Ext.refl _, HH.out⟩
  | false =>
    by_cases hv : S.valid s = true
    · obtain ⟨h1, h2⟩ := (valid_iff S s).1 hv
      obtain ⟨i, rfl⟩ := Int.eq_ofNat_of_zero_le h1
      by_cases ht : t.size = 64
      · have E : S.write (i : Int) t = ({ S with q := S.q ++ [(i, t)] } : DS).count := by simp [DS.write, hoff, hv, ht]
        rw [E]
        exact rwrite_on m S i t hoff (by omega) ht hq R w h
      · rw [hoff] at c3
        have E : Hid (S.write (i : Int) t = (1, S)) := Lib.hid (by simp [DS.write, hoff, hv, ht])
        have ht2 : ((t.size : Int) != 64) = true := by simp; omega
        clear hs h hok hoff hv ht hx
        go_enter Try.func32, Try.ntmps32
        go_wp2_with fail
        go_ret
        rw [E.out]
        exact ⟨rfl, Ext.refl _, HH.out⟩
    · rw [hoff] at c3
      rw [Bool.not_eq_true] at hv
      have E : Hid (S.write s t = (1, S)) := Lib.hid (by simp [DS.write, hoff, hv])
      have hno := valid_no S s hv
      clear hs h hok hoff hv hx
      rcases Int.lt_or_le s 0 with h0 | h0
      · clear hno
        go_enter Try.func32, Try.ntmps32
        go_wp2_with fail
        go_ret
        rw [E.out]
        exact ⟨rfl, Ext.refl _, HH.out⟩
      · have h1 : (S.n : Int) ≤ s := by omega
        clear hno
        go_enter Try.func32, Try.ntmps32
        go_wp2_with fail
        go_ret
        rw [E.out]
        exact ⟨rfl, Ext.refl _, HH.out⟩

set_option maxRecDepth 100000 in
set_option maxHeartbeats 1600000 in
theorem rread_any (m : Nat) (S : DS) (s : Int) (hq : S.q.length ≤ 1000000) (R : HProp) (w : World) (h : Sat w (refP m S * R)) :
    Calls Try.prog 18 #[.pointer (some ⟨m, 0, none⟩), .int .i64 s] w fun e w' =>
      e = .returned (.tuple #[.string (S.read s).1, .int .i64 (S.read s).2]) ∧ Kept w w' := by
  obtain ⟨hok, x, hx, hs⟩ := h.ref
  obtain ⟨sv, ev, pv, am, a, wr, b⟩ := x
  obtain ⟨gs, cs, ge, ce, rfl, rfl, s1⟩ := hs.refStable hok
  obtain ⟨c0, c1, c2, c3, c4, c5, c6, c7, hm⟩ := hs.refFlat.ref8
  cases hoff : S.off with
  | true =>
    rw [hoff] at c3
    have E : Hid (S.read s = (⟨#[]⟩, 19)) := Lib.hid (by simp [DS.read, hoff])
    clear hs h hok hoff hx s1
    go_enter Try.func18, Try.ntmps18
    go_wp2_with fail
    go_ret2
    rw [E.out]
    exact ⟨rfl, Kept.refl _⟩
  | false =>
    rw [hoff] at c3
    by_cases hv : S.valid s = true
    · obtain ⟨h1, h2⟩ := (valid_iff S s).1 hv
      obtain ⟨i, rfl⟩ := Int.eq_ofNat_of_zero_le h1
      have hi : i < S.n := by omega
      have y1 := s1.strCell i _ (secs_get S.n S.st i hi)
      obtain ⟨ao, cap, hpv, hmx, hcell⟩ := hs.pends
      simp only at hpv
      subst hpv
      unfold maxLen at hmx
      have E : Hid (S.read (i : Int) = (S.secNow i, 0)) := Lib.hid (by simp [DS.read, hoff, hv])
      have HC := Lib.hid hcell
      clear hs h hok hoff hx s1 hv hcell h1
      go_enter Try.func18, Try.ntmps18
      go_wp2_with fail
      go_loopw [6, 7] (fun v z wr => ∃ k : Nat, k ≤ S.q.length ∧ z = .int .i64 k ∧ v = .string ((lastOf (S.q.take k) i).getD ⟨(sec S.st i).toArray⟩) ∧ Hid (w = wr)) (fun _ z _ => S.q.length - (intOf z).toNat)
      case atStart => exact ⟨0, Nat.zero_le _, rfl, rfl, rfl⟩
      case round =>
        obtain ⟨k, hk, rfl, rfl, HW⟩ := hrel
        obtain rfl := HW.out
        clear HW
        by_cases hlt : k < S.q.length
        · obtain ⟨p, hp⟩ : ∃ p, S.q[k]? = some p := ⟨_, List.getElem?_eq_getElem hlt⟩
          obtain ⟨g, rfl, e0, e1⟩ := HC.out k p hp
          have hst : lastOf (S.q.take (k + 1)) i = if p.1 = i then some p.2 else lastOf (S.q.take k) i := by
            rw [List.take_add_one, hp]; exact lastOf_snoc _ _ _
          have HST := Lib.hid hst
          clear hst hp
          by_cases hpi : p.1 = i
          · have hb : ((p.1 : Int) == (i : Int)) = true := by simp [hpi]
            have HPI := Lib.hid hpi
            clear hpi
            go_wp2_with fail
            refine ⟨⟨k + 1, by omega, by go_num, ?_, Lib.hid (by trivial)⟩, by simp [intOf]; omega⟩
            rw [HST.out, if_pos HPI.out]; rfl
          · have hb : ((p.1 : Int) == (i : Int)) = false := by rw [beq_eq_false_iff_ne]; omega
            have HPI := Lib.hid hpi
            clear hpi
            go_wp2_with fail
            refine ⟨⟨k + 1, by omega, by go_num, ?_, Lib.hid (by trivial)⟩, by simp [intOf]; omega⟩
            rw [HST.out, if_neg HPI.out]
        · have hkm : k = S.q.length := by omega
          rw [hkm, List.take_of_length_le (Nat.le_refl _)]
          clear hkm
          go_wp2_with fail
          go_ret2
          rw [E.out]
          exact ⟨rfl, Kept.refl _⟩
    · rw [Bool.not_eq_true] at hv
      have E : Hid (S.read s = (⟨#[]⟩, 1)) := Lib.hid (by simp [DS.read, hoff, hv])
      have hno := valid_no S s hv
      clear hs h hok hoff hx s1 hv
      rcases Int.lt_or_le s 0 with h0 | h0
      · clear hno
        go_enter Try.func18, Try.ntmps18
        go_wp2_with fail
        go_ret2
        rw [E.out]
        exact ⟨rfl, Kept.refl _⟩
      · have h1 : (S.n : Int) ≤ s := by omega
        clear hno
        go_enter Try.func18, Try.ntmps18
        go_wp2_with fail
        go_ret2
        rw [E.out]
        exact ⟨rfl, Kept.refl _⟩

set_option maxRecDepth 100000 in
set_option maxHeartbeats 1600000 in
theorem rstale_any (m : Nat) (S : DS) (s : Int) (R : HProp) (w : World) (h : Sat w (refP m S * R)) :
    Calls Try.prog 38 #[.pointer (some ⟨m, 0, none⟩), .int .i64 s] w fun e w' => e = .returned (.tuple #[]) ∧ Ext w w' ∧ Sat w' (refP m (S.stale s) * R) := by
  obtain ⟨hok, x, hx, hs⟩ := h.ref
  obtain ⟨sv, ev, pv, am, a, wr, b⟩ := x
  obtain ⟨gs, cs, ge, ce, rfl, rfl, s1⟩ := hs.refStable hok
  obtain ⟨c0, c1, c2, c3, c4, c5, c6, c7, hm⟩ := hs.refFlat.ref8
  have HH := Lib.hid h
  by_cases hv : S.valid s = true
  · obtain ⟨h1, h2⟩ := (valid_iff S s).1 hv
    obtain ⟨i, rfl⟩ := Int.eq_ofNat_of_zero_le h1
    have hi : i < S.n := by omega
    have s2 := s1.cast (show _ = strRow (.slice (some ⟨ge, 0, none⟩) S.n ce) (secs S.n S.el) * (pts m (.cells (RA.cells ⟨.slice (some ⟨gs, 0, none⟩) S.n cs, .slice (some ⟨ge, 0, none⟩) S.n ce, pv, am, a, wr, b⟩ S.off) 64) * (strRow (.slice (some ⟨gs, 0, none⟩) S.n cs) (secs S.n S.st) * (rowP 73 2 pv S.q.length (pCells S.q) * R))) by ac_rfl)
    have y1 := s1.strCell i _ (secs_get S.n S.st i hi)
    have y2 := s2.strCell i _ (secs_get S.n S.el i hi)
    obtain ⟨z1, z2⟩ := s1.strFree i
    have hl : (sec S.el i).length = 64 := sec_len hok.el hi
    have e1 := secs_set S.n S.st i (sec S.el i) hok.st hi (by omega)
    rw [hl, List.drop_eq_nil_of_le (by rw [sec_len hok.st hi]; omega), List.append_nil] at e1
    have h3 := s1.strSet (i := i) ⟨(sec S.el i).toArray⟩
    rw [← e1] at h3
    have E : Hid (S.stale (i : Int) = { S with st := splice S.st (64 * i) (sec S.el i) }) := Lib.hid (by simp [DS.stale, hv])
    have ho := hok.stale (i : Int)
    rw [E.out] at ho
    have h4 : Sat _ (refP m ({ S with st := splice S.st (64 * i) (sec S.el i) } : DS) * R) := Sat.mkRef (x := ⟨.slice (some ⟨gs, 0, none⟩) S.n cs, .slice (some ⟨ge, 0, none⟩) S.n ce, pv, am, a, wr, b⟩) ho hx (h3.cast (show _ = pts m (.cells (RA.cells ⟨.slice (some ⟨gs, 0, none⟩) S.n cs, .slice (some ⟨ge, 0, none⟩) S.n ce, pv, am, a, wr, b⟩ S.off) 64) * (strRow (.slice (some ⟨gs, 0, none⟩) S.n cs) (secs S.n (splice S.st (64 * i) (sec S.el i))) * (strRow (.slice (some ⟨ge, 0, none⟩) S.n ce) (secs S.n S.el) * (rowP 73 2 pv S.q.length (pCells S.q) * R))) by ac_rfl))
    have H4 := Lib.hid h4
    clear hs h hok hx s1 s2 hv h1 hl e1 h3 ho h4 HH
    go_enter Try.func38, Try.ntmps38
    go_wp2_with fail
    (refine wp_region_still_tail 13 (by kernel_rfl) (by kernel_rfl) ?_; simp only [List.take_succ_cons, List.take_zero, List.drop_succ_cons, List.drop_zero]; change wpStill _ _ (World.drew _) _ _ _; (repeat (refine wpStill_step (fun K hK => ?_); go_simp; refine hK _ ?_; clear hK K)); refine wpStill_nil ?_; change wpList _ _ _ _ _ (World.drew _))
    go_wp2_with fail
    go_end0
    rw [E.out]
    exact ⟨rfl, (by repeat (first | with_reducible assumption | with_reducible exact Ext.refl _ | with_reducible refine Ext.alloc ?_ _ | with_reducible refine Ext.drew ?_ | with_reducible refine Ext.drewN _ ?_ | with_reducible refine Ext.setCell ?_ _ _)), H4.out.drew⟩
  · rw [Bool.not_eq_true] at hv
    have E : Hid (S.stale s = S) := Lib.hid (by simp [DS.stale, hv])
    have hno := valid_no S s hv
    clear hs h hok hx s1 hv
    rcases Int.lt_or_le s 0 with h0 | h0
    · clear hno
      go_enter Try.func38, Try.ntmps38
      go_wp2_with fail
      go_end0
      rw [E.out]
      exact ⟨rfl, Ext.refl _, HH.out⟩
    · have h1 : (S.n : Int) ≤ s := by omega
      clear hno
      go_enter Try.func38, Try.ntmps38
      go_wp2_with fail
      go_end0
      rw [E.out]
      exact ⟨rfl, Ext.refl _, HH.out⟩
end Go.Proofs.Ytcjocajpnebecaa
