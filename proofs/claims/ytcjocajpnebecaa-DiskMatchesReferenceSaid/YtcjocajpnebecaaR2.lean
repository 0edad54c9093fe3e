/-
  The ref disk's settle, walked. Its condition: at most as many writes as are pending.
-/
import Derived.Test.YtcjocajpnebecaaR1
namespace Go.Proofs.Ytcjocajpnebecaa
open Go.RowKit

theorem Sat.refRows {w : World} {m : Nat} {S : DS} {x : RA} {R : HProp} (h : Sat w (refIn m S x R)) :
    Sat w (pts m (.cells (x.cells S.off) 64) * (strRow x.sv (secs S.n S.st) * (strRow x.ev (secs S.n S.el) * (rowP 73 2 x.pv S.q.length (pCells S.q) * R)))) := h
/-- The pending writes, as they lie. -/
theorem Sat.pends {w : World} {m : Nat} {S : DS} {x : RA} {R : HProp} (h : Sat w (refIn m S x R)) :
    ∃ ao cap, x.pv = .slice ao S.q.length cap ∧ S.q.length ≤ maxLen ∧ ∀ i p, S.q[i]? = some p → ∃ g, ao = some ⟨g, 0, none⟩ ∧ w.cell? ⟨g, i * 2, none⟩ = some (.int .i64 (p.1 : Int)) ∧ w.cell? ⟨g, i * 2 + 1, none⟩ = some (.string p.2) := by
  have h1 := h.refRows.cast (show _ = rowP 73 2 x.pv S.q.length (pCells S.q) * (pts m (.cells (x.cells S.off) 64) * (strRow x.sv (secs S.n S.st) * (strRow x.ev (secs S.n S.el) * R))) by ac_rfl)
  obtain ⟨ao, cap, hv, hcap, hmax, hh⟩ := h1.rowForm
  refine ⟨ao, cap, hv, by omega, fun i p hp => ?_⟩
  have hlt := (List.getElem?_eq_some_iff.1 hp).1
  obtain ⟨_, hh2⟩ := hh S.q.length (Nat.le_refl _)
  obtain ⟨g, c2, rfl, _⟩ := hh2 (by omega)
  rw [hv] at h1
  refine ⟨g, rfl, h1.rowCell ?_, h1.rowCell ?_⟩
  · rw [show i * 2 = 2 * i + 0 by omega, pCells_get S.q i 0 p hp (by omega)]; rfl
  · rw [show i * 2 + 1 = 2 * i + 1 by omega, pCells_get S.q i 1 p hp (by omega)]; rfl
theorem rset_full (m : Nat) (S : DS) (i : Nat) (t : ByteArray) (h64 : t.size = 64) (x : RA) (hi : i < S.n) (R : HProp) (w : World) (hok : S.ok) (hs : Sat w (refIn m S x R)) :
    Calls Try.prog 46 #[.pointer (some ⟨m, 0, none⟩), .int .i64 (i : Int), .string t] w fun e w' => e = .returned (.tuple #[]) ∧ Ext w w' ∧ Sat w' (refIn m (S.set i t.data.toList) x R) := by
  have hl : t.data.toList.length = 64 := by rw [← h64]; rfl
  refine rset_in m S i t.data.toList t ?_ x hi (by omega) R w hok hs
  rw [List.drop_eq_nil_of_le (by rw [sec_len hok.st hi]; omega), List.append_nil]

set_option maxRecDepth 100000 in
set_option maxHeartbeats 1600000 in
theorem rsettle_in (m : Nat) (S : DS) (c : Nat) (hc : c ≤ S.q.length) (x : RA) (R : HProp) (w : World) (hok : S.ok) (hs : Sat w (refIn m S x R)) :
    Calls Try.prog 45 #[.pointer (some ⟨m, 0, none⟩), .int .i64 (c : Int)] w fun e w' => e = .returned (.tuple #[]) ∧ Ext w w' ∧ Sat w' (refIn m (S.settle (S.q.take c)) x R) := by
  have HS := Lib.hid hs
  have HO := Lib.hid hok
  obtain ⟨ao, cap, hpv, hmx, _⟩ := hs.pends
  have HPV := Lib.hid hpv
  unfold maxLen at hmx
  clear hs hok hpv
  go_enter Try.func45, Try.ntmps45
  go_wp2_with fail
  go_loopw [4] (fun i wr => ∃ k : Nat, k ≤ c ∧ i = .int .i64 k ∧ Hid (Ext w wr ∧ Sat wr (refIn m (S.settle (S.q.take k)) x R))) (fun i _ => c - (intOf i).toNat)
  case atStart => exact ⟨0, Nat.zero_le _, rfl, Ext.refl _, HS.out⟩
  case round =>
    obtain ⟨k, hk, rfl, HR⟩ := hrel
    by_cases hlt : k < c
    · obtain ⟨p, hp⟩ : ∃ p, S.q[k]? = some p := ⟨_, List.getElem?_eq_getElem (by omega)⟩
      have hp' : (S.settle (S.q.take k)).q[k]? = some p := by rw [(settle_n S _).2.1]; exact hp
      obtain ⟨ao', cap', hpv', _, hcell⟩ := HR.out.2.pends
      obtain ⟨g, rfl, e0, e1⟩ := hcell k p hp'
      rw [(settle_n S _).2.1] at hpv'
      obtain ⟨d0, d1, d2, d3, d4, d5, d6, d7, dm⟩ := HR.out.2.refRows.ref8
      rw [hpv'] at d2
      have hok2 := HO.out.settle (S.q.take k) (fun x hx => HO.out.q x (List.mem_of_mem_take hx))
      have hp1 := HO.out.q p (List.mem_of_getElem? hp)
      have HP := Lib.hid (And.intro hp (And.intro hok2 hp1))
      clear hp hp' hcell hok2 hp1 hpv'
      have hkq : k < S.q.length := by omega
      go_wp2_with fail
      (refine wp_region_still_tail 17 (by kernel_rfl) (by kernel_rfl) ?_; simp only [List.take_succ_cons, List.take_zero, List.drop_succ_cons, List.drop_zero]; change wpStill _ _ (World.drew _) _ _ _; (repeat (refine wpStill_step (fun K hK => ?_); go_simp; refine hK _ ?_; clear hK K)); refine wpStill_nil ?_; change wpList _ _ _ _ _ (World.drew _))
      go_wp2_with fail
      refine (rset_full m (S.settle (S.q.take k)) p.1 p.2 HP.out.2.2.2 x (by rw [(settle_n S _).1]; exact HP.out.2.2.1) R _ HP.out.2.1 HR.out.2.drew).mono ?_
      rintro e w2 ⟨rfl, hx2, hs2⟩
      have HR2 := Lib.hid (And.intro (HR.out.1.drew.trans hx2) hs2)
      clear hx2 hs2
      go_wp2_with fail
      refine ⟨⟨k + 1, by omega, by go_num, HR2.out.1, ?_⟩, by simp [intOf]; omega⟩
      have := HR2.out.2
      rw [← settle_snoc] at this
      rw [List.take_add_one, HP.out.1]; exact this
    · have hkm : k = c := by omega
      subst hkm
      go_wp2_with fail
      go_end0
      exact ⟨rfl, HR.out⟩
end Go.Proofs.Ytcjocajpnebecaa
