/-
  cleanselaw44.head, walked: it answers true, and leaves all memory that was there as it was. No condition.
-/
import Derived.Test.YtcjocajpnebecaaL3
namespace Go.Proofs.Ytcjocajpnebecaa
open Go.RowKit

def fA : ByteArray := ⟨(full [97]).toArray⟩
def fB : ByteArray := ⟨(full [98]).toArray⟩
def fZ : ByteArray := ⟨(full [0]).toArray⟩
def tS : ByteArray := ⟨#[115, 104, 111, 114, 116]⟩
def bbA : ByteArray := ⟨([98, 98] ++ (full [97]).drop 2).toArray⟩
def abA : ByteArray := ⟨([97, 98] ++ (full [97]).drop 2).toArray⟩
def p0 : DS := DS.fresh 2
def p1 : DS := (p0.write 0 fA).2
def p2 : DS := p1.sync.2
def p3 : DS := (p2.write 0 fB).2
def p4 : DS := p3.fail 0 2
def p5 : DS := p4.sync.2
def p6 : DS := p5.start
def p7 : DS := (p6.write 1 tS).2
def q0 : DS := DS.fresh 1
def q1 : DS := (q0.write 0 fA).2
def q2 : DS := q1.sync.2
def q3 : DS := q2.rot 0 1 3
def q4 : DS := q3.stale 0
def r0 : DS := DS.fresh 1
def r1 : DS := r0.armed 1 1 2
def r2 : DS := (r1.write 0 fA).2
def r3 : DS := (r2.write 0 fB).2
def r4 : DS := r3.start
theorem e_p1 : (p0.write 0 fA).1 = 0 := by decide +kernel
theorem e_p2 : p1.sync.1 = 0 := by decide +kernel
theorem e_p3 : (p2.write 0 fB).1 = 0 := by decide +kernel
theorem e_p3r : p3.read 0 = (fB, 0) := by decide +kernel
theorem e_p5 : p4.sync.1 = 19 := by decide +kernel
theorem e_p6r : p6.read 0 = (bbA, 0) := by decide +kernel
theorem e_p6z : p6.read 1 = (fZ, 0) := by decide +kernel
theorem e_p6i : p6.read 2 = (⟨#[]⟩, 1) := by decide +kernel
theorem e_p7 : (p6.write 1 tS).1 = 1 := by decide +kernel
theorem e_q1 : (q0.write 0 fA).1 = 0 := by decide +kernel
theorem e_q2 : q1.sync.1 = 0 := by decide +kernel
theorem e_q3r : q3.read 0 = (abA, 0) := by decide +kernel
theorem e_q4r : q4.read 0 = (fZ, 0) := by decide +kernel
theorem e_r2 : (r1.write 0 fA).1 = 0 := by decide +kernel
theorem e_r3 : (r2.write 0 fB).1 = 19 := by decide +kernel
theorem e_r4r : r4.read 0 = (bbA, 0) := by decide +kernel
theorem ql (S : DS) (h : S.q.length < 1000000) : S.q.length ≤ 1000000 := Nat.le_of_lt h
theorem l_p0 : p0.q.length < 1000000 := by decide +kernel
theorem l_p1 : p1.q.length < 1000000 := by decide +kernel
theorem l_p2 : p2.q.length < 1000000 := by decide +kernel
theorem l_p3 : p3.q.length < 1000000 := by decide +kernel
theorem l_p4 : p4.q.length < 1000000 := by decide +kernel
theorem l_p6 : p6.q.length < 1000000 := by decide +kernel
theorem l_q0 : q0.q.length < 1000000 := by decide +kernel
theorem l_q1 : q1.q.length < 1000000 := by decide +kernel
theorem l_q3 : q3.q.length < 1000000 := by decide +kernel
theorem l_q4 : q4.q.length < 1000000 := by decide +kernel
theorem l_r1 : r1.q.length < 1000000 := by decide +kernel
theorem l_r2 : r2.q.length < 1000000 := by decide +kernel
theorem l_r4 : r4.q.length < 1000000 := by decide +kernel
theorem fill_A (w : World) : Calls Try.prog 27 #[.string ⟨#[97]⟩] w fun e w' => e = .returned (.string fA) ∧ Kept w w' := fill_any ⟨#[97]⟩ (by decide) (by decide) w
theorem fill_B (w : World) : Calls Try.prog 27 #[.string ⟨#[98]⟩] w fun e w' => e = .returned (.string fB) ∧ Kept w w' := fill_any ⟨#[98]⟩ (by decide) (by decide) w
theorem fill_Z (w : World) : Calls Try.prog 27 #[.string ⟨#[0]⟩] w fun e w' => e = .returned (.string fZ) ∧ Kept w w' := fill_any ⟨#[0]⟩ (by decide) (by decide) w
theorem Kept.of_old {w w' : World} {P : HProp} (hx : Ext w w') (h : Sat w' (P * old w)) : Kept w w' :=
  ⟨hx, fun k o hk => by rw [h.swap.oldBlock (Array.getElem?_eq_some_iff.1 hk).1]; exact hk⟩
theorem s_bbA : (bbA.toList == (⟨#[98, 98]⟩ ++ fA.extract 2 fA.size : ByteArray).toList) = true := by decide +kernel
theorem s_abA : (abA.toList == (⟨#[97, 98]⟩ ++ fA.extract 2 fA.size : ByteArray).toList) = true := by decide +kernel
theorem s_fB : (fB.toList == fB.toList) = true := by decide +kernel
theorem s_fZ : (fZ.toList == fZ.toList) = true := by decide +kernel
theorem n_fA : fA.size = 64 := by decide +kernel

set_option maxRecDepth 100000 in
set_option maxHeartbeats 4000000 in
theorem head_any (w : World) : Calls Try.prog 10 #[] w fun e w' => e = .returned (.bool true) ∧ Kept w w' := by
  have H := Lib.hid (And.intro (Ext.refl w) (Sat.start w))
  have HbbA := s_bbA
  have HabA := s_abA
  have HfA : 2 ≤ fA.size := by rw [n_fA]; decide
  go_enter Try.func10, Try.ntmps10
  go_wp2_with fail
  refine (new_yes 2 (by decide) (by decide) _ _ H.out.2).mono ?_
  rintro e w2 ⟨dp, rfl, hx2, hs2⟩
  have H' := Lib.hid (And.intro (H.out.1.trans hx2) (show Sat w2 (diskP dp p0 * old w) from hs2))
  clear hx2 hs2 H; have H := H'; clear H'
  go_wp2_with fail
  refine (fill_A _).mono ?_
  rintro e w2 ⟨rfl, hk2⟩
  have H' := Lib.hid (And.intro (H.out.1.trans hk2.ext) (H.out.2.kept hk2))
  clear hk2 H; have H := H'; clear H'
  go_wp2_with fail
  refine (write_any dp p0 0 fA l_p0 _ _ H.out.2).mono ?_
  rintro e w2 ⟨rfl, hx2, hs2⟩
  have H' := Lib.hid (And.intro (H.out.1.trans hx2) (show Sat w2 (diskP dp p1 * old w) from hs2))
  clear hx2 hs2 H; have H := H'; clear H' 
  rw [e_p1]
  go_wp2_with fail
  refine (sync_any dp p1 (ql _ l_p1) _ _ H.out.2).mono ?_
  rintro e w2 ⟨rfl, hx2, hs2⟩
  have H' := Lib.hid (And.intro (H.out.1.trans hx2) (show Sat w2 (diskP dp p2 * old w) from hs2))
  clear hx2 hs2 H; have H := H'; clear H' 
  rw [e_p2]
  go_wp2_with fail
  refine (fill_B _).mono ?_
  rintro e w2 ⟨rfl, hk2⟩
  have H' := Lib.hid (And.intro (H.out.1.trans hk2.ext) (H.out.2.kept hk2))
  clear hk2 H; have H := H'; clear H'
  go_wp2_with fail
  refine (write_any dp p2 0 fB l_p2 _ _ H.out.2).mono ?_
  rintro e w2 ⟨rfl, hx2, hs2⟩
  have H' := Lib.hid (And.intro (H.out.1.trans hx2) (show Sat w2 (diskP dp p3 * old w) from hs2))
  clear hx2 hs2 H; have H := H'; clear H' 
  rw [e_p3]
  go_wp2_with fail
  refine (read_any dp p3 0 (ql _ l_p3) _ _ H.out.2).mono ?_
  rintro e w2 ⟨rfl, hk2⟩
  have H' := Lib.hid (And.intro (H.out.1.trans hk2.ext) (H.out.2.kept hk2))
  clear hk2 H; have H := H'; clear H'
  rw [e_p3r]
  simp only
  go_wp2_with fail
  refine (fail_any dp p3 0 2 (ql _ l_p3) _ _ H.out.2).mono ?_
  rintro e w2 ⟨rfl, hx2, hs2⟩
  have H' := Lib.hid (And.intro (H.out.1.trans hx2) (show Sat w2 (diskP dp p4 * old w) from hs2))
  clear hx2 hs2 H; have H := H'; clear H' 
  go_wp2_with fail
  refine (sync_any dp p4 (ql _ l_p4) _ _ H.out.2).mono ?_
  rintro e w2 ⟨rfl, hx2, hs2⟩
  have H' := Lib.hid (And.intro (H.out.1.trans hx2) (show Sat w2 (diskP dp p5 * old w) from hs2))
  clear hx2 hs2 H; have H := H'; clear H' 
  rw [e_p5]
  go_wp2_with fail
  refine (start_any dp p5 _ _ H.out.2).mono ?_
  rintro e w2 ⟨rfl, hx2, hs2⟩
  have H' := Lib.hid (And.intro (H.out.1.trans hx2) (show Sat w2 (diskP dp p6 * old w) from hs2))
  clear hx2 hs2 H; have H := H'; clear H' 
  go_wp2_with fail
  refine (read_any dp p6 0 (ql _ l_p6) _ _ H.out.2).mono ?_
  rintro e w2 ⟨rfl, hk2⟩
  have H' := Lib.hid (And.intro (H.out.1.trans hk2.ext) (H.out.2.kept hk2))
  clear hk2 H; have H := H'; clear H'
  rw [e_p6r]
  simp only
  go_wp2_with fail
  refine (read_any dp p6 1 (ql _ l_p6) _ _ H.out.2).mono ?_
  rintro e w2 ⟨rfl, hk2⟩
  have H' := Lib.hid (And.intro (H.out.1.trans hk2.ext) (H.out.2.kept hk2))
  clear hk2 H; have H := H'; clear H'
  rw [e_p6z]
  simp only
  go_wp2_with fail
  refine (read_any dp p6 2 (ql _ l_p6) _ _ H.out.2).mono ?_
  rintro e w2 ⟨rfl, hk2⟩
  have H' := Lib.hid (And.intro (H.out.1.trans hk2.ext) (H.out.2.kept hk2))
  clear hk2 H; have H := H'; clear H'
  rw [e_p6i]
  simp only
  go_wp2_with fail
  refine (write_any dp p6 1 tS l_p6 _ _ H.out.2).mono ?_
  rintro e w2 ⟨rfl, hx2, hs2⟩
  have H' := Lib.hid (And.intro (H.out.1.trans hx2) (show Sat w2 (diskP dp p7 * old w) from hs2))
  clear hx2 hs2 H; have H := H'; clear H' 
  rw [e_p7]
  go_wp2_with fail
  refine (fail_nil _ _ _).mono ?_
  rintro e w2 ⟨rfl, hk2⟩
  have H' := Lib.hid (And.intro (H.out.1.trans hk2.ext) (H.out.2.kept hk2))
  clear hk2 H; have H := H'; clear H'
  go_wp2_with fail
  refine (start_nil _).mono ?_
  rintro e w2 ⟨rfl, hk2⟩
  have H' := Lib.hid (And.intro (H.out.1.trans hk2.ext) (H.out.2.kept hk2))
  clear hk2 H; have H := H'; clear H'
  go_wp2_with fail
  refine (arm_nil _ _ _ _).mono ?_
  rintro e w2 ⟨rfl, hk2⟩
  have H' := Lib.hid (And.intro (H.out.1.trans hk2.ext) (H.out.2.kept hk2))
  clear hk2 H; have H := H'; clear H'
  go_wp2_with fail
  refine (rot_nil _ _ _ _).mono ?_
  rintro e w2 ⟨rfl, hk2⟩
  have H' := Lib.hid (And.intro (H.out.1.trans hk2.ext) (H.out.2.kept hk2))
  clear hk2 H; have H := H'; clear H'
  go_wp2_with fail
  refine (stale_nil _ _).mono ?_
  rintro e w2 ⟨rfl, hk2⟩
  have H' := Lib.hid (And.intro (H.out.1.trans hk2.ext) (H.out.2.kept hk2))
  clear hk2 H; have H := H'; clear H'
  go_wp2_with fail
  refine (new_yes 1 (by decide) (by decide) _ _ H.out.2).mono ?_
  rintro e w2 ⟨dq, rfl, hx2, hs2⟩
  have H' := Lib.hid (And.intro (H.out.1.trans hx2) (show Sat w2 (diskP dq q0 * (diskP dp p7 * old w)) from hs2))
  clear hx2 hs2 H; have H := H'; clear H'
  go_wp2_with fail
  refine (fill_A _).mono ?_
  rintro e w2 ⟨rfl, hk2⟩
  have H' := Lib.hid (And.intro (H.out.1.trans hk2.ext) (H.out.2.kept hk2))
  clear hk2 H; have H := H'; clear H'
  go_wp2_with fail
  refine (write_any dq q0 0 fA l_q0 _ _ H.out.2).mono ?_
  rintro e w2 ⟨rfl, hx2, hs2⟩
  have H' := Lib.hid (And.intro (H.out.1.trans hx2) (show Sat w2 (diskP dq q1 * (diskP dp p7 * old w)) from hs2))
  clear hx2 hs2 H; have H := H'; clear H' 
  rw [e_q1]
  go_wp2_with fail
  refine (sync_any dq q1 (ql _ l_q1) _ _ H.out.2).mono ?_
  rintro e w2 ⟨rfl, hx2, hs2⟩
  have H' := Lib.hid (And.intro (H.out.1.trans hx2) (show Sat w2 (diskP dq q2 * (diskP dp p7 * old w)) from hs2))
  clear hx2 hs2 H; have H := H'; clear H' 
  rw [e_q2]
  go_wp2_with fail
  refine (rot_any dq q2 0 1 3 _ _ H.out.2).mono ?_
  rintro e w2 ⟨rfl, hx2, hs2⟩
  have H' := Lib.hid (And.intro (H.out.1.trans hx2) (show Sat w2 (diskP dq q3 * (diskP dp p7 * old w)) from hs2))
  clear hx2 hs2 H; have H := H'; clear H' 
  go_wp2_with fail
  refine (read_any dq q3 0 (ql _ l_q3) _ _ H.out.2).mono ?_
  rintro e w2 ⟨rfl, hk2⟩
  have H' := Lib.hid (And.intro (H.out.1.trans hk2.ext) (H.out.2.kept hk2))
  clear hk2 H; have H := H'; clear H'
  rw [e_q3r]
  simp only
  go_wp2_with fail
  refine (stale_any dq q3 0 _ _ H.out.2).mono ?_
  rintro e w2 ⟨rfl, hx2, hs2⟩
  have H' := Lib.hid (And.intro (H.out.1.trans hx2) (show Sat w2 (diskP dq q4 * (diskP dp p7 * old w)) from hs2))
  clear hx2 hs2 H; have H := H'; clear H' 
  go_wp2_with fail
  refine (read_any dq q4 0 (ql _ l_q4) _ _ H.out.2).mono ?_
  rintro e w2 ⟨rfl, hk2⟩
  have H' := Lib.hid (And.intro (H.out.1.trans hk2.ext) (H.out.2.kept hk2))
  clear hk2 H; have H := H'; clear H'
  rw [e_q4r]
  simp only
  go_wp2_with fail
  refine (fill_A _).mono ?_
  rintro e w2 ⟨rfl, hk2⟩
  have H' := Lib.hid (And.intro (H.out.1.trans hk2.ext) (H.out.2.kept hk2))
  clear hk2 H; have H := H'; clear H'
  go_wp2_with fail
  refine (fill_Z _).mono ?_
  rintro e w2 ⟨rfl, hk2⟩
  have H' := Lib.hid (And.intro (H.out.1.trans hk2.ext) (H.out.2.kept hk2))
  clear hk2 H; have H := H'; clear H'
  go_wp2_with fail
  refine (new_yes 1 (by decide) (by decide) _ _ H.out.2).mono ?_
  rintro e w2 ⟨dr, rfl, hx2, hs2⟩
  have H' := Lib.hid (And.intro (H.out.1.trans hx2) (show Sat w2 (diskP dr r0 * (diskP dq q4 * (diskP dp p7 * old w))) from hs2))
  clear hx2 hs2 H; have H := H'; clear H'
  go_wp2_with fail
  refine (arm_any dr r0 1 1 2 (by decide) _ _ H.out.2).mono ?_
  rintro e w2 ⟨rfl, hx2, hs2⟩
  have H' := Lib.hid (And.intro (H.out.1.trans hx2) (show Sat w2 (diskP dr r1 * (diskP dq q4 * (diskP dp p7 * old w))) from hs2))
  clear hx2 hs2 H; have H := H'; clear H' 
  go_wp2_with fail
  refine (fill_A _).mono ?_
  rintro e w2 ⟨rfl, hk2⟩
  have H' := Lib.hid (And.intro (H.out.1.trans hk2.ext) (H.out.2.kept hk2))
  clear hk2 H; have H := H'; clear H'
  go_wp2_with fail
  refine (write_any dr r1 0 fA l_r1 _ _ H.out.2).mono ?_
  rintro e w2 ⟨rfl, hx2, hs2⟩
  have H' := Lib.hid (And.intro (H.out.1.trans hx2) (show Sat w2 (diskP dr r2 * (diskP dq q4 * (diskP dp p7 * old w))) from hs2))
  clear hx2 hs2 H; have H := H'; clear H' 
  rw [e_r2]
  go_wp2_with fail
  refine (fill_B _).mono ?_
  rintro e w2 ⟨rfl, hk2⟩
  have H' := Lib.hid (And.intro (H.out.1.trans hk2.ext) (H.out.2.kept hk2))
  clear hk2 H; have H := H'; clear H'
  go_wp2_with fail
  refine (write_any dr r2 0 fB l_r2 _ _ H.out.2).mono ?_
  rintro e w2 ⟨rfl, hx2, hs2⟩
  have H' := Lib.hid (And.intro (H.out.1.trans hx2) (show Sat w2 (diskP dr r3 * (diskP dq q4 * (diskP dp p7 * old w))) from hs2))
  clear hx2 hs2 H; have H := H'; clear H' 
  rw [e_r3]
  go_wp2_with fail
  refine (start_any dr r3 _ _ H.out.2).mono ?_
  rintro e w2 ⟨rfl, hx2, hs2⟩
  have H' := Lib.hid (And.intro (H.out.1.trans hx2) (show Sat w2 (diskP dr r4 * (diskP dq q4 * (diskP dp p7 * old w))) from hs2))
  clear hx2 hs2 H; have H := H'; clear H' 
  go_wp2_with fail
  refine (read_any dr r4 0 (ql _ l_r4) _ _ H.out.2).mono ?_
  rintro e w2 ⟨rfl, hk2⟩
  have H' := Lib.hid (And.intro (H.out.1.trans hk2.ext) (H.out.2.kept hk2))
  clear hk2 H; have H := H'; clear H'
  rw [e_r4r]
  simp only
  go_wp2_with fail
  refine (fill_A _).mono ?_
  rintro e w2 ⟨rfl, hk2⟩
  have H' := Lib.hid (And.intro (H.out.1.trans hk2.ext) (H.out.2.kept hk2))
  clear hk2 H; have H := H'; clear H'
  go_wp2_with fail
  refine (fill_B _).mono ?_
  rintro e w2 ⟨rfl, hk2⟩
  have H' := Lib.hid (And.intro (H.out.1.trans hk2.ext) (H.out.2.kept hk2))
  clear hk2 H; have H := H'; clear H'
  go_wp2_with fail
  refine (fill_A _).mono ?_
  rintro e w2 ⟨rfl, hk2⟩
  have H' := Lib.hid (And.intro (H.out.1.trans hk2.ext) (H.out.2.kept hk2))
  clear hk2 H; have H := H'; clear H'
  go_wp2_with fail
  refine (fill_Z _).mono ?_
  rintro e w2 ⟨rfl, hk2⟩
  have H' := Lib.hid (And.intro (H.out.1.trans hk2.ext) (H.out.2.kept hk2))
  clear hk2 H; have H := H'; clear H'
  go_wp2_with fail
  refine (sync_nil _).mono ?_
  rintro e w2 ⟨rfl, hk2⟩
  have H' := Lib.hid (And.intro (H.out.1.trans hk2.ext) (H.out.2.kept hk2))
  clear hk2 H; have H := H'; clear H'
  go_wp2_with fail
  refine (fill_A _).mono ?_
  rintro e w2 ⟨rfl, hk2⟩
  have H' := Lib.hid (And.intro (H.out.1.trans hk2.ext) (H.out.2.kept hk2))
  clear hk2 H; have H := H'; clear H'
  go_wp2_with fail
  refine (write_nil _ _ _).mono ?_
  rintro e w2 ⟨rfl, hk2⟩
  have H' := Lib.hid (And.intro (H.out.1.trans hk2.ext) (H.out.2.kept hk2))
  clear hk2 H; have H := H'; clear H'
  go_wp2_with fail
  refine (new_no 0 (by decide) _).mono ?_
  rintro e w2 ⟨rfl, rfl⟩
  go_wp2_with fail
  refine (new_no 4001 (by decide) _).mono ?_
  rintro e w2 ⟨rfl, rfl⟩
  go_wp2_with fail
  go_ret
  refine ⟨rfl, Kept.of_old (P := diskP dr r4 * (diskP dq q4 * diskP dp p7)) H.out.1 (H.out.2.cast (by ac_rfl))⟩
end Go.Proofs.Ytcjocajpnebecaa
