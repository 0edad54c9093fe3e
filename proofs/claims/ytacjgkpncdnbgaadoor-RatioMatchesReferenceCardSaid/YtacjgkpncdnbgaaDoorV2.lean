/-
  ratio's Valid, walked. Its condition: the parts are integers of Go.
-/
import Derived.Test.YtacjgkpncdnbgaaDoorV1
import Derived.Deep.RegionHeld3
namespace Go.Proofs.YtacjgkpncdnbgaaDoor
open Go.RowKit

def Q.val (a : Q) : Value := .agg #[.int .i64 a.n, .int .i64 a.d]
structure Q.wf (a : Q) : Prop where
  n1 : -9223372036854775808 ≤ a.n
  n2 : a.n ≤ 9223372036854775807
  d1 : -9223372036854775808 ≤ a.d
  d2 : a.d ≤ 9223372036854775807

/-- A ratio's block stays as it was. -/
theorem two_step {w w1 w2 : World} {B : Nat} {x y : Value} (h : Kept w w1 ∧ w1.cell? ⟨B, 0, none⟩ = some x ∧ w1.cell? ⟨B, 1, none⟩ = some y) (k : Kept w1 w2) :
    Kept w w2 ∧ w2.cell? ⟨B, 0, none⟩ = some x ∧ w2.cell? ⟨B, 1, none⟩ = some y := ⟨h.1.trans k, k.cell h.2.1, k.cell h.2.2⟩
theorem Kept.allocDrew (w : World) (o : Obj) : Kept w.drew (w.alloc o).drew :=
  (show (w.alloc o).drew = w.drew.alloc o from rfl) ▸ (Kept.refl w.drew).alloc o

set_option maxHeartbeats 1600000 in
theorem valid_any (a : Q) (ha : a.wf) (w : World) : Calls Tryd.prog 13 #[a.val] w fun e w' => e = .returned (.bool a.valid) ∧ Kept w w' := by
  obtain ⟨n, d⟩ := a
  obtain ⟨n1, n2, d1, d2⟩ := ha
  simp only at n1 n2 d1 d2
  unfold Q.val
  simp only
  by_cases c1 : 0 < d
  · have g1 : decide (0 < d) = true := by simpa using c1
    by_cases c2 : d ≤ 1000000000
    · have g2 : decide (d ≤ 1000000000) = true := by simpa using c2
      obtain ⟨N, hN⟩ : ∃ N, n.natAbs = N := ⟨_, rfl⟩
      obtain ⟨D, hD⟩ : ∃ D, d.natAbs = D := ⟨_, rfl⟩
      obtain ⟨b, hb, f0⟩ : ∃ w1, w1 = w.alloc (.cells #[.int .i64 n, .int .i64 d] 24) ∧ Hid (Kept w w1.drew ∧ w1.drew.cell? ⟨w.heap.size, 0, none⟩ = some (.int .i64 n) ∧ w1.drew.cell? ⟨w.heap.size, 1, none⟩ = some (.int .i64 d)) := ⟨_, rfl, Lib.hid ⟨((Kept.refl _).alloc _).drew, by go_simp, by go_simp⟩⟩
      by_cases c3 : N ≤ 1000000000
      · have g3 : decide ((N : Int) ≤ 1000000000) = true := by simp; omega
        have E : Hid (Q.valid ⟨n, d⟩ = ((Nat.gcd N D : Int) == 1)) := Lib.hid (by
          simp [Q.valid, c1, c2, c3, hN, hD]
          by_cases h : N.gcd D = 1
          · simp [h]
          · simp [h]; omega)
        go_enter Tryd.func13, Tryd.ntmps13
        go_wp2_with fail
        rw [← hb]; clear hb
        go_region_held3 (fun wx => Kept w wx ∧ wx.cell? ⟨w.heap.size, 0, none⟩ = some (.int .i64 n) ∧ wx.cell? ⟨w.heap.size, 1, none⟩ = some (.int .i64 d))
          (first | exact f0.out | exact two_step f0.out (Kept.allocDrew _ _) | exact two_step f0.out ((Kept.allocDrew _ _).trans hk3))
          (first
            | (go_at_call 32; refine (mag_any _ (by assumption) (by assumption) _).mono ?_; rintro e w2 ⟨rfl, rfl⟩)
            | (go_at_call 33; refine (common_any N D (by omega) (by omega) _ _ (by go_simp) (by go_simp)).mono ?_; rintro e w3 ⟨rfl, hk3⟩))
        all_goals (go_wp2_with fail; go_ret; exact ⟨by rw [E.out]; rfl, f0.out.1.trans ((Kept.allocDrew _ _).trans hk3)⟩)
      · have g3 : decide ((N : Int) ≤ 1000000000) = false := by simp; omega
        have E : Hid (Q.valid ⟨n, d⟩ = false) := Lib.hid (by simp [Q.valid, c3, hN])
        go_enter Tryd.func13, Tryd.ntmps13
        go_wp2_with fail
        go_quiet ((go_at_call 32; exact Calls.quiet_of_same ((mag_any _ (by assumption) (by assumption) _).mono fun _ _ h => ⟨h.1.trans (by rw [hN]), h.2.symm⟩)))
        go_wp2_with fail
        go_ret
        exact ⟨by rw [E.out]; rfl, ((Kept.refl _).alloc _).drewN _⟩
    · have E : Hid (Q.valid ⟨n, d⟩ = false) := Lib.hid (by simp [Q.valid, c2])
      have g2 : decide (d ≤ 1000000000) = false := by simpa using c2
      clear c2
      go_enter Tryd.func13, Tryd.ntmps13
      go_wp2_with fail
      go_quiet (fail)
      go_wp2_with fail
      go_ret
      exact ⟨by rw [E.out]; rfl, ((Kept.refl _).alloc _).drewN _⟩
  · have E : Hid (Q.valid ⟨n, d⟩ = false) := Lib.hid (by simp [Q.valid, c1])
    have g1 : decide (0 < d) = false := by simpa using c1
    clear c1
    go_enter Tryd.func13, Tryd.ntmps13
    go_wp2_with fail
    go_quiet (fail)
    go_wp2_with fail
    go_ret
    exact ⟨by rw [E.out]; rfl, ((Kept.refl _).alloc _).drewN _⟩
end Go.Proofs.YtacjgkpncdnbgaaDoor
