/-
  Plain laws of exact ratios: what 'red' gives. No program in sight.
-/
import Derived.Test.YtacjgkpncdnbgaaDoorQ1
namespace Go.Proofs.YtacjgkpncdnbgaaDoor

theorem natAbs_sign (m : Bool) (k : Nat) : (if m then -(k : Int) else (k : Int)).natAbs = k := by cases m <;> simp
/-- A result is valid, and is the quotient. -/
theorem red_ok {m : Bool} {n d : Nat} {a : Q} (hd : 0 < d) (h : red m n d = (a, 0)) :
    a.valid = true ∧ a.n * (d : Int) = (if m then -(n : Int) else (n : Int)) * a.d := by
  unfold red at h
  split at h
  · simp at h
  · rename_i hc
    have hg : 0 < Nat.gcd n d := Nat.gcd_pos_of_pos_right _ hd
    obtain ⟨x, hx⟩ := Nat.gcd_dvd_left n d
    obtain ⟨y, hy⟩ := Nat.gcd_dvd_right n d
    have e1 : n / Nat.gcd n d = x := by rw [Nat.div_eq_of_eq_mul_right hg hx]
    have e2 : d / Nat.gcd n d = y := by rw [Nat.div_eq_of_eq_mul_right hg hy]
    have hco : Nat.gcd (n / Nat.gcd n d) (d / Nat.gcd n d) = 1 := by rw [Nat.gcd_div (Nat.gcd_dvd_left n d) (Nat.gcd_dvd_right n d), Nat.div_self hg]
    rw [e1, e2] at h hc hco
    simp only [Prod.mk.injEq, and_true] at h
    subst h
    have hy0 : 0 < y := Nat.pos_of_ne_zero fun h0 => by rw [h0] at hy; omega
    refine ⟨(Q.valid_iff _).2 ⟨by simpa using hy0, by simp; omega, by rw [natAbs_sign]; omega, by rw [natAbs_sign]; simpa using hco⟩, ?_⟩
    generalize Nat.gcd n d = g at *
    subst hx hy
    cases m <;> simp <;> grind
end Go.Proofs.YtacjgkpncdnbgaaDoor
