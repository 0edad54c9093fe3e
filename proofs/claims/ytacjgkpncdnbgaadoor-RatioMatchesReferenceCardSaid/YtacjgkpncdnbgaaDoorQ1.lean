/-
  Plain laws of exact ratios: lowest terms, and what makes two of them equal. No program in sight.
-/
import Derived.KernelRfl
namespace Go.Proofs.YtacjgkpncdnbgaaDoor

structure Q where
  n : Int
  d : Int
def q0 : Q := ⟨0, 0⟩
def Q.valid (a : Q) : Bool := decide (0 < a.d) && decide (a.d ≤ 1000000000) && decide (a.n.natAbs ≤ 1000000000) && decide (Nat.gcd a.n.natAbs a.d.natAbs = 1)
theorem Q.valid_iff (a : Q) : a.valid = true ↔ 0 < a.d ∧ a.d ≤ 1000000000 ∧ a.n.natAbs ≤ 1000000000 ∧ Nat.gcd a.n.natAbs a.d.natAbs = 1 := by
  simp [Q.valid, and_assoc]
/-- The quotient of two magnitudes in lowest terms. -/
def red (minus : Bool) (n d : Nat) : Q × Int :=
  if 1000000000 < n / Nat.gcd n d ∨ 1000000000 < d / Nat.gcd n d then (q0, 2)
  else (⟨if minus then -((n / Nat.gcd n d : Nat) : Int) else ((n / Nat.gcd n d : Nat) : Int), ((d / Nat.gcd n d : Nat) : Int)⟩, 0)
/-- Two ratios in lowest terms with the same value are the same. -/
theorem Q.uniq {a b : Q} (ha : a.valid = true) (hb : b.valid = true) (h : a.n * b.d = b.n * a.d) : a = b := by
  obtain ⟨a1, _, _, a4⟩ := (Q.valid_iff a).1 ha
  obtain ⟨b1, _, _, b4⟩ := (Q.valid_iff b).1 hb
  have h2 : a.n.natAbs * b.d.natAbs = b.n.natAbs * a.d.natAbs := by rw [← Int.natAbs_mul, ← Int.natAbs_mul, h]
  have d1 : a.d.natAbs ∣ b.d.natAbs := by
    have : a.d.natAbs ∣ a.n.natAbs * b.d.natAbs := by rw [h2]; exact Nat.dvd_mul_left _ _
    exact (Nat.Coprime.dvd_of_dvd_mul_left (by rw [Nat.Coprime, Nat.gcd_comm]; exact a4) this)
  have d2 : b.d.natAbs ∣ a.d.natAbs := by
    have : b.d.natAbs ∣ b.n.natAbs * a.d.natAbs := by rw [← h2]; exact Nat.dvd_mul_left _ _
    exact (Nat.Coprime.dvd_of_dvd_mul_left (by rw [Nat.Coprime, Nat.gcd_comm]; exact b4) this)
  have hd : a.d = b.d := by have := Nat.dvd_antisymm d1 d2; omega
  have hn : a.n = b.n := by
    rw [hd] at h
    exact Int.eq_of_mul_eq_mul_right (by omega) h
  cases a; cases b; simp_all
end Go.Proofs.YtacjgkpncdnbgaaDoor
