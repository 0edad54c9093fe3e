/-
  Plain laws of exact ratios: order, shares. No program in sight.
-/
import Derived.Test.YtacjgkpncdnbgaaDoorQ3
namespace Go.Proofs.YtacjgkpncdnbgaaDoor

theorem signR_neg (x : Int) : signR x < 0 ↔ x < 0 := by unfold signR; split <;> (try split) <;> omega
theorem signR_pos (x : Int) : 0 < signR x ↔ 0 < x := by unfold signR; split <;> (try split) <;> omega
theorem signR_zero (x : Int) : signR x = 0 ↔ x = 0 := by unfold signR; split <;> (try split) <;> omega
theorem signR_le (x : Int) : -1 ≤ signR x ∧ signR x ≤ 1 := by unfold signR; split <;> (try split) <;> omega
theorem cmpR_eq {a b : Q} (ha : a.valid = true) (hb : b.valid = true) : cmpR a b = signR (a.n * b.d - b.n * a.d) := by simp [cmpR, ha, hb]
def qNone : Q := ⟨0, 1⟩
def qOne : Q := ⟨1, 1⟩
theorem none_valid : qNone.valid = true := by kernel_rfl
theorem one_valid : qOne.valid = true := by kernel_rfl
theorem cmp_none {a : Q} (ha : a.valid = true) : cmpR a qNone = signR a.n := by
  rw [cmpR_eq ha none_valid]; simp [qNone]
theorem cmp_one {a : Q} (ha : a.valid = true) : cmpR a qOne = signR (a.n - a.d) := by
  rw [cmpR_eq ha one_valid]; simp [qOne]
theorem mul_cases {a b : Q} (ha : a.valid = true) (hb : b.valid = true) : mulR a b = (q0, 2) ∨ ∃ p : Q, mulR a b = (p, 0) := by
  rw [mulR_eq ha hb]; exact makeR_cases (Q.dd ha hb)
theorem add_cases {a b : Q} (ha : a.valid = true) (hb : b.valid = true) : addR a b = (q0, 2) ∨ ∃ p : Q, addR a b = (p, 0) := by
  rw [addR_eq ha hb]; exact makeR_cases (Q.dd ha hb)
theorem zero_is {b : Q} (hb : b.valid = true) (h : b.n = 0) : b = qNone := by
  obtain ⟨h1, h2, h3, h4⟩ := (Q.valid_iff b).1 hb
  obtain ⟨n, d⟩ := b
  simp only at h h1 h2 h3 h4
  subst h
  simp at h4
  have : d = 1 := by omega
  rw [this]; rfl
theorem div_cases {a b : Q} (ha : a.valid = true) (hb : b.valid = true) : (b = qNone ∧ divR a b = (q0, 1)) ∨ divR a b = (q0, 2) ∨ ∃ p : Q, divR a b = (p, 0) := by
  by_cases h0 : b.n = 0
  · exact Or.inl ⟨zero_is hb h0, divR_zero ha hb h0⟩
  · right
    rw [divR_eq ha hb h0]
    obtain ⟨_, _, s⟩ := Q.small ha
    exact makeR_cases (Int.mul_ne_zero (by omega) h0)
theorem pos_of {x k y : Int} (hk : 0 < k) (hy : 0 ≤ y) (h : x * k = y) : 0 ≤ x := by
  rcases Int.lt_or_le x 0 with h1 | h1
  · have := Int.mul_neg_of_neg_of_pos h1 hk; omega
  · exact h1
theorem shares_mul {a b p : Q} (ha : a.valid = true) (hb : b.valid = true) (a0 : 0 ≤ a.n) (b0 : 0 ≤ b.n) (b1 : b.n ≤ b.d) (h : mulR a b = (p, 0)) : p.valid = true ∧ 0 ≤ cmpR p qNone ∧ cmpR p a ≤ 0 := by
  rw [mulR_eq ha hb] at h
  obtain ⟨hv, he⟩ := makeR_ok (Q.dd ha hb) h
  obtain ⟨_, _, s⟩ := Q.small ha
  obtain ⟨_, _, t⟩ := Q.small hb
  obtain ⟨_, _, u⟩ := Q.small hv
  refine ⟨hv, ?_, ?_⟩
  · rw [cmp_none hv]
    have := pos_of (Int.mul_pos s t) (Int.mul_nonneg (Int.mul_nonneg a0 b0) (by omega)) he
    have := (signR_neg p.n).1
    omega
  · rw [cmpR_eq hv ha]
    have h1 : p.n * a.d * b.d ≤ a.n * p.d * b.d := by
      have e1 : p.n * a.d * b.d = (a.n * p.d) * b.n := by grind
      rw [e1]
      exact Int.mul_le_mul_of_nonneg_left b1 (Int.mul_nonneg a0 (by omega))
    have h2 := Int.le_of_mul_le_mul_right h1 t
    have := (signR_pos (p.n * a.d - a.n * p.d)).1
    omega
theorem shares_div {a b p : Q} (ha : a.valid = true) (hb : b.valid = true) (a0 : 0 ≤ a.n) (b0 : 0 ≤ b.n) (ab : a.n * b.d ≤ b.n * a.d) (h : divR a b = (p, 0)) : p.valid = true ∧ 0 ≤ cmpR p qNone ∧ cmpR p qOne ≤ 0 := by
  have h0 : b.n ≠ 0 := by
    intro h0
    rw [divR_zero ha hb h0] at h
    simp at h
  rw [divR_eq ha hb h0] at h
  obtain ⟨_, _, s⟩ := Q.small ha
  obtain ⟨_, _, t⟩ := Q.small hb
  have dd : 0 < a.d * b.n := Int.mul_pos s (by omega)
  obtain ⟨hv, he⟩ := makeR_ok (by omega) h
  obtain ⟨_, _, u⟩ := Q.small hv
  refine ⟨hv, ?_, ?_⟩
  · rw [cmp_none hv]
    have := pos_of dd (Int.mul_nonneg (Int.mul_nonneg a0 (by omega)) (by omega)) he
    have := (signR_neg p.n).1
    omega
  · rw [cmp_one hv]
    have h1 : p.n * (a.d * b.n) ≤ p.d * (a.d * b.n) := by
      rw [he]
      have := Int.mul_le_mul_of_nonneg_right ab (show 0 ≤ p.d by omega)
      have e : p.d * (a.d * b.n) = b.n * a.d * p.d := by grind
      omega
    have h2 := Int.le_of_mul_le_mul_right h1 dd
    have := (signR_pos (p.n - p.d)).1
    omega
end Go.Proofs.YtacjgkpncdnbgaaDoor
