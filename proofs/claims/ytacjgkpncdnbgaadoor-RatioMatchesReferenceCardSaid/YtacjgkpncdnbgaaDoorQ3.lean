/-
  Plain laws of exact ratios: every operation is the making of one quotient, and that depends on its value alone. No program in sight.
-/
import Derived.Test.YtacjgkpncdnbgaaDoorV8
namespace Go.Proofs.YtacjgkpncdnbgaaDoor

theorem makeR_scale (k n d : Int) (hk : k ≠ 0) : makeR (k * n) (k * d) = makeR n d := by
  unfold makeR
  by_cases hd : d = 0
  · subst hd; simp
  · have h1 : k * d ≠ 0 := Int.mul_ne_zero hk hd
    rw [if_neg h1, if_neg hd, Int.natAbs_mul, Int.natAbs_mul, red_scale _ _ _ _ (by omega)]
    by_cases hn : n = 0
    · subst hn
      unfold red
      simp
    · congr 1
      rcases Int.lt_or_gt_of_ne hk with k1 | k1
      · have e1 : decide (k * n < 0) = !decide (n < 0) := by
          rcases Int.lt_or_gt_of_ne hn with h | h
          · have := Int.mul_pos_of_neg_of_neg k1 h
            rw [decide_eq_false (by omega), decide_eq_true h]; rfl
          · have := Int.mul_neg_of_neg_of_pos k1 h
            rw [decide_eq_true this, decide_eq_false (by omega)]; rfl
        have e2 : decide (k * d < 0) = !decide (d < 0) := by
          rcases Int.lt_or_gt_of_ne hd with h | h
          · have := Int.mul_pos_of_neg_of_neg k1 h
            rw [decide_eq_false (by omega), decide_eq_true h]; rfl
          · have := Int.mul_neg_of_neg_of_pos k1 h
            rw [decide_eq_true this, decide_eq_false (by omega)]; rfl
        rw [e1, e2]
        cases decide (n < 0) <;> cases decide (d < 0) <;> rfl
      · have e1 : decide (k * n < 0) = decide (n < 0) := by
          rcases Int.lt_or_gt_of_ne hn with h | h
          · have := Int.mul_neg_of_pos_of_neg k1 h; simp; omega
          · have := Int.mul_pos k1 h; simp; omega
        have e2 : decide (k * d < 0) = decide (d < 0) := by
          rcases Int.lt_or_gt_of_ne hd with h | h
          · have := Int.mul_neg_of_pos_of_neg k1 h; simp; omega
          · have := Int.mul_pos k1 h; simp; omega
        rw [e1, e2]
/-- The making depends on the value alone. -/
theorem makeR_congr {n1 d1 n2 d2 : Int} (h1 : d1 ≠ 0) (h2 : d2 ≠ 0) (h : n1 * d2 = n2 * d1) : makeR n1 d1 = makeR n2 d2 := by
  rw [← makeR_scale d2 n1 d1 h2, ← makeR_scale d1 n2 d2 h1]
  rw [show d2 * n1 = d1 * n2 by grind, show d2 * d1 = d1 * d2 by grind]
theorem makeR_self {a : Q} (h : a.valid = true) : makeR a.n a.d = (a, 0) := by
  obtain ⟨h1, h2, h3, h4⟩ := (Q.valid_iff a).1 h
  obtain ⟨n, d⟩ := a
  simp only at h1 h2 h3 h4 ⊢
  unfold makeR red
  rw [if_neg (by omega), h4, Nat.div_one, Nat.div_one, if_neg (by omega)]
  have e : decide (d < 0) = false := by simp; omega
  rw [e]
  by_cases hn : n < 0
  · simp [hn]; omega
  · simp [hn]; omega
theorem makeR_of {n d : Int} {a : Q} (hd : d ≠ 0) (h : a.valid = true) (he : a.n * d = n * a.d) : makeR n d = (a, 0) := by
  rw [← makeR_self h]
  have := (Q.valid_iff a).1 h
  exact makeR_congr hd (by omega) he.symm
theorem makeR_cases {n d : Int} (hd : d ≠ 0) : makeR n d = (q0, 2) ∨ ∃ a : Q, makeR n d = (a, 0) := by
  unfold makeR red
  rw [if_neg hd]
  split
  · exact Or.inl rfl
  · exact Or.inr ⟨_, rfl⟩
theorem makeR_small {n d : Int} (hd : d ≠ 0) (h1 : n.natAbs ≤ 1000000000) (h2 : d.natAbs ≤ 1000000000) : ∃ a : Q, makeR n d = (a, 0) := by
  unfold makeR red
  rw [if_neg hd, if_neg]
  · exact ⟨_, rfl⟩
  · have := Nat.div_le_self n.natAbs (Nat.gcd n.natAbs d.natAbs)
    have := Nat.div_le_self d.natAbs (Nat.gcd n.natAbs d.natAbs)
    omega
theorem makeR_ok {n d : Int} {a : Q} (hd : d ≠ 0) (h : makeR n d = (a, 0)) : a.valid = true ∧ a.n * d = n * a.d := by
  unfold makeR at h
  rw [if_neg hd] at h
  obtain ⟨hv, he⟩ := red_ok (by omega) h
  refine ⟨hv, ?_⟩
  by_cases hn : n < 0
  · by_cases hd0 : d < 0
    · have e1 : (n.natAbs : Int) = -n := by omega
      have e2 : (d.natAbs : Int) = -d := by omega
      rw [e1, e2] at he
      simp [hn, hd0] at he
      grind
    · have e1 : (n.natAbs : Int) = -n := by omega
      have e2 : (d.natAbs : Int) = d := by omega
      rw [e1, e2] at he
      simp [hn, hd0] at he
      grind
  · by_cases hd0 : d < 0
    · have e1 : (n.natAbs : Int) = n := by omega
      have e2 : (d.natAbs : Int) = -d := by omega
      rw [e1, e2] at he
      simp [hn, hd0] at he
      grind
    · have e1 : (n.natAbs : Int) = n := by omega
      have e2 : (d.natAbs : Int) = d := by omega
      rw [e1, e2] at he
      simp [hn, hd0] at he
      grind
theorem mul_bound {a b : Int} (A B : Nat) (ha : a.natAbs ≤ A) (hb : b.natAbs ≤ B) : -((A * B : Nat) : Int) ≤ a * b ∧ a * b ≤ ((A * B : Nat) : Int) := by
  have h := Nat.mul_le_mul ha hb
  rw [← Int.natAbs_mul] at h
  omega
/-- A product over a product is made like any quotient. -/
theorem prodR_eq {a : Q} {num den : Int} (ha : 0 < a.d) (hd : den ≠ 0) : prodR a num den = makeR (a.n * num) (a.d * den) := by
  have h1 : a.d * den ≠ 0 := Int.mul_ne_zero (by omega) hd
  unfold prodR makeR
  rw [if_neg h1, Int.natAbs_mul, Int.natAbs_mul]
  have e2 : decide (a.d * den < 0) = decide (den < 0) := by
    rcases Int.lt_or_gt_of_ne hd with h | h
    · have := Int.mul_neg_of_pos_of_neg ha h; simp; omega
    · have := Int.mul_pos ha h; simp; omega
  rw [e2]
  by_cases h0 : a.n = 0 ∨ num = 0
  · have : a.n.natAbs * num.natAbs = 0 := by rcases h0 with h | h <;> simp [h]
    rw [this]
    unfold red
    simp
  · congr 1
    have e1 : decide (a.n * num < 0) = (decide (a.n < 0) != decide (num < 0)) := by
      rcases Int.lt_or_gt_of_ne (show a.n ≠ 0 by omega) with h | h <;> rcases Int.lt_or_gt_of_ne (show num ≠ 0 by omega) with k | k
      · have := Int.mul_pos_of_neg_of_neg h k; simp [h, k]; omega
      · have := Int.mul_neg_of_neg_of_pos h k; have k' : ¬ num < 0 := by omega
        simp [h, k', this]
      · have := Int.mul_neg_of_pos_of_neg h k; have h' : ¬ a.n < 0 := by omega
        simp [h', k, this]
      · have := Int.mul_pos h k; have h' : ¬ a.n < 0 := by omega
        have k' : ¬ num < 0 := by omega
        simp [h', k']; omega
    rw [e1]
    cases decide (a.n < 0) <;> cases decide (num < 0) <;> cases decide (den < 0) <;> rfl
theorem addR_eq {a b : Q} (ha : a.valid = true) (hb : b.valid = true) : addR a b = makeR (a.n * b.d + b.n * a.d) (a.d * b.d) := by simp [addR, ha, hb]
theorem subR_eq {a b : Q} (ha : a.valid = true) (hb : b.valid = true) : subR a b = makeR (a.n * b.d - b.n * a.d) (a.d * b.d) := by simp [subR, ha, hb]
theorem mulR_eq {a b : Q} (ha : a.valid = true) (hb : b.valid = true) : mulR a b = makeR (a.n * b.n) (a.d * b.d) := by
  obtain ⟨_, _, s⟩ := Q.small ha
  obtain ⟨_, _, t⟩ := Q.small hb
  simp only [mulR, ha, hb, Bool.and_self, if_true]
  exact prodR_eq s (by omega)
theorem divR_eq {a b : Q} (ha : a.valid = true) (hb : b.valid = true) (h0 : b.n ≠ 0) : divR a b = makeR (a.n * b.d) (a.d * b.n) := by
  obtain ⟨_, _, s⟩ := Q.small ha
  simp only [divR, ha, hb, Bool.and_self, if_true, divIn, if_neg h0]
  exact prodR_eq s h0
theorem divR_zero {a b : Q} (ha : a.valid = true) (hb : b.valid = true) (h0 : b.n = 0) : divR a b = (q0, 1) := by
  simp [divR, ha, hb, divIn, h0]
theorem Q.dd {a b : Q} (ha : a.valid = true) (hb : b.valid = true) : a.d * b.d ≠ 0 := by
  obtain ⟨_, _, s⟩ := Q.small ha
  obtain ⟨_, _, t⟩ := Q.small hb
  exact Int.mul_ne_zero (by omega) (by omega)
theorem Q.wf_of {a : Q} (h : a.valid = true) : a.wf := by
  obtain ⟨s1, s2, s3⟩ := Q.small h
  exact ⟨by omega, by omega, by omega, by omega⟩
end Go.Proofs.YtacjgkpncdnbgaaDoor
