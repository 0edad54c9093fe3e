/-
  Plain laws of exact ratios: the order's laws and the field's. No program in sight.
-/
import Derived.Test.YtacjgkpncdnbgaaDoorQ4
namespace Go.Proofs.YtacjgkpncdnbgaaDoor

theorem signR_scale {k : Int} (hk : 0 < k) (x : Int) : signR (k * x) = signR x := by
  unfold signR
  rcases Int.lt_trichotomy x 0 with h | h | h
  · have := Int.mul_neg_of_pos_of_neg hk h
    rw [if_pos this, if_pos h]
  · subst h; simp
  · have := Int.mul_pos hk h
    rw [if_neg (by omega), if_pos this, if_neg (by omega), if_pos h]
theorem signR_opp (x : Int) : signR (-x) = -signR x := by
  unfold signR
  rcases Int.lt_trichotomy x 0 with h | h | h
  · rw [if_neg (by omega), if_pos (by omega), if_pos h]; rfl
  · subst h; simp
  · rw [if_pos (by omega), if_neg (by omega), if_pos h]
theorem order_sym {a b : Q} (ha : a.valid = true) (hb : b.valid = true) : cmpR b a = -cmpR a b := by
  rw [cmpR_eq hb ha, cmpR_eq ha hb, ← signR_opp]
  congr 1
  omega
theorem order_eq {a b : Q} (ha : a.valid = true) (hb : b.valid = true) : cmpR a b = 0 ↔ a = b := by
  rw [cmpR_eq ha hb, signR_zero]
  constructor
  · intro h
    exact Q.uniq ha hb (by omega)
  · rintro rfl
    omega
theorem order_trans {a b c : Q} (ha : a.valid = true) (hb : b.valid = true) (hc : c.valid = true) (h1 : cmpR a b ≤ 0) (h2 : cmpR b c ≤ 0) : cmpR a c ≤ 0 := by
  rw [cmpR_eq ha hb] at h1
  rw [cmpR_eq hb hc] at h2
  rw [cmpR_eq ha hc]
  obtain ⟨_, _, s⟩ := Q.small ha
  obtain ⟨_, _, t⟩ := Q.small hb
  obtain ⟨_, _, u⟩ := Q.small hc
  have k1 : a.n * b.d ≤ b.n * a.d := by have := (signR_pos (a.n * b.d - b.n * a.d)).2; omega
  have k2 : b.n * c.d ≤ c.n * b.d := by have := (signR_pos (b.n * c.d - c.n * b.d)).2; omega
  have k3 := Int.mul_le_mul_of_nonneg_right k1 (show 0 ≤ c.d by omega)
  have k4 := Int.mul_le_mul_of_nonneg_right k2 (show 0 ≤ a.d by omega)
  have k5 : a.n * c.d * b.d ≤ c.n * a.d * b.d := by
    have e1 : a.n * b.d * c.d = a.n * c.d * b.d := by grind
    have e2 : b.n * a.d * c.d = b.n * c.d * a.d := by grind
    have e3 : c.n * b.d * a.d = c.n * a.d * b.d := by grind
    omega
  have k6 := Int.le_of_mul_le_mul_right k5 t
  have := (signR_pos (a.n * c.d - c.n * a.d)).1
  omega
theorem sign_same {x y p q : Int} (hp : 0 < p) (hq : 0 < q) (h : p * x = q * y) : signR x = signR y := by
  rw [← signR_scale hp x, h, signR_scale hq]
theorem order_add {a b c s t : Q} (ha : a.valid = true) (hb : b.valid = true) (hc : c.valid = true) (h1 : addR a c = (s, 0)) (h2 : addR b c = (t, 0)) : cmpR s t = cmpR a b := by
  rw [addR_eq ha hc] at h1
  rw [addR_eq hb hc] at h2
  obtain ⟨v1, e1⟩ := makeR_ok (Q.dd ha hc) h1
  obtain ⟨v2, e2⟩ := makeR_ok (Q.dd hb hc) h2
  rw [cmpR_eq v1 v2, cmpR_eq ha hb]
  obtain ⟨_, _, p1⟩ := Q.small ha
  obtain ⟨_, _, p2⟩ := Q.small hb
  obtain ⟨_, _, p3⟩ := Q.small hc
  obtain ⟨_, _, p4⟩ := Q.small v1
  obtain ⟨_, _, p5⟩ := Q.small v2
  refine sign_same (p := (a.d * c.d) * (b.d * c.d)) (q := (s.d * t.d) * (c.d * c.d)) ?_ ?_ ?_
  · exact Int.mul_pos (Int.mul_pos p1 p3) (Int.mul_pos p2 p3)
  · exact Int.mul_pos (Int.mul_pos p4 p5) (Int.mul_pos p3 p3)
  · grind
theorem order_mul {a b c s t : Q} (ha : a.valid = true) (hb : b.valid = true) (hc : c.valid = true) (h0 : 0 < c.n) (h1 : mulR a c = (s, 0)) (h2 : mulR b c = (t, 0)) : cmpR s t = cmpR a b := by
  rw [mulR_eq ha hc] at h1
  rw [mulR_eq hb hc] at h2
  obtain ⟨v1, e1⟩ := makeR_ok (Q.dd ha hc) h1
  obtain ⟨v2, e2⟩ := makeR_ok (Q.dd hb hc) h2
  rw [cmpR_eq v1 v2, cmpR_eq ha hb]
  obtain ⟨_, _, p1⟩ := Q.small ha
  obtain ⟨_, _, p2⟩ := Q.small hb
  obtain ⟨_, _, p3⟩ := Q.small hc
  obtain ⟨_, _, p4⟩ := Q.small v1
  obtain ⟨_, _, p5⟩ := Q.small v2
  refine sign_same (p := (a.d * c.d) * (b.d * c.d)) (q := (s.d * t.d) * (c.n * c.d)) ?_ ?_ ?_
  · exact Int.mul_pos (Int.mul_pos p1 p3) (Int.mul_pos p2 p3)
  · exact Int.mul_pos (Int.mul_pos p4 p5) (Int.mul_pos h0 p3)
  · grind
theorem field_add_comm {a b : Q} (ha : a.valid = true) (hb : b.valid = true) : addR b a = addR a b := by
  rw [addR_eq ha hb, addR_eq hb ha]
  rw [show b.n * a.d + a.n * b.d = a.n * b.d + b.n * a.d by omega, show b.d * a.d = a.d * b.d by grind]
theorem field_mul_comm {a b : Q} (ha : a.valid = true) (hb : b.valid = true) : mulR b a = mulR a b := by
  rw [mulR_eq ha hb, mulR_eq hb ha]
  rw [show b.n * a.n = a.n * b.n by grind, show b.d * a.d = a.d * b.d by grind]
theorem ok_valid {n d : Int} {a : Q} (hd : d ≠ 0) (h : makeR n d = (a, 0)) : a.valid = true := (makeR_ok hd h).1
theorem add_valid {a b s : Q} (ha : a.valid = true) (hb : b.valid = true) (h : addR a b = (s, 0)) : s.valid = true := by
  rw [addR_eq ha hb] at h; exact ok_valid (Q.dd ha hb) h
theorem mul_valid {a b s : Q} (ha : a.valid = true) (hb : b.valid = true) (h : mulR a b = (s, 0)) : s.valid = true := by
  rw [mulR_eq ha hb] at h; exact ok_valid (Q.dd ha hb) h
theorem field_sub {a b s : Q} (ha : a.valid = true) (hb : b.valid = true) (h : addR a b = (s, 0)) : subR s b = (a, 0) := by
  have hs := add_valid ha hb h
  rw [addR_eq ha hb] at h
  obtain ⟨_, e⟩ := makeR_ok (Q.dd ha hb) h
  rw [subR_eq hs hb]
  refine makeR_of (Q.dd hs hb) ha ?_
  obtain ⟨_, _, p2⟩ := Q.small hb
  grind
theorem field_div {a b p : Q} (ha : a.valid = true) (hb : b.valid = true) (h : mulR a b = (p, 0)) (h0 : b.n ≠ 0) : divR p b = (a, 0) := by
  have hs := mul_valid ha hb h
  rw [mulR_eq ha hb] at h
  obtain ⟨_, e⟩ := makeR_ok (Q.dd ha hb) h
  rw [divR_eq hs hb h0]
  obtain ⟨_, _, p1⟩ := Q.small hs
  refine makeR_of (Int.mul_ne_zero (by omega) h0) ha ?_
  grind
theorem field_add_assoc {a b c s u : Q} (ha : a.valid = true) (hb : b.valid = true) (hc : c.valid = true) (h1 : addR a b = (s, 0)) (h2 : addR b c = (u, 0)) : addR a u = addR s c := by
  have hs := add_valid ha hb h1
  have hu := add_valid hb hc h2
  rw [addR_eq ha hb] at h1
  rw [addR_eq hb hc] at h2
  obtain ⟨_, e1⟩ := makeR_ok (Q.dd ha hb) h1
  obtain ⟨_, e2⟩ := makeR_ok (Q.dd hb hc) h2
  rw [addR_eq ha hu, addR_eq hs hc]
  refine makeR_congr (Q.dd ha hu) (Q.dd hs hc) ?_
  obtain ⟨_, _, p2⟩ := Q.small hb
  refine Int.eq_of_mul_eq_mul_right (show b.d ≠ 0 by omega) ?_
  grind
theorem field_mul_assoc {a b c p v : Q} (ha : a.valid = true) (hb : b.valid = true) (hc : c.valid = true) (h1 : mulR a b = (p, 0)) (h2 : mulR b c = (v, 0)) : mulR a v = mulR p c := by
  have hs := mul_valid ha hb h1
  have hu := mul_valid hb hc h2
  rw [mulR_eq ha hb] at h1
  rw [mulR_eq hb hc] at h2
  obtain ⟨_, e1⟩ := makeR_ok (Q.dd ha hb) h1
  obtain ⟨_, e2⟩ := makeR_ok (Q.dd hb hc) h2
  rw [mulR_eq ha hu, mulR_eq hs hc]
  refine makeR_congr (Q.dd ha hu) (Q.dd hs hc) ?_
  obtain ⟨_, _, p2⟩ := Q.small hb
  refine Int.eq_of_mul_eq_mul_right (show b.d ≠ 0 by omega) ?_
  grind
theorem field_distr {a b c p u w : Q} (ha : a.valid = true) (hb : b.valid = true) (hc : c.valid = true) (h1 : mulR a b = (p, 0)) (h2 : addR b c = (u, 0)) (h3 : mulR a c = (w, 0)) : addR p w = mulR a u := by
  have hp := mul_valid ha hb h1
  have hu := add_valid hb hc h2
  have hw := mul_valid ha hc h3
  rw [mulR_eq ha hb] at h1
  rw [addR_eq hb hc] at h2
  rw [mulR_eq ha hc] at h3
  obtain ⟨_, e1⟩ := makeR_ok (Q.dd ha hb) h1
  obtain ⟨_, e2⟩ := makeR_ok (Q.dd hb hc) h2
  obtain ⟨_, e3⟩ := makeR_ok (Q.dd ha hc) h3
  rw [mulR_eq ha hu, addR_eq hp hw]
  refine makeR_congr (Q.dd hp hw) (Q.dd ha hu) ?_
  obtain ⟨_, _, p1⟩ := Q.small ha
  obtain ⟨_, _, p2⟩ := Q.small hb
  obtain ⟨_, _, p3⟩ := Q.small hc
  refine Int.eq_of_mul_eq_mul_right (show a.d * b.d * c.d ≠ 0 from Int.mul_ne_zero (Int.mul_ne_zero (by omega) (by omega)) (by omega)) ?_
  grind
end Go.Proofs.YtacjgkpncdnbgaaDoor
