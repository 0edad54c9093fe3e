/-
  The reference's Text and number, walked. Their conditions: integers of Go; a text of at most a thousand bytes.
-/
import Derived.Test.YtacjgkpncdnbgaaDoorX4
namespace Go.Proofs.YtacjgkpncdnbgaaDoor
open Go.RowKit

theorem str_add (x y : List UInt8) : strOf x ++ strOf y = strOf (x ++ y) := by
  apply ByteArray.ext
  rw [← Array.toList_inj]
  simp [strOf]
theorem dec_len (u : Nat) (hu : u ≤ 1000000000) : (strOf (Lib.decDigits u)).size ≤ 21 := by
  have := Lib.itoa_length_le (u : Int) (by omega) (by omega)
  rw [Lib.itoa_nonneg] at this
  exact this
theorem itoa_dec (n : Int) : Lib.itoa n = if n < 0 then 45 :: Lib.decDigits n.natAbs else Lib.decDigits n.natAbs := by
  unfold Lib.itoa
  split
  · rfl
  · congr 1; omega

set_option maxRecDepth 100000 in
set_option maxHeartbeats 1600000 in
theorem rtext_any (a : Q) (ha : a.wf) (w : World) : Calls Tryd.prog 30 #[a.val] w fun e w' => e = .returned (.string (strOf (textL a))) ∧ Kept w w' := by
  have VA := Lib.hid (fun w => rvalid_any a ha w)
  have O : Hid (Own w (w.alloc (.cells #[.int .i64 a.n, .int .i64 a.d] 24)) w.heap.size #[.int .i64 a.n, .int .i64 a.d]) := Lib.hid (Own.made (Kept.refl w) _)
  by_cases va : a.valid = true
  · rw [va] at VA
    obtain ⟨s1, s2, s3⟩ := Q.small va
    obtain ⟨n, d⟩ := a
    dsimp only at s1 s2 s3 O
    have n1 : -9223372036854775808 ≤ n := by omega
    have n2 : n ≤ 9223372036854775807 := by omega
    have d1 : -9223372036854775808 ≤ d := by omega
    have d2 : d ≤ 9223372036854775807 := by omega
    have DN := Lib.hid (fun w => digits_any n.natAbs s1 w)
    have DD := Lib.hid (fun w => digits_any d.natAbs s2 w)
    have lx := dec_len n.natAbs s1
    have ly := dec_len d.natAbs s2
    have E : Hid (textL ⟨n, d⟩ = if d = 1 then (if n < 0 then 45 :: Lib.decDigits n.natAbs else Lib.decDigits n.natAbs) else (if n < 0 then 45 :: Lib.decDigits n.natAbs else Lib.decDigits n.natAbs) ++ 47 :: Lib.decDigits d.natAbs) := Lib.hid (by
      unfold textL
      rw [va, if_pos rfl]
      dsimp only
      have e2 : Lib.itoa d = Lib.decDigits d.natAbs := by rw [itoa_dec, if_neg (by omega)]
      rw [itoa_dec n, e2]
      by_cases h : d = 1
      · rw [if_pos h, if_neg (by omega)]
      · rw [if_neg h, if_pos (by omega)])
    obtain ⟨x, hx⟩ : ∃ x, Lib.decDigits n.natAbs = x := ⟨_, rfl⟩
    obtain ⟨y, hy⟩ : ∃ x, Lib.decDigits d.natAbs = x := ⟨_, rfl⟩
    rw [hx] at DN E lx
    rw [hy] at DD E ly
    have l45 : (strOf [45]).size ≤ 1 := Nat.le_refl 1
    have l47 : (strOf [47]).size ≤ 1 := Nat.le_refl 1
    obtain ⟨r, hr⟩ : ∃ r, textL ⟨n, d⟩ = r := ⟨_, rfl⟩
    rw [hr] at E ⊢
    unfold Q.val at *
    dsimp only at *
    clear hx hy hr ha va
    go_enter Tryd.func30, Tryd.ntmps30
    go_wp2_with fail
    refine (VA.out _).mono ?_
    rintro e w2 ⟨rfl, hk⟩
    obtain ⟨B, hB⟩ : ∃ B, w.heap.size = B := ⟨_, rfl⟩
    rw [hB] at O ⊢
    have O1 := Lib.hid (O.out.step hk)
    clear hk O VA
    have a0 := O1.out.cell 0
    have a1 := O1.out.cell 1
    go_wp2_with fail
    refine (size_any n n1 n2 _).mono ?_
    rintro e w3 ⟨rfl, rfl⟩
    go_wp2_with fail
    refine (DN.out _).mono ?_
    rintro e w3 ⟨rfl, hk⟩
    have O2 := Lib.hid (O1.out.step hk)
    clear hk O1 a0 a1 DN
    have a0 := O2.out.cell 0
    have a1 := O2.out.cell 1
    by_cases hn : n < 0
    · by_cases hd : d = 1
      · have hd1 : (d == 1) = true := by simpa using hd
        go_wp2_with fail
        go_ret
        refine ⟨?_, O2.out.kept⟩
        rw [E.out, if_pos hd, if_pos hn, ← str_cons]
        rfl
      · have hd1 : (d == 1) = false := by simpa using hd
        go_wp2_with fail
        refine (size_any d d1 d2 _).mono ?_
        rintro e w4 ⟨rfl, rfl⟩
        go_wp2_with fail
        refine (DD.out _).mono ?_
        rintro e w4 ⟨rfl, hk⟩
        have O3 := Lib.hid (O2.out.step hk)
        clear hk O2 a0 a1 DD
        go_wp2_with fail
        go_ret
        refine ⟨?_, O3.out.kept⟩
        rw [E.out, if_neg hd, if_pos hn]
        have e4 : strOf (45 :: x ++ 47 :: y) = strOf [45] ++ strOf x ++ strOf [47] ++ strOf y := by rw [str_add, str_add, str_add]; simp
        rw [e4]; rfl
    · by_cases hd : d = 1
      · have hd1 : (d == 1) = true := by simpa using hd
        go_wp2_with fail
        go_ret
        refine ⟨?_, O2.out.kept⟩
        rw [E.out, if_pos hd, if_neg (by omega)]
        rfl
      · have hd1 : (d == 1) = false := by simpa using hd
        go_wp2_with fail
        refine (size_any d d1 d2 _).mono ?_
        rintro e w4 ⟨rfl, rfl⟩
        go_wp2_with fail
        refine (DD.out _).mono ?_
        rintro e w4 ⟨rfl, hk⟩
        have O3 := Lib.hid (O2.out.step hk)
        clear hk O2 a0 a1 DD
        go_wp2_with fail
        go_ret
        refine ⟨?_, O3.out.kept⟩
        rw [E.out, if_neg hd, if_neg (by omega)]
        have e4 : strOf (x ++ 47 :: y) = strOf x ++ strOf [47] ++ strOf y := by rw [str_add, str_add]; simp
        rw [e4]; rfl
  · have vf := Bool.eq_false_iff.2 va
    rw [vf] at VA
    rw [text_none vf]
    obtain ⟨n, d⟩ := a
    unfold Q.val at *
    dsimp only at *
    go_enter Tryd.func30, Tryd.ntmps30
    go_wp2_with fail
    refine (VA.out _).mono ?_
    rintro e w2 ⟨rfl, hk⟩
    have O1 := Lib.hid (O.out.step hk)
    go_wp2_with fail
    go_ret
    exact ⟨rfl, O1.out.kept⟩

def numGo (long : Bool) (acc : Nat) : List UInt8 → Nat
  | [] => acc
  | c :: r => if long || decide (c.toNat < 48) || decide (57 < c.toNat) then 0 else numGo long (10 * acc + (c.toNat - 48)) r
def numR (l : List UInt8) : Nat := numGo (decide (11 < l.length)) 0 l
theorem numGo_lt (long : Bool) : ∀ (l : List UInt8) (acc k : Nat), acc < 10 ^ k → numGo long acc l < 10 ^ (k + l.length) := by
  intro l
  induction l with
  | nil => intro acc k h; exact h
  | cons c r ih =>
    intro acc k h
    unfold numGo
    split
    · exact Nat.pow_pos (by decide)
    · rename_i hc
      simp only [Bool.or_eq_true, decide_eq_true_eq, not_or] at hc
      have := ih (10 * acc + (c.toNat - 48)) (k + 1) (by rw [Nat.pow_succ]; omega)
      rw [List.length_cons, show k + (r.length + 1) = k + 1 + r.length by omega]
      exact this
theorem numR_lt (l : List UInt8) : numR l ≤ 99999999999 := by
  unfold numR
  by_cases h : 11 < l.length
  · cases l with
    | nil => simp at h
    | cons c r =>
      unfold numGo
      rw [if_pos (by have h2 : decide (11 < (c :: r).length) = true := by simpa using h
                     rw [h2]; rfl)]
      exact Nat.zero_le _
  · have := numGo_lt (decide (11 < l.length)) l 0 0 (by decide)
    have h2 : 10 ^ (0 + l.length) ≤ 10 ^ 11 := Nat.pow_le_pow_right (by decide) (by omega)
    have h3 : (10 : Nat) ^ 11 = 100000000000 := by decide
    omega
theorem numGo_dec (long : Bool) (hl : long = false) : ∀ (k u : Nat), u < k → ∀ r, numGo long 0 (Lib.decDigits u ++ r) = numGo long u r := by
  intro k
  induction k with
  | zero => intro u h; omega
  | succ k ih =>
    intro u h r
    by_cases hs : u < 10
    · rw [dec_small hs, List.singleton_append, numGo, digit_nat u hs, hl]
      have e1 : decide (48 + u < 48) = false := by simp
      have e2 : decide (57 < 48 + u) = false := by simp; omega
      rw [e1, e2]
      simp only [Bool.or_self, Bool.false_eq_true, if_false]
      congr 1
      omega
    · rw [dec_big hs, List.append_assoc, ih (u / 10) (by omega), List.singleton_append, numGo, digit_nat (u % 10) (by omega), hl]
      have e1 : decide (48 + u % 10 < 48) = false := by simp
      have e2 : decide (57 < 48 + u % 10) = false := by simp; omega
      rw [e1, e2]
      simp only [Bool.or_self, Bool.false_eq_true, if_false]
      congr 1
      omega
theorem dec_short : ∀ (k u : Nat), u < 10 ^ (k + 1) → (Lib.decDigits u).length ≤ k + 1 := by
  intro k
  induction k with
  | zero => intro u h; rw [dec_small (by omega)]; simp
  | succ k ih =>
    intro u h
    by_cases hs : u < 10
    · rw [dec_small hs]; simp
    · rw [dec_big hs, List.length_append]
      have := ih (u / 10) (by rw [Nat.pow_succ] at h; omega)
      simp; omega
theorem numR_dec (u : Nat) (hu : u ≤ 1000000000) : numR (Lib.decDigits u) = u := by
  have h1 := dec_short 9 u (by have : (10 : Nat) ^ (9 + 1) = 10000000000 := by decide
                               omega)
  unfold numR
  have := numGo_dec (decide (11 < (Lib.decDigits u).length)) (by simp; omega) (u + 1) u (by omega) []
  rw [List.append_nil] at this
  rw [this]
  rfl
end Go.Proofs.YtacjgkpncdnbgaaDoor
