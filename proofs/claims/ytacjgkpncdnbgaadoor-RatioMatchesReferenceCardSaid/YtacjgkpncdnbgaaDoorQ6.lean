/-
  Plain laws of ratios' texts: a text is read back as its ratio; what is read is a text. No program in sight.
-/
import Derived.Test.YtacjgkpncdnbgaaDoorVA
import Derived.Test.YtacjgkpncdnbgaaDoorQ3
import Derived.Lib.ParseIntBCases
namespace Go.Proofs.YtacjgkpncdnbgaaDoor

theorem digit_nat (k : Nat) (h : k < 10) : (UInt8.ofNat (48 + k)).toNat = 48 + k := by
  rw [UInt8.toNat_ofNat']
  exact Nat.mod_eq_of_lt (by omega)
theorem dec_small {u : Nat} (h : u < 10) : Lib.decDigits u = [UInt8.ofNat (48 + u)] := by rw [Lib.decDigits, dif_pos h]
theorem dec_big {u : Nat} (h : ¬ u < 10) : Lib.decDigits u = Lib.decDigits (u / 10) ++ [UInt8.ofNat (48 + u % 10)] := by rw [Lib.decDigits, dif_neg h]
theorem dec_digit : ∀ (k u : Nat), u < k → ∀ c ∈ Lib.decDigits u, 48 ≤ c.toNat ∧ c.toNat ≤ 57 := by
  intro k
  induction k with
  | zero => intro u h; omega
  | succ k ih =>
    intro u h c hc
    by_cases hu : u < 10
    · rw [dec_small hu] at hc
      simp only [List.mem_singleton] at hc
      rw [hc, digit_nat u hu]; omega
    · rw [dec_big hu] at hc
      simp only [List.mem_append, List.mem_singleton] at hc
      rcases hc with hc | hc
      · exact ih (u / 10) (by omega) c hc
      · rw [hc, digit_nat (u % 10) (by omega)]; omega
theorem dec_ne (u : Nat) : Lib.decDigits u ≠ [] := by
  by_cases hu : u < 10
  · rw [dec_small hu]; simp
  · rw [dec_big hu]; simp
theorem itoa_ne (n : Int) : Lib.itoa n ≠ [] := by
  unfold Lib.itoa
  split
  · simp
  · exact dec_ne _
theorem itoa_no (n : Int) : ∀ c ∈ Lib.itoa n, c ≠ 47 := by
  intro c hc h
  subst h
  unfold Lib.itoa at hc
  split at hc
  · simp only [List.mem_cons] at hc
    rcases hc with hc | hc
    · exact absurd hc (by decide)
    · have := (dec_digit _ _ (Nat.lt_succ_self _) _ hc).1
      exact absurd this (by decide)
  · have := (dec_digit _ _ (Nat.lt_succ_self _) _ hc).1
    exact absurd this (by decide)
theorem parse_dec (M : Nat) (hM : 1000000000 ≤ M) : ∀ (k u : Nat), u < k → u ≤ 1000000000 → ∀ r, Lib.parseUintM M 0 (Lib.decDigits u ++ r) = Lib.parseUintM M u r := by
  intro k
  induction k with
  | zero => intro u h; omega
  | succ k ih =>
    intro u h hu r
    by_cases hs : u < 10
    · rw [dec_small hs, List.singleton_append, Lib.parseUintM, digit_nat u hs, if_pos (by omega), if_neg (by omega), if_neg (by omega)]
      congr 1
      omega
    · rw [dec_big hs, List.append_assoc, ih (u / 10) (by omega) (by omega), List.singleton_append, Lib.parseUintM, digit_nat (u % 10) (by omega), if_pos (by omega), if_neg (by omega), if_neg (by omega)]
      congr 1
      omega
theorem parseU (u : Nat) (h : u ≤ 1000000000) : Lib.parseUintB 64 (Lib.decDigits u) = .ok u := by
  have := parse_dec (2 ^ 64 - 1) (by decide) (u + 1) u (by omega) h []
  rw [List.append_nil] at this
  unfold Lib.parseUintB
  rw [if_neg (dec_ne u), this]
  rfl
theorem parseI (n : Int) (h : n.natAbs ≤ 1000000000) : Lib.parseIntB 64 (Lib.itoa n) = .ok n := by
  unfold Lib.itoa
  split
  · rw [Lib.parseIntB_minus, parseU _ h]
    unfold Lib.signedC
    simp only
    rw [if_neg (by have : (2 : Nat) ^ (64 - 1) = 9223372036854775808 := by decide
                   omega)]
    congr 1
    omega
  · cases hd : Lib.decDigits n.toNat with
    | nil => exact absurd hd (dec_ne _)
    | cons c r =>
      have hc := dec_digit _ _ (Nat.lt_succ_self _) c (by rw [hd]; simp)
      rw [Lib.parseIntB_plain 64 c r (by omega) (by omega), ← hd, parseU _ (by omega)]
      unfold Lib.signlessC
      simp only
      rw [if_neg (by have : (2 : Nat) ^ (64 - 1) = 9223372036854775808 := by decide
                     omega)]
      congr 1
      omega
theorem index_none (x : List UInt8) (h : ∀ c ∈ x, c ≠ 47) : Lib.index x [47] = -1 := by
  induction x with
  | nil => rfl
  | cons b l ih =>
    have hb : b ≠ 47 := h b (by simp)
    have hp : ([47] : List UInt8).isPrefixOf (b :: l) = false := by simp [List.isPrefixOf]; exact fun e => hb e.symm
    unfold Lib.index
    rw [hp, ih fun c hc => h c (by simp [hc])]
    rfl
theorem index_mid (x y : List UInt8) (h : ∀ c ∈ x, c ≠ 47) : Lib.index (x ++ 47 :: y) [47] = (x.length : Int) := by
  induction x with
  | nil => simp [Lib.index]
  | cons b l ih =>
    have hb : b ≠ 47 := h b (by simp)
    have hp : ([47] : List UInt8).isPrefixOf (b :: (l ++ 47 :: y)) = false := by simp [List.isPrefixOf]; exact fun e => hb e.symm
    rw [List.cons_append]
    unfold Lib.index
    rw [hp, ih fun c hc => h c (by simp [hc])]
    have : ((l.length : Int) == -1) = false := by rw [beq_eq_false_iff_ne]; omega
    simp [this]
theorem cut_none (x : List UInt8) (h : ∀ c ∈ x, c ≠ 47) : Lib.cut x [47] = (x, [], false) := by
  unfold Lib.cut
  rw [index_none x h]
  rfl
theorem cut_mid (x y : List UInt8) (h : ∀ c ∈ x, c ≠ 47) : Lib.cut (x ++ 47 :: y) [47] = (x, y, true) := by
  unfold Lib.cut
  rw [index_mid x y h, if_pos (by omega)]
  simp

theorem text_none {a : Q} (h : a.valid = false) : textL a = [] := by simp [textL, h]
theorem text_some {a : Q} (h : a.valid = true) : textL a ≠ [] := by
  unfold textL
  rw [h, if_pos rfl]
  split
  · simp [itoa_ne]
  · exact itoa_ne _
theorem parse_nil : parseR (strOf []) = (q0, 6) := by kernel_rfl
theorem parse_text {a : Q} (h : a.valid = true) : parseR (strOf (textL a)) = (a, 0) := by
  obtain ⟨s1, s2, s3⟩ := Q.small h
  have hl : (strOf (textL a)).data.toList = textL a := rfl
  unfold parseR
  rw [hl]
  by_cases hd : 1 < a.d
  · have ht : textL a = Lib.itoa a.n ++ 47 :: Lib.itoa a.d := by unfold textL; rw [h, if_pos rfl, if_pos hd]
    rw [ht, cut_mid _ _ (itoa_no _)]
    simp only
    rw [parseI _ s1]
    simp only [if_true, denR]
    rw [parseI _ s2]
    simp only [finR]
    rw [← ht, if_pos rfl]
  · have ht : textL a = Lib.itoa a.n := by unfold textL; rw [h, if_pos rfl, if_neg hd]
    have hd1 : a.d = 1 := by omega
    rw [ht, cut_none _ (itoa_no _)]
    simp only
    rw [parseI _ s1]
    simp only [Bool.false_eq_true, if_false, finR]
    have ha : (⟨a.n, 1⟩ : Q) = a := by cases a; simp_all
    rw [ha, ← ht, if_pos rfl]
theorem fin_two (a : Q) (s : ByteArray) : finR a s = (q0, 6) ∨ (finR a s = (a, 0) ∧ strOf (textL a) = s) := by
  unfold finR
  split
  · rename_i h; exact Or.inr ⟨rfl, h⟩
  · exact Or.inl rfl
/-- What is read is the text of a valid ratio, or nothing is read. -/
theorem parse_two (s : ByteArray) : parseR s = (q0, 6) ∨ ∃ a : Q, parseR s = (a, 0) ∧ strOf (textL a) = s ∧ a.valid = true := by
  have key : parseR s = (q0, 6) ∨ ∃ a : Q, parseR s = (a, 0) ∧ strOf (textL a) = s := by
    unfold parseR
    split
    · split
      · unfold denR
        split
        · rcases fin_two ⟨_, _⟩ s with h | ⟨h1, h2⟩
          · exact Or.inl h
          · exact Or.inr ⟨_, h1, h2⟩
        · exact Or.inl rfl
      · rcases fin_two ⟨_, 1⟩ s with h | ⟨h1, h2⟩
        · exact Or.inl h
        · exact Or.inr ⟨_, h1, h2⟩
    · exact Or.inl rfl
  rcases key with h | ⟨a, h1, h2⟩
  · exact Or.inl h
  · by_cases hv : a.valid = true
    · exact Or.inr ⟨a, h1, h2, hv⟩
    · left
      rw [← h2, text_none (Bool.eq_false_iff.2 hv)]
      exact parse_nil
end Go.Proofs.YtacjgkpncdnbgaaDoor
