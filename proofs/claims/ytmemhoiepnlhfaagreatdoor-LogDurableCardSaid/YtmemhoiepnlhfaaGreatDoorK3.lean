/-
  Plain laws of parts: the digits of a length, the pieces of a text. No program in sight.
-/
import Derived.Test.YtmemhoiepnlhfaaGreatDoorK2
import Derived.Lib.ItoaMem
import Derived.Lib.ItoaLen
namespace Go.Proofs.YtmemhoiepnlhfaaGreatDoor

theorem digit_nat (k : Nat) (h : k < 10) : (UInt8.ofNat (48 + k)).toNat = 48 + k := by
  rw [UInt8.toNat_ofNat']
  exact Nat.mod_eq_of_lt (by omega)
theorem dec_small {u : Nat} (h : u < 10) : Lib.decDigits u = [UInt8.ofNat (48 + u)] := by rw [Lib.decDigits, dif_pos h]
theorem dec_big {u : Nat} (h : ¬ u < 10) : Lib.decDigits u = Lib.decDigits (u / 10) ++ [UInt8.ofNat (48 + u % 10)] := by rw [Lib.decDigits, dif_neg h]
theorem dec_digit : ∀ (k u : Nat), u < k → ∀ c ∈ Lib.decDigits u, 48 ≤ c.toNat ∧ c.toNat ≤ 57 := by
  intro k
  induction k with
  | zero => intro u h; omega
  | succ k ih =>
    intro u h c hc
    by_cases hu : u < 10
    · rw [dec_small hu] at hc
      simp only [List.mem_singleton] at hc
      rw [hc, digit_nat u hu]; omega
    · rw [dec_big hu] at hc
      simp only [List.mem_append, List.mem_singleton] at hc
      rcases hc with hc | hc
      · exact ih (u / 10) (by omega) c hc
      · rw [hc, digit_nat (u % 10) (by omega)]; omega
theorem dec_ne (u : Nat) : Lib.decDigits u ≠ [] := by
  by_cases hu : u < 10
  · rw [dec_small hu]; simp
  · rw [dec_big hu]; simp
/-- A number is told by its digits. -/
def undec (l : List UInt8) : Nat := l.foldl (fun n c => n * 10 + (c.toNat - 48)) 0
theorem undec_dec : ∀ (k u : Nat), u < k → undec (Lib.decDigits u) = u := by
  intro k
  induction k with
  | zero => intro u h; omega
  | succ k ih =>
    intro u h
    by_cases hu : u < 10
    · rw [dec_small hu]
      simp only [undec, List.foldl_cons, List.foldl_nil, digit_nat u hu]; omega
    · rw [dec_big hu]
      have := ih (u / 10) (by omega)
      unfold undec at this ⊢
      rw [List.foldl_append, this]
      simp only [List.foldl_cons, List.foldl_nil, digit_nat (u % 10) (by omega)]; omega
theorem dec_inj {u v : Nat} (h : Lib.decDigits u = Lib.decDigits v) : u = v := by
  rw [← undec_dec (u + 1) u (by omega), h, undec_dec (v + 1) v (by omega)]
theorem itoa_dec (n : Nat) : Lib.itoa (n : Int) = Lib.decDigits n := by
  unfold Lib.itoa
  rw [if_neg (by omega)]
  rfl
theorem dec_no (n : Nat) : ∀ c ∈ Lib.decDigits n, c ≠ 58 := by
  intro c hc h
  subst h
  have := (dec_digit _ _ (Nat.lt_succ_self _) _ hc).2
  exact absurd this (by decide)
theorem dec_len (n : Nat) (h : n ≤ 9223372036854775807) : (Lib.decDigits n).length ≤ 21 := by
  have := Lib.itoa_length_le (n : Int) (by omega) (by omega)
  rw [itoa_dec] at this
  exact this

/-- The pieces of a text. -/
def chunkF : Nat → List UInt8 → List (List UInt8)
  | 0, s => [s]
  | f + 1, s => if 40 < s.length then s.take 40 :: chunkF f (s.drop 40) else [s]
def textOf (t : List UInt8) : List UInt8 := Lib.decDigits t.length ++ 58 :: t
def partsL (t : List UInt8) : List (List UInt8) := chunkF (textOf t).length (textOf t)

theorem chunkF_flat : ∀ (f : Nat) (s : List UInt8), (chunkF f s).flatten = s
  | 0, s => by simp [chunkF]
  | f + 1, s => by
    unfold chunkF
    split
    · rw [List.flatten_cons, chunkF_flat f, List.take_append_drop]
    · simp
theorem chunkF_le : ∀ (f : Nat) (s : List UInt8), s.length ≤ f → ∀ c ∈ chunkF f s, c.length ≤ 40
  | 0, s, h, c, hc => by
    simp only [chunkF, List.mem_singleton] at hc
    subst hc; omega
  | f + 1, s, h, c, hc => by
    unfold chunkF at hc
    split at hc
    · rcases List.mem_cons.1 hc with rfl | hc
      · rw [List.length_take]; omega
      · exact chunkF_le f _ (by rw [List.length_drop]; omega) c hc
    · simp only [List.mem_singleton] at hc
      subst hc; omega
theorem chunkF_ne : ∀ (f : Nat) (s : List UInt8), s ≠ [] → ∀ c ∈ chunkF f s, c ≠ []
  | 0, s, h, c, hc => by
    simp only [chunkF, List.mem_singleton] at hc
    subst hc; exact h
  | f + 1, s, h, c, hc => by
    unfold chunkF at hc
    split at hc
    · rename_i h40
      rcases List.mem_cons.1 hc with rfl | hc
      · intro e
        have := congrArg List.length e
        rw [List.length_take, List.length_nil] at this; omega
      · exact chunkF_ne f _ (fun e => by have := congrArg List.length e; rw [List.length_drop, List.length_nil] at this; omega) c hc
    · simp only [List.mem_singleton] at hc
      subst hc; exact h
theorem chunkF_pos (f : Nat) (s : List UInt8) : 0 < (chunkF f s).length := by
  cases f with
  | zero => simp [chunkF]
  | succ f =>
    unfold chunkF
    split <;> simp
theorem textOf_ne (t : List UInt8) : textOf t ≠ [] := by unfold textOf; simp
theorem parts_flat (t : List UInt8) : (partsL t).flatten = textOf t := chunkF_flat _ _
theorem parts_le (t : List UInt8) : ∀ c ∈ partsL t, c.length ≤ 40 := chunkF_le _ _ (Nat.le_refl _)
theorem parts_ne (t : List UInt8) : ∀ c ∈ partsL t, c ≠ [] := chunkF_ne _ _ (textOf_ne t)
theorem parts_pos (t : List UInt8) : 0 < (partsL t).length := chunkF_pos _ _
theorem chunkF_count : ∀ (f : Nat) (s : List UInt8), (chunkF f s).length ≤ s.length / 40 + 1
  | 0, s => by simp [chunkF]
  | f + 1, s => by
    unfold chunkF
    split
    · have := chunkF_count f (s.drop 40)
      rw [List.length_drop] at this
      rw [List.length_cons]; omega
    · simp

/-- What is ahead of the first colon, and what is behind it. -/
theorem cut_text (d t : List UInt8) (h : ∀ c ∈ d, c ≠ 58) : ∀ (e : List UInt8) (u : List UInt8), (∀ c ∈ e, c ≠ 58) → d ++ 58 :: t = e ++ 58 :: u → d = e ∧ t = u := by
  induction d with
  | nil =>
    intro e u he hx
    cases e with
    | nil => simpa using hx
    | cons c r =>
      simp only [List.nil_append, List.cons_append, List.cons.injEq] at hx
      exact absurd hx.1.symm (he c (by simp))
  | cons c r ih =>
    intro e u he hx
    cases e with
    | nil =>
      simp only [List.nil_append, List.cons_append, List.cons.injEq] at hx
      exact absurd hx.1 (h c (by simp))
    | cons c' r' =>
      simp only [List.cons_append, List.cons.injEq] at hx
      obtain ⟨h1, h2⟩ := ih (fun x hx => h x (by simp [hx])) r' u (fun x hx => he x (by simp [hx])) hx.2
      exact ⟨by rw [hx.1, h1], h2⟩
theorem textOf_inj {t u : List UInt8} (h : textOf t = textOf u) : t = u := (cut_text _ _ (dec_no _) _ _ (dec_no _) h).2
theorem parts_inj {t u : List UInt8} (h : partsL t = partsL u) : t = u := textOf_inj (by rw [← parts_flat, h, parts_flat])
/-- No text's pieces go on as another's. -/
theorem parts_prefix {t u : List UInt8} {r : List (List UInt8)} (h : partsL t = partsL u ++ r) : r = [] ∧ t = u := by
  have h1 : textOf t = textOf u ++ r.flatten := by rw [← parts_flat, h, List.flatten_append, parts_flat]
  have h2 : Lib.decDigits t.length ++ 58 :: t = Lib.decDigits u.length ++ 58 :: (u ++ r.flatten) := by
    have := h1
    unfold textOf at this
    simpa using this
  obtain ⟨h3, h4⟩ := cut_text _ _ (dec_no _) _ _ (dec_no _) h2
  have h5 := dec_inj h3
  have h6 : r.flatten = [] := by
    have := congrArg List.length h4
    rw [List.length_append] at this
    exact List.eq_nil_of_length_eq_zero (by omega)
  have h7 : r = [] := by
    cases r with
    | nil => rfl
    | cons c r' =>
      have hc : c ≠ [] := parts_ne t c (by rw [h]; simp)
      simp at h6
      exact absurd h6.1 hc
  refine ⟨h7, ?_⟩
  rw [h4, h6, List.append_nil]
end Go.Proofs.YtmemhoiepnlhfaaGreatDoor
