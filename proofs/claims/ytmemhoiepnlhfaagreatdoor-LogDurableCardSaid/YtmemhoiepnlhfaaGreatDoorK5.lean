/-
  Plain laws of heads: the digits of a state; the state that a head says. No program in sight.
-/
import Derived.Test.YtmemhoiepnlhfaaGreatDoorK3
import Derived.Lib.Atoi
namespace Go.Proofs.YtmemhoiepnlhfaaGreatDoor

structure St where
  number : Nat
  generation : Nat
  length : Nat
deriving DecidableEq
def St.ok (s : St) : Prop := s.number < 1000000000 ∧ s.generation < 1000000 ∧ s.length < 10000
def padL (n w : Nat) : List UInt8 := List.replicate (w - (Lib.decDigits n).length) 48 ++ Lib.decDigits n
def digitsL (s : St) : List UInt8 := padL s.number 9 ++ padL s.generation 6 ++ padL s.length 4
/-- The sector of a state. -/
def headL (at' : Nat) (s : St) : List UInt8 := putL 0 at' (digitsL s ++ digitsL s)
def isDig (c : UInt8) : Bool := decide (48 ≤ c.toNat) && decide (c.toNat ≤ 57)
def stOf (b : List UInt8) : St := ⟨undec (b.take 9), undec ((b.drop 9).take 6), undec ((b.drop 15).take 4)⟩
/-- The state that a head says. -/
def parseL (at' : Nat) (s : List UInt8) (half : Nat) : Option St :=
  match openB 0 at' s with
  | some b => if b.length = 38 ∧ b.take 19 = b.drop 19 ∧ b.all isDig = true ∧ (stOf b).length ≤ half then some (stOf b) else none
  | none => none

theorem dec_lt : ∀ (k n : Nat), n < 10 ^ (k + 1) → (Lib.decDigits n).length ≤ k + 1
  | 0, n, h => by
    rw [dec_small (by simpa using h)]; simp
  | k + 1, n, h => by
    by_cases hn : n < 10
    · rw [dec_small hn]; simp
    · rw [dec_big hn, List.length_append]
      have := dec_lt k (n / 10) (by rw [Nat.pow_succ] at h; omega)
      simp; omega
theorem padL_len {n w : Nat} (hw : 0 < w) (h : n < 10 ^ w) : (padL n w).length = w := by
  obtain ⟨k, rfl⟩ : ∃ k, w = k + 1 := ⟨w - 1, by omega⟩
  have := dec_lt k n h
  unfold padL
  rw [List.length_append, List.length_replicate]; omega
theorem undec_zeros (k : Nat) (l : List UInt8) : undec (List.replicate k 48 ++ l) = undec l := by
  induction k with
  | zero => rfl
  | succ k ih =>
    rw [List.replicate_succ, List.cons_append]
    unfold undec at ih ⊢
    rw [List.foldl_cons]
    exact ih
theorem undec_padL (n w : Nat) : undec (padL n w) = n := by
  unfold padL
  rw [undec_zeros]
  exact undec_dec (n + 1) n (by omega)
theorem padL_dig (n w : Nat) : ∀ c ∈ padL n w, isDig c = true := by
  intro c hc
  unfold padL at hc
  rcases List.mem_append.1 hc with h | h
  · rw [(List.mem_replicate.1 h).2]; decide
  · have := dec_digit _ _ (Nat.lt_succ_self _) c h
    simp [isDig, this]
theorem digitsL_len {s : St} (h : s.ok) : (digitsL s).length = 19 := by
  obtain ⟨h1, h2, h3⟩ := h
  unfold digitsL
  rw [List.length_append, List.length_append, padL_len (by decide) (by simpa using h1), padL_len (by decide) (by simpa using h2), padL_len (by decide) (by simpa using h3)]
theorem stOf_digits {s : St} (h : s.ok) (r : List UInt8) : stOf (digitsL s ++ r) = s := by
  obtain ⟨h1, h2, h3⟩ := h
  have e1 := padL_len (n := s.number) (w := 9) (by decide) (by simpa using h1)
  have e2 := padL_len (n := s.generation) (w := 6) (by decide) (by simpa using h2)
  have e3 := padL_len (n := s.length) (w := 4) (by decide) (by simpa using h3)
  unfold stOf digitsL
  simp only [List.append_assoc]
  have t1 : (padL s.number 9 ++ (padL s.generation 6 ++ (padL s.length 4 ++ r))).take 9 = padL s.number 9 := List.take_left' e1
  have t2 : ((padL s.number 9 ++ (padL s.generation 6 ++ (padL s.length 4 ++ r))).drop 9).take 6 = padL s.generation 6 := by rw [List.drop_left' e1, List.take_left' e2]
  have t3 : ((padL s.number 9 ++ (padL s.generation 6 ++ (padL s.length 4 ++ r))).drop 15).take 4 = padL s.length 4 := by
    rw [show 15 = 9 + 6 from rfl, ← List.drop_drop, List.drop_left' e1, List.drop_left' e2, List.take_left' e3]
  rw [t1, t2, t3, undec_padL, undec_padL, undec_padL]
theorem parseL_head {at' half : Nat} {s : St} (h : s.ok) (hl : s.length ≤ half) : parseL at' (headL at' s) half = some s := by
  have hlen := digitsL_len h
  have ho : openB 0 at' (headL at' s) = some (digitsL s ++ digitsL s) := (openB_iff _ _ _ _).2 ⟨by rw [List.length_append, hlen]; omega, rfl⟩
  unfold parseL
  rw [ho]
  simp only
  have hd : ∀ c ∈ digitsL s, isDig c = true := by
    intro c hc
    unfold digitsL at hc
    rcases List.mem_append.1 hc with hc | hc
    · rcases List.mem_append.1 hc with hc | hc
      · exact padL_dig _ _ c hc
      · exact padL_dig _ _ c hc
    · exact padL_dig _ _ c hc
  have hall : (digitsL s ++ digitsL s).all isDig = true := by
    rw [List.all_eq_true]
    intro c hc
    rcases List.mem_append.1 hc with hc | hc <;> exact hd c hc
  rw [if_pos ⟨by rw [List.length_append, hlen], by rw [List.take_left' hlen, List.drop_left' hlen], hall, by rw [stOf_digits h]; exact hl⟩, stOf_digits h]
/-- Digits are told by their number. -/
theorem undec_lt : ∀ (l : List UInt8), (∀ c ∈ l, isDig c = true) → undec l < 10 ^ l.length := by
  intro l
  have key : ∀ (l : List UInt8) (a : Nat), (∀ c ∈ l, isDig c = true) → l.foldl (fun n c => n * 10 + (c.toNat - 48)) a < (a + 1) * 10 ^ l.length := by
    intro l
    induction l with
    | nil => intro a _; simp
    | cons c r ih =>
      intro a h
      rw [List.foldl_cons, List.length_cons, Nat.pow_succ]
      have h1 := ih (a * 10 + (c.toNat - 48)) (fun x hx => h x (by simp [hx]))
      have h2 := h c (by simp)
      simp only [isDig, Bool.and_eq_true, decide_eq_true_eq] at h2
      have h3 : (a * 10 + (c.toNat - 48) + 1) * 10 ^ r.length ≤ (a * 10 + 10) * 10 ^ r.length := Nat.mul_le_mul_right _ (by omega)
      have h4 : (a * 10 + 10) * 10 ^ r.length = (a + 1) * (10 ^ r.length * 10) := by
        rw [show a * 10 + 10 = (a + 1) * 10 by omega, Nat.mul_assoc, Nat.mul_comm 10]
      omega
  intro h
  have := key l 0 h
  simpa [undec] using this
theorem undec_inj : ∀ (l m : List UInt8), l.length = m.length → (∀ c ∈ l, isDig c = true) → (∀ c ∈ m, isDig c = true) → undec l = undec m → l = m := by
  intro l
  have key : ∀ (l m : List UInt8) (a b : Nat), l.length = m.length → (∀ c ∈ l, isDig c = true) → (∀ c ∈ m, isDig c = true) →
      l.foldl (fun n c => n * 10 + (c.toNat - 48)) a = m.foldl (fun n c => n * 10 + (c.toNat - 48)) b → a = b ∧ l = m := by
    intro l
    induction l with
    | nil =>
      intro m a b hl _ _ h
      cases m with
      | nil => exact ⟨h, rfl⟩
      | cons _ _ => simp at hl
    | cons c r ih =>
      intro m a b hl h1 h2 h
      cases m with
      | nil => simp at hl
      | cons d q =>
        rw [List.foldl_cons, List.foldl_cons] at h
        obtain ⟨e1, e2⟩ := ih q _ _ (by simpa using hl) (fun x hx => h1 x (by simp [hx])) (fun x hx => h2 x (by simp [hx])) h
        have hc := h1 c (by simp)
        have hd := h2 d (by simp)
        simp only [isDig, Bool.and_eq_true, decide_eq_true_eq] at hc hd
        have h3 : c.toNat = d.toNat := by omega
        refine ⟨by omega, ?_⟩
        rw [e2, UInt8.toNat_inj.1 h3]
  intro m hl h1 h2 h
  exact (key l m 0 0 hl h1 h2 h).2
theorem padL_undec {l : List UInt8} {w : Nat} (hw : 0 < w) (hl : l.length = w) (h : ∀ c ∈ l, isDig c = true) : padL (undec l) w = l := by
  refine undec_inj _ _ ?_ (padL_dig _ _) h (undec_padL _ _)
  rw [padL_len hw, hl]
  rw [← hl]; exact undec_lt l h
theorem parseL_some {at' half : Nat} {s : List UInt8} {st : St} (h : parseL at' s half = some st) : s = headL at' st ∧ st.ok ∧ st.length ≤ half := by
  unfold parseL at h
  split at h
  · rename_i b hb
    split at h
    · rename_i hc
      obtain ⟨c1, c2, c3, c4⟩ := hc
      simp only [Option.some.injEq] at h
      subst h
      rw [List.all_eq_true] at c3
      have d1 : ∀ c ∈ b.take 9, isDig c = true := fun c hc => c3 c (List.mem_of_mem_take hc)
      have d2 : ∀ c ∈ (b.drop 9).take 6, isDig c = true := fun c hc => c3 c (List.mem_of_mem_drop (List.mem_of_mem_take hc))
      have d3 : ∀ c ∈ (b.drop 15).take 4, isDig c = true := fun c hc => c3 c (List.mem_of_mem_drop (List.mem_of_mem_take hc))
      have l1 : (b.take 9).length = 9 := by rw [List.length_take]; omega
      have l2 : ((b.drop 9).take 6).length = 6 := by rw [List.length_take, List.length_drop]; omega
      have l3 : ((b.drop 15).take 4).length = 4 := by rw [List.length_take, List.length_drop]; omega
      have u1 := undec_lt _ d1
      have u2 := undec_lt _ d2
      have u3 := undec_lt _ d3
      rw [l1] at u1; rw [l2] at u2; rw [l3] at u3
      refine ⟨?_, ⟨by simpa [stOf] using u1, by simpa [stOf] using u2, by simpa [stOf] using u3⟩, c4⟩
      have hd : digitsL (stOf b) = b.take 19 := by
        unfold digitsL stOf
        simp only
        rw [padL_undec (by decide) l1 d1, padL_undec (by decide) l2 d2, padL_undec (by decide) l3 d3]
        have e1 : b.take 15 = b.take 9 ++ (b.drop 9).take 6 := by rw [show 15 = 9 + 6 from rfl, List.take_add]
        have e2 : b.take 19 = b.take 15 ++ (b.drop 15).take 4 := by rw [show 19 = 15 + 4 from rfl, List.take_add]
        rw [e2, e1]
      have hb2 : digitsL (stOf b) ++ digitsL (stOf b) = b := by
        rw [hd]
        conv => lhs; arg 2; rw [c2]
        exact List.take_append_drop 19 b
      have := ((openB_iff _ _ _ _).1 hb).2
      unfold headL
      rw [hb2]; exact this
    · cases h
  · cases h
end Go.Proofs.YtmemhoiepnlhfaaGreatDoor
