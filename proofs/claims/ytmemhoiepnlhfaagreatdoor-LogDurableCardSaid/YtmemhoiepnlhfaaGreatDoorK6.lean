/-
  What Open does, as plain functions; the records that bodies say. No program in sight.
-/
import Derived.Test.YtmemhoiepnlhfaaGreatDoorJP
namespace Go.Proofs.YtmemhoiepnlhfaaGreatDoor

/-- The first bodies that are a text: the text and their number. -/
def findJoin (bs : List (List UInt8)) (k : Nat) : Option (List UInt8 × Nat) :=
  match joinL (bs.take k) with
  | some r => some (r, k)
  | none => if k < bs.length then findJoin bs (k + 1) else none
  termination_by bs.length - k
theorem findJoin_some {bs : List (List UInt8)} {k : Nat} {r : List UInt8} (h : joinL (bs.take k) = some r) : findJoin bs k = some (r, k) := by
  rw [findJoin, h]
theorem findJoin_next {bs : List (List UInt8)} {k : Nat} (h : joinL (bs.take k) = none) (hk : k < bs.length) : findJoin bs k = findJoin bs (k + 1) := by
  rw [findJoin, h]
  simp only [if_pos hk]
theorem findJoin_end {bs : List (List UInt8)} {k : Nat} (h : joinL (bs.take k) = none) (hk : ¬ k < bs.length) : findJoin bs k = none := by
  rw [findJoin, h]
  simp only [if_neg hk]
theorem findJoin_ge : ∀ (m : Nat) (bs : List (List UInt8)) (k : Nat), bs.length - k ≤ m → ∀ r n, findJoin bs k = some (r, n) → k ≤ n ∧ joinL (bs.take n) = some r ∧ (n ≤ bs.length ∨ n = k) := by
  intro m
  induction m with
  | zero =>
    intro bs k hm r n h
    cases hj : joinL (bs.take k) with
    | some x =>
      rw [findJoin_some hj] at h
      simp only [Option.some.injEq, Prod.mk.injEq] at h
      obtain ⟨rfl, rfl⟩ := h
      exact ⟨Nat.le_refl _, hj, .inr rfl⟩
    | none =>
      rw [findJoin_end hj (by omega)] at h
      cases h
  | succ m ih =>
    intro bs k hm r n h
    cases hj : joinL (bs.take k) with
    | some x =>
      rw [findJoin_some hj] at h
      simp only [Option.some.injEq, Prod.mk.injEq] at h
      obtain ⟨rfl, rfl⟩ := h
      exact ⟨Nat.le_refl _, hj, .inr rfl⟩
    | none =>
      by_cases hk : k < bs.length
      · rw [findJoin_next hj hk] at h
        obtain ⟨h1, h2, h3⟩ := ih bs (k + 1) (by omega) r n h
        exact ⟨by omega, h2, .inl (by omega)⟩
      · rw [findJoin_end hj hk] at h
        cases h
/-- The records that bodies say. -/
def recsF : Nat → List (List UInt8) → Option (List (List UInt8))
  | 0, _ => some []
  | f + 1, bs => if bs = [] then some [] else match findJoin bs 1 with
    | none => none
    | some (r, k) => (recsF f (bs.drop k)).map (r :: ·)
def recsL (bs : List (List UInt8)) : Option (List (List UInt8)) := recsF bs.length bs
theorem recsF_fuel : ∀ (f g : Nat) (bs : List (List UInt8)), bs.length ≤ f → bs.length ≤ g → recsF f bs = recsF g bs := by
  intro f
  induction f with
  | zero =>
    intro g bs hf hg
    have : bs = [] := List.eq_nil_of_length_eq_zero (by omega)
    subst this
    cases g with
    | zero => rfl
    | succ g => simp [recsF]
  | succ f ih =>
    intro g bs hf hg
    cases g with
    | zero =>
      have : bs = [] := List.eq_nil_of_length_eq_zero (by omega)
      subst this
      simp [recsF]
    | succ g =>
      unfold recsF
      by_cases hb : bs = []
      · rw [if_pos hb, if_pos hb]
      · rw [if_neg hb, if_neg hb]
        cases hj : findJoin bs 1 with
        | none => rfl
        | some p =>
          obtain ⟨r, k⟩ := p
          have h1 := (findJoin_ge _ bs 1 (Nat.le_refl _) r k hj).1
          have hl : 0 < bs.length := by
            rcases Nat.eq_zero_or_pos bs.length with h | h
            · exact absurd (List.eq_nil_of_length_eq_zero h) hb
            · exact h
          dsimp only
          rw [ih g (bs.drop k) (by rw [List.length_drop]; omega) (by rw [List.length_drop]; omega)]
theorem recsL_nil : recsL [] = some [] := rfl
theorem recsL_cons {bs : List (List UInt8)} (hb : bs ≠ []) : recsL bs = match findJoin bs 1 with
    | none => none
    | some (r, k) => (recsL (bs.drop k)).map (r :: ·) := by
  unfold recsL
  have hl : 0 < bs.length := by
    rcases Nat.eq_zero_or_pos bs.length with h | h
    · exact absurd (List.eq_nil_of_length_eq_zero h) hb
    · exact h
  obtain ⟨f, hf⟩ : ∃ f, bs.length = f + 1 := ⟨bs.length - 1, by omega⟩
  rw [hf]
  rw [recsF, if_neg hb]
  cases hj : findJoin bs 1 with
  | none => rfl
  | some p =>
    obtain ⟨r, k⟩ := p
    have h1 := (findJoin_ge _ bs 1 (Nat.le_refl _) r k hj).1
    dsimp only
    rw [recsF_fuel f (bs.drop k).length (bs.drop k) (by rw [List.length_drop]; omega) (Nat.le_refl _)]
theorem find_parts (t : List UInt8) (rest : List (List UInt8)) : ∀ (m k : Nat), (partsL t).length - k ≤ m → 1 ≤ k → k ≤ (partsL t).length → findJoin (partsL t ++ rest) k = some (t, (partsL t).length) := by
  intro m
  induction m with
  | zero =>
    intro k hm h1 h2
    have : k = (partsL t).length := by omega
    subst this
    exact findJoin_some (by rw [List.take_left]; exact joinL_parts t)
  | succ m ih =>
    intro k hm h1 h2
    by_cases hk : k = (partsL t).length
    · subst hk
      exact findJoin_some (by rw [List.take_left]; exact joinL_parts t)
    · have hj : joinL ((partsL t ++ rest).take k) = none := by
        cases hj : joinL ((partsL t ++ rest).take k) with
        | none => rfl
        | some u =>
          have h3 := (joinL_iff _ _).1 hj
          rw [List.take_append_of_le_length (by omega)] at h3
          have h4 : partsL t = partsL u ++ (partsL t).drop k := by rw [← h3, List.take_append_drop]
          have h5 := (parts_prefix h4).1
          have h6 := congrArg List.length h5
          rw [List.length_drop, List.length_nil] at h6
          omega
      rw [findJoin_next hj (by rw [List.length_append]; omega)]
      exact ih (k + 1) (by omega) (by omega) (by omega)
/-- Records are found again. -/
theorem recsL_parts : ∀ (ts : List (List UInt8)), recsL (ts.flatMap partsL) = some ts
  | [] => rfl
  | t :: ts => by
    have hne : partsL t ++ ts.flatMap partsL ≠ [] := by
      intro h
      have := congrArg List.length h
      rw [List.length_append, List.length_nil] at this
      have := parts_pos t
      omega
    rw [List.flatMap_cons, recsL_cons hne, find_parts t _ _ 1 (Nat.le_refl _) (Nat.le_refl _) (parts_pos t)]
    dsimp only
    rw [List.drop_left, recsL_parts ts]
    rfl
/-- Bodies that say records are the records' parts. -/
theorem recsL_some : ∀ (m : Nat) (bs ts : List (List UInt8)), bs.length ≤ m → recsL bs = some ts → bs = ts.flatMap partsL := by
  intro m
  induction m with
  | zero =>
    intro bs ts hm h
    have : bs = [] := List.eq_nil_of_length_eq_zero (by omega)
    subst this
    rw [recsL_nil] at h
    cases h
    rfl
  | succ m ih =>
    intro bs ts hm h
    by_cases hb : bs = []
    · subst hb
      rw [recsL_nil] at h
      cases h
      rfl
    · rw [recsL_cons hb] at h
      cases hj : findJoin bs 1 with
      | none => rw [hj] at h; cases h
      | some p =>
        obtain ⟨r, k⟩ := p
        rw [hj] at h
        dsimp only at h
        obtain ⟨h1, h2, _⟩ := findJoin_ge _ bs 1 (Nat.le_refl _) r k hj
        cases hr : recsL (bs.drop k) with
        | none => rw [hr] at h; cases h
        | some us =>
          rw [hr] at h
          simp only [Option.map_some, Option.some.injEq] at h
          subst h
          have h3 := ih (bs.drop k) us (by rw [List.length_drop]; omega) hr
          rw [List.flatMap_cons, ← (joinL_iff _ _).1 h2, ← h3, List.take_append_drop]

/-- The state that heads say: none if they are damaged. -/
def pickL (zero : Bool) (one two : Option St) : Option (St × Nat) :=
  match one, two with
  | some x, some y => if x.number = y.number ∧ x ≠ y then none else if y.number ≤ x.number then some (x, 0) else some (y, 1)
  | some x, none => some (x, 0)
  | none, some y => some (y, 1)
  | none, none => if zero then some (⟨0, 0, 0⟩, 0) else none
def bodiesL (S : DS) (e p : Nat) : Nat → Option (List (List UInt8))
  | 0 => some []
  | k + 1 => match bodiesL S e p k with
    | none => none
    | some bs => match openB e (p + k) (S.secNow (p + k)).data.toList with
      | none => none
      | some b => some (bs ++ [b])
theorem bodies_none {S : DS} {e p k : Nat} (h : bodiesL S e p k = none) : ∀ m, bodiesL S e p (k + m) = none
  | 0 => h
  | m + 1 => by
    rw [← Nat.add_assoc, bodiesL, bodies_none h m]
theorem bodies_len {S : DS} {e p : Nat} : ∀ {k : Nat} {bs : List (List UInt8)}, bodiesL S e p k = some bs → bs.length = k ∧ ∀ b ∈ bs, b.length ≤ 40
  | 0, bs, h => by
    simp only [bodiesL, Option.some.injEq] at h
    subst h
    exact ⟨rfl, fun b hb => by cases hb⟩
  | k + 1, bs, h => by
    rw [bodiesL] at h
    cases h1 : bodiesL S e p k with
    | none => rw [h1] at h; cases h
    | some cs =>
      rw [h1] at h
      dsimp only at h
      cases h2 : openB e (p + k) (S.secNow (p + k)).data.toList with
      | none => rw [h2] at h; cases h
      | some c =>
        rw [h2] at h
        simp only [Option.some.injEq] at h
        subst h
        obtain ⟨h3, h4⟩ := bodies_len h1
        refine ⟨by rw [List.length_append, h3]; rfl, fun b hb => ?_⟩
        rcases List.mem_append.1 hb with hb | hb
        · exact h4 b hb
        · rw [List.mem_singleton.1 hb]
          exact ((openB_iff _ _ _ _).1 h2).1
theorem flat_le : ∀ (bs : List (List UInt8)), (∀ b ∈ bs, b.length ≤ 40) → bs.flatten.length ≤ 40 * bs.length
  | [], _ => by simp
  | b :: r, h => by
    have h1 := flat_le r (fun x hx => h x (List.mem_cons_of_mem _ hx))
    have h2 := h b (List.mem_cons_self ..)
    rw [List.flatten_cons, List.length_append, List.length_cons]
    omega
def stateL (S : DS) : Option (St × Nat) :=
  pickL (decide (S.secNow 0 = zeroB) || decide (S.secNow 1 = zeroB)) (parseL 0 (S.secNow 0).data.toList (halfN S.n)) (parseL 1 (S.secNow 1).data.toList (halfN S.n))
theorem state_ok {S : DS} {s : St} {a : Nat} (h : stateL S = some (s, a)) : s.ok ∧ s.length ≤ halfN S.n ∧ a ≤ 1 := by
  unfold stateL at h
  cases h0 : parseL 0 (S.secNow 0).data.toList (halfN S.n) with
  | some x =>
    have k0 := parseL_some h0
    cases h1 : parseL 1 (S.secNow 1).data.toList (halfN S.n) with
    | some y =>
      have k1 := parseL_some h1
      rw [h0, h1] at h
      unfold pickL at h
      dsimp only at h
      split at h
      · cases h
      · split at h
        · simp only [Option.some.injEq, Prod.mk.injEq] at h
          obtain ⟨rfl, rfl⟩ := h
          exact ⟨k0.2.1, k0.2.2, by omega⟩
        · simp only [Option.some.injEq, Prod.mk.injEq] at h
          obtain ⟨rfl, rfl⟩ := h
          exact ⟨k1.2.1, k1.2.2, by omega⟩
    | none =>
      rw [h0, h1] at h
      simp only [pickL, Option.some.injEq, Prod.mk.injEq] at h
      obtain ⟨rfl, rfl⟩ := h
      exact ⟨k0.2.1, k0.2.2, by omega⟩
  | none =>
    cases h1 : parseL 1 (S.secNow 1).data.toList (halfN S.n) with
    | some y =>
      have k1 := parseL_some h1
      rw [h0, h1] at h
      simp only [pickL, Option.some.injEq, Prod.mk.injEq] at h
      obtain ⟨rfl, rfl⟩ := h
      exact ⟨k1.2.1, k1.2.2, by omega⟩
    | none =>
      rw [h0, h1] at h
      unfold pickL at h
      dsimp only at h
      split at h
      · simp only [Option.some.injEq, Prod.mk.injEq] at h
        obtain ⟨rfl, rfl⟩ := h
        exact ⟨⟨by decide, by decide, by decide⟩, Nat.zero_le _, by omega⟩
      · cases h
def openL (S : DS) : Int × Option LS :=
  if S.off then (19, none) else if S.n < 6 then (1, none) else
  match stateL S with
  | none => (20, none)
  | some (s, a) => match bodiesL S s.generation (startN S.n s.generation) s.length with
    | none => (20, none)
    | some bs => match recsL bs with
      | none => (20, none)
      | some rs => (0, some ⟨S.n, s, a, rs.map strOf, false⟩)
end Go.Proofs.YtmemhoiepnlhfaaGreatDoor
