/-
  Plain laws of parts: what a list of bodies says. No program in sight.
-/
import Derived.Test.YtmemhoiepnlhfaaGreatDoorK3
import Derived.Lib.IndexMore
import Derived.Lib.Join
namespace Go.Proofs.YtmemhoiepnlhfaaGreatDoor

theorem index_none (x : List UInt8) (h : ∀ c ∈ x, c ≠ 58) : Lib.index x [58] = -1 := by
  induction x with
  | nil => rfl
  | cons c r ih =>
    unfold Lib.index
    have hc : c ≠ 58 := h c (by simp)
    have h2 : ([58] : List UInt8).isPrefixOf (c :: r) = false := by
      simp only [List.isPrefixOf, Bool.and_eq_false_imp, beq_iff_eq]
      intro e; exact absurd e.symm hc
    rw [h2, ih (fun c hc => h c (by simp [hc]))]
    rfl
theorem index_mid (x y : List UInt8) (h : ∀ c ∈ x, c ≠ 58) : Lib.index (x ++ 58 :: y) [58] = x.length := by
  induction x with
  | nil =>
    rw [List.nil_append]
    unfold Lib.index
    have h2 : ([58] : List UInt8).isPrefixOf (58 :: y) = true := by simp [List.isPrefixOf]
    rw [h2]; rfl
  | cons c r ih =>
    rw [List.cons_append]
    unfold Lib.index
    have hc : c ≠ 58 := h c (by simp)
    have h2 : ([58] : List UInt8).isPrefixOf (c :: (r ++ 58 :: y)) = false := by
      simp only [List.isPrefixOf, Bool.and_eq_false_imp, beq_iff_eq]
      intro e; exact absurd e.symm hc
    rw [h2, ih (fun c hc => h c (by simp [hc]))]
    have h3 : ((r.length : Int) == -1) = false := by rw [beq_eq_false_iff_ne]; omega
    simp only [Bool.false_eq_true, if_false, h3, List.length_cons]
    omega
theorem cut_mid (x y : List UInt8) (h : ∀ c ∈ x, c ≠ 58) : Lib.cut (x ++ 58 :: y) [58] = (x, y, true) := by
  unfold Lib.cut
  rw [index_mid x y h, if_pos (by omega)]
  simp
theorem cut_len (l : List UInt8) : (Lib.cut l [58]).2.1.length ≤ l.length := by
  unfold Lib.cut
  split
  · simp
  · simp
theorem join_flat : ∀ (l : List (List UInt8)), Lib.join l [] = l.flatten
  | [] => rfl
  | [a] => by simp [Lib.join, List.intercalate]
  | a :: b :: r => by
    have := join_flat (b :: r)
    unfold Lib.join List.intercalate at *
    simp only [List.intersperse_cons_cons, List.flatten_cons, List.nil_append] at *
    rw [this]

/-- The text that bodies contain. -/
def joinL (bs : List (List UInt8)) : Option (List UInt8) :=
  if (Lib.cut bs.flatten [58]).2.2 then (if partsL (Lib.cut bs.flatten [58]).2.1 = bs then some (Lib.cut bs.flatten [58]).2.1 else none) else none
theorem joinL_parts (t : List UInt8) : joinL (partsL t) = some t := by
  unfold joinL
  rw [parts_flat]
  unfold textOf
  rw [cut_mid _ _ (dec_no _)]
  simp
theorem joinL_iff (bs : List (List UInt8)) (t : List UInt8) : joinL bs = some t ↔ bs = partsL t := by
  constructor
  · intro h
    unfold joinL at h
    split at h
    · split at h
      · rename_i h2
        simp only [Option.some.injEq] at h
        rw [← h, h2]
      · cases h
    · cases h
  · rintro rfl
    exact joinL_parts t
end Go.Proofs.YtmemhoiepnlhfaaGreatDoor
