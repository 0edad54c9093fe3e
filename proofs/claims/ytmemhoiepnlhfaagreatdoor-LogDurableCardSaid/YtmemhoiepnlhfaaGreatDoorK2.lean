/-
  Plain laws of seals: what a sector says. No program in sight.
-/
import Derived.Test.YtmemhoiepnlhfaaGreatDoorJ5
namespace Go.Proofs.YtmemhoiepnlhfaaGreatDoor

/-- The body of a sector that was sealed for a place. -/
def openB (e p : Nat) (s : List UInt8) : Option (List UInt8) :=
  let b := (s.drop 16).take (valL ((s.drop 12).take 4))
  if b.length ≤ 40 ∧ s = putL e p b then some b else none

theorem openB_iff (e p : Nat) (s b : List UInt8) : openB e p s = some b ↔ b.length ≤ 40 ∧ s = putL e p b := by
  unfold openB
  constructor
  · intro h
    simp only at h
    split at h
    · simp only [Option.some.injEq] at h
      rename_i h2
      subst h
      exact h2
    · cases h
  · rintro ⟨h1, rfl⟩
    have e0 : valL (((putL e p b).drop 12).take 4) = b.length := by
      rw [field_n]
      exact val_fit (by have : (256 : Nat) ^ 4 = 4294967296 := by decide
                        omega)
    simp only [e0, field_b, h1, true_and, if_true]
theorem readGo_val : ∀ (l : List UInt8) (acc : Nat), acc * 256 ^ l.length + valL l < 4294967296 → readGo acc l = some (acc * 256 ^ l.length + valL l)
  | [], acc, _ => by simp [readGo, valL]
  | c :: r, acc, h => by
    rw [val_cons, List.length_cons, Nat.pow_succ] at h
    have hp : 0 < 256 ^ r.length := Nat.pow_pos (by decide)
    have e1 : acc * (256 ^ r.length * 256) + (c.toNat * 256 ^ r.length + valL r) = (acc * 256 + c.toNat) * 256 ^ r.length + valL r := by
      rw [Nat.add_mul, Nat.mul_assoc, Nat.mul_comm 256]; omega
    have hlt : acc < 16777216 := by
      rcases Nat.lt_or_ge acc 16777216 with h1 | h1
      · exact h1
      · have : 16777216 * 256 ≤ acc * (256 ^ r.length * 256) := Nat.mul_le_mul h1 (Nat.le_mul_of_pos_left _ hp)
        omega
    rw [readGo, if_neg (by omega), readGo_val r _ (by omega), val_cons, List.length_cons, Nat.pow_succ, e1]
theorem readGo_be (n k : Nat) (h : n < 4294967296) (hk : n < 256 ^ k) : readGo 0 (beD n k) = some n := by
  rw [readGo_val _ _ (by rw [val_fit hk]; omega), val_fit hk]
  simp
theorem openB_reads {e p : Nat} {s b : List UInt8} (he : e ≤ 1000000000) (hp : p < 4000) (h : openB e p s = some b) :
    s.length = 64 ∧ readGo 0 (s.take 8) = some e ∧ readGo 0 ((s.drop 8).take 4) = some p ∧ readGo 0 ((s.drop 12).take 4) = some b.length ∧ (s.drop 16).take b.length = b ∧ b.length ≤ 40 ∧ s = putL e p b := by
  obtain ⟨hb, rfl⟩ := (openB_iff e p s b).1 h
  have h4 : (256 : Nat) ^ 4 = 4294967296 := by decide
  have h8 : (256 : Nat) ^ 8 = 18446744073709551616 := by decide
  refine ⟨putL_len e p hb, ?_, ?_, ?_, field_b e p b, hb, rfl⟩
  · rw [take_putL]; exact readGo_be _ _ (by omega) (by omega)
  · rw [field_p]; exact readGo_be _ _ (by omega) (by omega)
  · rw [field_n]; exact readGo_be _ _ (by omega) (by omega)
theorem extract_list (s : ByteArray) (i j : Nat) : (s.extract i j).data.toList = (s.data.toList.drop i).take (j - i) := by
  simp [ByteArray.data_extract]
end Go.Proofs.YtmemhoiepnlhfaaGreatDoor
