/-
  The reference's Parse, walked. Its condition: a text of at most a thousand bytes.
-/
import Derived.Test.YtacjgkpncdnbgaaDoorX6
namespace Go.Proofs.YtacjgkpncdnbgaaDoor
open Go.RowKit

/-- The ratio that the parts seem to mean. -/
def numOf (x : List UInt8) : Int := if x.head? = some 45 then -(numR x.tail : Int) else (numR x : Int)
def guess (l : List UInt8) : Q := ⟨numOf (Lib.cut l [47]).1, if (Lib.cut l [47]).2.2 then (numR (Lib.cut l [47]).2.1 : Int) else 1⟩
def rparseR (s : ByteArray) : Q × Int := if strOf [] = s ∨ ¬ strOf (textL (guess s.data.toList)) = s then (q0, 6) else (guess s.data.toList, 0)

theorem guess_text {a : Q} (h : a.valid = true) : guess (textL a) = a := by
  obtain ⟨s1, s2, s3⟩ := Q.small h
  have num : numOf (Lib.itoa a.n) = a.n := by
    rw [itoa_dec]
    unfold numOf
    by_cases hn : a.n < 0
    · rw [if_pos hn, List.head?_cons, if_pos rfl, List.tail_cons, numR_dec _ s1]; omega
    · rw [if_neg hn, if_neg, numR_dec _ s1]
      · omega
      · cases hd : Lib.decDigits a.n.natAbs with
        | nil => simp
        | cons c r =>
          have hc := dec_digit _ _ (Nat.lt_succ_self _) c (by rw [hd]; simp)
          simp only [List.head?_cons, Option.some.injEq]
          rintro rfl
          exact absurd hc.1 (by decide)
  unfold guess
  by_cases hd : 1 < a.d
  · have ht : textL a = Lib.itoa a.n ++ 47 :: Lib.itoa a.d := by unfold textL; rw [h, if_pos rfl, if_pos hd]
    rw [ht, cut_mid _ _ (itoa_no _)]
    dsimp only
    rw [num, if_pos rfl, itoa_dec a.d, if_neg (by omega), numR_dec _ s2]
    have e : ((a.d.natAbs : Nat) : Int) = a.d := by omega
    rw [e]
  · have ht : textL a = Lib.itoa a.n := by unfold textL; rw [h, if_pos rfl, if_neg hd]
    have hd1 : a.d = 1 := by omega
    rw [ht, cut_none _ (itoa_no _)]
    dsimp only
    rw [num]
    simp only [Bool.false_eq_true, if_false]
    rw [← hd1]
theorem rparse_same (s : ByteArray) : rparseR s = parseR s := by
  rcases parse_two s with h | ⟨a, h1, h2, h3⟩
  · rw [h]
    unfold rparseR
    by_cases hh : strOf [] = s ∨ ¬ strOf (textL (guess s.data.toList)) = s
    · rw [if_pos hh]
    · exfalso
      have k1 : strOf (textL (guess s.data.toList)) = s := Classical.byContradiction fun k => hh (Or.inr k)
      have k2 : (guess s.data.toList).valid = true := by
        cases hv : (guess s.data.toList).valid with
        | true => rfl
        | false =>
          rw [text_none hv] at k1
          exact absurd (Or.inl k1) hh
      have := parse_text k2
      rw [k1, h] at this
      have k3 : (guess s.data.toList) = q0 := by have := congrArg Prod.fst this; exact this.symm
      rw [k3] at k2
      exact absurd k2 (by decide)
  · rw [h1]
    have hg : guess s.data.toList = a := by
      rw [← h2]; exact guess_text h3
    unfold rparseR
    rw [hg, if_neg]
    intro hh
    rcases hh with hh | hh
    · have : textL a = [] := by
        have := congrArg (fun b : ByteArray => b.data.toList) (h2.trans hh.symm)
        exact this
      exact text_some h3 this
    · exact hh h2
theorem guess_wf (l : List UInt8) : (guess l).wf := by
  have h1 := numR_lt (Lib.cut l [47]).1
  have h2 := numR_lt (Lib.cut l [47]).1.tail
  have h3 := numR_lt (Lib.cut l [47]).2.1
  unfold guess numOf
  constructor <;> dsimp only <;> split <;> omega
end Go.Proofs.YtacjgkpncdnbgaaDoor
