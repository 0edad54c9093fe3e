/-
  The helpers of the disk's laws, walked: size, ok, text, fill. Their condition: the operations read as a list of six-cell structs.
-/
import Derived.Test.YtcjocajpnebecaaW9
namespace Go.Proofs.Ytcjocajpnebecaa
open Go.RowKit

/-- An operation, as it reads. -/
structure AC where
  kind : Int
  sector : Int
  bytes : Int
  text : ByteArray
  odd : Bool
  after : Int
def AC.cells (a : AC) : Array Value := #[.int .i64 a.kind, .int .i64 a.sector, .int .i64 a.bytes, .string a.text, .bool a.odd, .int .i64 a.after]
def AC.val (a : AC) : Value := .agg a.cells
/-- Its numbers are of their kind. -/
structure AC.wf (a : AC) : Prop where
  after : a.after ≤ 9223372036854775807
  size : a.text.size ≤ 9223372036854775807
def growText : Nat → List UInt8 → List UInt8 → List UInt8
  | 0, s, _ => s
  | k + 1, s, t => if s.length < 64 then growText k (s ++ t) t else s
def full (t : List UInt8) : List UInt8 := (growText 64 [] t).take 64
def AC.write (a : AC) : ByteArray := if a.odd || decide (a.text.size = 0) then a.text else ⟨(full a.text.data.toList).toArray⟩

theorem growText_len (t : List UInt8) (ht : 0 < t.length) (k : Nat) : ∀ s : List UInt8, 64 ≤ s.length + k → 64 ≤ (growText k s t).length := by
  induction k with
  | zero => intro s h; simpa [growText] using h
  | succ k ih =>
    intro s h
    unfold growText
    split
    · exact ih (s ++ t) (by simp; omega)
    · omega
theorem full_len (t : List UInt8) (ht : 0 < t.length) : (full t).length = 64 := by
  have := growText_len t ht 64 [] (by simp)
  simp only [full, List.length_take]; omega

/-- The cells of a list of operations, read off a slice's memory. -/
def actsAt (w : World) (v : Value) (l : List AC) : Prop := ∃ ao cap, v = .slice ao l.length cap ∧ l.length ≤ 9223372036854775807 ∧ ∀ i a, l[i]? = some a → a.wf ∧ ∃ b off, ao = some ⟨b, off, none⟩ ∧
  ∀ j x, a.cells[j]? = some x → w.cell? ⟨b, off + i * 6 + j, none⟩ = some x

set_option maxHeartbeats 400000 in
theorem size_any (r : Nat) (hr : r < 256) (w : World) : Calls Try.prog 13 #[.int .u8 (r : Int)] w fun e w' => e = .returned (.int .i64 ((1 + r % 12 : Nat) : Int)) ∧ w = w' := by
  go_enter Try.func13, Try.ntmps13
  go_wp2_with fail
  go_ret
  exact ⟨by simp, rfl⟩

theorem ba_append (l : List UInt8) (t : ByteArray) : (⟨l.toArray⟩ : ByteArray) ++ t = ⟨(l ++ t.data.toList).toArray⟩ := by
  apply ByteArray.ext
  rw [← Array.toList_inj]
  simp
theorem ba_size (l : List UInt8) : (⟨l.toArray⟩ : ByteArray).size = l.length := by simp [ByteArray.size]
theorem ba_take (l : List UInt8) (n : Nat) : (⟨l.toArray⟩ : ByteArray).extract 0 n = ⟨(l.take n).toArray⟩ := by
  apply ByteArray.ext
  rw [← Array.toList_inj, Lib.extract_data]
  simp
def strLen : Value → Nat | .string s => s.size | _ => 0
set_option maxHeartbeats 800000 in
theorem text_any (a : AC) (h100 : a.text.size ≤ 100) (w : World) : Calls Try.prog 23 #[a.val] w fun e w' => e = .returned (.string a.write) ∧ Kept w w' := by
  obtain ⟨k, s, b, t, odd, af⟩ := a
  by_cases hc : odd = true ∨ t.size = 0
  · have E : Hid (AC.write ⟨k, s, b, t, odd, af⟩ = t) := Lib.hid (by rcases hc with h | h <;> simp [AC.write, h])
    unfold AC.val AC.cells
    simp only
    cases odd with
    | true =>
      go_enter Try.func23, Try.ntmps23
      go_wp2_with fail
      go_ret
      rw [E.out]
      exact ⟨rfl, (Kept.refl _).alloc _⟩
    | false =>
      have hb : t.toList = [] := by
        rcases hc with h | h
        · cases h
        · rw [Lib.toList_data]; exact List.eq_nil_of_length_eq_zero (by rw [← Lib.size_eq]; exact h)
      have ht : t.toList.isEmpty = true := by rw [hb]; rfl
      clear hb
      go_enter Try.func23, Try.ntmps23
      go_wp2_with fail
      go_ret
      rw [E.out]
      exact ⟨rfl, (Kept.refl _).alloc _⟩
  · have hodd : odd = false := by cases odd <;> simp_all
    subst hodd
    have h0 : 0 < t.size := by omega
    have E : Hid (AC.write ⟨k, s, b, t, false, af⟩ = ⟨(full t.data.toList).toArray⟩) := Lib.hid (by
      have : decide (t.size = 0) = false := by simp; intro h; rw [h] at h0; simp at h0
      unfold AC.write
      simp only [this]; rfl)
    have ht : t.toList.isEmpty = false := by
      rw [Lib.toList_data, List.isEmpty_eq_false_iff]
      intro h
      rw [Lib.size_eq, h] at h0
      simp at h0
    have hte := Lib.size_eq t
    have HTE := Lib.hid hte
    clear hte hc
    unfold AC.val AC.cells
    simp only
    go_enter Try.func23, Try.ntmps23
    go_wp2_with fail
    go_loop [3] (fun x => ∃ (k : Nat) (l : List UInt8), x = .string ⟨l.toArray⟩ ∧ Hid (growText k l t.data.toList = growText 64 [] t.data.toList) ∧ 64 ≤ l.length + k ∧ l.length ≤ 163) (fun x => 64 - strLen x)
    case atStart => exact ⟨64, [], rfl, rfl, by simp, by simp⟩
    case round =>
      obtain ⟨k, l, rfl, HG, hk, hl⟩ := hrel
      by_cases hlt : l.length < 64
      · go_wp2_with fail
        cases k with
        | zero => omega
        | succ k =>
          have h1 := HTE.out
          refine ⟨⟨k, l ++ t.data.toList, by rw [ba_append], ?_, by simp; omega, by simp; omega⟩, ?_⟩
          · have h2 := HG.out
            rw [growText, if_pos hlt] at h2
            exact h2
          · rw [ba_append]; simp only [strLen, ba_size]; simp; omega
      · go_wp2_with fail
        go_ret
        refine ⟨?_, (Kept.refl _).alloc _⟩
        rw [E.out]
        have h2 := HG.out
        have h3 : growText k l t.data.toList = l := by cases k <;> simp [growText, hlt]
        rw [h3] at h2
        rw [full, ← h2]
        show Ending.returned (.string ((⟨l.toArray⟩ : ByteArray).extract 0 64)) = _
        rw [ba_take]
end Go.Proofs.Ytcjocajpnebecaa
