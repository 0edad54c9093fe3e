/-
  log's plain and the closure of parse, walked. No condition but the text's size.
-/
import Derived.Test.YtmemhoiepnlhfaaGreatDoorJA
namespace Go.Proofs.YtmemhoiepnlhfaaGreatDoor
open Go.RowKit
set_option maxRecDepth 100000

theorem get_data (s : ByteArray) (i : Nat) (h : i < s.data.toList.length) : s.get! i = s.data.toList[i] := by
  show s.data[i]! = _
  rw [getElem!_pos s.data i (by simpa using h)]
  simp
theorem decode_ascii (s : ByteArray) (i : Nat) (h : (s.get! i).toNat < 128) : Utf8.decode s i = ((s.get! i).toNat, 1) := by
  unfold Utf8.decode
  simp only [Nat.add_zero]
  rw [if_pos h]
theorem decode_high (s : ByteArray) (i : Nat) (h : 128 ≤ (s.get! i).toNat) : 57 < (Utf8.decode s i).1 := by
  unfold Utf8.decode
  simp only [Nat.add_zero]
  rw [if_neg (by omega)]
  split
  · split
    · dsimp only; omega
    · decide
  · split
    · split
      · rename_i h2
        simp only [Bool.and_eq_true, decide_eq_true_eq] at h2
        dsimp only; omega
      · decide
    · split
      · split
        · rename_i h2
          simp only [Bool.and_eq_true, decide_eq_true_eq] at h2
          dsimp only; omega
        · decide
      · decide
def notDig (x : Nat) : Bool := decide (x < 48) || decide (57 < x)
theorem idx_plain (s : ByteArray) : ∀ (f pos : Nat), s.size ≤ pos + f → (Lib.idxFuncFrom notDig true s f pos < 0 ↔ (s.data.toList.drop pos).all isDig = true)
  | 0, pos, h => by
    have : s.data.toList.drop pos = [] := List.drop_of_length_le (by rw [size_len]; omega)
    rw [this]
    simp [Lib.idxFuncFrom]
  | f + 1, pos, h => by
    unfold Lib.idxFuncFrom
    by_cases hp : pos < s.size
    · have hp' : pos < s.data.toList.length := hp
      rw [if_pos hp, List.drop_eq_getElem_cons hp', List.all_cons, ← get_data s pos hp']
      by_cases hd : isDig (s.get! pos) = true
      · have hd' := hd
        simp only [isDig, Bool.and_eq_true, decide_eq_true_eq] at hd'
        rw [decode_ascii s pos (by omega)]
        have hn : notDig (s.get! pos).toNat = false := by simp [notDig]; omega
        rw [hn, hd, Bool.true_and]
        simp only [Bool.false_eq_true, if_false]
        exact idx_plain s f (pos + 1) (by omega)
      · have hn : notDig (Utf8.decode s pos).1 = true := by
          by_cases h128 : (s.get! pos).toNat < 128
          · rw [decode_ascii s pos h128]
            simp only [isDig, Bool.and_eq_true, decide_eq_true_eq] at hd
            simp [notDig]; omega
          · have := decode_high s pos (by omega)
            simp [notDig]; omega
        have hd' : isDig (s.get! pos) = false := by simpa using hd
        rw [hn, hd', if_pos rfl]
        simp
    · rw [if_neg hp]
      have : s.data.toList.drop pos = [] := List.drop_of_length_le (by rw [size_len]; omega)
      rw [this]
      simp
theorem indexFunc_any (s : ByteArray) (w : World) : Calls Tryz.prog 71 #[.string s, .func (.func 72) #[] #[]] w fun e w' => ∃ k : Int, e = .returned (.int .i64 k) ∧ (k < 0 ↔ s.data.toList.all isDig = true) ∧ Kept w w' := by
  refine (Tryz.strings_IndexFunc_grows 72 #[] (enters_of Tryz.func72 (by kernel_rfl) rfl) notDig s w ?_).mono fun e w' ⟨h, hb⟩ => ⟨_, h, ?_, Kept.of_below hb⟩
  · intro W x hx _
    exact (plain1_any x hx W).mono fun e w' ⟨h, hw⟩ => ⟨h, hw ▸ Below.refl _ _⟩
  · have := idx_plain s s.size 0 (by omega)
    rw [List.drop_zero] at this
    exact this
theorem plain_any (s : ByteArray) (w : World) : Calls Tryz.prog 52 #[.string s] w fun e w' => e = .returned (.bool (s.data.toList.all isDig)) ∧ Kept w w' := by
  obtain ⟨o, ho⟩ : ∃ o, s.data.toList.all isDig = o := ⟨_, rfl⟩
  have HI := Lib.hid (fun w => indexFunc_any s w)
  rw [ho] at HI ⊢
  clear ho
  go_enter Tryz.func52, Tryz.ntmps52
  go_wp2_with fail
  refine (HI.out _).mono ?_
  rintro e w1 ⟨k, rfl, hk, hw⟩
  have HK := Lib.hid hw
  clear hw HI
  cases o with
  | true =>
    have hk' : k < 0 := hk.2 rfl
    clear hk
    go_wp2_with fail
    go_ret
    exact ⟨rfl, HK.out⟩
  | false =>
    have HD : Hid (decide (k < 0) = false) := Lib.hid (decide_eq_false (fun h => by have := hk.1 h; cases this))
    clear hk
    go_wp2_with fail
    go_ret
    exact ⟨by show Ending.returned (.bool (decide (k < 0))) = _; rw [HD.out], HK.out⟩

theorem decFrom_dig : ∀ (l : List UInt8) (a : Nat), (∀ c ∈ l, isDig c = true) → Lib.decFrom a l = some (l.foldl (fun n c => n * 10 + (c.toNat - 48)) a)
  | [], a, _ => rfl
  | c :: r, a, h => by
    have hc := h c (by simp)
    simp only [isDig, Bool.and_eq_true, decide_eq_true_eq] at hc
    rw [Lib.decFrom, Lib.digitVal, if_pos hc]
    exact decFrom_dig r _ (fun x hx => h x (by simp [hx]))
theorem atoi_dig (l : List UInt8) (h0 : l ≠ []) (h : ∀ c ∈ l, isDig c = true) : Lib.atoi l = some (undec l : Int) := by
  cases l with
  | nil => exact absurd rfl h0
  | cons c r =>
    have hc := h c (by simp)
    simp only [isDig, Bool.and_eq_true, decide_eq_true_eq] at hc
    have e1 : (c == 45) = false := by
      rw [beq_eq_false_iff_ne]; rintro rfl; exact absurd hc.1 (by decide)
    have e2 : (c == 43) = false := by
      rw [beq_eq_false_iff_ne]; rintro rfl; exact absurd hc.1 (by decide)
    unfold Lib.atoi
    simp only []
    rw [e1, e2]
    simp only [Bool.false_eq_true, if_false]
    unfold Lib.decNat
    rw [decFrom_dig _ _ h]
    rfl
theorem parse1_any (s : ByteArray) (h0 : 0 < s.size) (hs : s.size ≤ 18) (h : ∀ c ∈ s.data.toList, isDig c = true) (w : World) : Calls Tryz.prog 53 #[.string s] w fun e w' => e = .returned (.int .i64 (undec s.data.toList : Int)) ∧ Kept w w' := by
  have ha := atoi_dig s.data.toList (fun e => by have := congrArg List.length e; rw [size_len, List.length_nil] at this; omega) h
  have HA := Lib.hid (fun w => Tryz.strconv_Atoi s _ hs ha w)
  clear ha
  go_enter Tryz.func53, Tryz.ntmps53
  go_wp2_with fail
  refine (HA.out _).mono ?_
  rintro e w1 ⟨rfl, t, rfl⟩
  have HK := Lib.hid (Kept.bytes w 5 t)
  clear HA
  go_wp2_with fail
  go_ret
  exact ⟨rfl, HK.out⟩
end Go.Proofs.YtmemhoiepnlhfaaGreatDoor
