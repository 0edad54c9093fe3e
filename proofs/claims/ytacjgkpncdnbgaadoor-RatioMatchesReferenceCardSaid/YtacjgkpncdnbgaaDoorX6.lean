/-
  The reference's number, walked. Its condition: a text of at most a thousand bytes.
-/
import Derived.Test.YtacjgkpncdnbgaaDoorX5
namespace Go.Proofs.YtacjgkpncdnbgaaDoor
open Go.RowKit

theorem index_at (s : ByteArray) (k : Nat) (c : UInt8) (h : s.data.toList[k]? = some c) (kd : IntKind) (w : World) : (Instr.index 9 (.string s) (.int kd (k : Int))).run Tryd.prog w = .ok (.int .u8 (c.toNat : Int)) w := by
  have hl : k < s.size := by
    have := (List.getElem?_eq_some_iff.1 h).1
    exact this
  rw [run_index_string w 9 s kd (k : Int) (by kernel_rfl)]
  rw [dif_pos ⟨by omega, by omega⟩]
  have e : s[((k : Int)).toNat]'(by omega) = c := by
    have h2 : (k : Int).toNat = k := by omega
    have h3 := (List.getElem?_eq_some_iff.1 h).2
    simp only [h2]
    rw [← h3]
    rfl
  rw [e]

set_option maxRecDepth 100000 in
set_option maxHeartbeats 1600000 in
theorem number_any (s : ByteArray) (hs : s.size ≤ 1000) (w : World) : Calls Tryd.prog 44 #[.string s] w fun e w' => e = .returned (.int .i64 (numR s.data.toList : Int)) ∧ w = w' := by
  have hlen : s.data.toList.length = s.size := rfl
  have HL := Lib.hid hlen
  clear hlen
  go_enter Tryd.func44, Tryd.ntmps44
  go_wp2_with fail
  go_loop [3, 4] (fun n i => ∃ k acc : Nat, n = .int .i64 acc ∧ i = .int .i64 k ∧ k ≤ s.size ∧ Hid (k = 0 ∨ (k ≤ 11 ∧ s.size ≤ 11)) ∧ Hid (acc < 10 ^ k) ∧ Hid (numGo (decide (11 < s.data.toList.length)) acc (s.data.toList.drop k) = numR s.data.toList)) (fun _ i => s.size - natOf i)
  case atStart => exact ⟨0, 0, rfl, rfl, Nat.zero_le _, Lib.hid (Or.inl rfl), Lib.hid (by decide), Lib.hid rfl⟩
  case round =>
    obtain ⟨k, acc, rfl, rfl, hk, HK, HA, HG⟩ := hrel
    by_cases hlt : k < s.size
    · obtain ⟨c, hc⟩ : ∃ c, s.data.toList[k]? = some c := ⟨_, List.getElem?_eq_getElem (by rw [HL.out]; exact hlt)⟩
      have hix := fun kd w => index_at s k c hc kd w
      have hg : numR s.data.toList = numGo (decide (11 < s.data.toList.length)) acc (c :: s.data.toList.drop (k + 1)) := by
        rw [← HG.out, List.drop_eq_getElem_cons (by rw [HL.out]; exact hlt)]
        congr 2
        rw [List.getElem?_eq_some_iff] at hc
        exact hc.2
      have hg2 := Lib.hid hg
      clear hg hc HG
      by_cases c1 : c.toNat < 48
      · have i1 : (c.toNat : Int) < 48 := by omega
        have e0 : Hid (numR s.data.toList = 0) := Lib.hid (by rw [hg2.out]; unfold numGo; rw [if_pos (by simp [c1])])
        go_wp2_with fail
        go_ret
        exact ⟨by rw [e0.out]; rfl, rfl⟩
      · have i1 : ¬ (c.toNat : Int) < 48 := by omega
        by_cases c2 : 57 < c.toNat
        · have i2 : (57 : Int) < (c.toNat : Int) := by omega
          have e0 : Hid (numR s.data.toList = 0) := Lib.hid (by rw [hg2.out]; unfold numGo; rw [if_pos (by simp [c2])])
          go_wp2_with fail
          go_ret
          exact ⟨by rw [e0.out]; rfl, rfl⟩
        · have i2 : ¬ (57 : Int) < (c.toNat : Int) := by omega
          by_cases c3 : 11 < s.size
          · have i3 : (11 : Int) < (s.size : Int) := by omega
            have e0 : Hid (numR s.data.toList = 0) := Lib.hid (by rw [hg2.out]; unfold numGo; rw [if_pos (by rw [HL.out]; simp [c3])])
            go_wp2_with fail
            go_ret
            exact ⟨by rw [e0.out]; rfl, rfl⟩
          · have i3 : ¬ (11 : Int) < (s.size : Int) := by omega
            have hk11 : k ≤ 10 := by omega
            have ha := HA.out
            have hp : (10 : Nat) ^ k ≤ 10 ^ 10 := Nat.pow_le_pow_right (by decide) hk11
            have hp2 : (10 : Nat) ^ 10 = 10000000000 := by decide
            have w0 : IntKind.u8.wrap ((c.toNat : Int) - 48) = ((c.toNat - 48 : Nat) : Int) := by rw [IntKind.wrap_u8]; omega
            have NX : Hid (10 * acc + (c.toNat - 48) < 10 ^ (k + 1) ∧ numGo (decide (11 < s.data.toList.length)) (10 * acc + (c.toNat - 48)) (s.data.toList.drop (k + 1)) = numR s.data.toList) := Lib.hid ⟨by rw [Nat.pow_succ]; omega, by
              rw [hg2.out]
              conv => rhs; unfold numGo
              rw [if_neg (by rw [HL.out]; simp [c1, c2, c3])]⟩
            have la : acc < 10000000000 := by omega
            have ld : c.toNat - 48 ≤ 9 := by omega
            clear ha hp hp2 HA
            generalize c.toNat - 48 = dg at *
            go_wp2_with fail
            refine ⟨⟨k + 1, 10 * acc + dg, rfl, by simp, by omega, Lib.hid (Or.inr ⟨by omega, by omega⟩), Lib.hid NX.out.1, Lib.hid NX.out.2⟩, ?_⟩
            show s.size - Int.toNat ((k : Int) + 1) < s.size - Int.toNat (k : Int)
            omega
    · have e0 : Hid (numR s.data.toList = acc) := Lib.hid (by rw [← HG.out, List.drop_of_length_le (by rw [HL.out]; omega)]; rfl)
      go_wp2_with fail
      go_ret
      exact ⟨by rw [e0.out]; rfl, rfl⟩
end Go.Proofs.YtacjgkpncdnbgaaDoor
