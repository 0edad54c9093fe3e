/-
  seal's Sum and placed, walked. Their condition: a text that memory can hold.
-/
import Derived.Test.YtmemhoiepnlhfaaGreatDoorK1
import Derived.Test.YtmemhoiepnlhfaaGreatDoorW9
import Derived.Laws.Strings
namespace Go.Proofs.YtmemhoiepnlhfaaGreatDoor
open Go.RowKit
set_option maxRecDepth 100000

def strOf (l : List UInt8) : ByteArray := ⟨l.toArray⟩
theorem index_at (s : ByteArray) (k : Nat) (c : UInt8) (h : s.data.toList[k]? = some c) (kd : IntKind) (w : World) : (Instr.index 9 (.string s) (.int kd (k : Int))).run Tryz.prog w = .ok (.int .u8 (c.toNat : Int)) w := by
  have hl : k < s.size := by
    have := (List.getElem?_eq_some_iff.1 h).1
    exact this
  rw [run_index_string w 9 s kd (k : Int) (by kernel_rfl)]
  rw [dif_pos ⟨by omega, by omega⟩]
  have e : s[((k : Int)).toNat]'(by omega) = c := by
    have h2 : (k : Int).toNat = k := by omega
    have h3 := (List.getElem?_eq_some_iff.1 h).2
    simp only [h2]
    rw [← h3]
    rfl
  rw [e]

set_option maxHeartbeats 800000 in
theorem sum_any (s : ByteArray) (hs : s.size ≤ 9223372036854775807) (w : World) : Calls Tryz.prog 76 #[.string s] w fun e w' => e = .returned (.int .i64 (sumL s.data.toList : Int)) ∧ w = w' := by
  have HL : Hid (s.data.toList.length = s.size) := Lib.hid rfl
  go_enter Tryz.func76, Tryz.ntmps76
  go_wp2_with fail
  go_loop [3, 7] (fun n i => ∃ k acc : Nat, n = .int .i64 acc ∧ i = .int .i64 k ∧ k ≤ s.size ∧ acc < 2147483647 ∧ Hid ((s.data.toList.drop k).foldl sumStep acc = sumL s.data.toList)) (fun _ i => s.size - (intOf i).toNat)
  case atStart => exact ⟨0, 0, rfl, rfl, Nat.zero_le _, by decide, Lib.hid rfl⟩
  case round =>
    obtain ⟨k, acc, rfl, rfl, hk, ha, HG⟩ := hrel
    by_cases hlt : k < s.size
    · obtain ⟨c, hc⟩ : ∃ c, s.data.toList[k]? = some c := ⟨_, List.getElem?_eq_getElem (by rw [HL.out]; exact hlt)⟩
      have hix := fun kd w => index_at s k c hc kd w
      have hg : Hid ((s.data.toList.drop (k + 1)).foldl sumStep ((acc * 257 + c.toNat + 1) % 2147483647) = sumL s.data.toList) := Lib.hid (by
        rw [← HG.out]
        conv => rhs; rw [List.drop_eq_getElem_cons (by rw [HL.out]; exact hlt)]
        rw [List.getElem?_eq_some_iff] at hc
        rw [hc.2]
        rfl)
      have hc8 : c.toNat < 256 := c.toNat_lt
      clear hc HG
      generalize c.toNat = b at *
      go_wp2_with fail
      refine ⟨⟨k + 1, (acc * 257 + b + 1) % 2147483647, ?_, by simp, by omega, Nat.mod_lt _ (by decide), hg⟩, ?_⟩
      · exact congrArg (Value.int .i64) (by omega)
      · show s.size - ((k : Int) + 1).toNat < s.size - (k : Int).toNat
        omega
    · have e0 : Hid (sumL s.data.toList = acc) := Lib.hid (by rw [← HG.out, List.drop_of_length_le (by rw [HL.out]; omega)]; rfl)
      go_wp2_with fail
      go_ret
      exact ⟨by rw [e0.out]; rfl, rfl⟩

set_option maxHeartbeats 800000 in
theorem placed_any (e p : Int) (w : World) : Calls Tryz.prog 55 #[.int .i64 e, .int .i64 p] w fun r w' => r = .returned (.bool (placed e p)) ∧ w = w' := by
  have H : Hid (placed e p = (decide (0 ≤ e) && decide (e ≤ 1000000000) && decide (0 ≤ p) && decide (p < 4000))) := Lib.hid rfl
  by_cases c1 : 0 ≤ e
  · by_cases c2 : e ≤ 1000000000
    · by_cases c3 : 0 ≤ p
      · by_cases c4 : p < 4000
        · have E : Hid (placed e p = true) := Lib.hid (by rw [H.out]; simp [c1, c2, c3, c4])
          go_enter Tryz.func55, Tryz.ntmps55
          go_wp2_with fail
          go_ret
          exact ⟨by rw [E.out]; rfl, rfl⟩
        · have E : Hid (placed e p = false) := Lib.hid (by rw [H.out]; simp [c4])
          go_enter Tryz.func55, Tryz.ntmps55
          go_wp2_with fail
          go_ret
          exact ⟨by rw [E.out]; rfl, rfl⟩
      · have E : Hid (placed e p = false) := Lib.hid (by rw [H.out]; simp [c3])
        go_enter Tryz.func55, Tryz.ntmps55
        go_wp2_with fail
        go_ret
        exact ⟨by rw [E.out]; rfl, rfl⟩
    · have E : Hid (placed e p = false) := Lib.hid (by rw [H.out]; simp [c2])
      go_enter Tryz.func55, Tryz.ntmps55
      go_wp2_with fail
      go_ret
      exact ⟨by rw [E.out]; rfl, rfl⟩
  · have E : Hid (placed e p = false) := Lib.hid (by rw [H.out]; simp [c1])
    go_enter Tryz.func55, Tryz.ntmps55
    go_wp2_with fail
    go_ret
    exact ⟨by rw [E.out]; rfl, rfl⟩
end Go.Proofs.YtmemhoiepnlhfaaGreatDoor
