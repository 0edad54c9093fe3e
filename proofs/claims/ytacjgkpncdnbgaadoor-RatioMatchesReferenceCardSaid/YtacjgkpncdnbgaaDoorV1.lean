/-
  ratio's magnitude and common, walked. Their conditions: numbers of their kind.
-/
import Derived.Test.YtacjgkpncdnbgaaDoorKp
import Derived.Test.YtacjgkpncdnbgaaDoorQ2
import Derived.Lib.Hide
import Derived.IntWalk
import Derived.Deep.LoopGhost
import Derived.Deep.QuietTactic
import Derived.BigQuiet
namespace Go.Proofs.YtacjgkpncdnbgaaDoor
open Go.RowKit

set_option maxHeartbeats 400000 in
theorem mag_any (n : Int) (h1 : -9223372036854775808 ≤ n) (h2 : n ≤ 9223372036854775807) (w : World) : Calls Tryd.prog 32 #[.int .i64 n] w fun e w' => e = .returned (.int .u64 (n.natAbs : Int)) ∧ w = w' := by
  by_cases h0 : n < 0
  · go_enter Tryd.func32, Tryd.ntmps32
    go_wp2_with fail
    go_ret
    refine ⟨?_, rfl⟩
    show Ending.returned (Value.int IntKind.u64 (IntKind.u64.wrap (-IntKind.u64.wrap n))) = _
    have : IntKind.u64.wrap (-IntKind.u64.wrap n) = (n.natAbs : Int) := by simp only [IntKind.wrap_u64]; omega
    rw [this]
  · go_enter Tryd.func32, Tryd.ntmps32
    go_wp2_with fail
    go_ret
    refine ⟨?_, rfl⟩
    show Ending.returned (Value.int IntKind.u64 n) = _
    have : n = (n.natAbs : Int) := by omega
    rw [← this]

def natOf : Value → Nat | .int _ k => k.toNat | _ => 0
set_option maxHeartbeats 800000 in
theorem common_any (a b : Nat) (ha : a < 18446744073709551616) (hb : b < 18446744073709551616) (k : Nat) (w : World) (h0 : w.cell? ⟨k, 0, none⟩ = some (.int .u64 (a : Int))) (h1 : w.cell? ⟨k, 1, none⟩ = some (.int .u64 (b : Int))) :
    Calls Tryd.prog 33 #[.slice (some ⟨k, 0, none⟩) 2 2] w fun e w' => e = .returned (.int .u64 (Nat.gcd a b : Int)) ∧ Kept w w' := by
  go_enter Tryd.func33, Tryd.ntmps33
  go_wp2_with fail
  go_loopw [3, 8] (fun g i wr => ∃ j G : Nat, g = .int .u64 G ∧ i = .int .i64 j ∧ G < 18446744073709551616 ∧ Hid ((j = 0 ∧ G = 0) ∨ (j = 1 ∧ G = a) ∨ (j = 2 ∧ G = Nat.gcd a b)) ∧ Hid (Kept w wr)) (fun _ i _ => 2 - natOf i)
  case atStart => exact ⟨0, 0, rfl, rfl, by omega, Lib.hid (Or.inl ⟨rfl, rfl⟩), Lib.hid (Kept.refl w)⟩
  case round =>
    rename_i g i wr
    obtain ⟨j, G, rfl, rfl, hG, HJ, HK⟩ := hrel
    have hj : j ≤ 2 := by rcases HJ.out with h | h | h <;> omega
    by_cases hlt : j < 2
    · obtain ⟨x, hx, HX⟩ : ∃ x : Nat, x < 18446744073709551616 ∧ Hid (Nat.gcd G x = (if j = 0 then a else Nat.gcd a b) ∧ wr.cell? ⟨k, j, none⟩ = some (.int .u64 (x : Int))) := by
        rcases HJ.out with h | h | h
        · exact ⟨a, ha, Lib.hid ⟨by rw [h.1, h.2]; simp, by rw [h.1]; exact HK.out.cell h0⟩⟩
        · exact ⟨b, hb, Lib.hid ⟨by rw [h.1, h.2]; simp, by rw [h.1]; exact HK.out.cell h1⟩⟩
        · omega
      have hc := HX.out.2
      go_wp2_with fail
      clear hc
      go_loopw [3, 5] (fun u v wt => ∃ U X : Nat, u = .int .u64 U ∧ v = .int .u64 X ∧ U < 18446744073709551616 ∧ X < 18446744073709551616 ∧ Hid (Nat.gcd U X = Nat.gcd G x) ∧ Hid (Kept w wt)) (fun _ v _ => natOf v)
      case atStart => exact ⟨G, x, rfl, rfl, hG, hx, Lib.hid rfl, HK⟩
      case round =>
        rename_i u v wt
        obtain ⟨U, X, rfl, rfl, hU, hX, HD, HT⟩ := hrel
        by_cases hX0 : X = 0
        · subst hX0
          go_wp2_with fail
          refine ⟨⟨j + 1, U, rfl, by simp, hU, ?_, HT⟩, ?_⟩
          · have h2 := HD.out
            rw [Nat.gcd_zero_right, HX.out.1] at h2
            apply Lib.hid
            rcases HJ.out with h | h | h
            · right; left; exact ⟨by omega, by rw [h2, if_pos h.1]⟩
            · right; right; exact ⟨by omega, by rw [h2, if_neg (by omega)]⟩
            · omega
          · show 2 - Int.toNat ((j : Int) + 1) < 2 - Int.toNat (j : Int)
            omega
        · go_wp2_with fail
          go_quiet (fail)
          go_wp2_with fail
          have hm := Nat.mod_lt U (Nat.pos_of_ne_zero hX0)
          refine ⟨⟨X, U % X, rfl, by simp, hX, by omega, Lib.hid ?_, Lib.hid (HT.out.drewN _)⟩, ?_⟩
          · rw [← HD.out, Nat.gcd_comm U X, Nat.gcd_rec X U, Nat.gcd_comm]
          · show Int.toNat ((U : Int) % (X : Int)) < Int.toNat (X : Int)
            omega
    · go_wp2_with fail
      go_ret
      have hj2 : j = 2 := by omega
      refine ⟨?_, HK.out⟩
      show Ending.returned (Value.int IntKind.u64 (G : Int)) = _
      rcases HJ.out with h | h | h
      · omega
      · omega
      · rw [h.2]
end Go.Proofs.YtacjgkpncdnbgaaDoor
