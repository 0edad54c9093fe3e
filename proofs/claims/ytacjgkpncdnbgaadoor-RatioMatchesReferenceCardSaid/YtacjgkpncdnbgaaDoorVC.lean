/-
  The reference's Gcd, walked. Its condition: numbers of their kind.
-/
import Derived.Test.YtacjgkpncdnbgaaDoorVB
namespace Go.Proofs.YtacjgkpncdnbgaaDoor
open Go.RowKit

set_option maxHeartbeats 800000 in
theorem gcd_any (a b : Nat) (ha : a < 18446744073709551616) (hb : b < 18446744073709551616) (w : World) :
    Calls Tryd.prog 12 #[.int .u64 (a : Int), .int .u64 (b : Int)] w fun e w' => e = .returned (.int .u64 (Nat.gcd a b : Int)) ∧ Kept w w' := by
  go_enter Tryd.func12, Tryd.ntmps12
  go_wp2_with fail
  go_loopw [0, 1] (fun u v wr => ∃ U X : Nat, u = .int .u64 U ∧ v = .int .u64 X ∧ U < 18446744073709551616 ∧ X < 18446744073709551616 ∧ Hid (Nat.gcd U X = Nat.gcd a b) ∧ Hid (Kept w wr)) (fun _ v _ => natOf v)
  case atStart => exact ⟨a, b, rfl, rfl, ha, hb, Lib.hid rfl, Lib.hid (Kept.refl w)⟩
  case round =>
    rename_i u v wt
    obtain ⟨U, X, rfl, rfl, hU, hX, HD, HT⟩ := hrel
    by_cases hX0 : X = 0
    · subst hX0
      go_wp2_with fail
      go_ret
      refine ⟨?_, HT.out⟩
      show Ending.returned (Value.int IntKind.u64 (U : Int)) = _
      rw [← HD.out, Nat.gcd_zero_right]
    · have hX1 : (0 : Int) < (X : Int) := by omega
      go_wp2_with fail
      go_quiet (fail)
      go_wp2_with fail
      have hm := Nat.mod_lt U (Nat.pos_of_ne_zero hX0)
      refine ⟨⟨X, U % X, rfl, by simp, hX, by omega, Lib.hid ?_, Lib.hid (HT.out.drewN _)⟩, ?_⟩
      · rw [← HD.out, Nat.gcd_comm U X, Nat.gcd_rec X U, Nat.gcd_comm]
      · show Int.toNat ((U : Int) % (X : Int)) < Int.toNat (X : Int)
        omega
end Go.Proofs.YtacjgkpncdnbgaaDoor
