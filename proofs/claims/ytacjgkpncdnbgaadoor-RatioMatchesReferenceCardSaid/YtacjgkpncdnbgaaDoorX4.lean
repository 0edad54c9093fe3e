/-
  The reference's digits and Text, walked. Their condition: numbers of at most a thousand millions.
-/
import Derived.Test.YtacjgkpncdnbgaaDoorX3
import Derived.Test.YtacjgkpncdnbgaaDoorQ6
namespace Go.Proofs.YtacjgkpncdnbgaaDoor
open Go.RowKit

def headD (N : Nat) : List UInt8 := if N < 10 then [] else Lib.decDigits (N / 10)
theorem headD_start (u : Nat) : headD u ++ [UInt8.ofNat (48 + u % 10)] = Lib.decDigits u := by
  unfold headD
  split
  · rename_i h; rw [dec_small h, Nat.mod_eq_of_lt h]; rfl
  · rename_i h; rw [← dec_big h]
theorem headD_step {N : Nat} (h : 9 < N) (S : List UInt8) : headD (N / 10) ++ (UInt8.ofNat (48 + N / 10 % 10) :: S) = headD N ++ S := by
  have : headD N = Lib.decDigits (N / 10) := by unfold headD; rw [if_neg (by omega)]
  rw [this, ← headD_start (N / 10)]
  simp
theorem dig8 (k : Nat) : IntKind.u8.wrap ((48 : Int) + ((k % 10 : Nat) : Int)) = ((UInt8.ofNat (48 + k % 10)).toNat : Int) := by
  rw [digit_nat _ (Nat.mod_lt _ (by decide)), IntKind.wrap_u8]
  omega

theorem one_byte (w : World) (c : UInt8) : (convert 62 9 (.slice (some ⟨w.heap.size, 0, none⟩) 1 1)).run Tryd.prog (w.alloc (.cells #[.int .u8 (c.toNat : Int)] 5)) =
    .ok (.string (strOf [c])) (w.alloc (.cells #[.int .u8 (c.toNat : Int)] 5)) :=
  run_convert_bytes_back (P := Tryd.prog) _ 62 9 5 ⟨w.heap.size, 0, none⟩ 1 [c] (by kernel_rfl) (by kernel_rfl) (by kernel_rfl) (fun j hj => by
    have : j = 0 := by simpa using hj
    subst this
    have h : (w.alloc (.cells #[.int .u8 (c.toNat : Int)] 5)).cell? ⟨w.heap.size, 0, none⟩ = some (.int .u8 (c.toNat : Int)) := by go_simp
    exact h)
theorem str_cons (c : UInt8) (S : List UInt8) : strOf [c] ++ strOf S = strOf (c :: S) := by
  apply ByteArray.ext
  rw [← Array.toList_inj]
  simp [strOf]

set_option maxRecDepth 100000 in
set_option maxHeartbeats 800000 in
theorem digits_any (u : Nat) (hu : u ≤ 1000000000) (w : World) : Calls Tryd.prog 45 #[.int .u64 (u : Int)] w fun e w' => e = .returned (.string (strOf (Lib.decDigits u))) ∧ Kept w w' := by
  obtain ⟨c, hc⟩ : ∃ c, UInt8.ofNat (48 + u % 10) = c := ⟨_, rfl⟩
  have d0 : IntKind.u8.wrap ((48 : Int) + (u : Int) % 10) = (c.toNat : Int) := by rw [← hc, ← dig8]; congr 1
  have HC := Lib.hid hc
  clear hc
  have conv := one_byte
  have L20 : Hid ((Lib.decDigits u).length ≤ 21) := Lib.hid (by have := Lib.itoa_length_le (u : Int) (by omega) (by omega); rw [Lib.itoa_nonneg] at this; exact this)
  go_enter Tryd.func45, Tryd.ntmps45
  go_wp2_with fail
  clear d0
  go_loopw [0, 3] (fun n s wr => ∃ (N : Nat) (S : List UInt8), n = .int .u64 N ∧ s = .string (strOf S) ∧ N ≤ 1000000000 ∧ (strOf S).size ≤ 21 ∧ Hid (headD N ++ S = Lib.decDigits u) ∧ Hid (Kept w wr)) (fun n _ _ => natOf n)
  case atStart => exact ⟨u, [c], rfl, rfl, hu, by show 1 ≤ 21; decide, Lib.hid (by rw [← HC.out]; exact headD_start u), Lib.hid ((Kept.refl w).alloc _)⟩
  case round =>
    rename_i n s wr
    obtain ⟨N, S, rfl, rfl, hN, hS, HD, HK⟩ := hrel
    by_cases h9 : 9 < N
    · obtain ⟨f, hf⟩ : ∃ f, UInt8.ofNat (48 + N / 10 % 10) = f := ⟨_, rfl⟩
      have d1 : IntKind.u8.wrap ((48 : Int) + (N : Int) / 10 % 10) = (f.toNat : Int) := by rw [← hf, ← dig8]; congr 1
      have HF := Lib.hid hf
      clear hf
      have s1 : (strOf [f]).size ≤ 1 := Nat.le_refl 1
      go_wp2_with fail
      have h2 : headD (N / 10) ++ (f :: S) = Lib.decDigits u := by rw [← HF.out, headD_step h9, HD.out]
      refine ⟨⟨N / 10, f :: S, by simp, by rw [str_cons], by omega, ?_, Lib.hid h2, Lib.hid (HK.out.alloc _)⟩, ?_⟩
      · have h3 := congrArg List.length h2
        have h4 := L20.out
        rw [List.length_append] at h3
        show (f :: S).length ≤ 21
        omega
      · show Int.toNat ((N : Int) / 10) < Int.toNat (N : Int)
        omega
    · go_wp2_with fail
      go_ret
      refine ⟨?_, HK.out⟩
      have := HD.out
      unfold headD at this
      rw [if_pos (by omega), List.nil_append] at this
      rw [← this]; rfl
end Go.Proofs.YtacjgkpncdnbgaaDoor
