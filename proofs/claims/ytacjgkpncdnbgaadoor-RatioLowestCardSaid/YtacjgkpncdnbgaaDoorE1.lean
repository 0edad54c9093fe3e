/-
  The law RatioLowest, walked. Its condition: the library's variables are as the program's start leaves them.
-/
import Derived.Test.YtacjgkpncdnbgaaDoorVC
namespace Go.Proofs.YtacjgkpncdnbgaaDoor
open Go.RowKit

theorem mul_bound {a b : Int} (A B : Nat) (ha : a.natAbs ≤ A) (hb : b.natAbs ≤ B) : -((A * B : Nat) : Int) ≤ a * b ∧ a * b ≤ ((A * B : Nat) : Int) := by
  have h := Nat.mul_le_mul ha hb
  rw [← Int.natAbs_mul] at h
  omega
theorem makeR_ok {n d : Int} {a : Q} (hd : d ≠ 0) (h : makeR n d = (a, 0)) : a.valid = true ∧ a.n * d = n * a.d := by
  unfold makeR at h
  rw [if_neg hd] at h
  obtain ⟨hv, he⟩ := red_ok (by omega) h
  refine ⟨hv, ?_⟩
  by_cases hn : n < 0
  · by_cases hd0 : d < 0
    · have e1 : (n.natAbs : Int) = -n := by omega
      have e2 : (d.natAbs : Int) = -d := by omega
      rw [e1, e2] at he
      simp [hn, hd0] at he
      grind
    · have e1 : (n.natAbs : Int) = -n := by omega
      have e2 : (d.natAbs : Int) = d := by omega
      rw [e1, e2] at he
      simp [hn, hd0] at he
      grind
  · by_cases hd0 : d < 0
    · have e1 : (n.natAbs : Int) = n := by omega
      have e2 : (d.natAbs : Int) = -d := by omega
      rw [e1, e2] at he
      simp [hn, hd0] at he
      grind
    · have e1 : (n.natAbs : Int) = n := by omega
      have e2 : (d.natAbs : Int) = d := by omega
      rw [e1, e2] at he
      simp [hn, hd0] at he
      grind
theorem tmod_small (x : Int) : -2000000000 ≤ x.tmod 2000000001 ∧ x.tmod 2000000001 ≤ 2000000000 := by
  have h := Int.natAbs_tmod x 2000000001
  have h2 := Nat.mod_lt x.natAbs (show 0 < (2000000001 : Int).natAbs by decide)
  rw [← h] at h2
  have : (2000000001 : Int).natAbs = 2000000001 := rfl
  omega

set_option maxHeartbeats 1600000 in
theorem ratioLowest_walk (x y : Int) (w : World) (hE : Env w) :
    Calls Tryd.prog 3 #[.int .i64 x, .int .i64 y] w fun e w' => e = .returned (.bool true) ∧ Kept w w' := by
  obtain ⟨n, hn⟩ : ∃ n, x.tmod 2000000001 = n := ⟨_, rfl⟩
  obtain ⟨d, hd⟩ : ∃ d, y.tmod 2000000001 = d := ⟨_, rfl⟩
  have n1 : -2000000000 ≤ n ∧ n ≤ 2000000000 := by have := tmod_small x; omega
  have d1 : -2000000000 ≤ d ∧ d ≤ 2000000000 := by have := tmod_small y; omega
  obtain ⟨n1, n2⟩ := n1
  obtain ⟨d1, d2⟩ := d1
  have MK := Lib.hid (fun w => make_any n d (by omega) (by omega) (by omega) (by omega) w)
  have HD := Lib.hid (head_any w hE)
  clear hE
  go_enter Tryd.func3, Tryd.ntmps3
  go_wp2_with fail
  refine HD.out.mono ?_
  rintro e w1 ⟨rfl, hk⟩
  have K1 := Lib.hid hk
  clear hk HD
  go_wp2_with fail
  refine (MK.out _).mono ?_
  rintro e w2 ⟨rfl, hk⟩
  have K2 := Lib.hid (K1.out.trans hk)
  clear hk K1 MK
  by_cases h0 : d = 0
  · have e1 : makeR n d = (q0, 1) := by simp [makeR, h0]
    rw [e1]
    unfold resV Q.val q0
    simp only
    have K3 := Lib.hid (K2.out.alloc (.cells #[.int .i64 0, .int .i64 0] 24))
    go_wp2_with fail
    go_ret
    exact ⟨rfl, K3.out⟩
  · obtain ⟨W, hW⟩ : ∃ W, n.natAbs = W := ⟨_, rfl⟩
    obtain ⟨D, hD⟩ : ∃ D, d.natAbs = D := ⟨_, rfl⟩
    have D0 : 0 < D := by omega
    obtain ⟨G, hG⟩ : ∃ G, Nat.gcd W D = G := ⟨_, rfl⟩
    have G0 : 0 < G := hG ▸ Nat.gcd_pos_of_pos_right _ D0
    obtain ⟨V, hV⟩ : ∃ x, W / G = x := ⟨_, rfl⟩
    obtain ⟨L, hL⟩ : ∃ x, D / G = x := ⟨_, rfl⟩
    have lV : V ≤ 2000000000 := by have := Nat.div_le_self W G; omega
    have lL : L ≤ 2000000000 := by have := Nat.div_le_self D G; omega
    have lG : G ≤ 2000000000 := by have := Nat.le_of_dvd D0 (hG ▸ Nat.gcd_dvd_right W D); omega
    have qV : (W : Int).tdiv (G : Int) = (V : Int) := by rw [← hV]; rfl
    have qL : (D : Int).tdiv (G : Int) = (L : Int) := by rw [← hL]; rfl
    have wn : wrap64 (-n) = -n := wrap_small (by omega) (by omega)
    have wd : wrap64 (-d) = -d := wrap_small (by omega) (by omega)
    have mn : max n (-n) = (W : Int) := by omega
    have md : max d (-d) = (D : Int) := by omega
    have GC := Lib.hid (fun w => gcd_any W D (by omega) (by omega) w)
    rw [hG] at GC
    have iW : (W : Int) ≤ 2000000000 := by omega
    have iD : (D : Int) ≤ 2000000000 := by omega
    have E0 := Lib.hid (show makeR n d = if 1000000000 < V ∨ 1000000000 < L then (q0, 2) else (⟨if !(decide (n < 0) == decide (d < 0)) then -(V : Int) else (V : Int), (L : Int)⟩, 0) by
      unfold makeR red; rw [if_neg h0, hW, hD, hG, hV, hL])
    obtain ⟨R, hR⟩ : ∃ R, makeR n d = R := ⟨_, rfl⟩
    rw [hR] at E0 ⊢
    have E := Lib.hid hR
    have G1 : ((G : Int) == 0) = false := by simp; omega
    have hd0 : (d == 0) = false := by simpa using h0
    have HW := Lib.hid hW
    have HD := Lib.hid hD
    have H0 := Lib.hid h0
    clear hR hn hd hG hV hL hW hD D0 h0
    obtain ⟨⟨p, q⟩, e⟩ := R
    unfold resV Q.val
    simp only
    have O3 := Lib.hid (Own.made K2.out #[.int .i64 p, .int .i64 q])
    go_wp2_with fail
    refine (GC.out _).mono ?_
    rintro e w3 ⟨rfl, hk⟩
    have O4 := Lib.hid (O3.out.step hk)
    clear hk O3 GC K2
    generalize w2.heap.size = B at *
    by_cases c1 : 1000000000 < L
    · have e1 := E0.out
      rw [if_pos (Or.inr c1)] at e1
      simp only [q0, Prod.mk.injEq, Q.mk.injEq] at e1
      obtain ⟨⟨rfl, rfl⟩, rfl⟩ := e1
      have a0 := O4.out.cell 0
      have a1 := O4.out.cell 1
      go_wp2_with fail
      go_ret
      exact ⟨rfl, O4.out.kept⟩
    · by_cases c2 : 1000000000 < V
      · have e1 := E0.out
        rw [if_pos (Or.inl c2)] at e1
        simp only [q0, Prod.mk.injEq, Q.mk.injEq] at e1
        obtain ⟨⟨rfl, rfl⟩, rfl⟩ := e1
        have a0 := O4.out.cell 0
        have a1 := O4.out.cell 1
        go_wp2_with fail
        go_ret
        exact ⟨rfl, O4.out.kept⟩
      · have e1 := E0.out
        rw [if_neg (by omega)] at e1
        simp only [Prod.mk.injEq, Q.mk.injEq] at e1
        obtain ⟨⟨e1, rfl⟩, rfl⟩ := e1
        obtain ⟨hv, hx⟩ := makeR_ok H0.out E.out
        simp only at hx
        obtain ⟨s1, s2, _⟩ := Q.small hv
        simp only at s1 s2
        have b1 := mul_bound 1000000000 2000000000 s1 (show d.natAbs ≤ 2000000000 by omega)
        have b2 := mul_bound 2000000000 1000000000 (show n.natAbs ≤ 2000000000 by omega) s2
        have p1 : wrap64 (p * d) = p * d := wrap_small (by omega) (by omega)
        have p2 : wrap64 (n * (L : Int)) = n * (L : Int) := wrap_small (by omega) (by omega)
        have VA := Lib.hid (fun w => valid_at hv ⟨by show -9223372036854775808 ≤ p; omega, by show p ≤ 9223372036854775807; omega, by show -9223372036854775808 ≤ (L : Int); omega, by show (L : Int) ≤ 9223372036854775807; omega⟩ w)
        have a0 := O4.out.cell 0
        have a1 := O4.out.cell 1
        clear e1 hv s1 s2 b1 b2 E E0
        go_wp2_with fail
        refine (VA.out _).mono ?_
        rintro e w5 ⟨rfl, hk⟩
        have O5 := Lib.hid (O4.out.step hk)
        clear O4 hk a0 a1 VA
        have a0 := O5.out.cell 0
        have a1 := O5.out.cell 1
        go_wp2_with fail
        go_ret
        exact ⟨rfl, O5.out.kept⟩
end Go.Proofs.YtacjgkpncdnbgaaDoor
