/-
  ratio's product, walked. Its condition: parts of at most a thousand millions, denominators that are not 0.
-/
import Derived.Test.YtacjgkpncdnbgaaDoorV5
import Derived.Test.YtacjgkpncdnbgaaDoorSh
namespace Go.Proofs.YtacjgkpncdnbgaaDoor
open Go.RowKit

/-- A common factor changes nothing. -/
theorem red_scale (m : Bool) (k n d : Nat) (hk : 0 < k) : red m (k * n) (k * d) = red m n d := by
  unfold red
  rw [Nat.gcd_mul_left]
  rw [Nat.mul_div_mul_left _ _ hk, Nat.mul_div_mul_left _ _ hk]
/-- Common factors may be taken out crosswise. -/
theorem red_cross (m : Bool) (w x y z g h : Nat) (hg : 0 < g) (hh : 0 < h) (h1 : g ∣ w) (h2 : g ∣ z) (h3 : h ∣ y) (h4 : h ∣ x) :
    red m (w / g * (y / h)) (x / h * (z / g)) = red m (w * y) (x * z) := by
  obtain ⟨a, rfl⟩ := h1
  obtain ⟨b, rfl⟩ := h2
  obtain ⟨c, rfl⟩ := h3
  obtain ⟨d, rfl⟩ := h4
  rw [Nat.mul_div_cancel_left _ hg, Nat.mul_div_cancel_left _ hg, Nat.mul_div_cancel_left _ hh, Nat.mul_div_cancel_left _ hh]
  rw [show g * a * (h * c) = (g * h) * (a * c) by ac_rfl, show h * d * (g * b) = (g * h) * (d * b) by ac_rfl]
  rw [red_scale _ _ _ _ (Nat.mul_pos hg hh)]

set_option maxHeartbeats 1600000 in
theorem product_any (a : Q) (num den : Int) (s1 : a.n.natAbs ≤ 1000000000) (s2 : a.d.natAbs ≤ 1000000000) (s3 : a.d ≠ 0) (t1 : num.natAbs ≤ 1000000000) (t2 : den.natAbs ≤ 1000000000) (t3 : den ≠ 0) (w : World) :
    Calls Tryd.prog 37 #[a.val, .int .i64 num, .int .i64 den] w fun e w' =>
      e = .returned (resV (red (!(decide (a.n < 0) == !(decide (num < 0) == decide (den < 0)))) (a.n.natAbs * num.natAbs) (a.d.natAbs * den.natAbs))) ∧ Kept w w' := by
  obtain ⟨n, d⟩ := a
  simp only at s1 s2 s3 ⊢
  obtain ⟨W, hW⟩ : ∃ W, n.natAbs = W := ⟨_, rfl⟩
  obtain ⟨X, hX⟩ : ∃ X, d.natAbs = X := ⟨_, rfl⟩
  obtain ⟨Y, hY⟩ : ∃ Y, num.natAbs = Y := ⟨_, rfl⟩
  obtain ⟨Z, hZ⟩ : ∃ Z, den.natAbs = Z := ⟨_, rfl⟩
  have X0 : 0 < X := by omega
  have Z0 : 0 < Z := by omega
  obtain ⟨G, hG⟩ : ∃ G, Nat.gcd W Z = G := ⟨_, rfl⟩
  obtain ⟨H, hH⟩ : ∃ H, Nat.gcd Y X = H := ⟨_, rfl⟩
  have G0 : 0 < G := hG ▸ Nat.gcd_pos_of_pos_right _ Z0
  have H0 : 0 < H := hH ▸ Nat.gcd_pos_of_pos_right _ X0
  have hcr := red_cross (!(decide (n < 0) == !(decide (num < 0) == decide (den < 0)))) W X Y Z G H G0 H0 (hG ▸ Nat.gcd_dvd_left _ _) (hG ▸ Nat.gcd_dvd_right _ _) (hH ▸ Nat.gcd_dvd_left _ _) (hH ▸ Nat.gcd_dvd_right _ _)
  obtain ⟨w1, hw1⟩ : ∃ x, W / G = x := ⟨_, rfl⟩
  obtain ⟨y1, hy1⟩ : ∃ x, Y / H = x := ⟨_, rfl⟩
  obtain ⟨x1, hx1⟩ : ∃ x, X / H = x := ⟨_, rfl⟩
  obtain ⟨z1, hz1⟩ : ∃ x, Z / G = x := ⟨_, rfl⟩
  have lw1 : w1 ≤ 1000000000 := by have := Nat.div_le_self W G; omega
  have ly1 : y1 ≤ 1000000000 := by have := Nat.div_le_self Y H; omega
  have lx1 : x1 ≤ 1000000000 := by have := Nat.div_le_self X H; omega
  have lz1 : z1 ≤ 1000000000 := by have := Nat.div_le_self Z G; omega
  have px1 : 0 < x1 := hx1 ▸ Nat.div_pos (Nat.le_of_dvd X0 (hH ▸ Nat.gcd_dvd_right _ _)) H0
  have pz1 : 0 < z1 := hz1 ▸ Nat.div_pos (Nat.le_of_dvd Z0 (hG ▸ Nat.gcd_dvd_right _ _)) G0
  have q1 : (W : Int) / (G : Int) = (w1 : Int) := by rw [← hw1]; rfl
  have q2 : (Y : Int) / (H : Int) = (y1 : Int) := by rw [← hy1]; rfl
  have q3 : (X : Int) / (H : Int) = (x1 : Int) := by rw [← hx1]; rfl
  have q4 : (Z : Int) / (G : Int) = (z1 : Int) := by rw [← hz1]; rfl
  have u1 : IntKind.u64.wrap (w1 : Int) = (w1 : Int) := by rw [IntKind.wrap_u64]; omega
  have u2 : IntKind.u64.wrap (y1 : Int) = (y1 : Int) := by rw [IntKind.wrap_u64]; omega
  have u3 : IntKind.u64.wrap (x1 : Int) = (x1 : Int) := by rw [IntKind.wrap_u64]; omega
  have u4 : IntKind.u64.wrap (z1 : Int) = (z1 : Int) := by rw [IntKind.wrap_u64]; omega
  rw [hw1, hy1, hx1, hz1] at hcr
  have p1 := Nat.mul_le_mul lw1 ly1
  have p2 := Nat.mul_le_mul lx1 lz1
  have p3 := Nat.mul_pos px1 pz1
  have mul : ∀ x y : Nat, x ≤ 1000000000 → y ≤ 1000000000 → ∀ (w : World), Calls Tryd.prog 46 #[.int .u64 (x : Int), .int .u64 (y : Int)] w fun e w' => e = .returned (.tuple #[.int .u64 0, .int .u64 ((x * y : Nat) : Int)]) ∧ w' = w := by
    intro x y hx hy w
    have p := Nat.mul_le_mul hx hy
    refine (Tryd.bits_Mul64 x y (by omega) (by omega) w).mono ?_
    rintro e w' ⟨rfl, rfl⟩
    have e1 : x * y / 18446744073709551616 = 0 := Nat.div_eq_of_lt (by omega)
    have e2 : x * y % 18446744073709551616 = x * y := Nat.mod_eq_of_lt (by omega)
    rw [e1, e2]
    exact ⟨rfl, rfl⟩
  have M1 := Lib.hid (mul w1 y1 lw1 ly1)
  have M2 := Lib.hid (mul x1 z1 lx1 lz1)
  have MG := Lib.hid (fun n d => mag_any n d)
  have CG := Lib.hid (fun k w h0 h1 => common_any W Z (by omega) (by omega) k w h0 h1)
  have CH := Lib.hid (fun k w h0 h1 => common_any Y X (by omega) (by omega) k w h0 h1)
  have RD := Lib.hid (fun m w => reduced_any m (w1 * y1) (x1 * z1) (by omega) (by omega) p3 w)
  rw [hG] at CG
  rw [hH] at CH
  rw [hW, hX, hY, hZ]
  have n1 : -9223372036854775808 ≤ n := by omega
  have n2 : n ≤ 9223372036854775807 := by omega
  have d1 : -9223372036854775808 ≤ d := by omega
  have d2 : d ≤ 9223372036854775807 := by omega
  have nu1 : -9223372036854775808 ≤ num := by omega
  have nu2 : num ≤ 9223372036854775807 := by omega
  have de1 : -9223372036854775808 ≤ den := by omega
  have de2 : den ≤ 9223372036854775807 := by omega
  have E := Lib.hid hcr
  have O : Hid (Own w ((w.alloc (.cells #[.int .i64 n, .int .i64 d] 24)).alloc (.cells #[.int .i64 0, .int .i64 0] 24)) w.heap.size #[.int .i64 n, .int .i64 d] ∧
      Own w ((w.alloc (.cells #[.int .i64 n, .int .i64 d] 24)).alloc (.cells #[.int .i64 0, .int .i64 0] 24)) (w.heap.size + 1) #[.int .i64 0, .int .i64 0]) :=
    Lib.hid ⟨(Own.at (Kept.refl w) _ rfl).step ((Kept.refl _).alloc _), Own.at ((Kept.refl w).alloc _) _ (by simp)⟩
  clear hcr mul p1 p2 p3 lw1 ly1 lx1 lz1 px1 pz1 hw1 hy1 hx1 hz1 s1 s2 s3 t1 t2 t3 X0 Z0 hG hH MG
  have g0 : ((G : Int) == 0) = false := by simp; omega
  have h0 : ((H : Int) == 0) = false := by simp; omega
  unfold Q.val
  simp only
  go_enter Tryd.func37, Tryd.ntmps37
  go_wp2_with fail
  obtain ⟨B, hB⟩ : ∃ B, w.heap.size = B := ⟨_, rfl⟩
  rw [hB] at O ⊢
  have cc := O.out.1.cell 0
  have cd := O.out.1.cell 1
  generalize hgen : (w.alloc (.cells #[.int .i64 n, .int .i64 d] 24)).alloc (.cells #[.int .i64 0, .int .i64 0] 24) = w2 at *
  clear hgen
  go_quiet ((go_at_call 32; exact Calls.quiet_of_same ((mag_any _ (by assumption) (by assumption) _).mono fun _ _ h => ⟨h.1.trans (by first | rw [hW] | rw [hX] | rw [hY] | rw [hZ]), h.2.symm⟩)))
  have O0 := Lib.hid (And.intro (O.out.1.step ((Kept.refl w2).drewN nq)) (O.out.2.step ((Kept.refl w2).drewN nq)))
  clear O cc cd n1 n2 d1 d2 nu1 nu2 de1 de2
  generalize w2.drewN nq = w20 at *
  go_wp2_with fail
  refine (CG.out _ _ (by go_simp) (by go_simp)).mono ?_
  rintro e w3 ⟨rfl, hk⟩
  have k3 := ((Kept.refl w20).alloc _).trans hk
  have O1 := Lib.hid (And.intro (O0.out.1.step k3) (O0.out.2.step k3))
  clear hk k3 O0 CG
  go_wp2_with fail
  refine (CH.out _ _ (by go_simp) (by go_simp)).mono ?_
  rintro e w4 ⟨rfl, hk⟩
  have k3 := ((Kept.refl w3).alloc _).trans hk
  have O2 := Lib.hid (And.intro (O1.out.1.step k3) (O1.out.2.step k3))
  clear hk k3 O1 CH
  go_wp2_with fail
  go_quiet ((go_at_call 46; exact Calls.quiet_of_same (M1.out _)))
  have O3 := Lib.hid (And.intro (O2.out.1.step ((Kept.refl w4).drewN nq)) (O2.out.2.step ((Kept.refl w4).drewN nq)))
  clear O2 M1
  generalize w4.drewN nq = w5 at *
  go_wp2_with fail
  go_quiet ((go_at_call 46; exact Calls.quiet_of_same (M2.out _)))
  have O4 := Lib.hid (And.intro (O3.out.1.step ((Kept.refl w5).drewN nq)) (O3.out.2.step ((Kept.refl w5).drewN nq)))
  clear O3 M2
  generalize w5.drewN nq = w6 at *
  have c0 := O4.out.1.cell 0
  have c1 := O4.out.1.cell 1
  go_wp2_with fail
  refine (RD.out _ _).mono ?_
  rintro e w7 ⟨rfl, hk⟩
  have O5 := Lib.hid (O4.out.2.step hk)
  rw [E.out]
  clear hk O4 RD E c0 c1
  obtain ⟨R, hR⟩ : ∃ R, red (!(decide (n < 0) == !(decide (num < 0) == decide (den < 0)))) (W * Y) (X * Z) = R := ⟨_, rfl⟩
  rw [hR]
  have E := Lib.hid hR
  clear hR
  obtain ⟨⟨x, y⟩, e⟩ := R
  unfold resV Q.val
  simp only
  have f0 := O5.out.free 0
  have f1 := O5.out.free 1
  have lt := O5.out.lt
  have c0 := O5.out.cell 0
  have c1 := O5.out.cell 1
  go_wp2_with fail
  refine bodyPost_ret (results_own rfl ((O5.out.set 0 _).set 1 _) rfl) rfl ?_
  exact ⟨by rw [E.out]; rfl, ((O5.out.set 0 _).set 1 _).kept⟩
end Go.Proofs.YtacjgkpncdnbgaaDoor
