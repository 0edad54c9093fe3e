/-
  The reference's Mul, walked. Its condition: integers of Go.
-/
import Derived.Test.YtacjgkpncdnbgaaDoorX2
namespace Go.Proofs.YtacjgkpncdnbgaaDoor
open Go.RowKit


set_option maxHeartbeats 1600000 in
theorem rmul_any (a b : Q) (ha : a.wf) (hb : b.wf) (w : World) :
    Calls Tryd.prog 26 #[a.val, b.val] w fun e w' => e = .returned (resV (mulR a b)) ∧ Kept w w' := by
  have O := three w #[.int .i64 a.n, .int .i64 a.d] #[.int .i64 b.n, .int .i64 b.d] #[.int .i64 0, .int .i64 0]
  by_cases va : a.valid = true
  · by_cases vb : b.valid = true
    · have VA := Lib.hid (fun w => rvalid_any a ha w)
      have VB := Lib.hid (fun w => rvalid_any b hb w)
      rw [va] at VA
      rw [vb] at VB
      have E0 : mulR a b = prodR a b.n b.d := by simp [mulR, va, vb]
      rw [E0]
      clear E0
      obtain ⟨s1, s2, s3⟩ := Q.small va
      obtain ⟨t1, t2, t3⟩ := Q.small vb
      unfold Q.val at *
      obtain ⟨n, d⟩ := a
      obtain ⟨m, o⟩ := b
      dsimp only at O VA VB s1 s2 s3 t1 t2 t3 ⊢
      have n1 : -9223372036854775808 ≤ n := by omega
      have n2 : n ≤ 9223372036854775807 := by omega
      have d1 : -9223372036854775808 ≤ d := by omega
      have d2 : d ≤ 9223372036854775807 := by omega
      have m1 : -9223372036854775808 ≤ m := by omega
      have m2 : m ≤ 9223372036854775807 := by omega
      have o1 : -9223372036854775808 ≤ o := by omega
      have o2 : o ≤ 9223372036854775807 := by omega
      obtain ⟨W, hW⟩ : ∃ x, n.natAbs = x := ⟨_, rfl⟩
      obtain ⟨X, hX⟩ : ∃ x, d.natAbs = x := ⟨_, rfl⟩
      obtain ⟨Y, hY⟩ : ∃ x, m.natAbs = x := ⟨_, rfl⟩
      obtain ⟨Z, hZ⟩ : ∃ x, o.natAbs = x := ⟨_, rfl⟩
      have X0 : 0 < X := by omega
      have Z0 : 0 < Z := by omega
      obtain ⟨_, _, _, cn⟩ := (Q.valid_iff _).1 va
      obtain ⟨_, _, _, cm⟩ := (Q.valid_iff _).1 vb
      dsimp only at cn cm
      rw [hW, hX] at cn
      rw [hY, hZ] at cm
      obtain ⟨G, hG⟩ : ∃ x, Nat.gcd W Z = x := ⟨_, rfl⟩
      obtain ⟨H, hH⟩ : ∃ x, Nat.gcd Y X = x := ⟨_, rfl⟩
      have G0 : 0 < G := hG ▸ Nat.gcd_pos_of_pos_right _ Z0
      have H0 : 0 < H := hH ▸ Nat.gcd_pos_of_pos_right _ X0
      obtain ⟨p, hp⟩ : ∃ x, W / G = x := ⟨_, rfl⟩
      obtain ⟨q, hq⟩ : ∃ x, Y / H = x := ⟨_, rfl⟩
      obtain ⟨r, hr⟩ : ∃ x, X / H = x := ⟨_, rfl⟩
      obtain ⟨s, hs⟩ : ∃ x, Z / G = x := ⟨_, rfl⟩
      obtain ⟨L, hL⟩ : ∃ x, 1000000000 / p = x := ⟨_, rfl⟩
      have lp : p ≤ 1000000000 := by have := Nat.div_le_self W G; omega
      have lq : q ≤ 1000000000 := by have := Nat.div_le_self Y H; omega
      have lr : r ≤ 1000000000 := by have := Nat.div_le_self X H; omega
      have ls : s ≤ 1000000000 := by have := Nat.div_le_self Z G; omega
      have r0 : 0 < r := hr ▸ Nat.div_pos (Nat.le_of_dvd X0 (hH ▸ Nat.gcd_dvd_right _ _)) H0
      have s0 : 0 < s := hs ▸ Nat.div_pos (Nat.le_of_dvd Z0 (hG ▸ Nat.gcd_dvd_right _ _)) G0
      have co : Nat.gcd (p * q) (r * s) = 1 := by
        have := cross_coprime cn cm X0 Z0
        rw [hG, hH, hp, hq, hr, hs] at this; exact this
      have EQ0 : red (!(decide (n < 0) == decide (m < 0))) (p * q) (r * s) = prodR ⟨n, d⟩ m o := by
        unfold prodR
        dsimp only
        rw [hW, hX, hY, hZ]
        rw [show (decide (m < 0) == decide (o < 0)) = !decide (m < 0) by
          have : decide (o < 0) = false := by simp; omega
          rw [this]; cases decide (m < 0) <;> rfl]
        rw [show (!!decide (m < 0)) = decide (m < 0) by cases decide (m < 0) <;> rfl]
        rw [← hp, ← hq, ← hr, ← hs]
        exact red_cross _ W X Y Z G H G0 H0 (hG ▸ Nat.gcd_dvd_left _ _) (hG ▸ Nat.gcd_dvd_right _ _) (hH ▸ Nat.gcd_dvd_left _ _) (hH ▸ Nat.gcd_dvd_right _ _)
      have EQ := Lib.hid EQ0
      have OV : Hid (0 < p → L < q → prodR ⟨n, d⟩ m o = (q0, 2)) := Lib.hid (by
        intro h1 h2
        rw [← EQ0]
        refine red_over co ?_
        rw [← hL] at h2
        have := (Nat.div_lt_iff_lt_mul h1).1 h2
        rw [Nat.mul_comm]; exact this)
      have q1 := Nat.mul_le_mul lp lq
      have q2 := Nat.mul_le_mul lr ls
      have i1 : (W : Int) / (G : Int) = (p : Int) := by rw [← hp]; rfl
      have i2 : (Y : Int) / (H : Int) = (q : Int) := by rw [← hq]; rfl
      have i3 : (X : Int) / (H : Int) = (r : Int) := by rw [← hr]; rfl
      have i4 : (Z : Int) / (G : Int) = (s : Int) := by rw [← hs]; rfl
      have i5 : (1000000000 : Int) / (p : Int) = (L : Int) := by rw [← hL]; rfl
      have lL : L ≤ 1000000000 := by have := Nat.div_le_self 1000000000 p; omega
      have u1 : IntKind.u64.wrap (p : Int) = (p : Int) := by rw [IntKind.wrap_u64]; omega
      have u2 : IntKind.u64.wrap (q : Int) = (q : Int) := by rw [IntKind.wrap_u64]; omega
      have u3 : IntKind.u64.wrap (r : Int) = (r : Int) := by rw [IntKind.wrap_u64]; omega
      have u4 : IntKind.u64.wrap (s : Int) = (s : Int) := by rw [IntKind.wrap_u64]; omega
      have u5 : IntKind.u64.wrap (L : Int) = (L : Int) := by rw [IntKind.wrap_u64]; omega
      have e1 : (p : Int) * (q : Int) = ((p * q : Nat) : Int) := by push_cast; rfl
      have e2 : (r : Int) * (s : Int) = ((r * s : Nat) : Int) := by push_cast; rfl
      have u6 : IntKind.u64.wrap ((p : Int) * (q : Int)) = ((p * q : Nat) : Int) := by rw [e1, IntKind.wrap_u64]; omega
      have u7 : IntKind.u64.wrap ((r : Int) * (s : Int)) = ((r * s : Nat) : Int) := by rw [e2, IntKind.wrap_u64]; omega
      have RF := Lib.hid (fun w => rof_any (!(decide (n < 0) == decide (m < 0))) (p * q) (r * s) (by omega) (by omega) w)
      have RS : ofR (!(decide (n < 0) == decide (m < 0))) (p * q) (r * s) = red (!(decide (n < 0) == decide (m < 0))) (p * q) (r * s) := by
        unfold ofR; rw [if_neg (Nat.mul_ne_zero (by omega) (by omega))]
      have GG := Lib.hid (fun w => gcd_quiet W Z (by omega) (by omega) w)
      have GH := Lib.hid (fun w => gcd_quiet Y X (by omega) (by omega) w)
      rw [hG] at GG
      rw [hH] at GH
      rw [RS, EQ0] at RF
      have g0 : ((G : Int) == 0) = false := by simp; omega
      have h0 : ((H : Int) == 0) = false := by simp; omega
      have gz : ¬ (G : Int) = 0 := by omega
      have hz : ¬ (H : Int) = 0 := by omega
      have gn : ¬ G = 0 := by omega
      have hn : ¬ H = 0 := by omega
      clear RS EQ0 e1 e2 q1 q2 lr ls va vb s1 s2 s3 t1 t2 t3 ha hb cn cm co hG hH hp hq hr hs hL X0 Z0 EQ
      go_enter Tryd.func26, Tryd.ntmps26
      go_wp2_with fail
      refine (VA.out _).mono ?_
      rintro e w5 ⟨rfl, hk⟩
      obtain ⟨B, hB⟩ : ∃ B, w.heap.size = B := ⟨_, rfl⟩
      rw [hB] at O ⊢
      have O1 := Lib.hid (And.intro (O.out.1.step hk) (And.intro (O.out.2.1.step hk) (O.out.2.2.step hk)))
      clear hk O VA
      have b0 := O1.out.2.1.cell 0
      have b1 := O1.out.2.1.cell 1
      go_wp2_with fail
      refine (VB.out _).mono ?_
      rintro e w6 ⟨rfl, hk⟩
      have O2 := Lib.hid (And.intro (O1.out.1.step hk) (And.intro (O1.out.2.1.step hk) (O1.out.2.2.step hk)))
      clear hk O1 VB b0 b1
      have a0 := O2.out.1.cell 0
      have a1 := O2.out.1.cell 1
      have b0 := O2.out.2.1.cell 0
      have b1 := O2.out.2.1.cell 1
      go_wp2_with fail
      go_quiet ((first
        | (go_at_call 43; exact Calls.quiet_of_same ((size_any _ (by assumption) (by assumption) _).mono fun _ _ h => ⟨h.1.trans (by first | rw [hW] | rw [hX] | rw [hY] | rw [hZ]), h.2.symm⟩))
        | (go_at_call 12; exact Calls.quiet_of (GG.out _))))
      have O3 := Lib.hid (And.intro (O2.out.1.step ((Kept.refl w6).drewN nq)) (And.intro (O2.out.2.1.step ((Kept.refl w6).drewN nq)) (O2.out.2.2.step ((Kept.refl w6).drewN nq))))
      clear O2 a0 a1 b0 b1 GG
      generalize w6.drewN nq = w7 at *
      have a0 := O3.out.1.cell 0
      have a1 := O3.out.1.cell 1
      have b0 := O3.out.2.1.cell 0
      have b1 := O3.out.2.1.cell 1
      go_wp2_with fail
      go_quiet ((first
        | (go_at_call 43; exact Calls.quiet_of_same ((size_any _ (by assumption) (by assumption) _).mono fun _ _ h => ⟨h.1.trans (by first | rw [hW] | rw [hX] | rw [hY] | rw [hZ]), h.2.symm⟩))
        | (go_at_call 12; exact Calls.quiet_of (GH.out _))))
      have O4 := Lib.hid (And.intro (O3.out.1.step ((Kept.refl w7).drewN nq)) (And.intro (O3.out.2.1.step ((Kept.refl w7).drewN nq)) (O3.out.2.2.step ((Kept.refl w7).drewN nq))))
      clear O3 a0 a1 b0 b1 GH
      generalize w7.drewN nq = w8 at *
      have a0 := O4.out.1.cell 0
      have a1 := O4.out.1.cell 1
      have b0 := O4.out.2.1.cell 0
      have b1 := O4.out.2.1.cell 1
      go_wp2_with fail
      refine (size_any n n1 n2 _).mono ?_
      rintro e w9 ⟨rfl, rfl⟩
      rw [hW]
      go_wp2_with fail
      refine (size_any m m1 m2 _).mono ?_
      rintro e w9 ⟨rfl, rfl⟩
      rw [hY]
      have fr0 := O4.out.2.2.free 0
      have fr1 := O4.out.2.2.free 1
      have lt := O4.out.2.2.lt
      have cr0 := O4.out.2.2.cell 0
      have cr1 := O4.out.2.2.cell 1
      obtain ⟨R, hR⟩ : ∃ R, prodR ⟨n, d⟩ m o = R := ⟨_, rfl⟩
      rw [hR] at OV RF
      have E := Lib.hid hR
      clear hR
      by_cases big : 0 < p ∧ L < q
      · have E2 := Lib.hid (OV.out big.1 big.2)
        obtain ⟨b1', b2'⟩ := big
        have p0 : ((p : Int) == 0) = false := by simp; omega
        have b1i : (0 : Int) < (p : Int) := by omega
        have b2i : (L : Int) < (q : Int) := by omega
        go_wp2_with fail
        refine bodyPost_ret (results_own rfl ((O4.out.2.2.set 0 _).set 1 _) rfl) rfl ?_
        exact ⟨by rw [E.out, E2.out]; rfl, ((O4.out.2.2.set 0 _).set 1 _).kept⟩
      · have OA := Lib.hid (O4.out.1.step ((Kept.refl w8).drew))
        have OB := Lib.hid (O4.out.2.1.step ((Kept.refl w8).drew))
        have OR := Lib.hid (O4.out.2.2.step ((Kept.refl w8).drew))
        obtain ⟨⟨x, y⟩, e⟩ := R
        have RF : Hid (∀ w, Calls Tryd.prog 42 #[.bool (!(decide (n < 0) == decide (m < 0))), .int .u64 ((p * q : Nat) : Int), .int .u64 ((r * s : Nat) : Int)] w fun e' w' => e' = .returned (.tuple #[.agg #[.int .i64 x, .int .i64 y], .int .i64 e]) ∧ Kept w w') := RF
        by_cases p0 : p = 0
        · have pz : ¬ (0 : Int) < (p : Int) := by omega
          clear big p0 OV
          go_wp2_with fail
          clear fr0 fr1 lt cr0 cr1 a0 a1 b0 b1
          go_region_held3 (fun wx => Kept w wx ∧ wx.cell? ⟨B, 0, none⟩ = some (.int .i64 n) ∧ wx.cell? ⟨B, 1, none⟩ = some (.int .i64 d) ∧ wx.cell? ⟨B + 1, 0, none⟩ = some (.int .i64 m) ∧ wx.cell? ⟨B + 1, 1, none⟩ = some (.int .i64 o))
            (first | exact four_cells OA.out OB.out | exact four_cells PA.out PB.out | exact four_cells ((PA.out.beside PR.out.new (show B ≠ B + 1 + 1 by omega) 0 _).beside PR.out.new (show B ≠ B + 1 + 1 by omega) 1 _) ((PB.out.beside PR.out.new (show B + 1 ≠ B + 1 + 1 by omega) 0 _).beside PR.out.new (show B + 1 ≠ B + 1 + 1 by omega) 1 _))
            (first
              | (go_at_call 43; refine (size_any _ (by assumption) (by assumption) _).mono ?_; rintro e' w9 ⟨rfl, rfl⟩; first | rw [hX] | rw [hZ])
              | (go_at_call 42; refine (RF.out _).mono ?_; rintro e' w9 ⟨rfl, hk⟩; have PA := Lib.hid (OA.out.step hk); have PB := Lib.hid (OB.out.step hk); have PR := Lib.hid (OR.out.step hk); have fr0 := PR.out.free 0; have fr1 := PR.out.free 1; have lt := PR.out.lt; have cr0 := PR.out.cell 0; have cr1 := PR.out.cell 1))
          all_goals (go_wp2_with fail; refine bodyPost_ret (results_own rfl ((PR.out.set 0 _).set 1 _) rfl) rfl ?_; exact ⟨by rw [E.out]; rfl, ((PR.out.set 0 _).set 1 _).kept⟩)
        · have pz : (0 : Int) < (p : Int) := by omega
          have pe : ((p : Int) == 0) = false := by simp; omega
          have qz : ¬ (L : Int) < (q : Int) := fun h => big ⟨by omega, by omega⟩
          clear big p0 OV
          go_wp2_with fail
          clear fr0 fr1 lt cr0 cr1 a0 a1 b0 b1
          go_region_held3 (fun wx => Kept w wx ∧ wx.cell? ⟨B, 0, none⟩ = some (.int .i64 n) ∧ wx.cell? ⟨B, 1, none⟩ = some (.int .i64 d) ∧ wx.cell? ⟨B + 1, 0, none⟩ = some (.int .i64 m) ∧ wx.cell? ⟨B + 1, 1, none⟩ = some (.int .i64 o))
            (first | exact four_cells OA.out OB.out | exact four_cells PA.out PB.out | exact four_cells ((PA.out.beside PR.out.new (show B ≠ B + 1 + 1 by omega) 0 _).beside PR.out.new (show B ≠ B + 1 + 1 by omega) 1 _) ((PB.out.beside PR.out.new (show B + 1 ≠ B + 1 + 1 by omega) 0 _).beside PR.out.new (show B + 1 ≠ B + 1 + 1 by omega) 1 _))
            (first
              | (go_at_call 43; refine (size_any _ (by assumption) (by assumption) _).mono ?_; rintro e' w9 ⟨rfl, rfl⟩; first | rw [hX] | rw [hZ])
              | (go_at_call 42; refine (RF.out _).mono ?_; rintro e' w9 ⟨rfl, hk⟩; have PA := Lib.hid (OA.out.step hk); have PB := Lib.hid (OB.out.step hk); have PR := Lib.hid (OR.out.step hk); have fr0 := PR.out.free 0; have fr1 := PR.out.free 1; have lt := PR.out.lt; have cr0 := PR.out.cell 0; have cr1 := PR.out.cell 1))
          all_goals (go_wp2_with fail; refine bodyPost_ret (results_own rfl ((PR.out.set 0 _).set 1 _) rfl) rfl ?_; exact ⟨by rw [E.out]; rfl, ((PR.out.set 0 _).set 1 _).kept⟩)
    · have vf := Bool.eq_false_iff.2 vb
      have VA := Lib.hid (fun w => rvalid_any a ha w)
      have VB := Lib.hid (fun w => rvalid_any b hb w)
      rw [va] at VA
      rw [vf] at VB
      have E0 : mulR a b = (q0, 1) := by simp [mulR, vf]
      rw [E0]
      clear E0
      unfold Q.val at *
      obtain ⟨n, d⟩ := a
      obtain ⟨m, o⟩ := b
      dsimp only at O VA VB ⊢
      go_enter Tryd.func26, Tryd.ntmps26
      go_wp2_with fail
      refine (VA.out _).mono ?_
      rintro e w5 ⟨rfl, hk⟩
      obtain ⟨B, hB⟩ : ∃ B, w.heap.size = B := ⟨_, rfl⟩
      rw [hB] at O ⊢
      have O1 := Lib.hid (And.intro (O.out.1.step hk) (And.intro (O.out.2.1.step hk) (O.out.2.2.step hk)))
      clear hk O VA
      have b0 := O1.out.2.1.cell 0
      have b1 := O1.out.2.1.cell 1
      go_wp2_with fail
      refine (VB.out _).mono ?_
      rintro e w6 ⟨rfl, hk⟩
      have O2 := Lib.hid (And.intro (O1.out.1.step hk) (And.intro (O1.out.2.1.step hk) (O1.out.2.2.step hk)))
      clear hk O1 VB b0 b1
      have f0 := O2.out.2.2.free 0
      have f1 := O2.out.2.2.free 1
      have lt := O2.out.2.2.lt
      have c0 := O2.out.2.2.cell 0
      have c1 := O2.out.2.2.cell 1
      go_wp2_with fail
      refine bodyPost_ret (results_own rfl ((O2.out.2.2.set 0 _).set 1 _) rfl) rfl ?_
      exact ⟨rfl, ((O2.out.2.2.set 0 _).set 1 _).kept⟩
  · have vf := Bool.eq_false_iff.2 va
    have VA := Lib.hid (fun w => rvalid_any a ha w)
    have VB := Lib.hid (fun w => rvalid_any b hb w)
    rw [vf] at VA
    have E0 : mulR a b = (q0, 1) := by simp [mulR, vf]
    rw [E0]
    clear E0
    unfold Q.val at *
    obtain ⟨n, d⟩ := a
    obtain ⟨m, o⟩ := b
    dsimp only at O VA VB ⊢
    go_enter Tryd.func26, Tryd.ntmps26
    go_wp2_with fail
    refine (VA.out _).mono ?_
    rintro e w5 ⟨rfl, hk⟩
    obtain ⟨B, hB⟩ : ∃ B, w.heap.size = B := ⟨_, rfl⟩
    rw [hB] at O ⊢
    have O1 := Lib.hid (And.intro (O.out.1.step hk) (And.intro (O.out.2.1.step hk) (O.out.2.2.step hk)))
    clear hk O VA
    have f0 := O1.out.2.2.free 0
    have f1 := O1.out.2.2.free 1
    have lt := O1.out.2.2.lt
    have c0 := O1.out.2.2.cell 0
    have c1 := O1.out.2.2.cell 1
    go_wp2_with fail
    refine bodyPost_ret (results_own rfl ((O1.out.2.2.set 0 _).set 1 _) rfl) rfl ?_
    exact ⟨rfl, ((O1.out.2.2.set 0 _).set 1 _).kept⟩

end Go.Proofs.YtacjgkpncdnbgaaDoor
