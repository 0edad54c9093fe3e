/-
  The reference's Mul, Div and Cmp, walked. Their condition: integers of Go.
-/
import Derived.Test.YtacjgkpncdnbgaaDoorX1
import Derived.Test.YtacjgkpncdnbgaaDoorE2
namespace Go.Proofs.YtacjgkpncdnbgaaDoor
open Go.RowKit

/-- In lowest terms, a numerator above the limit is out of range. -/
theorem red_over {m : Bool} {n d : Nat} (h : Nat.gcd n d = 1) (hn : 1000000000 < n) : red m n d = (q0, 2) := by
  unfold red
  rw [h, Nat.div_one, if_pos (Or.inl hn)]
/-- The cancelled factors are without a common divisor. -/
theorem cross_coprime {n d m o : Nat} (h1 : Nat.gcd n d = 1) (h2 : Nat.gcd m o = 1) (hd : 0 < d) (ho : 0 < o) :
    Nat.gcd (n / Nat.gcd n o * (m / Nat.gcd m d)) (d / Nat.gcd m d * (o / Nat.gcd n o)) = 1 := by
  have g1 : 0 < Nat.gcd n o := Nat.gcd_pos_of_pos_right _ ho
  have g2 : 0 < Nat.gcd m d := Nat.gcd_pos_of_pos_right _ hd
  have sub : ∀ {a b x y : Nat}, Nat.gcd x y = 1 → a ∣ x → b ∣ y → Nat.Coprime a b := fun h ha hb => Nat.Coprime.coprime_dvd_left ha (Nat.Coprime.coprime_dvd_right hb h)
  have e1 : Nat.Coprime (n / Nat.gcd n o) (d / Nat.gcd m d) := sub h1 (Nat.div_dvd_of_dvd (Nat.gcd_dvd_left _ _)) (Nat.div_dvd_of_dvd (Nat.gcd_dvd_right _ _))
  have e2 : Nat.Coprime (m / Nat.gcd m d) (o / Nat.gcd n o) := sub h2 (Nat.div_dvd_of_dvd (Nat.gcd_dvd_left _ _)) (Nat.div_dvd_of_dvd (Nat.gcd_dvd_right _ _))
  have e3 : Nat.Coprime (n / Nat.gcd n o) (o / Nat.gcd n o) := by
    rw [Nat.Coprime, Nat.gcd_div (Nat.gcd_dvd_left _ _) (Nat.gcd_dvd_right _ _), Nat.div_self g1]
  have e4 : Nat.Coprime (m / Nat.gcd m d) (d / Nat.gcd m d) := by
    rw [Nat.Coprime, Nat.gcd_div (Nat.gcd_dvd_left _ _) (Nat.gcd_dvd_right _ _), Nat.div_self g2]
  exact Nat.Coprime.mul_left (Nat.Coprime.mul_right e1 e3) (Nat.Coprime.mul_right e4 e2)

theorem four_cells {w wx : World} {A B : Nat} {n d m o : Value} (ha : Own w wx A #[n, d]) (hb : Own w wx B #[m, o]) :
    Kept w wx ∧ wx.cell? ⟨A, 0, none⟩ = some n ∧ wx.cell? ⟨A, 1, none⟩ = some d ∧ wx.cell? ⟨B, 0, none⟩ = some m ∧ wx.cell? ⟨B, 1, none⟩ = some o :=
  ⟨ha.kept, ha.cell 0, ha.cell 1, hb.cell 0, hb.cell 1⟩
theorem Own.beside {w wx : World} {B : Nat} {c : Array Value} (h : Own w wx B c) {B' : Nat} (hn : w.heap.size ≤ B') (hne : B ≠ B') (i : Nat) (v : Value) : Own w (wx.setCell ⟨B', i, none⟩ v) B c :=
  ⟨h.kept.setCell hn v, h.new, by rw [Below.heap_setCell _ _ _ _ hne]; exact h.block⟩

set_option maxHeartbeats 800000 in
theorem rcmp_any (a b : Q) (ha : a.wf) (hb : b.wf) (w : World) :
    Calls Tryd.prog 29 #[a.val, b.val] w fun e w' => e = .returned (.int .i64 (cmpR a b)) ∧ Kept w w' := by
  have O : Hid (Own w ((w.alloc (.cells #[.int .i64 a.n, .int .i64 a.d] 24)).alloc (.cells #[.int .i64 b.n, .int .i64 b.d] 24)) w.heap.size #[.int .i64 a.n, .int .i64 a.d] ∧
      Own w ((w.alloc (.cells #[.int .i64 a.n, .int .i64 a.d] 24)).alloc (.cells #[.int .i64 b.n, .int .i64 b.d] 24)) (w.heap.size + 1) #[.int .i64 b.n, .int .i64 b.d]) := pair w _ _
  have VA := Lib.hid (fun w => rvalid_any a ha w)
  have VB := Lib.hid (fun w => rvalid_any b hb w)
  have E : Hid (cmpR a b = if a.valid && b.valid then signR (a.n * b.d - b.n * a.d) else 0) := Lib.hid rfl
  have S : Hid (a.valid = true → b.valid = true → wrap64 (a.n * b.d) = a.n * b.d ∧ wrap64 (b.n * a.d) = b.n * a.d) := Lib.hid (by
    intro va vb
    obtain ⟨s1, s2, s3⟩ := Q.small va
    obtain ⟨t1, t2, t3⟩ := Q.small vb
    have m1 := mul_small s1 t2
    have m2 := mul_small t1 s2
    exact ⟨wrap_small (by omega) (by omega), wrap_small (by omega) (by omega)⟩)
  generalize a.valid = AV at *
  generalize b.valid = BV at *
  unfold Q.val at *
  obtain ⟨n, d⟩ := a
  obtain ⟨m, o⟩ := b
  simp only at *
  clear ha hb
  obtain ⟨r, hr⟩ : ∃ r, cmpR ⟨n, d⟩ ⟨m, o⟩ = r := ⟨_, rfl⟩
  rw [hr] at E ⊢
  clear hr
  go_enter Tryd.func29, Tryd.ntmps29
  go_wp2_with fail
  refine (VA.out _).mono ?_
  rintro e w2 ⟨rfl, hk⟩
  obtain ⟨B, hB⟩ : ∃ B, w.heap.size = B := ⟨_, rfl⟩
  rw [hB] at O ⊢
  have O1 := Lib.hid (And.intro (O.out.1.step hk) (O.out.2.step hk))
  clear hk O VA
  have a0 := O1.out.1.cell 0
  have a1 := O1.out.1.cell 1
  have b0 := O1.out.2.cell 0
  have b1 := O1.out.2.cell 1
  cases AV
  · have hE := E.out
    simp at hE
    subst hE
    go_wp2_with fail
    go_ret
    exact ⟨rfl, O1.out.1.kept⟩
  · go_wp2_with fail
    refine (VB.out _).mono ?_
    rintro e w3 ⟨rfl, hk⟩
    have O2 := Lib.hid (And.intro (O1.out.1.step hk) (O1.out.2.step hk))
    clear hk O1 VB a0 a1 b0 b1
    cases BV
    · have hE := E.out
      simp at hE
      subst hE
      go_wp2_with fail
      go_ret
      exact ⟨rfl, O2.out.1.kept⟩
    · obtain ⟨x1, x2⟩ := S.out (by trivial) (by trivial)
      have hE := E.out
      simp only [Bool.and_self, if_true] at hE
      clear E S
      have E := Lib.hid hE
      clear hE
      have a0 := O2.out.1.cell 0
      have a1 := O2.out.1.cell 1
      have b0 := O2.out.2.cell 0
      have b1 := O2.out.2.cell 1
      by_cases l1 : n * o < m * d
      · have e1 : signR (n * o - m * d) = -1 := by unfold signR; rw [if_pos (by omega)]
        rw [e1] at E
        clear e1
        go_wp2_with fail
        go_ret
        exact ⟨by rw [E.out]; rfl, O2.out.1.kept⟩
      · by_cases l2 : m * d < n * o
        · have e1 : signR (n * o - m * d) = 1 := by unfold signR; rw [if_neg (by omega), if_pos (by omega)]
          rw [e1] at E
          clear e1
          go_wp2_with fail
          go_ret
          exact ⟨by rw [E.out]; rfl, O2.out.1.kept⟩
        · have e1 : signR (n * o - m * d) = 0 := by unfold signR; rw [if_neg (by omega), if_neg (by omega)]
          rw [e1] at E
          clear e1
          go_wp2_with fail
          go_ret
          exact ⟨by rw [E.out]; rfl, O2.out.1.kept⟩

set_option maxHeartbeats 1600000 in
theorem rdiv_any (a b : Q) (ha : a.wf) (hb : b.wf) (w : World) :
    Calls Tryd.prog 27 #[a.val, b.val] w fun e w' => e = .returned (resV (divR a b)) ∧ Kept w w' := by
  have O := three w #[.int .i64 a.n, .int .i64 a.d] #[.int .i64 b.n, .int .i64 b.d] #[.int .i64 0, .int .i64 0]
  by_cases va : a.valid = true
  · by_cases vb : b.valid = true
    · have VA := Lib.hid (fun w => rvalid_any a ha w)
      have VB := Lib.hid (fun w => rvalid_any b hb w)
      rw [va] at VA
      rw [vb] at VB
      have E0 : divR a b = divIn a b := by simp [divR, va, vb]
      rw [E0]
      clear E0
      obtain ⟨s1, s2, s3⟩ := Q.small va
      obtain ⟨t1, t2, t3⟩ := Q.small vb
      unfold Q.val at *
      obtain ⟨n, d⟩ := a
      obtain ⟨m, o⟩ := b
      dsimp only at O VA VB s1 s2 s3 t1 t2 t3 ⊢
      have n1 : -9223372036854775808 ≤ n := by omega
      have n2 : n ≤ 9223372036854775807 := by omega
      have d1 : -9223372036854775808 ≤ d := by omega
      have d2 : d ≤ 9223372036854775807 := by omega
      have m1 : -9223372036854775808 ≤ m := by omega
      have m2 : m ≤ 9223372036854775807 := by omega
      have o1 : -9223372036854775808 ≤ o := by omega
      have o2 : o ≤ 9223372036854775807 := by omega
      obtain ⟨W, hW⟩ : ∃ x, n.natAbs = x := ⟨_, rfl⟩
      obtain ⟨X, hX⟩ : ∃ x, d.natAbs = x := ⟨_, rfl⟩
      obtain ⟨Y, hY⟩ : ∃ x, m.natAbs = x := ⟨_, rfl⟩
      obtain ⟨Z, hZ⟩ : ∃ x, o.natAbs = x := ⟨_, rfl⟩
      have q1 := Nat.mul_le_mul (show W ≤ 1000000000 by omega) (show Z ≤ 1000000000 by omega)
      have q2 := Nat.mul_le_mul (show X ≤ 1000000000 by omega) (show Y ≤ 1000000000 by omega)
      have u1 : IntKind.u64.wrap ((W : Int) * (Z : Int)) = ((W * Z : Nat) : Int) := by rw [IntKind.wrap_u64]; have e : (W : Int) * (Z : Int) = ((W * Z : Nat) : Int) := by push_cast; rfl
                                                                                       rw [e]; omega
      have u2 : IntKind.u64.wrap ((X : Int) * (Y : Int)) = ((X * Y : Nat) : Int) := by rw [IntKind.wrap_u64]; have e : (X : Int) * (Y : Int) = ((X * Y : Nat) : Int) := by push_cast; rfl
                                                                                       rw [e]; omega
      have RF := Lib.hid (fun w => rof_any (!(decide (n < 0) == decide (m < 0))) (W * Z) (X * Y) (by omega) (by omega) w)
      have EQ : Hid (ofR (!(decide (n < 0) == decide (m < 0))) (W * Z) (X * Y) = divIn ⟨n, d⟩ ⟨m, o⟩) := Lib.hid (by
        unfold ofR divIn prodR
        dsimp only
        rw [hW, hX, hY, hZ]
        by_cases h : m = 0
        · rw [if_pos h, if_pos (by have : Y = 0 := by omega
                                   rw [this, Nat.mul_zero])]
        · rw [if_neg h, if_neg (Nat.mul_ne_zero (by omega) (by omega))]
          have : decide (o < 0) = false := by simp; omega
          rw [this]
          cases decide (n < 0) <;> cases decide (m < 0) <;> rfl)
      clear va vb s1 s2 s3 t1 t2 t3 q1 q2 ha hb
      go_enter Tryd.func27, Tryd.ntmps27
      go_wp2_with fail
      refine (VA.out _).mono ?_
      rintro e w5 ⟨rfl, hk⟩
      obtain ⟨B, hB⟩ : ∃ B, w.heap.size = B := ⟨_, rfl⟩
      rw [hB] at O ⊢
      have O1 := Lib.hid (And.intro (O.out.1.step hk) (And.intro (O.out.2.1.step hk) (O.out.2.2.step hk)))
      clear hk O VA
      have b0 := O1.out.2.1.cell 0
      have b1 := O1.out.2.1.cell 1
      go_wp2_with fail
      refine (VB.out _).mono ?_
      rintro e w6 ⟨rfl, hk⟩
      have O2 := Lib.hid (And.intro (O1.out.1.step hk) (And.intro (O1.out.2.1.step hk) (O1.out.2.2.step hk)))
      clear hk O1 VB b0 b1
      have a0 := O2.out.1.cell 0
      have a1 := O2.out.1.cell 1
      have b0 := O2.out.2.1.cell 0
      have b1 := O2.out.2.1.cell 1
      go_wp2_with fail
      have OA := Lib.hid (O2.out.1.step ((Kept.refl w6).drew))
      have OB := Lib.hid (O2.out.2.1.step ((Kept.refl w6).drew))
      have OR := Lib.hid (O2.out.2.2.step ((Kept.refl w6).drew))
      clear O2 a0 a1 b0 b1
      obtain ⟨R, hR⟩ : ∃ R, divIn ⟨n, d⟩ ⟨m, o⟩ = R := ⟨_, rfl⟩
      rw [hR] at EQ
      have E := Lib.hid hR
      clear hR
      rw [EQ.out] at RF
      clear EQ
      obtain ⟨⟨x, y⟩, e⟩ := R
      have RF : Hid (∀ w, Calls Tryd.prog 42 #[.bool (!(decide (n < 0) == decide (m < 0))), .int .u64 ((W * Z : Nat) : Int), .int .u64 ((X * Y : Nat) : Int)] w fun e' w' => e' = .returned (.tuple #[.agg #[.int .i64 x, .int .i64 y], .int .i64 e]) ∧ Kept w w') := RF
      go_region_held3 (fun wx => Kept w wx ∧ wx.cell? ⟨B, 0, none⟩ = some (.int .i64 n) ∧ wx.cell? ⟨B, 1, none⟩ = some (.int .i64 d) ∧ wx.cell? ⟨B + 1, 0, none⟩ = some (.int .i64 m) ∧ wx.cell? ⟨B + 1, 1, none⟩ = some (.int .i64 o))
        (first | exact four_cells OA.out OB.out | exact four_cells PA.out PB.out | exact four_cells ((PA.out.beside PR.out.new (show B ≠ B + 1 + 1 by omega) 0 _).beside PR.out.new (show B ≠ B + 1 + 1 by omega) 1 _) ((PB.out.beside PR.out.new (show B + 1 ≠ B + 1 + 1 by omega) 0 _).beside PR.out.new (show B + 1 ≠ B + 1 + 1 by omega) 1 _))
        (first
          | (go_at_call 43; refine (size_any _ (by assumption) (by assumption) _).mono ?_; rintro e' w8 ⟨rfl, rfl⟩; first | rw [hW] | rw [hX] | rw [hY] | rw [hZ])
          | (go_at_call 42; refine (RF.out _).mono ?_; rintro e' w8 ⟨rfl, hk⟩; have PA := Lib.hid (OA.out.step hk); have PB := Lib.hid (OB.out.step hk); have PR := Lib.hid (OR.out.step hk); have fr0 := PR.out.free 0; have fr1 := PR.out.free 1; have lt := PR.out.lt; have cr0 := PR.out.cell 0; have cr1 := PR.out.cell 1))
      all_goals (go_wp2_with fail; refine bodyPost_ret (results_own rfl ((PR.out.set 0 _).set 1 _) rfl) rfl ?_; exact ⟨by rw [E.out]; rfl, ((PR.out.set 0 _).set 1 _).kept⟩)
    · have vf := Bool.eq_false_iff.2 vb
      have VA := Lib.hid (fun w => rvalid_any a ha w)
      have VB := Lib.hid (fun w => rvalid_any b hb w)
      rw [va] at VA
      rw [vf] at VB
      have E0 : divR a b = (q0, 1) := by simp [divR, vf]
      rw [E0]
      clear E0
      unfold Q.val at *
      obtain ⟨n, d⟩ := a
      obtain ⟨m, o⟩ := b
      dsimp only at O VA VB ⊢
      go_enter Tryd.func27, Tryd.ntmps27
      go_wp2_with fail
      refine (VA.out _).mono ?_
      rintro e w5 ⟨rfl, hk⟩
      obtain ⟨B, hB⟩ : ∃ B, w.heap.size = B := ⟨_, rfl⟩
      rw [hB] at O ⊢
      have O1 := Lib.hid (And.intro (O.out.1.step hk) (And.intro (O.out.2.1.step hk) (O.out.2.2.step hk)))
      clear hk O VA
      have b0 := O1.out.2.1.cell 0
      have b1 := O1.out.2.1.cell 1
      go_wp2_with fail
      refine (VB.out _).mono ?_
      rintro e w6 ⟨rfl, hk⟩
      have O2 := Lib.hid (And.intro (O1.out.1.step hk) (And.intro (O1.out.2.1.step hk) (O1.out.2.2.step hk)))
      clear hk O1 VB b0 b1
      have f0 := O2.out.2.2.free 0
      have f1 := O2.out.2.2.free 1
      have lt := O2.out.2.2.lt
      have c0 := O2.out.2.2.cell 0
      have c1 := O2.out.2.2.cell 1
      go_wp2_with fail
      refine bodyPost_ret (results_own rfl ((O2.out.2.2.set 0 _).set 1 _) rfl) rfl ?_
      exact ⟨rfl, ((O2.out.2.2.set 0 _).set 1 _).kept⟩
  · have vf := Bool.eq_false_iff.2 va
    have VA := Lib.hid (fun w => rvalid_any a ha w)
    have VB := Lib.hid (fun w => rvalid_any b hb w)
    rw [vf] at VA
    have E0 : divR a b = (q0, 1) := by simp [divR, vf]
    rw [E0]
    clear E0
    unfold Q.val at *
    obtain ⟨n, d⟩ := a
    obtain ⟨m, o⟩ := b
    dsimp only at O VA VB ⊢
    go_enter Tryd.func27, Tryd.ntmps27
    go_wp2_with fail
    refine (VA.out _).mono ?_
    rintro e w5 ⟨rfl, hk⟩
    obtain ⟨B, hB⟩ : ∃ B, w.heap.size = B := ⟨_, rfl⟩
    rw [hB] at O ⊢
    have O1 := Lib.hid (And.intro (O.out.1.step hk) (And.intro (O.out.2.1.step hk) (O.out.2.2.step hk)))
    clear hk O VA
    have f0 := O1.out.2.2.free 0
    have f1 := O1.out.2.2.free 1
    have lt := O1.out.2.2.lt
    have c0 := O1.out.2.2.cell 0
    have c1 := O1.out.2.2.cell 1
    go_wp2_with fail
    refine bodyPost_ret (results_own rfl ((O1.out.2.2.set 0 _).set 1 _) rfl) rfl ?_
    exact ⟨rfl, ((O1.out.2.2.set 0 _).set 1 _).kept⟩

end Go.Proofs.YtacjgkpncdnbgaaDoor
