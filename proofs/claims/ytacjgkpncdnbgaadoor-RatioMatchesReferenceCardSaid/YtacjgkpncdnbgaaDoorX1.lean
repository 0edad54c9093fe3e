/-
  The reference's size, Gcd, Valid, of, Make, Add, Sub and Cmp, walked. Their condition: integers of Go.
-/
import Derived.Test.YtacjgkpncdnbgaaDoorVC
import Derived.Test.YtacjgkpncdnbgaaDoorQ3
namespace Go.Proofs.YtacjgkpncdnbgaaDoor
open Go.RowKit

set_option maxHeartbeats 400000 in
theorem size_any (n : Int) (h1 : -9223372036854775808 ≤ n) (h2 : n ≤ 9223372036854775807) (w : World) : Calls Tryd.prog 43 #[.int .i64 n] w fun e w' => e = .returned (.int .u64 (n.natAbs : Int)) ∧ w = w' := by
  by_cases h0 : n < 0
  · go_enter Tryd.func43, Tryd.ntmps43
    go_wp2_with fail
    go_ret
    refine ⟨?_, rfl⟩
    have e : IntKind.u64.wrap (-IntKind.u64.wrap n) = (n.natAbs : Int) := by simp only [IntKind.wrap_u64]; omega
    first
      | (show Ending.returned (Value.int IntKind.u64 (IntKind.u64.wrap (-IntKind.u64.wrap n))) = _; rw [e])
      | (show Ending.returned (Value.int IntKind.u64 (IntKind.u64.wrap (0 - IntKind.u64.wrap n))) = _; rw [Int.zero_sub, e])
  · go_enter Tryd.func43, Tryd.ntmps43
    go_wp2_with fail
    go_ret
    refine ⟨?_, rfl⟩
    show Ending.returned (Value.int IntKind.u64 n) = _
    have : n = (n.natAbs : Int) := by omega
    rw [← this]

set_option maxHeartbeats 800000 in
theorem gcd_quiet (a b : Nat) (ha : a < 18446744073709551616) (hb : b < 18446744073709551616) (w : World) :
    Calls Tryd.prog 12 #[.int .u64 (a : Int), .int .u64 (b : Int)] w fun e w' => e = .returned (.int .u64 (Nat.gcd a b : Int)) ∧ ∃ k, w' = w.drewN k := by
  go_enter Tryd.func12, Tryd.ntmps12
  go_wp2_with fail
  go_loopw [0, 1] (fun u v wr => ∃ U X : Nat, u = .int .u64 U ∧ v = .int .u64 X ∧ U < 18446744073709551616 ∧ X < 18446744073709551616 ∧ Hid (Nat.gcd U X = Nat.gcd a b) ∧ Hid (∃ k, wr = w.drewN k)) (fun _ v _ => natOf v)
  case atStart => exact ⟨a, b, rfl, rfl, ha, hb, Lib.hid rfl, Lib.hid ⟨0, rfl⟩⟩
  case round =>
    rename_i u v wt
    obtain ⟨U, X, rfl, rfl, hU, hX, HD, HT⟩ := hrel
    by_cases hX0 : X = 0
    · subst hX0
      go_wp2_with fail
      go_ret
      refine ⟨?_, HT.out⟩
      show Ending.returned (Value.int IntKind.u64 (U : Int)) = _
      rw [← HD.out, Nat.gcd_zero_right]
    · have hX1 : (0 : Int) < (X : Int) := by omega
      go_wp2_with fail
      go_quiet (fail)
      go_wp2_with fail
      have hm := Nat.mod_lt U (Nat.pos_of_ne_zero hX0)
      refine ⟨⟨X, U % X, rfl, by simp, hX, by omega, Lib.hid ?_, Lib.hid ?_⟩, ?_⟩
      · rw [← HD.out, Nat.gcd_comm U X, Nat.gcd_rec X U, Nat.gcd_comm]
      · obtain ⟨k, hk⟩ := HT.out
        exact ⟨k + nq, by rw [hk, World.drewN_drewN]⟩
      · show Int.toNat ((U : Int) % (X : Int)) < Int.toNat (X : Int)
        omega

set_option maxRecDepth 100000 in
set_option maxHeartbeats 1600000 in
theorem rvalid_any (a : Q) (ha : a.wf) (w : World) : Calls Tryd.prog 28 #[a.val] w fun e w' => e = .returned (.bool a.valid) ∧ Kept w w' := by
  obtain ⟨n, d⟩ := a
  obtain ⟨n1, n2, d1, d2⟩ := ha
  simp only at n1 n2 d1 d2
  unfold Q.val
  simp only
  by_cases c1 : 1 ≤ d
  · have g1 : decide (1 ≤ d) = true := by simpa using c1
    by_cases c2 : d ≤ 1000000000
    · have g2 : decide (d ≤ 1000000000) = true := by simpa using c2
      by_cases c3 : -1000000000 ≤ n
      · have g3 : decide (-1000000000 ≤ n) = true := by simpa using c3
        by_cases c4 : n ≤ 1000000000
        · have g4 : decide (n ≤ 1000000000) = true := by simpa using c4
          have E : Hid (Q.valid ⟨n, d⟩ = ((Nat.gcd n.natAbs d.natAbs : Int) == 1)) := Lib.hid (by
            have h0 : 0 < d := by omega
            have h1 : n.natAbs ≤ 1000000000 := by omega
            simp [Q.valid, h0, c2, h1]
            by_cases h : Nat.gcd n.natAbs d.natAbs = 1
            · simp [h]
            · simp [h]; omega)
          have GC := Lib.hid (fun w => gcd_quiet n.natAbs d.natAbs (by omega) (by omega) w)
          obtain ⟨N, hN⟩ : ∃ N, n.natAbs = N := ⟨_, rfl⟩
          obtain ⟨D, hD⟩ : ∃ D, d.natAbs = D := ⟨_, rfl⟩
          rw [hN, hD] at E GC
          clear c1 c2 c3 c4
          go_enter Tryd.func28, Tryd.ntmps28
          go_wp2_with fail
          go_quiet ((first
            | (go_at_call 43; exact Calls.quiet_of_same ((size_any _ (by assumption) (by assumption) _).mono fun _ _ h => ⟨h.1.trans (by first | rw [hN] | rw [hD]), h.2.symm⟩))
            | (go_at_call 12; exact Calls.quiet_of (GC.out _))))
          go_wp2_with fail
          go_ret
          exact ⟨by rw [E.out]; rfl, ((Kept.refl _).alloc _).drewN _⟩
        · have E : Hid (Q.valid ⟨n, d⟩ = false) := Lib.hid (by
            have : ¬ n.natAbs ≤ 1000000000 := by omega
            simp [Q.valid, this])
          have g4 : decide (n ≤ 1000000000) = false := by simpa using c4
          clear c4
          go_enter Tryd.func28, Tryd.ntmps28
          go_wp2_with fail
          go_quiet (fail)
          go_wp2_with fail
          go_ret
          exact ⟨by rw [E.out]; rfl, ((Kept.refl _).alloc _).drewN _⟩
      · have E : Hid (Q.valid ⟨n, d⟩ = false) := Lib.hid (by
          have : ¬ n.natAbs ≤ 1000000000 := by omega
          simp [Q.valid, this])
        have g3 : decide (-1000000000 ≤ n) = false := by simpa using c3
        clear c3
        go_enter Tryd.func28, Tryd.ntmps28
        go_wp2_with fail
        go_quiet (fail)
        go_wp2_with fail
        go_ret
        exact ⟨by rw [E.out]; rfl, ((Kept.refl _).alloc _).drewN _⟩
    · have E : Hid (Q.valid ⟨n, d⟩ = false) := Lib.hid (by simp [Q.valid, c2])
      have g2 : decide (d ≤ 1000000000) = false := by simpa using c2
      clear c2
      go_enter Tryd.func28, Tryd.ntmps28
      go_wp2_with fail
      go_quiet (fail)
      go_wp2_with fail
      go_ret
      exact ⟨by rw [E.out]; rfl, ((Kept.refl _).alloc _).drewN _⟩
  · have E : Hid (Q.valid ⟨n, d⟩ = false) := Lib.hid (by
      have : ¬ 0 < d := by omega
      simp [Q.valid, this])
    have g1 : decide (1 ≤ d) = false := by simpa using c1
    clear c1
    go_enter Tryd.func28, Tryd.ntmps28
    go_wp2_with fail
    go_quiet (fail)
    go_wp2_with fail
    go_ret
    exact ⟨by rw [E.out]; rfl, ((Kept.refl _).alloc _).drewN _⟩

/-- The quotient of magnitudes with a sign, by the reference. -/
def ofR (m : Bool) (n d : Nat) : Q × Int := if d = 0 then (q0, 1) else red m n d

set_option maxHeartbeats 1600000 in
theorem rof_any (m : Bool) (n d : Nat) (hn : n < 18446744073709551616) (hd : d < 18446744073709551616) (w : World) :
    Calls Tryd.prog 42 #[.bool m, .int .u64 (n : Int), .int .u64 (d : Int)] w fun e w' => e = .returned (resV (ofR m n d)) ∧ Kept w w' := by
  have O : Hid (Own w (w.alloc (.cells #[.int .i64 0, .int .i64 0] 24)) w.heap.size #[.int .i64 0, .int .i64 0]) := Lib.hid (Own.made (Kept.refl w) _)
  by_cases h0 : d = 0
  · have E : Hid (ofR m n d = (q0, 1)) := Lib.hid (by simp [ofR, h0])
    subst h0
    go_enter Tryd.func42, Tryd.ntmps42
    go_wp2_with fail
    refine bodyPost_ret (results_own rfl O.out rfl) rfl ?_
    exact ⟨by rw [E.out]; rfl, O.out.kept⟩
  obtain ⟨G, hG⟩ : ∃ G, Nat.gcd n d = G := ⟨_, rfl⟩
  have hG0 : 0 < G := hG ▸ Nat.gcd_pos_of_pos_right _ (by omega)
  obtain ⟨x, hx⟩ : ∃ x, n / G = x := ⟨_, rfl⟩
  obtain ⟨y, hy⟩ : ∃ y, d / G = y := ⟨_, rfl⟩
  have hx' : (n : Int) / (G : Int) = (x : Int) := by rw [← hx]; rfl
  have hy' : (d : Int) / (G : Int) = (y : Int) := by rw [← hy]; rfl
  have E : Hid (ofR m n d = if 1000000000 < x ∨ 1000000000 < y then (q0, 2) else (⟨if m then -(x : Int) else (x : Int), (y : Int)⟩, 0)) := Lib.hid (by
    unfold ofR red; rw [if_neg h0, hG, hx, hy])
  have hwx : IntKind.u64.wrap (x : Int) = (x : Int) := by have := Nat.div_le_self n G; rw [IntKind.wrap_u64]; omega
  have hwy : IntKind.u64.wrap (y : Int) = (y : Int) := by have := Nat.div_le_self d G; rw [IntKind.wrap_u64]; omega
  have hG1 : ((G : Int) == 0) = false := by simp; omega
  have hd0 : ((d : Int) == 0) = false := by simp; omega
  have GC := Lib.hid (fun w => gcd_any n d hn hd w)
  rw [hG] at GC
  clear hn hd h0 hG hx hy
  go_enter Tryd.func42, Tryd.ntmps42
  go_wp2_with fail
  refine (GC.out _).mono ?_
  rintro e w2 ⟨rfl, hk⟩
  obtain ⟨B, hB⟩ : ∃ B, w.heap.size = B := ⟨_, rfl⟩
  rw [hB] at O ⊢
  have O1 := Lib.hid (O.out.step hk)
  clear hk O GC
  have f0 := O1.out.free 0
  have f1 := O1.out.free 1
  have lt := O1.out.lt
  have c0 := O1.out.cell 0
  have c1 := O1.out.cell 1
  by_cases l1 : 1000000000 < x
  · rw [if_pos (Or.inl l1)] at E
    go_wp2_with fail
    refine bodyPost_ret (results_own rfl ((O1.out.set 0 _).set 1 _) rfl) rfl ?_
    exact ⟨by rw [E.out]; rfl, ((O1.out.set 0 _).set 1 _).kept⟩
  · by_cases l2 : 1000000000 < y
    · rw [if_pos (Or.inr l2)] at E
      go_wp2_with fail
      refine bodyPost_ret (results_own rfl ((O1.out.set 0 _).set 1 _) rfl) rfl ?_
      exact ⟨by rw [E.out]; rfl, ((O1.out.set 0 _).set 1 _).kept⟩
    · rw [if_neg (by omega)] at E
      have i1 : (x : Int) ≤ 1000000000 := by omega
      have i2 : (y : Int) ≤ 1000000000 := by omega
      cases m
      · go_wp2_with fail
        refine bodyPost_ret (results_own rfl ((O1.out.set 0 _).set 1 _) rfl) rfl ?_
        exact ⟨by rw [E.out]; rfl, ((O1.out.set 0 _).set 1 _).kept⟩
      · have z1 : (0 : Int) - (x : Int) = -(x : Int) := by omega
        go_wp2_with fail
        refine bodyPost_ret (results_own rfl ((O1.out.set 0 _).set 1 _) rfl) rfl ?_
        exact ⟨by rw [E.out]; rfl, ((O1.out.set 0 _).set 1 _).kept⟩

theorem ofR_make (n d : Int) : ofR (!(decide (n < 0) == decide (d < 0))) n.natAbs d.natAbs = makeR n d := by
  unfold ofR makeR
  by_cases h : d = 0
  · simp [h]
  · rw [if_neg (by omega), if_neg h]

set_option maxHeartbeats 800000 in
theorem rmake_any (n d : Int) (n1 : -9223372036854775808 ≤ n) (n2 : n ≤ 9223372036854775807) (d1 : -9223372036854775808 ≤ d) (d2 : d ≤ 9223372036854775807) (w : World) :
    Calls Tryd.prog 21 #[.int .i64 n, .int .i64 d] w fun e w' => e = .returned (resV (makeR n d)) ∧ Kept w w' := by
  have O : Hid (Own w (w.alloc (.cells #[.int .i64 0, .int .i64 0] 24)) w.heap.size #[.int .i64 0, .int .i64 0]) := Lib.hid (Own.made (Kept.refl w) _)
  have MK := Lib.hid (fun w => rof_any (!(decide (n < 0) == decide (d < 0))) n.natAbs d.natAbs (by omega) (by omega) w)
  rw [ofR_make] at MK
  go_enter Tryd.func21, Tryd.ntmps21
  go_wp2_with fail
  generalize w.alloc _ = w1 at *
  refine (size_any n n1 n2 _).mono ?_
  rintro e w2 ⟨rfl, rfl⟩
  go_wp2_with fail
  refine (size_any d d1 d2 _).mono ?_
  rintro e w2 ⟨rfl, rfl⟩
  go_wp2_with fail
  refine (MK.out _).mono ?_
  rintro e w2 ⟨rfl, hk⟩
  have O2 := Lib.hid (O.out.step hk)
  clear hk O MK
  generalize w.heap.size = B at *
  obtain ⟨R, hR⟩ : ∃ R, makeR n d = R := ⟨_, rfl⟩
  rw [hR]
  have E := Lib.hid hR
  clear hR
  obtain ⟨⟨x, y⟩, e⟩ := R
  unfold resV Q.val
  simp only
  have f0 := O2.out.free 0
  have f1 := O2.out.free 1
  have lt := O2.out.lt
  have c0 := O2.out.cell 0
  have c1 := O2.out.cell 1
  go_wp2_with fail
  refine bodyPost_ret (results_own rfl ((O2.out.set 0 _).set 1 _) rfl) rfl ?_
  exact ⟨by rw [E.out]; rfl, ((O2.out.set 0 _).set 1 _).kept⟩

set_option maxHeartbeats 1600000 in
theorem radd_any (a b : Q) (ha : a.wf) (hb : b.wf) (w : World) :
    Calls Tryd.prog 23 #[a.val, b.val] w fun e w' => e = .returned (resV (addR a b)) ∧ Kept w w' := by
  have O := three w #[.int .i64 a.n, .int .i64 a.d] #[.int .i64 b.n, .int .i64 b.d] #[.int .i64 0, .int .i64 0]
  by_cases va : a.valid = true
  · by_cases vb : b.valid = true
    · have VA := Lib.hid (fun w => rvalid_any a ha w)
      have VB := Lib.hid (fun w => rvalid_any b hb w)
      rw [va] at VA
      rw [vb] at VB
      have E0 : addR a b = makeR (a.n * b.d + b.n * a.d) (a.d * b.d) := by simp [addR, va, vb]
      rw [E0]
      clear E0
      obtain ⟨s1, s2, s3⟩ := Q.small va
      obtain ⟨t1, t2, t3⟩ := Q.small vb
      unfold Q.val at *
      obtain ⟨n, d⟩ := a
      obtain ⟨m, o⟩ := b
      dsimp only at O VA VB s1 s2 s3 t1 t2 t3 ⊢
      have m1 := mul_small s1 t2
      have m2 := mul_small t1 s2
      have m3 := mul_small s2 t2
      have w1 : wrap64 (n * o) = n * o := wrap_small (by omega) (by omega)
      have w2 : wrap64 (m * d) = m * d := wrap_small (by omega) (by omega)
      have w3 : wrap64 (d * o) = d * o := wrap_small (by omega) (by omega)
      have w4 : wrap64 (n * o + m * d) = n * o + m * d := wrap_small (by omega) (by omega)
      have MK := Lib.hid (fun w => rmake_any (n * o + m * d) (d * o) (by omega) (by omega) (by omega) (by omega) w)
      clear va vb s1 s2 s3 t1 t2 t3 m1 m2 m3 ha hb
      go_enter Tryd.func23, Tryd.ntmps23
      go_wp2_with fail
      refine (VA.out _).mono ?_
      rintro e w5 ⟨rfl, hk⟩
      obtain ⟨B, hB⟩ : ∃ B, w.heap.size = B := ⟨_, rfl⟩
      rw [hB] at O ⊢
      have O1 := Lib.hid (And.intro (O.out.1.step hk) (And.intro (O.out.2.1.step hk) (O.out.2.2.step hk)))
      clear hk O VA
      have b0 := O1.out.2.1.cell 0
      have b1 := O1.out.2.1.cell 1
      go_wp2_with fail
      refine (VB.out _).mono ?_
      rintro e w6 ⟨rfl, hk⟩
      have O2 := Lib.hid (And.intro (O1.out.1.step hk) (And.intro (O1.out.2.1.step hk) (O1.out.2.2.step hk)))
      clear hk O1 VB b0 b1
      have a0 := O2.out.1.cell 0
      have a1 := O2.out.1.cell 1
      have b0 := O2.out.2.1.cell 0
      have b1 := O2.out.2.1.cell 1
      go_wp2_with fail
      refine (MK.out _).mono ?_
      rintro e w7 ⟨rfl, hk⟩
      have O3 := Lib.hid (O2.out.2.2.step hk)
      clear hk O2 MK a0 a1 b0 b1
      obtain ⟨R, hR⟩ : ∃ R, makeR (n * o + m * d) (d * o) = R := ⟨_, rfl⟩
      rw [hR]
      have E := Lib.hid hR
      clear hR
      obtain ⟨⟨x, y⟩, e⟩ := R
      unfold resV Q.val
      simp only
      have f0 := O3.out.free 0
      have f1 := O3.out.free 1
      have lt := O3.out.lt
      have c0 := O3.out.cell 0
      have c1 := O3.out.cell 1
      go_wp2_with fail
      refine bodyPost_ret (results_own rfl ((O3.out.set 0 _).set 1 _) rfl) rfl ?_
      exact ⟨by rw [E.out]; rfl, ((O3.out.set 0 _).set 1 _).kept⟩
    · have vf := Bool.eq_false_iff.2 vb
      have VA := Lib.hid (fun w => rvalid_any a ha w)
      have VB := Lib.hid (fun w => rvalid_any b hb w)
      rw [va] at VA
      rw [vf] at VB
      have E0 : addR a b = (q0, 1) := by simp [addR, vf]
      rw [E0]
      clear E0
      unfold Q.val at *
      obtain ⟨n, d⟩ := a
      obtain ⟨m, o⟩ := b
      dsimp only at O VA VB ⊢
      go_enter Tryd.func23, Tryd.ntmps23
      go_wp2_with fail
      refine (VA.out _).mono ?_
      rintro e w5 ⟨rfl, hk⟩
      obtain ⟨B, hB⟩ : ∃ B, w.heap.size = B := ⟨_, rfl⟩
      rw [hB] at O ⊢
      have O1 := Lib.hid (And.intro (O.out.1.step hk) (And.intro (O.out.2.1.step hk) (O.out.2.2.step hk)))
      clear hk O VA
      have b0 := O1.out.2.1.cell 0
      have b1 := O1.out.2.1.cell 1
      go_wp2_with fail
      refine (VB.out _).mono ?_
      rintro e w6 ⟨rfl, hk⟩
      have O2 := Lib.hid (And.intro (O1.out.1.step hk) (And.intro (O1.out.2.1.step hk) (O1.out.2.2.step hk)))
      clear hk O1 VB b0 b1
      have f0 := O2.out.2.2.free 0
      have f1 := O2.out.2.2.free 1
      have lt := O2.out.2.2.lt
      have c0 := O2.out.2.2.cell 0
      have c1 := O2.out.2.2.cell 1
      go_wp2_with fail
      refine bodyPost_ret (results_own rfl ((O2.out.2.2.set 0 _).set 1 _) rfl) rfl ?_
      exact ⟨rfl, ((O2.out.2.2.set 0 _).set 1 _).kept⟩
  · have vf := Bool.eq_false_iff.2 va
    have VA := Lib.hid (fun w => rvalid_any a ha w)
    have VB := Lib.hid (fun w => rvalid_any b hb w)
    rw [vf] at VA
    have E0 : addR a b = (q0, 1) := by simp [addR, vf]
    rw [E0]
    clear E0
    unfold Q.val at *
    obtain ⟨n, d⟩ := a
    obtain ⟨m, o⟩ := b
    dsimp only at O VA VB ⊢
    go_enter Tryd.func23, Tryd.ntmps23
    go_wp2_with fail
    refine (VA.out _).mono ?_
    rintro e w5 ⟨rfl, hk⟩
    obtain ⟨B, hB⟩ : ∃ B, w.heap.size = B := ⟨_, rfl⟩
    rw [hB] at O ⊢
    have O1 := Lib.hid (And.intro (O.out.1.step hk) (And.intro (O.out.2.1.step hk) (O.out.2.2.step hk)))
    clear hk O VA
    have f0 := O1.out.2.2.free 0
    have f1 := O1.out.2.2.free 1
    have lt := O1.out.2.2.lt
    have c0 := O1.out.2.2.cell 0
    have c1 := O1.out.2.2.cell 1
    go_wp2_with fail
    refine bodyPost_ret (results_own rfl ((O1.out.2.2.set 0 _).set 1 _) rfl) rfl ?_
    exact ⟨rfl, ((O1.out.2.2.set 0 _).set 1 _).kept⟩


set_option maxHeartbeats 1600000 in
theorem rsub_any (a b : Q) (ha : a.wf) (hb : b.wf) (w : World) :
    Calls Tryd.prog 25 #[a.val, b.val] w fun e w' => e = .returned (resV (subR a b)) ∧ Kept w w' := by
  have O := three w #[.int .i64 a.n, .int .i64 a.d] #[.int .i64 b.n, .int .i64 b.d] #[.int .i64 0, .int .i64 0]
  by_cases va : a.valid = true
  · by_cases vb : b.valid = true
    · have VA := Lib.hid (fun w => rvalid_any a ha w)
      have VB := Lib.hid (fun w => rvalid_any b hb w)
      rw [va] at VA
      rw [vb] at VB
      have E0 : subR a b = makeR (a.n * b.d - b.n * a.d) (a.d * b.d) := by simp [subR, va, vb]
      rw [E0]
      clear E0
      obtain ⟨s1, s2, s3⟩ := Q.small va
      obtain ⟨t1, t2, t3⟩ := Q.small vb
      unfold Q.val at *
      obtain ⟨n, d⟩ := a
      obtain ⟨m, o⟩ := b
      dsimp only at O VA VB s1 s2 s3 t1 t2 t3 ⊢
      have m1 := mul_small s1 t2
      have m2 := mul_small t1 s2
      have m3 := mul_small s2 t2
      have w1 : wrap64 (n * o) = n * o := wrap_small (by omega) (by omega)
      have w2 : wrap64 (m * d) = m * d := wrap_small (by omega) (by omega)
      have w3 : wrap64 (d * o) = d * o := wrap_small (by omega) (by omega)
      have w4 : wrap64 (n * o - m * d) = n * o - m * d := wrap_small (by omega) (by omega)
      have MK := Lib.hid (fun w => rmake_any (n * o - m * d) (d * o) (by omega) (by omega) (by omega) (by omega) w)
      clear va vb s1 s2 s3 t1 t2 t3 m1 m2 m3 ha hb
      go_enter Tryd.func25, Tryd.ntmps25
      go_wp2_with fail
      refine (VA.out _).mono ?_
      rintro e w5 ⟨rfl, hk⟩
      obtain ⟨B, hB⟩ : ∃ B, w.heap.size = B := ⟨_, rfl⟩
      rw [hB] at O ⊢
      have O1 := Lib.hid (And.intro (O.out.1.step hk) (And.intro (O.out.2.1.step hk) (O.out.2.2.step hk)))
      clear hk O VA
      have b0 := O1.out.2.1.cell 0
      have b1 := O1.out.2.1.cell 1
      go_wp2_with fail
      refine (VB.out _).mono ?_
      rintro e w6 ⟨rfl, hk⟩
      have O2 := Lib.hid (And.intro (O1.out.1.step hk) (And.intro (O1.out.2.1.step hk) (O1.out.2.2.step hk)))
      clear hk O1 VB b0 b1
      have a0 := O2.out.1.cell 0
      have a1 := O2.out.1.cell 1
      have b0 := O2.out.2.1.cell 0
      have b1 := O2.out.2.1.cell 1
      go_wp2_with fail
      refine (MK.out _).mono ?_
      rintro e w7 ⟨rfl, hk⟩
      have O3 := Lib.hid (O2.out.2.2.step hk)
      clear hk O2 MK a0 a1 b0 b1
      obtain ⟨R, hR⟩ : ∃ R, makeR (n * o - m * d) (d * o) = R := ⟨_, rfl⟩
      rw [hR]
      have E := Lib.hid hR
      clear hR
      obtain ⟨⟨x, y⟩, e⟩ := R
      unfold resV Q.val
      simp only
      have f0 := O3.out.free 0
      have f1 := O3.out.free 1
      have lt := O3.out.lt
      have c0 := O3.out.cell 0
      have c1 := O3.out.cell 1
      go_wp2_with fail
      refine bodyPost_ret (results_own rfl ((O3.out.set 0 _).set 1 _) rfl) rfl ?_
      exact ⟨by rw [E.out]; rfl, ((O3.out.set 0 _).set 1 _).kept⟩
    · have vf := Bool.eq_false_iff.2 vb
      have VA := Lib.hid (fun w => rvalid_any a ha w)
      have VB := Lib.hid (fun w => rvalid_any b hb w)
      rw [va] at VA
      rw [vf] at VB
      have E0 : subR a b = (q0, 1) := by simp [subR, vf]
      rw [E0]
      clear E0
      unfold Q.val at *
      obtain ⟨n, d⟩ := a
      obtain ⟨m, o⟩ := b
      dsimp only at O VA VB ⊢
      go_enter Tryd.func25, Tryd.ntmps25
      go_wp2_with fail
      refine (VA.out _).mono ?_
      rintro e w5 ⟨rfl, hk⟩
      obtain ⟨B, hB⟩ : ∃ B, w.heap.size = B := ⟨_, rfl⟩
      rw [hB] at O ⊢
      have O1 := Lib.hid (And.intro (O.out.1.step hk) (And.intro (O.out.2.1.step hk) (O.out.2.2.step hk)))
      clear hk O VA
      have b0 := O1.out.2.1.cell 0
      have b1 := O1.out.2.1.cell 1
      go_wp2_with fail
      refine (VB.out _).mono ?_
      rintro e w6 ⟨rfl, hk⟩
      have O2 := Lib.hid (And.intro (O1.out.1.step hk) (And.intro (O1.out.2.1.step hk) (O1.out.2.2.step hk)))
      clear hk O1 VB b0 b1
      have f0 := O2.out.2.2.free 0
      have f1 := O2.out.2.2.free 1
      have lt := O2.out.2.2.lt
      have c0 := O2.out.2.2.cell 0
      have c1 := O2.out.2.2.cell 1
      go_wp2_with fail
      refine bodyPost_ret (results_own rfl ((O2.out.2.2.set 0 _).set 1 _) rfl) rfl ?_
      exact ⟨rfl, ((O2.out.2.2.set 0 _).set 1 _).kept⟩
  · have vf := Bool.eq_false_iff.2 va
    have VA := Lib.hid (fun w => rvalid_any a ha w)
    have VB := Lib.hid (fun w => rvalid_any b hb w)
    rw [vf] at VA
    have E0 : subR a b = (q0, 1) := by simp [subR, vf]
    rw [E0]
    clear E0
    unfold Q.val at *
    obtain ⟨n, d⟩ := a
    obtain ⟨m, o⟩ := b
    dsimp only at O VA VB ⊢
    go_enter Tryd.func25, Tryd.ntmps25
    go_wp2_with fail
    refine (VA.out _).mono ?_
    rintro e w5 ⟨rfl, hk⟩
    obtain ⟨B, hB⟩ : ∃ B, w.heap.size = B := ⟨_, rfl⟩
    rw [hB] at O ⊢
    have O1 := Lib.hid (And.intro (O.out.1.step hk) (And.intro (O.out.2.1.step hk) (O.out.2.2.step hk)))
    clear hk O VA
    have f0 := O1.out.2.2.free 0
    have f1 := O1.out.2.2.free 1
    have lt := O1.out.2.2.lt
    have c0 := O1.out.2.2.cell 0
    have c1 := O1.out.2.2.cell 1
    go_wp2_with fail
    refine bodyPost_ret (results_own rfl ((O1.out.2.2.set 0 _).set 1 _) rfl) rfl ?_
    exact ⟨rfl, ((O1.out.2.2.set 0 _).set 1 _).kept⟩

end Go.Proofs.YtacjgkpncdnbgaaDoor
