/-
  The law RatioExact, walked. Its condition: the library's variables are as the program's start leaves them.
-/
import Derived.Test.YtacjgkpncdnbgaaDoorVC
import Derived.Test.YtacjgkpncdnbgaaDoorQ3
namespace Go.Proofs.YtacjgkpncdnbgaaDoor
open Go.RowKit

theorem run_max4 {P : Program} (w : World) (ts : Array TypeId) (t : TypeId) (x y z u : Int) :
    (Builtin.max_ ts t #[.int .i64 x, .int .i64 y, .int .i64 z, .int .i64 u]).run P w = .ok (.int .i64 (max (max (max x y) z) u)) w := by
  have e : ∀ a b : Int, (if b > a then b else a) = max a b := by
    intro a b
    rw [Int.max_def]
    split <;> split <;> omega
  simp only [Builtin.max_, List.foldlM, Builtin.max2, e]
  simp
theorem sub_at {n d m o x y r : Int} (h : subR ⟨n, d⟩ ⟨m, o⟩ = (⟨x, y⟩, r)) (ha : (Q.mk n d).wf) (hb : (Q.mk m o).wf) (w : World) :
    Calls Tryd.prog 24 #[.agg #[.int .i64 n, .int .i64 d], .agg #[.int .i64 m, .int .i64 o]] w fun e w' => e = .returned (.tuple #[.agg #[.int .i64 x, .int .i64 y], .int .i64 r]) ∧ Kept w w' := by
  have := sub_any ⟨n, d⟩ ⟨m, o⟩ ha hb w
  rw [h] at this
  exact this
/-- Two blocks made one behind the other. -/
theorem pair (w : World) (x y : Array Value) : Hid (Own w ((w.alloc (.cells x 24)).alloc (.cells y 24)) w.heap.size x ∧ Own w ((w.alloc (.cells x 24)).alloc (.cells y 24)) (w.heap.size + 1) y) :=
  Lib.hid ⟨(Own.at (Kept.refl w) x rfl).step ((Kept.refl _).alloc _), Own.at ((Kept.refl w).alloc _) y (by simp)⟩

set_option maxRecDepth 100000 in
set_option maxHeartbeats 1600000 in
theorem ratioExact_walk (a : Q) (ha : a.wf) (b : Q) (hb : b.wf) (w : World) (hE : Env w) :
    Calls Tryd.prog 9 #[a.val, b.val] w fun e w' => e = .returned (.bool true) ∧ Kept w w' := by
  have O := pair w #[.int .i64 a.n, .int .i64 a.d] #[.int .i64 b.n, .int .i64 b.d]
  have EN := Lib.hid hE
  obtain ⟨n, d⟩ := a
  obtain ⟨m, o⟩ := b
  unfold Q.val
  dsimp only at O ⊢
  clear hE
  go_enter Tryd.func9, Tryd.ntmps9
  go_wp2_with fail
  have Oa_0 := Lib.hid O.out.1
  have Ob_0 := Lib.hid O.out.2
  have K0 := Lib.hid O.out.1.kept
  clear O
  generalize w.heap.size = Ba at *
  generalize hgen : (w.alloc _).alloc _ = w0 at *
  clear hgen
  refine (head_any _ (EN.out.kept K0.out)).mono ?_
  rintro e w1 ⟨rfl, hk⟩
  have K1 := Lib.hid (K0.out.trans hk)
  have Oa_1 := Lib.hid (Oa_0.out.step hk)
  have Ob_1 := Lib.hid (Ob_0.out.step hk)
  clear K0 Oa_0 Ob_0
  clear hk
  by_cases va : (Q.mk n d).valid = true
  · have ca0 := Oa_1.out.cell 0
    have ca1 := Oa_1.out.cell 1
    have cb0 := Ob_1.out.cell 0
    have cb1 := Ob_1.out.cell 1
    go_wp2_with fail
    refine (valid_at va ha _).mono ?_
    rintro e w2 ⟨rfl, hk⟩
    clear ca0 ca1 cb0 cb1
    have K2 := Lib.hid (K1.out.trans hk)
    have Oa_2 := Lib.hid (Oa_1.out.step hk)
    have Ob_2 := Lib.hid (Ob_1.out.step hk)
    clear K1 Oa_1 Ob_1
    clear hk
    by_cases vb : (Q.mk m o).valid = true
    · have ca0 := Oa_2.out.cell 0
      have ca1 := Oa_2.out.cell 1
      have cb0 := Ob_2.out.cell 0
      have cb1 := Ob_2.out.cell 1
      go_wp2_with fail
      refine (valid_at vb hb _).mono ?_
      rintro e w3 ⟨rfl, hk⟩
      clear ca0 ca1 cb0 cb1
      have K3 := Lib.hid (K2.out.trans hk)
      have Oa_3 := Lib.hid (Oa_2.out.step hk)
      have Ob_3 := Lib.hid (Ob_2.out.step hk)
      clear K2 Oa_2 Ob_2
      clear hk
      obtain ⟨s1, s2, s3⟩ := Q.small va
      obtain ⟨t1, t2, t3⟩ := Q.small vb
      simp only at s1 s2 s3 t1 t2 t3
      have wn : wrap64 (-n) = -n := wrap_small (by omega) (by omega)
      have wm : wrap64 (-m) = -m := wrap_small (by omega) (by omega)
      obtain ⟨T, hT⟩ : ∃ T, max (max (max n (-n)) m) (-m) = T := ⟨_, rfl⟩
      obtain ⟨S, hS⟩ : ∃ S, max d o = S := ⟨_, rfl⟩
      have hmx : ∀ (ts : Array TypeId) (t : TypeId) (w : World), (Builtin.max_ ts t #[.int .i64 n, .int .i64 (-n), .int .i64 m, .int .i64 (-m)]).run Tryd.prog w = .ok (.int .i64 T) w := fun ts t w => by rw [run_max4, hT]
      have HT := Lib.hid hT
      clear hT
      by_cases c1 : 1000 < T
      · have ca0 := Oa_3.out.cell 0
        have ca1 := Oa_3.out.cell 1
        have cb0 := Ob_3.out.cell 0
        have cb1 := Ob_3.out.cell 1
        go_wp2_with fail
        go_ret
        exact ⟨rfl, K3.out⟩
      · by_cases c2 : 1000 < S
        · have ca0 := Oa_3.out.cell 0
          have ca1 := Oa_3.out.cell 1
          have cb0 := Ob_3.out.cell 0
          have cb1 := Ob_3.out.cell 1
          go_wp2_with fail
          go_ret
          exact ⟨rfl, K3.out⟩
        · have HS := Lib.hid hS
          have hT := HT.out
          clear hS
          obtain ⟨l1, l2, l3, l4⟩ : n.natAbs ≤ 1000 ∧ m.natAbs ≤ 1000 ∧ d.natAbs ≤ 1000 ∧ o.natAbs ≤ 1000 := by have := HS.out; omega
          clear hT
          have i1 := mul_bound 1000 1000 l1 l4
          have i2 := mul_bound 1000 1000 l2 l3
          have i3 := mul_bound 1000 1000 l3 l4
          have i4 := mul_bound 1000 1000 l1 l2
          have i5 := mul_bound 1000 1000 l3 l2
          have dd := Q.dd va vb
          simp only at dd
          obtain ⟨⟨sn, sd⟩, e1⟩ := makeR_small (n := n * o + m * d) dd (by omega) (by omega)
          obtain ⟨⟨un, ud⟩, e2⟩ := makeR_small (n := n * o - m * d) dd (by omega) (by omega)
          obtain ⟨⟨pn, pd⟩, e3⟩ := makeR_small (n := n * m) dd (by omega) (by omega)
          obtain ⟨v1, x1⟩ := makeR_ok dd e1
          obtain ⟨v2, x2⟩ := makeR_ok dd e2
          obtain ⟨v3, x3⟩ := makeR_ok dd e3
          have g1 : addR ⟨n, d⟩ ⟨m, o⟩ = (⟨sn, sd⟩, 0) := by rw [addR_eq va vb]; exact e1
          have g2 : subR ⟨n, d⟩ ⟨m, o⟩ = (⟨un, ud⟩, 0) := by rw [subR_eq va vb]; exact e2
          have g3 : mulR ⟨n, d⟩ ⟨m, o⟩ = (⟨pn, pd⟩, 0) := by rw [mulR_eq va vb]; exact e3
          simp only at x1 x2 x3
          obtain ⟨b1, b2, _⟩ := Q.small v1
          obtain ⟨b3, b4, _⟩ := Q.small v2
          obtain ⟨b5, b6, _⟩ := Q.small v3
          simp only at b1 b2 b3 b4 b5 b6
          have j1 := mul_bound 1000000000 1000000 b1 (show (d * o).natAbs ≤ 1000000 by omega)
          have j2 := mul_bound 2000000 1000000000 (show (n * o + m * d).natAbs ≤ 2000000 by omega) b2
          have j3 := mul_bound 1000000000 1000000 b3 (show (d * o).natAbs ≤ 1000000 by omega)
          have j4 := mul_bound 2000000 1000000000 (show (n * o - m * d).natAbs ≤ 2000000 by omega) b4
          have j5 := mul_bound 1000000000 1000000 b5 (show (d * o).natAbs ≤ 1000000 by omega)
          have j6 := mul_bound 1000000 1000000000 (show (n * m).natAbs ≤ 1000000 by omega) b6
          have r1 : wrap64 (n * o) = n * o := wrap_small (by omega) (by omega)
          have r2 : wrap64 (m * d) = m * d := wrap_small (by omega) (by omega)
          have r3 : wrap64 (d * o) = d * o := wrap_small (by omega) (by omega)
          have r4 : wrap64 (n * m) = n * m := wrap_small (by omega) (by omega)
          have r5 : wrap64 (n * o + m * d) = n * o + m * d := wrap_small (by omega) (by omega)
          have r6 : wrap64 (n * o - m * d) = n * o - m * d := wrap_small (by omega) (by omega)
          have r7 : wrap64 (sn * (d * o)) = (n * o + m * d) * sd := by rw [← x1]; exact wrap_small (by omega) (by omega)
          have r8 : wrap64 ((n * o + m * d) * sd) = (n * o + m * d) * sd := wrap_small (by omega) (by omega)
          have r9 : wrap64 (un * (d * o)) = (n * o - m * d) * ud := by rw [← x2]; exact wrap_small (by omega) (by omega)
          have r10 : wrap64 ((n * o - m * d) * ud) = (n * o - m * d) * ud := wrap_small (by omega) (by omega)
          have r11 : wrap64 (pn * (d * o)) = n * m * pd := by rw [← x3]; exact wrap_small (by omega) (by omega)
          have r12 : wrap64 (n * m * pd) = n * m * pd := wrap_small (by omega) (by omega)
          have AD := Lib.hid (fun w => add_at g1 ha hb w)
          have SU := Lib.hid (fun w => sub_at g2 ha hb w)
          have MU := Lib.hid (fun w => mul_at g3 ha hb w)
          have VS := Lib.hid (fun w => valid_at v1 (Q.wf_of v1) w)
          have VU := Lib.hid (fun w => valid_at v2 (Q.wf_of v2) w)
          have VP := Lib.hid (fun w => valid_at v3 (Q.wf_of v3) w)
          clear x1 x2 x3 e1 e2 e3 g1 g2 g3 b1 b2 b3 b4 b5 b6 j1 j2 j3 j4 j5 j6 dd wn wm
          by_cases h0 : m = 0
          · have DI := Lib.hid (fun w => div_at (x := 0) (y := 0) (divR_zero va vb h0) ha hb w)
            have H0 := Lib.hid h0
            clear i1 i2 i3 i4 i5 h0
            have ca0 := Oa_3.out.cell 0
            have ca1 := Oa_3.out.cell 1
            have cb0 := Ob_3.out.cell 0
            have cb1 := Ob_3.out.cell 1
            go_wp2_with fail
            refine (AD.out _).mono ?_
            rintro e w4 ⟨rfl, hk⟩
            clear ca0 ca1 cb0 cb1
            have K4 := Lib.hid (K3.out.trans hk)
            have Oa_4 := Lib.hid (Oa_3.out.step hk)
            have Ob_4 := Lib.hid (Ob_3.out.step hk)
            clear K3 Oa_3 Ob_3
            clear hk
            have Ns := Lib.hid (Own.made K4.out #[.int .i64 (sn), .int .i64 (sd)])
            have K5 := Lib.hid (K4.out.trans ((Kept.refl w4).alloc (.cells #[.int .i64 (sn), .int .i64 (sd)] 24)))
            have Oa_5 := Lib.hid (Oa_4.out.step ((Kept.refl w4).alloc (.cells #[.int .i64 (sn), .int .i64 (sd)] 24)))
            have Ob_5 := Lib.hid (Ob_4.out.step ((Kept.refl w4).alloc (.cells #[.int .i64 (sn), .int .i64 (sd)] 24)))
            clear K4 Oa_4 Ob_4
            have Os_5 := Ns
            clear Ns
            have ca0 := Oa_5.out.cell 0
            have ca1 := Oa_5.out.cell 1
            have cb0 := Ob_5.out.cell 0
            have cb1 := Ob_5.out.cell 1
            go_wp2_with fail
            clear ca0 ca1 cb0 cb1
            generalize w4.heap.size = Bs at *
            generalize w4.alloc _ = w5 at *
            refine (SU.out _).mono ?_
            rintro e w6 ⟨rfl, hk⟩
            have K6 := Lib.hid (K5.out.trans hk)
            have Oa_6 := Lib.hid (Oa_5.out.step hk)
            have Ob_6 := Lib.hid (Ob_5.out.step hk)
            have Os_6 := Lib.hid (Os_5.out.step hk)
            clear K5 Oa_5 Ob_5 Os_5
            clear hk
            have Nu := Lib.hid (Own.made K6.out #[.int .i64 (un), .int .i64 (ud)])
            have K7 := Lib.hid (K6.out.trans ((Kept.refl w6).alloc (.cells #[.int .i64 (un), .int .i64 (ud)] 24)))
            have Oa_7 := Lib.hid (Oa_6.out.step ((Kept.refl w6).alloc (.cells #[.int .i64 (un), .int .i64 (ud)] 24)))
            have Ob_7 := Lib.hid (Ob_6.out.step ((Kept.refl w6).alloc (.cells #[.int .i64 (un), .int .i64 (ud)] 24)))
            have Os_7 := Lib.hid (Os_6.out.step ((Kept.refl w6).alloc (.cells #[.int .i64 (un), .int .i64 (ud)] 24)))
            clear K6 Oa_6 Ob_6 Os_6
            have Ou_7 := Nu
            clear Nu
            have ca0 := Oa_7.out.cell 0
            have ca1 := Oa_7.out.cell 1
            have cb0 := Ob_7.out.cell 0
            have cb1 := Ob_7.out.cell 1
            go_wp2_with fail
            clear ca0 ca1 cb0 cb1
            generalize w6.heap.size = Bu at *
            generalize w6.alloc _ = w7 at *
            refine (MU.out _).mono ?_
            rintro e w8 ⟨rfl, hk⟩
            have K8 := Lib.hid (K7.out.trans hk)
            have Oa_8 := Lib.hid (Oa_7.out.step hk)
            have Ob_8 := Lib.hid (Ob_7.out.step hk)
            have Os_8 := Lib.hid (Os_7.out.step hk)
            have Ou_8 := Lib.hid (Ou_7.out.step hk)
            clear K7 Oa_7 Ob_7 Os_7 Ou_7
            clear hk
            have Np := Lib.hid (Own.made K8.out #[.int .i64 (pn), .int .i64 (pd)])
            have K9 := Lib.hid (K8.out.trans ((Kept.refl w8).alloc (.cells #[.int .i64 (pn), .int .i64 (pd)] 24)))
            have Oa_9 := Lib.hid (Oa_8.out.step ((Kept.refl w8).alloc (.cells #[.int .i64 (pn), .int .i64 (pd)] 24)))
            have Ob_9 := Lib.hid (Ob_8.out.step ((Kept.refl w8).alloc (.cells #[.int .i64 (pn), .int .i64 (pd)] 24)))
            have Os_9 := Lib.hid (Os_8.out.step ((Kept.refl w8).alloc (.cells #[.int .i64 (pn), .int .i64 (pd)] 24)))
            have Ou_9 := Lib.hid (Ou_8.out.step ((Kept.refl w8).alloc (.cells #[.int .i64 (pn), .int .i64 (pd)] 24)))
            clear K8 Oa_8 Ob_8 Os_8 Ou_8
            have Op_9 := Np
            clear Np
            have ca0 := Oa_9.out.cell 0
            have ca1 := Oa_9.out.cell 1
            have cb0 := Ob_9.out.cell 0
            have cb1 := Ob_9.out.cell 1
            go_wp2_with fail
            clear ca0 ca1 cb0 cb1
            generalize w8.heap.size = Bp at *
            generalize w8.alloc _ = w9 at *
            refine (DI.out _).mono ?_
            rintro e w10 ⟨rfl, hk⟩
            have K10 := Lib.hid (K9.out.trans hk)
            have Oa_10 := Lib.hid (Oa_9.out.step hk)
            have Ob_10 := Lib.hid (Ob_9.out.step hk)
            have Os_10 := Lib.hid (Os_9.out.step hk)
            have Ou_10 := Lib.hid (Ou_9.out.step hk)
            have Op_10 := Lib.hid (Op_9.out.step hk)
            clear K9 Oa_9 Ob_9 Os_9 Ou_9 Op_9
            clear hk
            have Nq := Lib.hid (Own.made K10.out #[.int .i64 (0), .int .i64 (0)])
            have K11 := Lib.hid (K10.out.trans ((Kept.refl w10).alloc (.cells #[.int .i64 (0), .int .i64 (0)] 24)))
            have Oa_11 := Lib.hid (Oa_10.out.step ((Kept.refl w10).alloc (.cells #[.int .i64 (0), .int .i64 (0)] 24)))
            have Ob_11 := Lib.hid (Ob_10.out.step ((Kept.refl w10).alloc (.cells #[.int .i64 (0), .int .i64 (0)] 24)))
            have Os_11 := Lib.hid (Os_10.out.step ((Kept.refl w10).alloc (.cells #[.int .i64 (0), .int .i64 (0)] 24)))
            have Ou_11 := Lib.hid (Ou_10.out.step ((Kept.refl w10).alloc (.cells #[.int .i64 (0), .int .i64 (0)] 24)))
            have Op_11 := Lib.hid (Op_10.out.step ((Kept.refl w10).alloc (.cells #[.int .i64 (0), .int .i64 (0)] 24)))
            clear K10 Oa_10 Ob_10 Os_10 Ou_10 Op_10
            have Oq_11 := Nq
            clear Nq
            have ca0 := Oa_11.out.cell 0
            have ca1 := Oa_11.out.cell 1
            have cb0 := Ob_11.out.cell 0
            have cb1 := Ob_11.out.cell 1
            have cs0 := Os_11.out.cell 0
            have cs1 := Os_11.out.cell 1
            have cu0 := Ou_11.out.cell 0
            have cu1 := Ou_11.out.cell 1
            have cp0 := Op_11.out.cell 0
            have cp1 := Op_11.out.cell 1
            go_wp2_with fail
            clear ca0 ca1 cb0 cb1 cs0 cs1 cu0 cu1 cp0 cp1
            generalize w10.heap.size = Bq at *
            generalize w10.alloc _ = w11 at *
            refine (VS.out _).mono ?_
            rintro e w12 ⟨rfl, hk⟩
            have K12 := Lib.hid (K11.out.trans hk)
            have Oa_12 := Lib.hid (Oa_11.out.step hk)
            have Ob_12 := Lib.hid (Ob_11.out.step hk)
            have Os_12 := Lib.hid (Os_11.out.step hk)
            have Ou_12 := Lib.hid (Ou_11.out.step hk)
            have Op_12 := Lib.hid (Op_11.out.step hk)
            have Oq_12 := Lib.hid (Oq_11.out.step hk)
            clear K11 Oa_11 Ob_11 Os_11 Ou_11 Op_11 Oq_11
            clear hk
            have ca0 := Oa_12.out.cell 0
            have ca1 := Oa_12.out.cell 1
            have cb0 := Ob_12.out.cell 0
            have cb1 := Ob_12.out.cell 1
            have cs0 := Os_12.out.cell 0
            have cs1 := Os_12.out.cell 1
            have cu0 := Ou_12.out.cell 0
            have cu1 := Ou_12.out.cell 1
            have cp0 := Op_12.out.cell 0
            have cp1 := Op_12.out.cell 1
            go_wp2_with fail
            refine (VU.out _).mono ?_
            rintro e w13 ⟨rfl, hk⟩
            clear ca0 ca1 cb0 cb1 cs0 cs1 cu0 cu1 cp0 cp1
            have K13 := Lib.hid (K12.out.trans hk)
            have Oa_13 := Lib.hid (Oa_12.out.step hk)
            have Ob_13 := Lib.hid (Ob_12.out.step hk)
            have Os_13 := Lib.hid (Os_12.out.step hk)
            have Ou_13 := Lib.hid (Ou_12.out.step hk)
            have Op_13 := Lib.hid (Op_12.out.step hk)
            have Oq_13 := Lib.hid (Oq_12.out.step hk)
            clear K12 Oa_12 Ob_12 Os_12 Ou_12 Op_12 Oq_12
            clear hk
            have ca0 := Oa_13.out.cell 0
            have ca1 := Oa_13.out.cell 1
            have cb0 := Ob_13.out.cell 0
            have cb1 := Ob_13.out.cell 1
            have cs0 := Os_13.out.cell 0
            have cs1 := Os_13.out.cell 1
            have cu0 := Ou_13.out.cell 0
            have cu1 := Ou_13.out.cell 1
            have cp0 := Op_13.out.cell 0
            have cp1 := Op_13.out.cell 1
            go_wp2_with fail
            refine (VP.out _).mono ?_
            rintro e w14 ⟨rfl, hk⟩
            clear ca0 ca1 cb0 cb1 cs0 cs1 cu0 cu1 cp0 cp1
            have K14 := Lib.hid (K13.out.trans hk)
            have Oa_14 := Lib.hid (Oa_13.out.step hk)
            have Ob_14 := Lib.hid (Ob_13.out.step hk)
            have Os_14 := Lib.hid (Os_13.out.step hk)
            have Ou_14 := Lib.hid (Ou_13.out.step hk)
            have Op_14 := Lib.hid (Op_13.out.step hk)
            have Oq_14 := Lib.hid (Oq_13.out.step hk)
            clear K13 Oa_13 Ob_13 Os_13 Ou_13 Op_13 Oq_13
            clear hk
            have hm0 : (m == 0) = true := by simp [H0.out]
            have ca0 := Oa_14.out.cell 0
            have ca1 := Oa_14.out.cell 1
            have cb0 := Ob_14.out.cell 0
            have cb1 := Ob_14.out.cell 1
            have cs0 := Os_14.out.cell 0
            have cs1 := Os_14.out.cell 1
            have cu0 := Ou_14.out.cell 0
            have cu1 := Ou_14.out.cell 1
            have cp0 := Op_14.out.cell 0
            have cp1 := Op_14.out.cell 1
            have cq0 := Oq_14.out.cell 0
            have cq1 := Oq_14.out.cell 1
            go_wp2_with fail
            go_ret
            exact ⟨rfl, K14.out⟩
          · have hm0 : (m == 0) = false := by simpa using h0
            have s5 : d * m ≠ 0 := Int.mul_ne_zero (by omega) h0
            obtain ⟨⟨qn, qd⟩, e4⟩ := makeR_small (n := n * o) s5 (by omega) (by omega)
            obtain ⟨v4, x4⟩ := makeR_ok s5 e4
            have g4 : divR ⟨n, d⟩ ⟨m, o⟩ = (⟨qn, qd⟩, 0) := by rw [divR_eq va vb h0]; exact e4
            simp only at x4
            obtain ⟨b7, b8, _⟩ := Q.small v4
            simp only at b7 b8
            have j7 := mul_bound 1000000000 1000000 b7 (show (d * m).natAbs ≤ 1000000 by omega)
            have j8 := mul_bound 1000000 1000000000 (show (n * o).natAbs ≤ 1000000 by omega) b8
            have r13 : wrap64 (d * m) = d * m := wrap_small (by omega) (by omega)
            have r14 : wrap64 (qn * (d * m)) = n * o * qd := by rw [← x4]; exact wrap_small (by omega) (by omega)
            have r15 : wrap64 (n * o * qd) = n * o * qd := wrap_small (by omega) (by omega)
            have DI := Lib.hid (fun w => div_at g4 ha hb w)
            have VQ := Lib.hid (fun w => valid_at v4 (Q.wf_of v4) w)
            clear h0 i1 i2 i3 i4 i5 j7 j8 b7 b8 x4 e4 g4 s5
            have ca0 := Oa_3.out.cell 0
            have ca1 := Oa_3.out.cell 1
            have cb0 := Ob_3.out.cell 0
            have cb1 := Ob_3.out.cell 1
            go_wp2_with fail
            refine (AD.out _).mono ?_
            rintro e w4 ⟨rfl, hk⟩
            clear ca0 ca1 cb0 cb1
            have K4 := Lib.hid (K3.out.trans hk)
            have Oa_4 := Lib.hid (Oa_3.out.step hk)
            have Ob_4 := Lib.hid (Ob_3.out.step hk)
            clear K3 Oa_3 Ob_3
            clear hk
            have Ns := Lib.hid (Own.made K4.out #[.int .i64 (sn), .int .i64 (sd)])
            have K5 := Lib.hid (K4.out.trans ((Kept.refl w4).alloc (.cells #[.int .i64 (sn), .int .i64 (sd)] 24)))
            have Oa_5 := Lib.hid (Oa_4.out.step ((Kept.refl w4).alloc (.cells #[.int .i64 (sn), .int .i64 (sd)] 24)))
            have Ob_5 := Lib.hid (Ob_4.out.step ((Kept.refl w4).alloc (.cells #[.int .i64 (sn), .int .i64 (sd)] 24)))
            clear K4 Oa_4 Ob_4
            have Os_5 := Ns
            clear Ns
            have ca0 := Oa_5.out.cell 0
            have ca1 := Oa_5.out.cell 1
            have cb0 := Ob_5.out.cell 0
            have cb1 := Ob_5.out.cell 1
            go_wp2_with fail
            clear ca0 ca1 cb0 cb1
            generalize w4.heap.size = Bs at *
            generalize w4.alloc _ = w5 at *
            refine (SU.out _).mono ?_
            rintro e w6 ⟨rfl, hk⟩
            have K6 := Lib.hid (K5.out.trans hk)
            have Oa_6 := Lib.hid (Oa_5.out.step hk)
            have Ob_6 := Lib.hid (Ob_5.out.step hk)
            have Os_6 := Lib.hid (Os_5.out.step hk)
            clear K5 Oa_5 Ob_5 Os_5
            clear hk
            have Nu := Lib.hid (Own.made K6.out #[.int .i64 (un), .int .i64 (ud)])
            have K7 := Lib.hid (K6.out.trans ((Kept.refl w6).alloc (.cells #[.int .i64 (un), .int .i64 (ud)] 24)))
            have Oa_7 := Lib.hid (Oa_6.out.step ((Kept.refl w6).alloc (.cells #[.int .i64 (un), .int .i64 (ud)] 24)))
            have Ob_7 := Lib.hid (Ob_6.out.step ((Kept.refl w6).alloc (.cells #[.int .i64 (un), .int .i64 (ud)] 24)))
            have Os_7 := Lib.hid (Os_6.out.step ((Kept.refl w6).alloc (.cells #[.int .i64 (un), .int .i64 (ud)] 24)))
            clear K6 Oa_6 Ob_6 Os_6
            have Ou_7 := Nu
            clear Nu
            have ca0 := Oa_7.out.cell 0
            have ca1 := Oa_7.out.cell 1
            have cb0 := Ob_7.out.cell 0
            have cb1 := Ob_7.out.cell 1
            go_wp2_with fail
            clear ca0 ca1 cb0 cb1
            generalize w6.heap.size = Bu at *
            generalize w6.alloc _ = w7 at *
            refine (MU.out _).mono ?_
            rintro e w8 ⟨rfl, hk⟩
            have K8 := Lib.hid (K7.out.trans hk)
            have Oa_8 := Lib.hid (Oa_7.out.step hk)
            have Ob_8 := Lib.hid (Ob_7.out.step hk)
            have Os_8 := Lib.hid (Os_7.out.step hk)
            have Ou_8 := Lib.hid (Ou_7.out.step hk)
            clear K7 Oa_7 Ob_7 Os_7 Ou_7
            clear hk
            have Np := Lib.hid (Own.made K8.out #[.int .i64 (pn), .int .i64 (pd)])
            have K9 := Lib.hid (K8.out.trans ((Kept.refl w8).alloc (.cells #[.int .i64 (pn), .int .i64 (pd)] 24)))
            have Oa_9 := Lib.hid (Oa_8.out.step ((Kept.refl w8).alloc (.cells #[.int .i64 (pn), .int .i64 (pd)] 24)))
            have Ob_9 := Lib.hid (Ob_8.out.step ((Kept.refl w8).alloc (.cells #[.int .i64 (pn), .int .i64 (pd)] 24)))
            have Os_9 := Lib.hid (Os_8.out.step ((Kept.refl w8).alloc (.cells #[.int .i64 (pn), .int .i64 (pd)] 24)))
            have Ou_9 := Lib.hid (Ou_8.out.step ((Kept.refl w8).alloc (.cells #[.int .i64 (pn), .int .i64 (pd)] 24)))
            clear K8 Oa_8 Ob_8 Os_8 Ou_8
            have Op_9 := Np
            clear Np
            have ca0 := Oa_9.out.cell 0
            have ca1 := Oa_9.out.cell 1
            have cb0 := Ob_9.out.cell 0
            have cb1 := Ob_9.out.cell 1
            go_wp2_with fail
            clear ca0 ca1 cb0 cb1
            generalize w8.heap.size = Bp at *
            generalize w8.alloc _ = w9 at *
            refine (DI.out _).mono ?_
            rintro e w10 ⟨rfl, hk⟩
            have K10 := Lib.hid (K9.out.trans hk)
            have Oa_10 := Lib.hid (Oa_9.out.step hk)
            have Ob_10 := Lib.hid (Ob_9.out.step hk)
            have Os_10 := Lib.hid (Os_9.out.step hk)
            have Ou_10 := Lib.hid (Ou_9.out.step hk)
            have Op_10 := Lib.hid (Op_9.out.step hk)
            clear K9 Oa_9 Ob_9 Os_9 Ou_9 Op_9
            clear hk
            have Nq := Lib.hid (Own.made K10.out #[.int .i64 (qn), .int .i64 (qd)])
            have K11 := Lib.hid (K10.out.trans ((Kept.refl w10).alloc (.cells #[.int .i64 (qn), .int .i64 (qd)] 24)))
            have Oa_11 := Lib.hid (Oa_10.out.step ((Kept.refl w10).alloc (.cells #[.int .i64 (qn), .int .i64 (qd)] 24)))
            have Ob_11 := Lib.hid (Ob_10.out.step ((Kept.refl w10).alloc (.cells #[.int .i64 (qn), .int .i64 (qd)] 24)))
            have Os_11 := Lib.hid (Os_10.out.step ((Kept.refl w10).alloc (.cells #[.int .i64 (qn), .int .i64 (qd)] 24)))
            have Ou_11 := Lib.hid (Ou_10.out.step ((Kept.refl w10).alloc (.cells #[.int .i64 (qn), .int .i64 (qd)] 24)))
            have Op_11 := Lib.hid (Op_10.out.step ((Kept.refl w10).alloc (.cells #[.int .i64 (qn), .int .i64 (qd)] 24)))
            clear K10 Oa_10 Ob_10 Os_10 Ou_10 Op_10
            have Oq_11 := Nq
            clear Nq
            have ca0 := Oa_11.out.cell 0
            have ca1 := Oa_11.out.cell 1
            have cb0 := Ob_11.out.cell 0
            have cb1 := Ob_11.out.cell 1
            have cs0 := Os_11.out.cell 0
            have cs1 := Os_11.out.cell 1
            have cu0 := Ou_11.out.cell 0
            have cu1 := Ou_11.out.cell 1
            have cp0 := Op_11.out.cell 0
            have cp1 := Op_11.out.cell 1
            go_wp2_with fail
            clear ca0 ca1 cb0 cb1 cs0 cs1 cu0 cu1 cp0 cp1
            generalize w10.heap.size = Bq at *
            generalize w10.alloc _ = w11 at *
            refine (VS.out _).mono ?_
            rintro e w12 ⟨rfl, hk⟩
            have K12 := Lib.hid (K11.out.trans hk)
            have Oa_12 := Lib.hid (Oa_11.out.step hk)
            have Ob_12 := Lib.hid (Ob_11.out.step hk)
            have Os_12 := Lib.hid (Os_11.out.step hk)
            have Ou_12 := Lib.hid (Ou_11.out.step hk)
            have Op_12 := Lib.hid (Op_11.out.step hk)
            have Oq_12 := Lib.hid (Oq_11.out.step hk)
            clear K11 Oa_11 Ob_11 Os_11 Ou_11 Op_11 Oq_11
            clear hk
            have ca0 := Oa_12.out.cell 0
            have ca1 := Oa_12.out.cell 1
            have cb0 := Ob_12.out.cell 0
            have cb1 := Ob_12.out.cell 1
            have cs0 := Os_12.out.cell 0
            have cs1 := Os_12.out.cell 1
            have cu0 := Ou_12.out.cell 0
            have cu1 := Ou_12.out.cell 1
            have cp0 := Op_12.out.cell 0
            have cp1 := Op_12.out.cell 1
            go_wp2_with fail
            refine (VU.out _).mono ?_
            rintro e w13 ⟨rfl, hk⟩
            clear ca0 ca1 cb0 cb1 cs0 cs1 cu0 cu1 cp0 cp1
            have K13 := Lib.hid (K12.out.trans hk)
            have Oa_13 := Lib.hid (Oa_12.out.step hk)
            have Ob_13 := Lib.hid (Ob_12.out.step hk)
            have Os_13 := Lib.hid (Os_12.out.step hk)
            have Ou_13 := Lib.hid (Ou_12.out.step hk)
            have Op_13 := Lib.hid (Op_12.out.step hk)
            have Oq_13 := Lib.hid (Oq_12.out.step hk)
            clear K12 Oa_12 Ob_12 Os_12 Ou_12 Op_12 Oq_12
            clear hk
            have ca0 := Oa_13.out.cell 0
            have ca1 := Oa_13.out.cell 1
            have cb0 := Ob_13.out.cell 0
            have cb1 := Ob_13.out.cell 1
            have cs0 := Os_13.out.cell 0
            have cs1 := Os_13.out.cell 1
            have cu0 := Ou_13.out.cell 0
            have cu1 := Ou_13.out.cell 1
            have cp0 := Op_13.out.cell 0
            have cp1 := Op_13.out.cell 1
            go_wp2_with fail
            refine (VP.out _).mono ?_
            rintro e w14 ⟨rfl, hk⟩
            clear ca0 ca1 cb0 cb1 cs0 cs1 cu0 cu1 cp0 cp1
            have K14 := Lib.hid (K13.out.trans hk)
            have Oa_14 := Lib.hid (Oa_13.out.step hk)
            have Ob_14 := Lib.hid (Ob_13.out.step hk)
            have Os_14 := Lib.hid (Os_13.out.step hk)
            have Ou_14 := Lib.hid (Ou_13.out.step hk)
            have Op_14 := Lib.hid (Op_13.out.step hk)
            have Oq_14 := Lib.hid (Oq_13.out.step hk)
            clear K13 Oa_13 Ob_13 Os_13 Ou_13 Op_13 Oq_13
            clear hk
            have ca0 := Oa_14.out.cell 0
            have ca1 := Oa_14.out.cell 1
            have cb0 := Ob_14.out.cell 0
            have cb1 := Ob_14.out.cell 1
            have cs0 := Os_14.out.cell 0
            have cs1 := Os_14.out.cell 1
            have cu0 := Ou_14.out.cell 0
            have cu1 := Ou_14.out.cell 1
            have cp0 := Op_14.out.cell 0
            have cp1 := Op_14.out.cell 1
            have cq0 := Oq_14.out.cell 0
            have cq1 := Oq_14.out.cell 1
            go_wp2_with fail
            refine (VQ.out _).mono ?_
            rintro e w15 ⟨rfl, hk⟩
            clear ca0 ca1 cb0 cb1 cs0 cs1 cu0 cu1 cp0 cp1 cq0 cq1
            have K15 := Lib.hid (K14.out.trans hk)
            have Oa_15 := Lib.hid (Oa_14.out.step hk)
            have Ob_15 := Lib.hid (Ob_14.out.step hk)
            have Os_15 := Lib.hid (Os_14.out.step hk)
            have Ou_15 := Lib.hid (Ou_14.out.step hk)
            have Op_15 := Lib.hid (Op_14.out.step hk)
            have Oq_15 := Lib.hid (Oq_14.out.step hk)
            clear K14 Oa_14 Ob_14 Os_14 Ou_14 Op_14 Oq_14
            clear hk
            have ca0 := Oa_15.out.cell 0
            have ca1 := Oa_15.out.cell 1
            have cb0 := Ob_15.out.cell 0
            have cb1 := Ob_15.out.cell 1
            have cs0 := Os_15.out.cell 0
            have cs1 := Os_15.out.cell 1
            have cu0 := Ou_15.out.cell 0
            have cu1 := Ou_15.out.cell 1
            have cp0 := Op_15.out.cell 0
            have cp1 := Op_15.out.cell 1
            have cq0 := Oq_15.out.cell 0
            have cq1 := Oq_15.out.cell 1
            go_wp2_with fail
            go_ret
            exact ⟨rfl, K15.out⟩
    · have vbf := Bool.eq_false_iff.2 vb
      have ca0 := Oa_2.out.cell 0
      have ca1 := Oa_2.out.cell 1
      have cb0 := Ob_2.out.cell 0
      have cb1 := Ob_2.out.cell 1
      go_wp2_with fail
      refine (valid_at vbf hb _).mono ?_
      rintro e w3 ⟨rfl, hk⟩
      clear ca0 ca1 cb0 cb1
      have K3 := Lib.hid (K2.out.trans hk)
      have Oa_3 := Lib.hid (Oa_2.out.step hk)
      have Ob_3 := Lib.hid (Ob_2.out.step hk)
      clear K2 Oa_2 Ob_2
      clear hk
      go_wp2_with fail
      go_ret
      exact ⟨rfl, K3.out⟩
  · have vaf := Bool.eq_false_iff.2 va
    have ca0 := Oa_1.out.cell 0
    have ca1 := Oa_1.out.cell 1
    have cb0 := Ob_1.out.cell 0
    have cb1 := Ob_1.out.cell 1
    go_wp2_with fail
    refine (valid_at vaf ha _).mono ?_
    rintro e w2 ⟨rfl, hk⟩
    clear ca0 ca1 cb0 cb1
    have K2 := Lib.hid (K1.out.trans hk)
    have Oa_2 := Lib.hid (Oa_1.out.step hk)
    have Ob_2 := Lib.hid (Ob_1.out.step hk)
    clear K1 Oa_1 Ob_1
    clear hk
    go_wp2_with fail
    go_ret
    exact ⟨rfl, K2.out⟩
end Go.Proofs.YtacjgkpncdnbgaaDoor
