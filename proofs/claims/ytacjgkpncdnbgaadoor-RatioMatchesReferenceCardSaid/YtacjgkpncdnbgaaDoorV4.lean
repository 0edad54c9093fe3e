/-
  ratio's Make and on, walked. Their condition: integers of Go.
-/
import Derived.Test.YtacjgkpncdnbgaaDoorV3
namespace Go.Proofs.YtacjgkpncdnbgaaDoor
open Go.RowKit

def makeR (n d : Int) : Q × Int := if d = 0 then (q0, 1) else red (!(decide (n < 0) == decide (d < 0))) n.natAbs d.natAbs

set_option maxHeartbeats 800000 in
theorem make_any (n d : Int) (n1 : -9223372036854775808 ≤ n) (n2 : n ≤ 9223372036854775807) (d1 : -9223372036854775808 ≤ d) (d2 : d ≤ 9223372036854775807) (w : World) :
    Calls Tryd.prog 11 #[.int .i64 n, .int .i64 d] w fun e w' => e = .returned (resV (makeR n d)) ∧ Kept w w' := by
  by_cases h0 : d = 0
  · have E : Hid (makeR n d = (q0, 1)) := Lib.hid (by simp [makeR, h0])
    have O : Hid (Own w (w.alloc (.cells #[.int .i64 0, .int .i64 0] 24)) w.heap.size #[.int .i64 0, .int .i64 0]) := Lib.hid (Own.made (Kept.refl w) _)
    subst h0
    go_enter Tryd.func11, Tryd.ntmps11
    go_wp2_with fail
    refine bodyPost_ret (results_own rfl O.out rfl) rfl ?_
    exact ⟨by rw [E.out]; rfl, O.out.kept⟩
  · have E : Hid (makeR n d = red (!(decide (n < 0) == decide (d < 0))) n.natAbs d.natAbs) := Lib.hid (by simp [makeR, h0])
    have O : Hid (Own w (w.alloc (.cells #[.int .i64 0, .int .i64 0] 24)) w.heap.size #[.int .i64 0, .int .i64 0]) := Lib.hid (Own.made (Kept.refl w) _)
    have h0' : 0 < d.natAbs := by omega
    go_enter Tryd.func11, Tryd.ntmps11
    go_wp2_with fail
    generalize w.alloc _ = w1 at *
    refine (mag_any n n1 n2 _).mono ?_
    rintro e w2 ⟨rfl, rfl⟩
    go_wp2_with fail
    refine (mag_any d d1 d2 _).mono ?_
    rintro e w2 ⟨rfl, rfl⟩
    go_wp2_with fail
    refine (reduced_any _ n.natAbs d.natAbs (by omega) (by omega) h0' _).mono ?_
    rintro e w2 ⟨rfl, hk⟩
    have O2 := Lib.hid (O.out.step hk)
    clear hk O
    obtain ⟨R, hR⟩ : ∃ R, red (!(decide (n < 0) == decide (d < 0))) n.natAbs d.natAbs = R := ⟨_, rfl⟩
    rw [hR] at E ⊢
    clear hR
    obtain ⟨⟨x, y⟩, e⟩ := R
    unfold resV Q.val
    simp only
    have f0 := O2.out.free 0
    have f1 := O2.out.free 1
    have lt := O2.out.lt
    have c0 := O2.out.cell 0
    have c1 := O2.out.cell 1
    generalize w.heap.size = B at *
    go_wp2_with fail
    refine bodyPost_ret (results_own rfl ((O2.out.set 0 _).set 1 _) rfl) rfl ?_
    exact ⟨by rw [E.out]; rfl, ((O2.out.set 0 _).set 1 _).kept⟩

theorem Own.at {w w1 : World} (k : Kept w w1) (c : Array Value) {B : Nat} (h : w1.heap.size = B) : Own w (w1.alloc (.cells c 24)) B c := h ▸ Own.made k c
/-- Three blocks made one behind the other. -/
theorem three (w : World) (x y z : Array Value) : Hid (Own w (((w.alloc (.cells x 24)).alloc (.cells y 24)).alloc (.cells z 24)) w.heap.size x ∧
    Own w (((w.alloc (.cells x 24)).alloc (.cells y 24)).alloc (.cells z 24)) (w.heap.size + 1) y ∧
    Own w (((w.alloc (.cells x 24)).alloc (.cells y 24)).alloc (.cells z 24)) (w.heap.size + 1 + 1) z) :=
  Lib.hid ⟨((Own.at (Kept.refl w) x rfl).step ((Kept.refl _).alloc _)).step ((Kept.refl _).alloc _),
    (Own.at ((Kept.refl w).alloc _) y (by simp)).step ((Kept.refl _).alloc _), Own.at (((Kept.refl w).alloc _).alloc _) z (by simp)⟩

set_option maxHeartbeats 800000 in
theorem on_any (a b : Q) (ha : a.wf) (hb : b.wf) (g : FuncId) (p q : Value) (r : Q × Int) (w : World)
    (he : ∀ (args : Array Value) (w : World), (callFunc g args).run Tryd.prog w = .ok (.enter g args) w) (hop : a.valid = true → b.valid = true → ∀ w1, Kept w w1 → Calls Tryd.prog g #[p, q] w1 fun e w' => e = .returned (resV r) ∧ Kept w1 w') :
    Calls Tryd.prog 34 #[a.val, b.val, .func (.func g) #[] #[p, q]] w fun e w' => e = .returned (resV (if a.valid && b.valid then r else (q0, 1))) ∧ Kept w w' := by
  have HOP := Lib.hid hop
  clear hop
  have va := fun w => valid_any a ha w
  have vb := fun w => valid_any b hb w
  generalize a.valid = AV at *
  generalize b.valid = BV at *
  obtain ⟨n, d⟩ := a
  obtain ⟨m, o⟩ := b
  have O := three w #[.int .i64 n, .int .i64 d] #[.int .i64 m, .int .i64 o] #[.int .i64 0, .int .i64 0]
  unfold Q.val at *
  simp only at *
  go_enter Tryd.func34, Tryd.ntmps34
  go_wp2_with fail
  refine (va _).mono ?_
  rintro e w2 ⟨rfl, hk⟩
  obtain ⟨B, hB⟩ : ∃ B, w.heap.size = B := ⟨_, rfl⟩
  rw [hB] at O ⊢
  have O1 := Lib.hid (And.intro (O.out.1.step hk) (And.intro (O.out.2.1.step hk) (O.out.2.2.step hk)))
  clear hk O va
  have a0 := O1.out.1.cell 0
  have a1 := O1.out.1.cell 1
  have b0 := O1.out.2.1.cell 0
  have b1 := O1.out.2.1.cell 1
  have r0 := O1.out.2.2.cell 0
  have r1 := O1.out.2.2.cell 1
  have f0 := O1.out.2.2.free 0
  have f1 := O1.out.2.2.free 1
  have lt := O1.out.2.2.lt
  cases AV
  · go_wp2_with fail
    refine bodyPost_ret (results_own rfl ((O1.out.2.2.set 0 _).set 1 _) rfl) rfl ?_
    exact ⟨rfl, ((O1.out.2.2.set 0 _).set 1 _).kept⟩
  · go_wp2_with fail
    refine (vb _).mono ?_
    rintro e w3 ⟨rfl, hk⟩
    have O2 := Lib.hid (And.intro (O1.out.1.step hk) (And.intro (O1.out.2.1.step hk) (O1.out.2.2.step hk)))
    clear hk O1 vb a0 a1 b0 b1 r0 r1 f0 f1 lt
    have r0 := O2.out.2.2.cell 0
    have r1 := O2.out.2.2.cell 1
    have f0 := O2.out.2.2.free 0
    have f1 := O2.out.2.2.free 1
    have lt := O2.out.2.2.lt
    cases BV
    · go_wp2_with fail
      refine bodyPost_ret (results_own rfl ((O2.out.2.2.set 0 _).set 1 _) rfl) rfl ?_
      exact ⟨rfl, ((O2.out.2.2.set 0 _).set 1 _).kept⟩
    · obtain ⟨⟨x, y⟩, e⟩ := r
      have hop := HOP.out trivial rfl w3 O2.out.1.kept
      unfold resV Q.val at hop
      simp only at hop
      go_wp2_with fail
      refine hop.mono ?_
      rintro e w4 ⟨rfl, hk⟩
      have O3 := Lib.hid (O2.out.2.2.step hk)
      clear hk O2 r0 r1 f0 f1 lt hop he HOP
      have r0 := O3.out.cell 0
      have r1 := O3.out.cell 1
      have f0 := O3.out.free 0
      have f1 := O3.out.free 1
      have lt := O3.out.lt
      go_wp2_with fail
      refine bodyPost_ret (results_own rfl ((O3.out.set 0 _).set 1 _) rfl) rfl ?_
      exact ⟨rfl, ((O3.out.set 0 _).set 1 _).kept⟩
end Go.Proofs.YtacjgkpncdnbgaaDoor
