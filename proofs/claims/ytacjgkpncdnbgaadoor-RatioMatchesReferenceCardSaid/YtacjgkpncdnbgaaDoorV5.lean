/-
  ratio's Add and Sub, walked. Their condition: integers of Go.
-/
import Derived.Test.YtacjgkpncdnbgaaDoorV4
import Derived.Shelf.Abstract
namespace Go.Proofs.YtacjgkpncdnbgaaDoor
open Go.RowKit

theorem mul_small {a b : Int} (ha : a.natAbs ≤ 1000000000) (hb : b.natAbs ≤ 1000000000) : -1000000000000000000 ≤ a * b ∧ a * b ≤ 1000000000000000000 := by
  have h := Nat.mul_le_mul ha hb
  rw [← Int.natAbs_mul] at h
  omega
theorem wrap_small {x : Int} (h1 : -4000000000000000000 ≤ x) (h2 : x ≤ 4000000000000000000) : wrap64 x = x := by
  unfold wrap64; omega
/-- The parts of a valid ratio. -/
theorem Q.small {a : Q} (h : a.valid = true) : a.n.natAbs ≤ 1000000000 ∧ a.d.natAbs ≤ 1000000000 ∧ 0 < a.d := by
  obtain ⟨h1, h2, h3, _⟩ := (Q.valid_iff a).1 h
  exact ⟨h3, by omega, h1⟩
def addR (a b : Q) : Q × Int := if a.valid && b.valid then makeR (a.n * b.d + b.n * a.d) (a.d * b.d) else (q0, 1)
def subR (a b : Q) : Q × Int := if a.valid && b.valid then makeR (a.n * b.d - b.n * a.d) (a.d * b.d) else (q0, 1)

set_option maxHeartbeats 800000 in
theorem add1_any (a b : Q) (ha : a.valid = true) (hb : b.valid = true) (A B : Nat) (w : World)
    (c0 : w.cell? ⟨A, 0, none⟩ = some (.int .i64 a.n)) (c1 : w.cell? ⟨A, 1, none⟩ = some (.int .i64 a.d)) (c2 : w.cell? ⟨B, 0, none⟩ = some (.int .i64 b.n)) (c3 : w.cell? ⟨B, 1, none⟩ = some (.int .i64 b.d)) :
    Calls Tryd.prog 35 #[.pointer (some ⟨A, 0, none⟩), .pointer (some ⟨B, 0, none⟩)] w fun e w' => e = .returned (resV (makeR (a.n * b.d + b.n * a.d) (a.d * b.d))) ∧ Kept w w' := by
  obtain ⟨n, d⟩ := a
  obtain ⟨m, o⟩ := b
  obtain ⟨s1, s2, s3⟩ := Q.small ha
  obtain ⟨t1, t2, t3⟩ := Q.small hb
  simp only at s1 s2 s3 t1 t2 t3 c0 c1 c2 c3 ⊢
  have m1 := mul_small s1 t2
  have m2 := mul_small t1 s2
  have m3 := mul_small s2 t2
  have w1 : wrap64 (n * o) = n * o := wrap_small (by omega) (by omega)
  have w2 : wrap64 (m * d) = m * d := wrap_small (by omega) (by omega)
  have w3 : wrap64 (d * o) = d * o := wrap_small (by omega) (by omega)
  have w4 : wrap64 (n * o + m * d) = n * o + m * d := wrap_small (by omega) (by omega)
  have O : Hid (Own w (w.alloc (.cells #[.int .i64 0, .int .i64 0] 24)) w.heap.size #[.int .i64 0, .int .i64 0]) := Lib.hid (Own.made (Kept.refl w) _)
  have MK := Lib.hid (fun w => make_any (n * o + m * d) (d * o) (by omega) (by omega) (by omega) (by omega) w)
  clear ha hb s1 s2 s3 t1 t2 t3 m1 m2 m3
  have kk := fun (p : Addr) (v : Value) (h : w.cell? p = some v) => ((Kept.refl w).alloc (.cells #[.int .i64 0, .int .i64 0] 24)).cell h
  have c0 := kk _ _ c0
  have c1 := kk _ _ c1
  have c2 := kk _ _ c2
  have c3 := kk _ _ c3
  clear kk
  go_enter Tryd.func35, Tryd.ntmps35
  go_wp2_with fail
  refine (MK.out _).mono ?_
  rintro e w5 ⟨rfl, hk⟩
  generalize w.heap.size = B at *
  generalize w.alloc _ = w6 at *
  have O2 := Lib.hid (O.out.step hk)
  obtain ⟨R, hR⟩ : ∃ R, makeR (n * o + m * d) (d * o) = R := ⟨_, rfl⟩
  rw [hR]
  have E := Lib.hid hR
  obtain ⟨⟨x, y⟩, e⟩ := R
  clear hk O MK c0 c1 c2 c3 hR
  unfold resV Q.val
  simp only
  have f0 := O2.out.free 0
  have f1 := O2.out.free 1
  have lt := O2.out.lt
  have c0 := O2.out.cell 0
  have c1 := O2.out.cell 1
  go_wp2_with fail
  refine bodyPost_ret (results_own rfl ((O2.out.set 0 _).set 1 _) rfl) rfl ?_
  exact ⟨by rw [E.out]; rfl, ((O2.out.set 0 _).set 1 _).kept⟩

set_option maxHeartbeats 800000 in
theorem add_any (a b : Q) (ha : a.wf) (hb : b.wf) (w : World) :
    Calls Tryd.prog 15 #[a.val, b.val] w fun e w' => e = .returned (resV (addR a b)) ∧ Kept w w' := by
  have O := three w #[.int .i64 a.n, .int .i64 a.d] #[.int .i64 b.n, .int .i64 b.d] #[.int .i64 0, .int .i64 0]
  have hmf : ∀ (fn : Fn) (first cap : Array Value) (w : World), (Instr.makeFunc fn first cap).run Tryd.prog w = .ok (.func fn first cap) w := fun _ _ _ _ => rfl
  have ON := Lib.hid (fun p q r w hop => on_any a b ha hb 35 p q r w (enters_of Tryd.func35 (by kernel_rfl) rfl) hop)
  have E : Hid (addR a b = if a.valid && b.valid then makeR (a.n * b.d + b.n * a.d) (a.d * b.d) else (q0, 1)) := Lib.hid rfl
  unfold Q.val at *
  obtain ⟨n, d⟩ := a
  obtain ⟨m, o⟩ := b
  simp only at *
  go_enter Tryd.func15, Tryd.ntmps15
  go_wp2_with fail
  refine (ON.out _ _ (makeR (n * o + m * d) (d * o)) _ ?_).mono ?_
  · intro va vb w1 hk
    exact add1_any ⟨n, d⟩ ⟨m, o⟩ va vb _ _ w1 ((O.out.1.step hk).cell 0) ((O.out.1.step hk).cell 1) ((O.out.2.1.step hk).cell 0) ((O.out.2.1.step hk).cell 1)
  rintro e w2 ⟨rfl, hk⟩
  rw [← E.out]
  have O2 := Lib.hid (O.out.2.2.step hk)
  clear hk O ON hmf E
  obtain ⟨R, hR⟩ : ∃ R, addR ⟨n, d⟩ ⟨m, o⟩ = R := ⟨_, rfl⟩
  rw [hR]
  have E := Lib.hid hR
  clear hR
  obtain ⟨⟨x, y⟩, e⟩ := R
  generalize w.heap.size = B at *
  unfold resV Q.val
  simp only
  have f0 := O2.out.free 0
  have f1 := O2.out.free 1
  have lt := O2.out.lt
  have c0 := O2.out.cell 0
  have c1 := O2.out.cell 1
  go_wp2_with fail
  refine bodyPost_ret (results_own rfl ((O2.out.set 0 _).set 1 _) rfl) rfl ?_
  exact ⟨by rw [E.out]; rfl, ((O2.out.set 0 _).set 1 _).kept⟩

set_option maxHeartbeats 800000 in
theorem sub_as (a b : Q) (ha : a.wf) (hb : b.wf) (w : World) :
    Calls Tryd.prog 24 #[a.val, b.val] w fun e w' => e = .returned (resV (addR a ⟨wrap64 (-b.n), b.d⟩)) ∧ Kept w w' := by
  have O := three w #[.int .i64 a.n, .int .i64 a.d] #[.int .i64 b.n, .int .i64 b.d] #[.int .i64 0, .int .i64 0]
  have ON := Lib.hid (fun w => add_any a ⟨wrap64 (-b.n), b.d⟩ ha ⟨by unfold wrap64; simp only; omega, by unfold wrap64; simp only; omega, hb.d1, hb.d2⟩ w)
  unfold Q.val at *
  obtain ⟨n, d⟩ := a
  obtain ⟨m, o⟩ := b
  simp only at *
  go_enter Tryd.func24, Tryd.ntmps24
  go_wp2_with fail
  refine (ON.out _).mono ?_
  rintro e w2 ⟨rfl, hk⟩
  have O2 := Lib.hid (O.out.2.2.step hk)
  clear hk O ON
  obtain ⟨R, hR⟩ : ∃ R, addR ⟨n, d⟩ ⟨wrap64 (-m), o⟩ = R := ⟨_, rfl⟩
  rw [hR]
  have E := Lib.hid hR
  clear hR
  obtain ⟨⟨x, y⟩, e⟩ := R
  generalize w.heap.size = B at *
  unfold resV Q.val
  simp only
  have f0 := O2.out.free 0
  have f1 := O2.out.free 1
  have lt := O2.out.lt
  have c0 := O2.out.cell 0
  have c1 := O2.out.cell 1
  go_wp2_with fail
  refine bodyPost_ret (results_own rfl ((O2.out.set 0 _).set 1 _) rfl) rfl ?_
  exact ⟨by rw [E.out]; rfl, ((O2.out.set 0 _).set 1 _).kept⟩

theorem sub_eq (a b : Q) (hb : b.wf) : addR a ⟨wrap64 (-b.n), b.d⟩ = subR a b := by
  unfold addR subR
  by_cases h : b.n = -9223372036854775808
  · have v1 : b.valid = false := by simp [Q.valid, h]
    have v2 : (Q.mk (wrap64 (-b.n)) b.d).valid = false := by simp [Q.valid, h, wrap64]
    rw [v1, v2]; simp
  · have e : wrap64 (-b.n) = -b.n := by have := hb.n1; have := hb.n2; unfold wrap64; omega
    rw [e]
    have v : (Q.mk (-b.n) b.d).valid = b.valid := by simp [Q.valid]
    rw [v]
    have x : a.n * b.d + -b.n * a.d = a.n * b.d - b.n * a.d := by grind
    simp only [x]
theorem sub_any (a b : Q) (ha : a.wf) (hb : b.wf) (w : World) :
    Calls Tryd.prog 24 #[a.val, b.val] w fun e w' => e = .returned (resV (subR a b)) ∧ Kept w w' := by
  rw [← sub_eq a b hb]; exact sub_as a b ha hb w
end Go.Proofs.YtacjgkpncdnbgaaDoor
