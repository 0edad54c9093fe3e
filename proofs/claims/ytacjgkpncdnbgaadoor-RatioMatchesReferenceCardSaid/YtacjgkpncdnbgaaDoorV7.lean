/-
  ratio's Mul and Div, walked. Their condition: integers of Go.
-/
import Derived.Test.YtacjgkpncdnbgaaDoorV6
namespace Go.Proofs.YtacjgkpncdnbgaaDoor
open Go.RowKit

/-- a times num over den. -/
def prodR (a : Q) (num den : Int) : Q × Int := red (!(decide (a.n < 0) == !(decide (num < 0) == decide (den < 0)))) (a.n.natAbs * num.natAbs) (a.d.natAbs * den.natAbs)
def mulR (a b : Q) : Q × Int := if a.valid && b.valid then prodR a b.n b.d else (q0, 1)
def divIn (a b : Q) : Q × Int := if b.n = 0 then (q0, 1) else prodR a b.d b.n
def divR (a b : Q) : Q × Int := if a.valid && b.valid then divIn a b else (q0, 1)

set_option maxHeartbeats 800000 in
theorem mul1_any (a b : Q) (ha : a.valid = true) (hb : b.valid = true) (A B : Nat) (w : World)
    (c0 : w.cell? ⟨A, 0, none⟩ = some (.int .i64 a.n)) (c1 : w.cell? ⟨A, 1, none⟩ = some (.int .i64 a.d)) (c2 : w.cell? ⟨B, 0, none⟩ = some (.int .i64 b.n)) (c3 : w.cell? ⟨B, 1, none⟩ = some (.int .i64 b.d)) :
    Calls Tryd.prog 36 #[.pointer (some ⟨A, 0, none⟩), .pointer (some ⟨B, 0, none⟩)] w fun e w' => e = .returned (resV (prodR a b.n b.d)) ∧ Kept w w' := by
  obtain ⟨n, d⟩ := a
  obtain ⟨m, o⟩ := b
  obtain ⟨s1, s2, s3⟩ := Q.small ha
  obtain ⟨t1, t2, t3⟩ := Q.small hb
  simp only at s1 s2 s3 t1 t2 t3 c0 c1 c2 c3 ⊢
  have O : Hid (Own w (w.alloc (.cells #[.int .i64 0, .int .i64 0] 24)) w.heap.size #[.int .i64 0, .int .i64 0]) := Lib.hid (Own.made (Kept.refl w) _)
  have MK := Lib.hid (fun w => product_any ⟨n, d⟩ m o s1 s2 (by show d ≠ 0; omega) t1 t2 (by omega) w)
  clear ha hb s1 s2 s3 t1 t2 t3
  have kk := fun (p : Addr) (v : Value) (h : w.cell? p = some v) => ((Kept.refl w).alloc (.cells #[.int .i64 0, .int .i64 0] 24)).cell h
  have c0 := kk _ _ c0
  have c1 := kk _ _ c1
  have c2 := kk _ _ c2
  have c3 := kk _ _ c3
  clear kk
  unfold Q.val at MK
  simp only at MK
  go_enter Tryd.func36, Tryd.ntmps36
  go_wp2_with fail
  refine (MK.out _).mono ?_
  rintro e w5 ⟨rfl, hk⟩
  rw [show red (!(decide (n < 0) == !(decide (m < 0) == decide (o < 0)))) (n.natAbs * m.natAbs) (d.natAbs * o.natAbs) = prodR ⟨n, d⟩ m o from rfl]
  generalize w.heap.size = B at *
  generalize w.alloc _ = w6 at *
  have O2 := Lib.hid (O.out.step hk)
  clear hk O MK c0 c1 c2 c3
  obtain ⟨R, hR⟩ : ∃ R, prodR ⟨n, d⟩ m o = R := ⟨_, rfl⟩
  rw [hR]
  have E := Lib.hid hR
  clear hR
  obtain ⟨⟨x, y⟩, e⟩ := R
  unfold resV Q.val
  simp only
  have f0 := O2.out.free 0
  have f1 := O2.out.free 1
  have lt := O2.out.lt
  have c0 := O2.out.cell 0
  have c1 := O2.out.cell 1
  go_wp2_with fail
  refine bodyPost_ret (results_own rfl ((O2.out.set 0 _).set 1 _) rfl) rfl ?_
  exact ⟨by rw [E.out]; rfl, ((O2.out.set 0 _).set 1 _).kept⟩

set_option maxHeartbeats 800000 in
theorem div1_any (a b : Q) (ha : a.valid = true) (hb : b.valid = true) (A B : Nat) (w : World)
    (c0 : w.cell? ⟨A, 0, none⟩ = some (.int .i64 a.n)) (c1 : w.cell? ⟨A, 1, none⟩ = some (.int .i64 a.d)) (c2 : w.cell? ⟨B, 0, none⟩ = some (.int .i64 b.n)) (c3 : w.cell? ⟨B, 1, none⟩ = some (.int .i64 b.d)) :
    Calls Tryd.prog 41 #[.pointer (some ⟨B, 0, none⟩), .pointer (some ⟨A, 0, none⟩)] w fun e w' => e = .returned (resV (divIn a b)) ∧ Kept w w' := by
  obtain ⟨n, d⟩ := a
  obtain ⟨m, o⟩ := b
  obtain ⟨s1, s2, s3⟩ := Q.small ha
  obtain ⟨t1, t2, t3⟩ := Q.small hb
  simp only at s1 s2 s3 t1 t2 t3 c0 c1 c2 c3 ⊢
  have O : Hid (Own w (w.alloc (.cells #[.int .i64 0, .int .i64 0] 24)) w.heap.size #[.int .i64 0, .int .i64 0]) := Lib.hid (Own.made (Kept.refl w) _)
  have kk := fun (p : Addr) (v : Value) (h : w.cell? p = some v) => ((Kept.refl w).alloc (.cells #[.int .i64 0, .int .i64 0] 24)).cell h
  have c0 := kk _ _ c0
  have c1 := kk _ _ c1
  have c2 := kk _ _ c2
  have c3 := kk _ _ c3
  clear kk
  by_cases h0 : m = 0
  · have E : Hid (divIn ⟨n, d⟩ ⟨m, o⟩ = (q0, 1)) := Lib.hid (by simp [divIn, h0])
    subst h0
    go_enter Tryd.func41, Tryd.ntmps41
    go_wp2_with fail
    refine bodyPost_ret (results_own rfl O.out rfl) rfl ?_
    exact ⟨by rw [E.out]; rfl, O.out.kept⟩
  have MK := Lib.hid (fun w => product_any ⟨n, d⟩ o m s1 s2 (by show d ≠ 0; omega) t2 t1 h0 w)
  have D : Hid (prodR ⟨n, d⟩ o m = divIn ⟨n, d⟩ ⟨m, o⟩) := Lib.hid (by unfold divIn; rw [if_neg h0])
  clear ha hb s1 s2 s3 t1 t2 t3
  unfold Q.val at MK
  simp only at MK
  have hm0 : (m == 0) = false := by simpa using h0
  go_enter Tryd.func41, Tryd.ntmps41
  go_wp2_with fail
  refine (MK.out _).mono ?_
  rintro e w5 ⟨rfl, hk⟩
  rw [show red (!(decide (n < 0) == !(decide (o < 0) == decide (m < 0)))) (n.natAbs * o.natAbs) (d.natAbs * m.natAbs) = prodR ⟨n, d⟩ o m from rfl, D.out]
  generalize w.heap.size = B at *
  generalize w.alloc _ = w6 at *
  have O2 := Lib.hid (O.out.step hk)
  clear hk O MK c0 c1 c2 c3
  obtain ⟨R, hR⟩ : ∃ R, divIn ⟨n, d⟩ ⟨m, o⟩ = R := ⟨_, rfl⟩
  rw [hR]
  have E := Lib.hid hR
  clear hR
  obtain ⟨⟨x, y⟩, e⟩ := R
  unfold resV Q.val
  simp only
  have f0 := O2.out.free 0
  have f1 := O2.out.free 1
  have lt := O2.out.lt
  have c0 := O2.out.cell 0
  have c1 := O2.out.cell 1
  go_wp2_with fail
  refine bodyPost_ret (results_own rfl ((O2.out.set 0 _).set 1 _) rfl) rfl ?_
  exact ⟨by rw [E.out]; rfl, ((O2.out.set 0 _).set 1 _).kept⟩

set_option maxHeartbeats 800000 in
theorem mul_any (a b : Q) (ha : a.wf) (hb : b.wf) (w : World) :
    Calls Tryd.prog 16 #[a.val, b.val] w fun e w' => e = .returned (resV (mulR a b)) ∧ Kept w w' := by
  have O := three w #[.int .i64 a.n, .int .i64 a.d] #[.int .i64 b.n, .int .i64 b.d] #[.int .i64 0, .int .i64 0]
  have hmf : ∀ (fn : Fn) (first cap : Array Value) (w : World), (Instr.makeFunc fn first cap).run Tryd.prog w = .ok (.func fn first cap) w := fun _ _ _ _ => rfl
  have ON := Lib.hid (fun p q r w hop => on_any a b ha hb 36 p q r w (enters_of Tryd.func36 (by kernel_rfl) rfl) hop)
  have E : Hid (mulR a b = if a.valid && b.valid then prodR a b.n b.d else (q0, 1)) := Lib.hid rfl
  unfold Q.val at *
  obtain ⟨n, d⟩ := a
  obtain ⟨m, o⟩ := b
  simp only at *
  go_enter Tryd.func16, Tryd.ntmps16
  go_wp2_with fail
  refine (ON.out _ _ (prodR ⟨n, d⟩ m o) _ ?_).mono ?_
  · intro va vb w1 hk
    exact mul1_any ⟨n, d⟩ ⟨m, o⟩ va vb _ _ w1 ((O.out.1.step hk).cell 0) ((O.out.1.step hk).cell 1) ((O.out.2.1.step hk).cell 0) ((O.out.2.1.step hk).cell 1)
  rintro e w2 ⟨rfl, hk⟩
  rw [← E.out]
  have O2 := Lib.hid (O.out.2.2.step hk)
  clear hk O ON hmf E
  generalize w.heap.size = B at *
  obtain ⟨R, hR⟩ : ∃ R, mulR ⟨n, d⟩ ⟨m, o⟩ = R := ⟨_, rfl⟩
  rw [hR]
  have E := Lib.hid hR
  clear hR
  obtain ⟨⟨x, y⟩, e⟩ := R
  unfold resV Q.val
  simp only
  have f0 := O2.out.free 0
  have f1 := O2.out.free 1
  have lt := O2.out.lt
  have c0 := O2.out.cell 0
  have c1 := O2.out.cell 1
  go_wp2_with fail
  refine bodyPost_ret (results_own rfl ((O2.out.set 0 _).set 1 _) rfl) rfl ?_
  exact ⟨by rw [E.out]; rfl, ((O2.out.set 0 _).set 1 _).kept⟩

set_option maxHeartbeats 800000 in
theorem div_any (a b : Q) (ha : a.wf) (hb : b.wf) (w : World) :
    Calls Tryd.prog 20 #[a.val, b.val] w fun e w' => e = .returned (resV (divR a b)) ∧ Kept w w' := by
  have O := three w #[.int .i64 a.n, .int .i64 a.d] #[.int .i64 b.n, .int .i64 b.d] #[.int .i64 0, .int .i64 0]
  have hmf : ∀ (fn : Fn) (first cap : Array Value) (w : World), (Instr.makeFunc fn first cap).run Tryd.prog w = .ok (.func fn first cap) w := fun _ _ _ _ => rfl
  have ON := Lib.hid (fun p q r w hop => on_any a b ha hb 41 p q r w (enters_of Tryd.func41 (by kernel_rfl) rfl) hop)
  have E : Hid (divR a b = if a.valid && b.valid then divIn a b else (q0, 1)) := Lib.hid rfl
  unfold Q.val at *
  obtain ⟨n, d⟩ := a
  obtain ⟨m, o⟩ := b
  simp only at *
  go_enter Tryd.func20, Tryd.ntmps20
  go_wp2_with fail
  refine (ON.out _ _ (divIn ⟨n, d⟩ ⟨m, o⟩) _ ?_).mono ?_
  · intro va vb w1 hk
    exact div1_any ⟨n, d⟩ ⟨m, o⟩ va vb _ _ w1 ((O.out.1.step hk).cell 0) ((O.out.1.step hk).cell 1) ((O.out.2.1.step hk).cell 0) ((O.out.2.1.step hk).cell 1)
  rintro e w2 ⟨rfl, hk⟩
  rw [← E.out]
  have O2 := Lib.hid (O.out.2.2.step hk)
  clear hk O ON hmf E
  generalize w.heap.size = B at *
  obtain ⟨R, hR⟩ : ∃ R, divR ⟨n, d⟩ ⟨m, o⟩ = R := ⟨_, rfl⟩
  rw [hR]
  have E := Lib.hid hR
  clear hR
  obtain ⟨⟨x, y⟩, e⟩ := R
  unfold resV Q.val
  simp only
  have f0 := O2.out.free 0
  have f1 := O2.out.free 1
  have lt := O2.out.lt
  have c0 := O2.out.cell 0
  have c1 := O2.out.cell 1
  go_wp2_with fail
  refine bodyPost_ret (results_own rfl ((O2.out.set 0 _).set 1 _) rfl) rfl ?_
  exact ⟨by rw [E.out]; rfl, ((O2.out.set 0 _).set 1 _).kept⟩
end Go.Proofs.YtacjgkpncdnbgaaDoor
