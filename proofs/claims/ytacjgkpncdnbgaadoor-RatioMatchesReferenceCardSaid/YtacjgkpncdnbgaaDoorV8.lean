/-
  ratio's Cmp and the laws' of, walked. Their condition: integers of Go.
-/
import Derived.Test.YtacjgkpncdnbgaaDoorV7
namespace Go.Proofs.YtacjgkpncdnbgaaDoor
open Go.RowKit

def signR (d : Int) : Int := if d < 0 then -1 else if 0 < d then 1 else 0
def cmpR (a b : Q) : Int := if a.valid && b.valid then signR (a.n * b.d - b.n * a.d) else 0

set_option maxHeartbeats 800000 in
theorem of_any (n d : Int) (w : World) : Calls Tryd.prog 19 #[.int .i64 n, .int .i64 d] w fun e w' => e = .returned (.agg #[.int .i64 n, .int .i64 d]) ∧ Kept w w' := by
  have O : Hid (Own w (w.alloc (.cells #[.int .i64 0, .int .i64 0] 24)) w.heap.size #[.int .i64 0, .int .i64 0]) := Lib.hid (Own.made (Kept.refl w) _)
  have f0 := O.out.free 0
  have f1 := O.out.free 1
  have lt := O.out.lt
  have c0 := O.out.cell 0
  have c1 := O.out.cell 1
  go_enter Tryd.func19, Tryd.ntmps19
  go_wp2_with fail
  refine bodyPost_ret (results_cell_row rfl _ _ w.heap.size 24 #[.int .i64 n, .int .i64 d] (0, 0) _ rfl (heap_alloc_new _ _) rfl rfl (by kernel_rfl)) rfl ?_
  exact ⟨rfl, (Kept.refl w).alloc _⟩

set_option maxHeartbeats 800000 in
theorem cmp_any (a b : Q) (ha : a.wf) (hb : b.wf) (w : World) :
    Calls Tryd.prog 14 #[a.val, b.val] w fun e w' => e = .returned (.int .i64 (cmpR a b)) ∧ Kept w w' := by
  have O : Hid (Own w ((w.alloc (.cells #[.int .i64 a.n, .int .i64 a.d] 24)).alloc (.cells #[.int .i64 b.n, .int .i64 b.d] 24)) w.heap.size #[.int .i64 a.n, .int .i64 a.d] ∧
      Own w ((w.alloc (.cells #[.int .i64 a.n, .int .i64 a.d] 24)).alloc (.cells #[.int .i64 b.n, .int .i64 b.d] 24)) (w.heap.size + 1) #[.int .i64 b.n, .int .i64 b.d]) :=
    Lib.hid ⟨(Own.at (Kept.refl w) _ rfl).step ((Kept.refl _).alloc _), Own.at ((Kept.refl w).alloc _) _ (by simp)⟩
  have VA := Lib.hid (fun w => valid_any a ha w)
  have VB := Lib.hid (fun w => valid_any b hb w)
  have E : Hid (cmpR a b = if a.valid && b.valid then signR (a.n * b.d - b.n * a.d) else 0) := Lib.hid rfl
  have S : Hid (a.valid = true → b.valid = true → wrap64 (a.n * b.d) = a.n * b.d ∧ wrap64 (b.n * a.d) = b.n * a.d ∧ wrap64 (a.n * b.d - b.n * a.d) = a.n * b.d - b.n * a.d) := Lib.hid (by
    intro va vb
    obtain ⟨s1, s2, s3⟩ := Q.small va
    obtain ⟨t1, t2, t3⟩ := Q.small vb
    have m1 := mul_small s1 t2
    have m2 := mul_small t1 s2
    exact ⟨wrap_small (by omega) (by omega), wrap_small (by omega) (by omega), wrap_small (by omega) (by omega)⟩)
  generalize a.valid = AV at *
  generalize b.valid = BV at *
  unfold Q.val at *
  obtain ⟨n, d⟩ := a
  obtain ⟨m, o⟩ := b
  simp only at *
  clear ha hb
  obtain ⟨r, hr⟩ : ∃ r, cmpR ⟨n, d⟩ ⟨m, o⟩ = r := ⟨_, rfl⟩
  rw [hr] at E ⊢
  clear hr
  go_enter Tryd.func14, Tryd.ntmps14
  go_wp2_with fail
  refine (VA.out _).mono ?_
  rintro e w2 ⟨rfl, hk⟩
  obtain ⟨B, hB⟩ : ∃ B, w.heap.size = B := ⟨_, rfl⟩
  rw [hB] at O ⊢
  have O1 := Lib.hid (And.intro (O.out.1.step hk) (O.out.2.step hk))
  clear hk O VA
  have a0 := O1.out.1.cell 0
  have a1 := O1.out.1.cell 1
  have b0 := O1.out.2.cell 0
  have b1 := O1.out.2.cell 1
  cases AV
  · have hE := E.out
    simp at hE
    subst hE
    go_wp2_with fail
    go_ret
    exact ⟨rfl, O1.out.1.kept⟩
  · go_wp2_with fail
    refine (VB.out _).mono ?_
    rintro e w3 ⟨rfl, hk⟩
    have O2 := Lib.hid (And.intro (O1.out.1.step hk) (O1.out.2.step hk))
    clear hk O1 VB a0 a1 b0 b1
    cases BV
    · have hE := E.out
      simp at hE
      subst hE
      go_wp2_with fail
      go_ret
      exact ⟨rfl, O2.out.1.kept⟩
    · obtain ⟨x1, x2, x3⟩ := S.out (by trivial) (by trivial)
      have hE := E.out
      simp only [Bool.and_self, if_true] at hE
      clear E S
      have E := Lib.hid hE
      clear hE
      have a0 := O2.out.1.cell 0
      have a1 := O2.out.1.cell 1
      have b0 := O2.out.2.cell 0
      have b1 := O2.out.2.cell 1
      by_cases l1 : n * o - m * d < 0
      · have e1 : signR (n * o - m * d) = -1 := by simp [signR, l1]
        rw [e1] at E
        clear e1
        go_wp2_with fail
        go_ret
        exact ⟨by rw [E.out]; rfl, O2.out.1.kept⟩
      · by_cases l2 : 0 < n * o - m * d
        · have e1 : signR (n * o - m * d) = 1 := by simp only [signR, l1, l2, if_false, if_true]
          rw [e1] at E
          clear e1
          go_wp2_with fail
          go_ret
          exact ⟨by rw [E.out]; rfl, O2.out.1.kept⟩
        · have e1 : signR (n * o - m * d) = 0 := by simp only [signR, l1, l2, if_false]
          rw [e1] at E
          clear e1
          go_wp2_with fail
          go_ret
          exact ⟨by rw [E.out]; rfl, O2.out.1.kept⟩
end Go.Proofs.YtacjgkpncdnbgaaDoor
