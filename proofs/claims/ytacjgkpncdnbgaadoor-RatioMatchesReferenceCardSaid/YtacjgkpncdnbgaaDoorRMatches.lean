/-
  The law RatioMatchesReference: for every input that reads as data it answers true, and its arguments read behind the call as they read before; its listed variables are tied to the program's text. No condition.
-/
import Derived.Test.YtacjgkpncdnbgaaDoorE7
import Derived.Test.YtacjgkpncdnbgaaDoorFw
namespace Go.Proofs.YtacjgkpncdnbgaaDoor
open Go.ChangeShapes Go.WideShapes Go.ChangeAt Go.RowKit
open Go.ChangeMaps (open_string)

set_option maxRecDepth 100000 in
theorem ratioMatchesReference_lifted (os : Os) (started : os.Started) (H : Type) (enc : TypeId × Value → H) :
    ReturnsInHanded {} Tryd.checked os 7 .any (fun w args => (Rows.ratioMatchesReferenceSpec.pre enc Tryd.prog Tryd.f7 Rows.ratioMatchesReferenceRow.domain false w args ∧ laidMetH Tryd.prog lay w) ∧ sizedMet enc Tryd.prog Tryd.f7 (OpenSpec.ofChange Rows.ratioMatchesReferenceSpec) false w args)
      (Rows.ratioMatchesReferenceSpec.post enc Tryd.prog Tryd.f7 false true false false) := by
  refine handed (C := Tryd.checked) (X := fun w _ => laidMetH Tryd.prog lay w) (fun _ _ _ hh h => h.of_heap hh) Tryd.own started (by kernel_rfl) Tryd.func7
    (ChangeSpec.witness_shaped (enc := enc) (C := Tryd.checked) (os := os) (X := fun w _ => laidMetH Tryd.prog lay w) false (World.doorLaid Tryd.prog 62 os) #[.agg #[.int .i64 0, .int .i64 0], .agg #[.int .i64 0, .int .i64 0], .agg #[.int .i64 0, .int .i64 0, .string ⟨#[]⟩]] 8 rfl (World.shaped_of_RefB (by kernel_rfl) (by kernel_rfl)) (by kernel_rfl) (by kernel_rfl) (by kernel_rfl) (door_met os _)) ?_
  intro W base args ds gs before hval0 hW hL hsh
  have hval : ∀ (j : Nat) t v, Tryd.f7.params[j]? = some t → args[j]? = some v → Value.okWide Tryd.prog W .any base t v := hval0
  have hW' := hW
  obtain ⟨p, q, hA0, hV, rfl, hfz, hnd⟩ := hW
  have hA : DataW.TrodAll enc Tryd.prog W 0 (fun _ => true) true Tryd.f7.params.toList args.toList ds p := hA0
  rw [Tryd.params7] at hA hval
  obtain ⟨rfl, rfl⟩ := trodVars_none hV
  have hE : Env W := env_of hL hsh
  have hall := hA
  clear hA0 hval0
  simp only [List.append_nil] at hW'
  have hlt : ∀ x ∈ p, x.block < W.heap.size := fun x hx => hW'.lt x (by simpa using hx)
  obtain ⟨v0, vs0, d0, ds0, p0, q0, e0, rfl, rfl, h0, r0⟩ := trodAll_cons hA
  obtain ⟨v1, vs1, d1, ds1, p1, q1, e1, rfl, rfl, h1, r1⟩ := trodAll_cons r0
  obtain ⟨v2, vs2, d2, ds2, p2, q2, e2, rfl, rfl, h2, r2⟩ := trodAll_cons r1
  obtain ⟨z0, rfl, rfl⟩ := trodAll_nil r2
  subst z0 e2 e1
  obtain rfl := args_cons e0
  clear e0 hA
  obtain ⟨c0, hc0, hw0⟩ : ∃ c : Q, v0 = c.val ∧ c.wf := by
    obtain ⟨fuel, hf⟩ := h0
    exact open_ratio hf (hval 0 24 v0 rfl rfl)
  subst hc0
  obtain ⟨c1, hc1, hw1⟩ : ∃ c : Q, v1 = c.val ∧ c.wf := by
    obtain ⟨fuel, hf⟩ := h1
    exact open_ratio hf (hval 1 24 v1 rfl rfl)
  subst hc1
  obtain ⟨n2, m2, s2, hc2, hw2⟩ : ∃ (n m : Int) (s : ByteArray), v2 = .agg #[.int .i64 n, .int .i64 m, .string s] ∧ (Q.mk n m).wf ∧ s.size ≤ 9223372036854775807 := by
    obtain ⟨fuel, hf⟩ := h2
    exact open_raw hf (hval 2 41 v2 rfl rfl)
  subst hc2
  refine (ratioMatchesReference_walk c0 hw0 c1 hw1 n2 m2 s2 hw2.1 hw2.2 W hE).mono fun e W' ⟨he, hk⟩ => ?_
  subst he
  have hB := hk.under
  refine ⟨_, rfl, _, _, _, [], _, [], hW', trodAll_mk1 (shut_bool Tryd.underlying4 _), trodAll_below Tryd.laidOut hB _ _ _ _ (fun t ht => ?_) hlt hall, rfl, hB.frame _, fun h => by cases h⟩
  have ht : t ∈ [24, 24, 41] := ht
  simp only [List.mem_cons, List.not_mem_nil, or_false] at ht
  rcases ht with rfl | rfl | rfl
  all_goals exact ⟨by kernel_rfl, of_decide_eq_true (by kernel_rfl)⟩

theorem ratioMatchesReference_row : Rows.RatioMatchesReferenceSaid :=
  OpenClaim.holds_of_wide 7 Tryd.f7 rfl rfl rfl rfl rfl rfl rfl ⟨rfl, rfl, rfl, rfl, rfl⟩ rfl rfl rfl rfl rfl (by kernel_rfl) Tryd.func7 (by kernel_rfl)
    (of_decide_eq_true (by kernel_rfl)) (by unfold Func.isWrapper; first | (rw [if_pos (by decide +kernel)]; kernel_rfl) | (rw [if_neg (by decide +kernel)]; exact ⟨rfl, rfl⟩))
    (fun os started H enc _ => ratioMatchesReference_lifted os started H enc)
theorem ratioMatchesReference_holds : Rows.RatioMatchesReferenceCardSaid :=
  Claim7.holds_tied_plain_at .later [] [.data, .data, .data, .sentinel, .sentinel] true (true, "c25318a78d1f2a0fd7bceaa18a05c3defbe25cb04d858c43838cc39ca79abeae") true
    ratioMatchesReference_row (fun _ h => by cases h) (by kernel_rfl) (fun _ h => by cases h) ratioMatchesReference_row_tie rfl ⟨rfl, rfl⟩ (by kernel_rfl) rfl
    (fun f fn hf hfn => by
      obtain rfl : f = 7 := Option.some.inj ((show Tryd.prog.funcNamed "cleanse/cleanselaw01.RatioMatchesReference" = some 7 by kernel_rfl).symm.trans hf) |>.symm
      obtain rfl : fn = Tryd.f7 := (Option.some.inj (Tryd.func7.symm.trans hfn)).symm
      exact ⟨by kernel_rfl, fun j t ht => by
        rw [Tryd.params7] at ht
        have hm : t ∈ [24, 24, 41] := by simpa using Array.mem_of_getElem? ht
        have hall : ([24, 24, 41].all fun u => !Tryd.prog.wantsStandIn u) = true := by kernel_rfl
        exact (show Tryd.prog.wantsStandIn t = false by simpa using List.all_eq_true.1 hall t hm)⟩)
    (by kernel_rfl)
#print axioms ratioMatchesReference_holds
end Go.Proofs.YtacjgkpncdnbgaaDoor
