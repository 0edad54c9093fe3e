/-
  The reference's Parse, walked. Its condition: a text of at most a thousand bytes.
-/
import Derived.Test.YtacjgkpncdnbgaaDoorX7
import Derived.Deep.DeepCutAuto
namespace Go.Proofs.YtacjgkpncdnbgaaDoor
open Go.RowKit

theorem ext_list (s : ByteArray) (a b : Nat) : (s.extract a b).data.toList = (s.data.toList.take b).drop a := by
  rw [Lib.extract_data]
  simp [List.drop_take]
theorem number_ext (s : ByteArray) (a b : Nat) (hs : s.size ≤ 1000) {x : List UInt8} (h : (s.data.toList.take b).drop a = x) (w : World) :
    Calls Tryd.prog 44 #[.string (s.extract a b)] w fun e w' => e = .returned (.int .i64 (numR x : Int)) ∧ w = w' := by
  have := number_any (s.extract a b) (by
    have h1 := congrArg List.length (ext_list s a b)
    have h2 : (s.extract a b).data.toList.length = (s.extract a b).size := rfl
    have h3 : s.data.toList.length = s.size := rfl
    rw [List.length_drop, List.length_take] at h1
    omega) w
  rw [ext_list, h] at this
  exact this
theorem Own.aside {w wx : World} {B : Nat} {c : Array Value} (h : Own w wx B c) {B' : Nat} (hn : w.heap.size ≤ B') (hne : B ≠ B') (i : Nat) (v : Value) : Own w (wx.setCell ⟨B', i, none⟩ v) B c := h.beside hn hne i v

set_option maxRecDepth 100000 in
set_option maxHeartbeats 4000000 in
theorem rparse_any (s : ByteArray) (hs : s.size ≤ 1000) (w : World) : Calls Tryd.prog 22 #[.string s] w fun e w' => e = .returned (resV (rparseR s)) ∧ Kept w w' := by
  have O := pair w #[.int .i64 0, .int .i64 0] #[.int .i64 0, .int .i64 1]
  have HL : Hid (s.data.toList.length = s.size) := Lib.hid rfl
  have E : Hid (rparseR s = if strOf [] = s ∨ ¬ strOf (textL (guess s.data.toList)) = s then (q0, 6) else (guess s.data.toList, 0)) := Lib.hid rfl
  have WF := Lib.hid (guess_wf s.data.toList)
  obtain ⟨r, hr⟩ : ∃ r, rparseR s = r := ⟨_, rfl⟩
  rw [hr] at E ⊢
  clear hr
  go_enter Tryd.func22, Tryd.ntmps22
  go_wp2_with fail
  have OR := Lib.hid O.out.1
  have OA := Lib.hid O.out.2
  clear O
  generalize w.heap.size = B at *
  generalize hgen : (w.alloc _).alloc _ = w1 at *
  clear hgen
  go_loop [5, 6] (fun n i => ∃ k : Nat, n = .int .i64 s.size ∧ i = .int .i64 k ∧ k ≤ s.size ∧ Hid (∀ c ∈ s.data.toList.take k, c ≠ 47)) (fun _ i => s.size - natOf i)
  case atStart => exact ⟨0, rfl, rfl, Nat.zero_le _, Lib.hid (by simp)⟩
  case round =>
    obtain ⟨k, rfl, rfl, hk, HN⟩ := hrel
    by_cases hlt : k < s.size
    · obtain ⟨c, hc⟩ : ∃ c, s.data.toList[k]? = some c := ⟨_, List.getElem?_eq_getElem (by rw [HL.out]; exact hlt)⟩
      have hix := fun kd w => index_at s k c hc kd w
      have hl : s.data.toList = s.data.toList.take k ++ c :: s.data.toList.drop (k + 1) := by
        conv => lhs; rw [← List.take_append_drop k s.data.toList]
        rw [List.drop_eq_getElem_cons (by rw [HL.out]; exact hlt)]
        rw [List.getElem?_eq_some_iff] at hc
        rw [hc.2]
      by_cases h47 : c = 47
      · subst h47
        have CU := Lib.hid (show Lib.cut s.data.toList [47] = (s.data.toList.take k, s.data.toList.drop (k + 1), true) by
          conv => lhs; rw [hl]
          exact cut_mid _ _ HN.out)
        clear hc hl
        have NM := Lib.hid (fun w => number_ext s (k + 1) s.size hs (x := s.data.toList.drop (k + 1)) (by rw [List.take_of_length_le (by rw [HL.out]; exact Nat.le_refl _)]) w)
        have EG := Lib.hid (show guess s.data.toList = ⟨numOf (s.data.toList.take k), (numR (s.data.toList.drop (k + 1)) : Int)⟩ by
          unfold guess; rw [CU.out]; rfl)
        have e47 : (((47 : UInt8).toNat : Int) == 47) = true := rfl
        go_wp2_with fail
        refine (NM.out _).mono ?_
        rintro e w2 ⟨rfl, rfl⟩
        obtain ⟨dv, hdv⟩ : ∃ x, numR (s.data.toList.drop (k + 1)) = x := ⟨_, rfl⟩
        rw [hdv] at EG ⊢
        have g0 := OA.out.free 0
        have g1 := OA.out.free 1
        have gl := OA.out.lt
        have ca0 := OA.out.cell 0
        have ca1 := OA.out.cell 1
        have OA2 : Hid (Own w (w1.setCell ⟨B + 1, 1, none⟩ (.int .i64 (dv : Int))) (B + 1) #[.int .i64 0, .int .i64 (dv : Int)]) := Lib.hid (OA.out.set 1 (.int .i64 (dv : Int)))
        have OR2 := Lib.hid (OR.out.beside OA.out.new (show B ≠ B + 1 by omega) 1 (.int .i64 (dv : Int)))
        clear hdv NM CU HN
        go_upto_region 9 with fail
        clear g0 g1 gl ca0 ca1 OA OR
        generalize w1.setCell _ _ = w9 at *
        -- the numerator
        by_cases hz : k = 0
        · have hx : s.data.toList.take k = [] := by rw [hz]; rfl
          have NU : Hid (∀ w, Calls Tryd.prog 44 #[.string ByteArray.empty] w fun e w' => e = .returned (.int .i64 0) ∧ w = w') := Lib.hid (fun w => number_any ByteArray.empty (by decide) w)
          have EN := Lib.hid (show numOf (s.data.toList.take k) = 0 by rw [hx]; rfl)
          clear hx
          have g0 := OA2.out.free 0
          have g1 := OA2.out.free 1
          have gl := OA2.out.lt
          have ca0 := OA2.out.cell 0
          have ca1 := OA2.out.cell 1
          go_wp2_with fail
          refine (NU.out _).mono ?_
          rintro e w3 ⟨rfl, rfl⟩
          have SA := Lib.hid (OA2.out.set 0 (.int .i64 0))
          have SR := Lib.hid (OR2.out.beside OA2.out.new (show B ≠ B + 1 by omega) 0 (.int .i64 0))
          have SA : Hid (Own w (w9.setCell ⟨B + 1, 0, none⟩ (.int .i64 0)) (B + 1) #[.int .i64 0, .int .i64 (dv : Int)]) := SA
          have sa0 := SA.out.cell 0
          have sa1 := SA.out.cell 1
          have EF := Lib.hid (show guess s.data.toList = ⟨0, (dv : Int)⟩ by rw [EG.out, EN.out])
          clear EG EN NU
          by_cases he : strOf [] = s
          · have E2 : Hid (r = (q0, 6)) := Lib.hid (by rw [E.out, if_pos (Or.inl he)])
            have hem : s.toList.isEmpty = true := by rw [← he, Lib.toList_data]; rfl
            have fr0 := SR.out.free 0
            have fr1 := SR.out.free 1
            have ltr := SR.out.lt
            have cr0 := SR.out.cell 0
            have cr1 := SR.out.cell 1
            clear he
            go_wp2_with fail
            refine bodyPost_ret (results_own rfl ((SR.out.set 0 _).set 1 _) rfl) rfl ?_
            exact ⟨by rw [E2.out]; rfl, ((SR.out.set 0 _).set 1 _).kept⟩
          · have hem : s.toList.isEmpty = false := by
              rw [Lib.toList_data, List.isEmpty_eq_false_iff]
              intro h
              exact he (ByteArray.ext (Array.toList_inj.1 h.symm))
            have hwf := WF.out
            rw [EF.out] at hwf
            have TX := Lib.hid (fun w => rtext_any ⟨0, (dv : Int)⟩ hwf w)
            obtain ⟨T, hT⟩ : ∃ T, strOf (textL ⟨0, (dv : Int)⟩) = T := ⟨_, rfl⟩
            rw [hT] at TX
            have ER := Lib.hid (show r = if strOf [] = s ∨ ¬ T = s then (q0, 6) else (⟨0, (dv : Int)⟩, 0) by rw [E.out, EF.out, hT])
            clear hT E EF hwf WF
            unfold Q.val at TX
            dsimp only at TX
            go_wp2_with fail
            refine (TX.out _).mono ?_
            rintro e w4 ⟨rfl, hk4⟩
            have ZA := Lib.hid (SA.out.step hk4)
            have ZR := Lib.hid (SR.out.step hk4)
            clear hk4 SA SR sa0 sa1 TX
            have fr0 := ZR.out.free 0
            have fr1 := ZR.out.free 1
            have ltr := ZR.out.lt
            have cr0 := ZR.out.cell 0
            have cr1 := ZR.out.cell 1
            have za0 := ZA.out.cell 0
            have za1 := ZA.out.cell 1
            by_cases ht : T = s
            · have E2 := Lib.hid (ER.out.trans (if_neg (by rintro (h | h); exact he h; exact h ht)))
              have hb := bytes_eq ht
              clear ER ht he
              go_wp2_with fail
              refine bodyPost_ret (results_own rfl ((ZR.out.set 0 _).set 1 _) rfl) rfl ?_
              exact ⟨by rw [E2.out]; rfl, ((ZR.out.set 0 _).set 1 _).kept⟩
            · have E2 := Lib.hid (ER.out.trans (if_pos (Or.inr ht)))
              have hb := bytes_ne ht
              clear ER ht he
              go_wp2_with fail
              refine bodyPost_ret (results_own rfl ((ZR.out.set 0 _).set 1 _) rfl) rfl ?_
              exact ⟨by rw [E2.out]; rfl, ((ZR.out.set 0 _).set 1 _).kept⟩
        · obtain ⟨f, hf⟩ : ∃ f, s.data.toList[0]? = some f := ⟨_, List.getElem?_eq_getElem (by rw [HL.out]; omega)⟩
          have hi0 : ∀ (kd : IntKind) (w : World), (Instr.index 9 (.string s) (.int kd 0)).run Tryd.prog w = .ok (.int .u8 (f.toNat : Int)) w := fun kd w => index_at s 0 f hf kd w
          have hx : ∃ t, s.data.toList.take k = f :: t := by
            cases hl : s.data.toList with
            | nil => rw [hl] at hf; cases hf
            | cons a t =>
              rw [hl] at hf
              simp only [List.getElem?_cons_zero, Option.some.injEq] at hf
              subst hf
              obtain ⟨z, hz'⟩ : ∃ z, k = z + 1 := ⟨k - 1, by omega⟩
              rw [hz']
              exact ⟨t.take z, by simp⟩
          obtain ⟨t, hx⟩ := hx
          have pz : (0 : Int) < (k : Int) := by omega
          have pe : 1 ≤ k := by omega
          clear hf
          by_cases h45 : f = 45
          · subst h45
            have NU := Lib.hid (fun w => number_ext s 1 k hs (x := t) (by rw [hx]; rfl) w)
            have EN := Lib.hid (show numOf (s.data.toList.take k) = -(numR t : Int) by rw [hx]; rfl)
            have ns := numR_lt t
            have e45 : (((45 : UInt8).toNat : Int) == 45) = true := rfl
            clear hx
            have g0 := OA2.out.free 0
            have g1 := OA2.out.free 1
            have gl := OA2.out.lt
            have ca0 := OA2.out.cell 0
            have ca1 := OA2.out.cell 1
            have nz : (0 : Int) - (numR t : Int) = -(numR t : Int) := by omega
            go_wp2_with fail
            refine (NU.out _).mono ?_
            rintro e w3 ⟨rfl, rfl⟩
            have SA := Lib.hid (OA2.out.set 0 (.int .i64 (-(numR t : Int))))
            have SR := Lib.hid (OR2.out.beside OA2.out.new (show B ≠ B + 1 by omega) 0 (.int .i64 (-(numR t : Int))))
            have SA : Hid (Own w (w9.setCell ⟨B + 1, 0, none⟩ (.int .i64 (-(numR t : Int)))) (B + 1) #[.int .i64 (-(numR t : Int)), .int .i64 (dv : Int)]) := SA
            have sa0 := SA.out.cell 0
            have sa1 := SA.out.cell 1
            have EF := Lib.hid (show guess s.data.toList = ⟨(-(numR t : Int)), (dv : Int)⟩ by rw [EG.out, EN.out])
            clear EG EN NU
            by_cases he : strOf [] = s
            · have E2 : Hid (r = (q0, 6)) := Lib.hid (by rw [E.out, if_pos (Or.inl he)])
              have hem : s.toList.isEmpty = true := by rw [← he, Lib.toList_data]; rfl
              have fr0 := SR.out.free 0
              have fr1 := SR.out.free 1
              have ltr := SR.out.lt
              have cr0 := SR.out.cell 0
              have cr1 := SR.out.cell 1
              clear he
              go_wp2_with fail
              refine bodyPost_ret (results_own rfl ((SR.out.set 0 _).set 1 _) rfl) rfl ?_
              exact ⟨by rw [E2.out]; rfl, ((SR.out.set 0 _).set 1 _).kept⟩
            · have hem : s.toList.isEmpty = false := by
                rw [Lib.toList_data, List.isEmpty_eq_false_iff]
                intro h
                exact he (ByteArray.ext (Array.toList_inj.1 h.symm))
              have hwf := WF.out
              rw [EF.out] at hwf
              have TX := Lib.hid (fun w => rtext_any ⟨(-(numR t : Int)), (dv : Int)⟩ hwf w)
              obtain ⟨T, hT⟩ : ∃ T, strOf (textL ⟨(-(numR t : Int)), (dv : Int)⟩) = T := ⟨_, rfl⟩
              rw [hT] at TX
              have ER := Lib.hid (show r = if strOf [] = s ∨ ¬ T = s then (q0, 6) else (⟨(-(numR t : Int)), (dv : Int)⟩, 0) by rw [E.out, EF.out, hT])
              clear hT E EF hwf WF
              unfold Q.val at TX
              dsimp only at TX
              go_wp2_with fail
              refine (TX.out _).mono ?_
              rintro e w4 ⟨rfl, hk4⟩
              have ZA := Lib.hid (SA.out.step hk4)
              have ZR := Lib.hid (SR.out.step hk4)
              clear hk4 SA SR sa0 sa1 TX
              have fr0 := ZR.out.free 0
              have fr1 := ZR.out.free 1
              have ltr := ZR.out.lt
              have cr0 := ZR.out.cell 0
              have cr1 := ZR.out.cell 1
              have za0 := ZA.out.cell 0
              have za1 := ZA.out.cell 1
              by_cases ht : T = s
              · have E2 := Lib.hid (ER.out.trans (if_neg (by rintro (h | h); exact he h; exact h ht)))
                have hb := bytes_eq ht
                clear ER ht he
                go_wp2_with fail
                refine bodyPost_ret (results_own rfl ((ZR.out.set 0 _).set 1 _) rfl) rfl ?_
                exact ⟨by rw [E2.out]; rfl, ((ZR.out.set 0 _).set 1 _).kept⟩
              · have E2 := Lib.hid (ER.out.trans (if_pos (Or.inr ht)))
                have hb := bytes_ne ht
                clear ER ht he
                go_wp2_with fail
                refine bodyPost_ret (results_own rfl ((ZR.out.set 0 _).set 1 _) rfl) rfl ?_
                exact ⟨by rw [E2.out]; rfl, ((ZR.out.set 0 _).set 1 _).kept⟩
          · have NU : Hid (∀ w, Calls Tryd.prog 44 #[.string (s.extract 0 k)] w fun e w' => e = .returned (.int .i64 (numR (s.data.toList.take k) : Int)) ∧ w = w') := Lib.hid (fun w => number_ext s 0 k hs (x := s.data.toList.take k) (by rw [List.drop_zero]) w)
            have EN := Lib.hid (show numOf (s.data.toList.take k) = (numR (s.data.toList.take k) : Int) by
              unfold numOf
              rw [if_neg]
              rw [hx]
              simp only [List.head?_cons, Option.some.injEq]
              exact h45)
            have h45n : ((f.toNat : Int) == 45) = false := by
              rw [beq_eq_false_iff_ne]
              intro h
              apply h45
              apply UInt8.toNat_inj.1
              have : (45 : UInt8).toNat = 45 := rfl
              omega
            clear hx
            have g0 := OA2.out.free 0
            have g1 := OA2.out.free 1
            have gl := OA2.out.lt
            have ca0 := OA2.out.cell 0
            have ca1 := OA2.out.cell 1
            go_wp2_with fail
            refine (NU.out _).mono ?_
            rintro e w3 ⟨rfl, rfl⟩
            have SA := Lib.hid (OA2.out.set 0 (.int .i64 (numR (s.data.toList.take k) : Int)))
            have SR := Lib.hid (OR2.out.beside OA2.out.new (show B ≠ B + 1 by omega) 0 (.int .i64 (numR (s.data.toList.take k) : Int)))
            have SA : Hid (Own w (w9.setCell ⟨B + 1, 0, none⟩ (.int .i64 (numR (s.data.toList.take k) : Int))) (B + 1) #[.int .i64 (numR (s.data.toList.take k) : Int), .int .i64 (dv : Int)]) := SA
            have sa0 := SA.out.cell 0
            have sa1 := SA.out.cell 1
            have EF := Lib.hid (show guess s.data.toList = ⟨(numR (s.data.toList.take k) : Int), (dv : Int)⟩ by rw [EG.out, EN.out])
            clear EG EN NU
            by_cases he : strOf [] = s
            · have E2 : Hid (r = (q0, 6)) := Lib.hid (by rw [E.out, if_pos (Or.inl he)])
              have hem : s.toList.isEmpty = true := by rw [← he, Lib.toList_data]; rfl
              have fr0 := SR.out.free 0
              have fr1 := SR.out.free 1
              have ltr := SR.out.lt
              have cr0 := SR.out.cell 0
              have cr1 := SR.out.cell 1
              clear he
              go_wp2_with fail
              refine bodyPost_ret (results_own rfl ((SR.out.set 0 _).set 1 _) rfl) rfl ?_
              exact ⟨by rw [E2.out]; rfl, ((SR.out.set 0 _).set 1 _).kept⟩
            · have hem : s.toList.isEmpty = false := by
                rw [Lib.toList_data, List.isEmpty_eq_false_iff]
                intro h
                exact he (ByteArray.ext (Array.toList_inj.1 h.symm))
              have hwf := WF.out
              rw [EF.out] at hwf
              have TX := Lib.hid (fun w => rtext_any ⟨(numR (s.data.toList.take k) : Int), (dv : Int)⟩ hwf w)
              obtain ⟨T, hT⟩ : ∃ T, strOf (textL ⟨(numR (s.data.toList.take k) : Int), (dv : Int)⟩) = T := ⟨_, rfl⟩
              rw [hT] at TX
              have ER := Lib.hid (show r = if strOf [] = s ∨ ¬ T = s then (q0, 6) else (⟨(numR (s.data.toList.take k) : Int), (dv : Int)⟩, 0) by rw [E.out, EF.out, hT])
              clear hT E EF hwf WF
              unfold Q.val at TX
              dsimp only at TX
              go_wp2_with fail
              refine (TX.out _).mono ?_
              rintro e w4 ⟨rfl, hk4⟩
              have ZA := Lib.hid (SA.out.step hk4)
              have ZR := Lib.hid (SR.out.step hk4)
              clear hk4 SA SR sa0 sa1 TX
              have fr0 := ZR.out.free 0
              have fr1 := ZR.out.free 1
              have ltr := ZR.out.lt
              have cr0 := ZR.out.cell 0
              have cr1 := ZR.out.cell 1
              have za0 := ZA.out.cell 0
              have za1 := ZA.out.cell 1
              by_cases ht : T = s
              · have E2 := Lib.hid (ER.out.trans (if_neg (by rintro (h | h); exact he h; exact h ht)))
                have hb := bytes_eq ht
                clear ER ht he
                go_wp2_with fail
                refine bodyPost_ret (results_own rfl ((ZR.out.set 0 _).set 1 _) rfl) rfl ?_
                exact ⟨by rw [E2.out]; rfl, ((ZR.out.set 0 _).set 1 _).kept⟩
              · have E2 := Lib.hid (ER.out.trans (if_pos (Or.inr ht)))
                have hb := bytes_ne ht
                clear ER ht he
                go_wp2_with fail
                refine bodyPost_ret (results_own rfl ((ZR.out.set 0 _).set 1 _) rfl) rfl ?_
                exact ⟨by rw [E2.out]; rfl, ((ZR.out.set 0 _).set 1 _).kept⟩
      · have h47n : ((c.toNat : Int) == 47) = false := by
          rw [beq_eq_false_iff_ne]
          intro h
          apply h47
          apply UInt8.toNat_inj.1
          have : (47 : UInt8).toNat = 47 := rfl
          omega
        have HN2 : Hid (∀ x ∈ s.data.toList.take (k + 1), x ≠ 47) := Lib.hid (by
          intro x hx
          rw [List.take_add_one, hc] at hx
          simp only [Option.toList_some, List.mem_append, List.mem_singleton] at hx
          rcases hx with hx | hx
          · exact HN.out x hx
          · rw [hx]; exact h47)
        clear hc hl
        go_wp2_with fail
        refine ⟨⟨k + 1, rfl, by simp, by omega, HN2⟩, ?_⟩
        show s.size - Int.toNat ((k : Int) + 1) < s.size - Int.toNat (k : Int)
        omega
    · have hks : k = s.size := by omega
      have CU := Lib.hid (show Lib.cut s.data.toList [47] = (s.data.toList, [], false) by
        have h := HN.out
        rw [List.take_of_length_le (by rw [HL.out]; omega)] at h
        exact cut_none _ h)
      have EG := Lib.hid (show guess s.data.toList = ⟨numOf (s.data.toList.take s.size), 1⟩ by
        unfold guess; rw [CU.out]
        dsimp only
        rw [List.take_of_length_le (by rw [HL.out]; exact Nat.le_refl _)]
        rfl)
      have OA2 := OA
      have OR2 := OR
      clear OA OR CU HN hk hlt
      go_upto_region 9 with fail
      -- the numerator
      by_cases hz : s.size = 0
      · have hx : s.data.toList.take s.size = [] := by rw [hz]; rfl
        have NU : Hid (∀ w, Calls Tryd.prog 44 #[.string ByteArray.empty] w fun e w' => e = .returned (.int .i64 0) ∧ w = w') := Lib.hid (fun w => number_any ByteArray.empty (by decide) w)
        have EN := Lib.hid (show numOf (s.data.toList.take s.size) = 0 by rw [hx]; rfl)
        clear hx
        have g0 := OA2.out.free 0
        have g1 := OA2.out.free 1
        have gl := OA2.out.lt
        have ca0 := OA2.out.cell 0
        have ca1 := OA2.out.cell 1
        go_wp2_with fail
        refine (NU.out _).mono ?_
        rintro e w3 ⟨rfl, rfl⟩
        have SA := Lib.hid (OA2.out.set 0 (.int .i64 0))
        have SR := Lib.hid (OR2.out.beside OA2.out.new (show B ≠ B + 1 by omega) 0 (.int .i64 0))
        have SA : Hid (Own w (w1.setCell ⟨B + 1, 0, none⟩ (.int .i64 0)) (B + 1) #[.int .i64 0, .int .i64 1]) := SA
        have sa0 := SA.out.cell 0
        have sa1 := SA.out.cell 1
        have EF := Lib.hid (show guess s.data.toList = ⟨0, 1⟩ by rw [EG.out, EN.out])
        clear EG EN NU
        by_cases he : strOf [] = s
        · have E2 : Hid (r = (q0, 6)) := Lib.hid (by rw [E.out, if_pos (Or.inl he)])
          have hem : s.toList.isEmpty = true := by rw [← he, Lib.toList_data]; rfl
          have fr0 := SR.out.free 0
          have fr1 := SR.out.free 1
          have ltr := SR.out.lt
          have cr0 := SR.out.cell 0
          have cr1 := SR.out.cell 1
          clear he
          go_wp2_with fail
          refine bodyPost_ret (results_own rfl ((SR.out.set 0 _).set 1 _) rfl) rfl ?_
          exact ⟨by rw [E2.out]; rfl, ((SR.out.set 0 _).set 1 _).kept⟩
        · have hem : s.toList.isEmpty = false := by
            rw [Lib.toList_data, List.isEmpty_eq_false_iff]
            intro h
            exact he (ByteArray.ext (Array.toList_inj.1 h.symm))
          have hwf := WF.out
          rw [EF.out] at hwf
          have TX := Lib.hid (fun w => rtext_any ⟨0, 1⟩ hwf w)
          obtain ⟨T, hT⟩ : ∃ T, strOf (textL ⟨0, 1⟩) = T := ⟨_, rfl⟩
          rw [hT] at TX
          have ER := Lib.hid (show r = if strOf [] = s ∨ ¬ T = s then (q0, 6) else (⟨0, 1⟩, 0) by rw [E.out, EF.out, hT])
          clear hT E EF hwf WF
          unfold Q.val at TX
          dsimp only at TX
          go_wp2_with fail
          refine (TX.out _).mono ?_
          rintro e w4 ⟨rfl, hk4⟩
          have ZA := Lib.hid (SA.out.step hk4)
          have ZR := Lib.hid (SR.out.step hk4)
          clear hk4 SA SR sa0 sa1 TX
          have fr0 := ZR.out.free 0
          have fr1 := ZR.out.free 1
          have ltr := ZR.out.lt
          have cr0 := ZR.out.cell 0
          have cr1 := ZR.out.cell 1
          have za0 := ZA.out.cell 0
          have za1 := ZA.out.cell 1
          by_cases ht : T = s
          · have E2 := Lib.hid (ER.out.trans (if_neg (by rintro (h | h); exact he h; exact h ht)))
            have hb := bytes_eq ht
            clear ER ht he
            go_wp2_with fail
            refine bodyPost_ret (results_own rfl ((ZR.out.set 0 _).set 1 _) rfl) rfl ?_
            exact ⟨by rw [E2.out]; rfl, ((ZR.out.set 0 _).set 1 _).kept⟩
          · have E2 := Lib.hid (ER.out.trans (if_pos (Or.inr ht)))
            have hb := bytes_ne ht
            clear ER ht he
            go_wp2_with fail
            refine bodyPost_ret (results_own rfl ((ZR.out.set 0 _).set 1 _) rfl) rfl ?_
            exact ⟨by rw [E2.out]; rfl, ((ZR.out.set 0 _).set 1 _).kept⟩
      · obtain ⟨f, hf⟩ : ∃ f, s.data.toList[0]? = some f := ⟨_, List.getElem?_eq_getElem (by rw [HL.out]; omega)⟩
        have hi0 : ∀ (kd : IntKind) (w : World), (Instr.index 9 (.string s) (.int kd 0)).run Tryd.prog w = .ok (.int .u8 (f.toNat : Int)) w := fun kd w => index_at s 0 f hf kd w
        have hx : ∃ t, s.data.toList.take s.size = f :: t := by
          cases hl : s.data.toList with
          | nil => rw [hl] at hf; cases hf
          | cons a t =>
            rw [hl] at hf
            simp only [List.getElem?_cons_zero, Option.some.injEq] at hf
            subst hf
            obtain ⟨z, hz'⟩ : ∃ z, s.size = z + 1 := ⟨s.size - 1, by omega⟩
            rw [hz']
            exact ⟨t.take z, by simp⟩
        obtain ⟨t, hx⟩ := hx
        have pz : (0 : Int) < (s.size : Int) := by omega
        have pe : 1 ≤ s.size := by omega
        clear hf
        by_cases h45 : f = 45
        · subst h45
          have NU := Lib.hid (fun w => number_ext s 1 s.size hs (x := t) (by rw [hx]; rfl) w)
          have EN := Lib.hid (show numOf (s.data.toList.take s.size) = -(numR t : Int) by rw [hx]; rfl)
          have ns := numR_lt t
          have e45 : (((45 : UInt8).toNat : Int) == 45) = true := rfl
          clear hx
          have g0 := OA2.out.free 0
          have g1 := OA2.out.free 1
          have gl := OA2.out.lt
          have ca0 := OA2.out.cell 0
          have ca1 := OA2.out.cell 1
          have nz : (0 : Int) - (numR t : Int) = -(numR t : Int) := by omega
          go_wp2_with fail
          refine (NU.out _).mono ?_
          rintro e w3 ⟨rfl, rfl⟩
          have SA := Lib.hid (OA2.out.set 0 (.int .i64 (-(numR t : Int))))
          have SR := Lib.hid (OR2.out.beside OA2.out.new (show B ≠ B + 1 by omega) 0 (.int .i64 (-(numR t : Int))))
          have SA : Hid (Own w (w1.setCell ⟨B + 1, 0, none⟩ (.int .i64 (-(numR t : Int)))) (B + 1) #[.int .i64 (-(numR t : Int)), .int .i64 1]) := SA
          have sa0 := SA.out.cell 0
          have sa1 := SA.out.cell 1
          have EF := Lib.hid (show guess s.data.toList = ⟨(-(numR t : Int)), 1⟩ by rw [EG.out, EN.out])
          clear EG EN NU
          by_cases he : strOf [] = s
          · have E2 : Hid (r = (q0, 6)) := Lib.hid (by rw [E.out, if_pos (Or.inl he)])
            have hem : s.toList.isEmpty = true := by rw [← he, Lib.toList_data]; rfl
            have fr0 := SR.out.free 0
            have fr1 := SR.out.free 1
            have ltr := SR.out.lt
            have cr0 := SR.out.cell 0
            have cr1 := SR.out.cell 1
            clear he
            go_wp2_with fail
            refine bodyPost_ret (results_own rfl ((SR.out.set 0 _).set 1 _) rfl) rfl ?_
            exact ⟨by rw [E2.out]; rfl, ((SR.out.set 0 _).set 1 _).kept⟩
          · have hem : s.toList.isEmpty = false := by
              rw [Lib.toList_data, List.isEmpty_eq_false_iff]
              intro h
              exact he (ByteArray.ext (Array.toList_inj.1 h.symm))
            have hwf := WF.out
            rw [EF.out] at hwf
            have TX := Lib.hid (fun w => rtext_any ⟨(-(numR t : Int)), 1⟩ hwf w)
            obtain ⟨T, hT⟩ : ∃ T, strOf (textL ⟨(-(numR t : Int)), 1⟩) = T := ⟨_, rfl⟩
            rw [hT] at TX
            have ER := Lib.hid (show r = if strOf [] = s ∨ ¬ T = s then (q0, 6) else (⟨(-(numR t : Int)), 1⟩, 0) by rw [E.out, EF.out, hT])
            clear hT E EF hwf WF
            unfold Q.val at TX
            dsimp only at TX
            go_wp2_with fail
            refine (TX.out _).mono ?_
            rintro e w4 ⟨rfl, hk4⟩
            have ZA := Lib.hid (SA.out.step hk4)
            have ZR := Lib.hid (SR.out.step hk4)
            clear hk4 SA SR sa0 sa1 TX
            have fr0 := ZR.out.free 0
            have fr1 := ZR.out.free 1
            have ltr := ZR.out.lt
            have cr0 := ZR.out.cell 0
            have cr1 := ZR.out.cell 1
            have za0 := ZA.out.cell 0
            have za1 := ZA.out.cell 1
            by_cases ht : T = s
            · have E2 := Lib.hid (ER.out.trans (if_neg (by rintro (h | h); exact he h; exact h ht)))
              have hb := bytes_eq ht
              clear ER ht he
              go_wp2_with fail
              refine bodyPost_ret (results_own rfl ((ZR.out.set 0 _).set 1 _) rfl) rfl ?_
              exact ⟨by rw [E2.out]; rfl, ((ZR.out.set 0 _).set 1 _).kept⟩
            · have E2 := Lib.hid (ER.out.trans (if_pos (Or.inr ht)))
              have hb := bytes_ne ht
              clear ER ht he
              go_wp2_with fail
              refine bodyPost_ret (results_own rfl ((ZR.out.set 0 _).set 1 _) rfl) rfl ?_
              exact ⟨by rw [E2.out]; rfl, ((ZR.out.set 0 _).set 1 _).kept⟩
        · have NU : Hid (∀ w, Calls Tryd.prog 44 #[.string s] w fun e w' => e = .returned (.int .i64 (numR (s.data.toList.take s.size) : Int)) ∧ w = w') := Lib.hid (fun w => by have h := number_any s hs w; rw [List.take_of_length_le (show s.data.toList.length ≤ s.size from Nat.le_refl _)]; exact h)
          have EN := Lib.hid (show numOf (s.data.toList.take s.size) = (numR (s.data.toList.take s.size) : Int) by
            unfold numOf
            rw [if_neg]
            rw [hx]
            simp only [List.head?_cons, Option.some.injEq]
            exact h45)
          have h45n : ((f.toNat : Int) == 45) = false := by
            rw [beq_eq_false_iff_ne]
            intro h
            apply h45
            apply UInt8.toNat_inj.1
            have : (45 : UInt8).toNat = 45 := rfl
            omega
          clear hx
          have g0 := OA2.out.free 0
          have g1 := OA2.out.free 1
          have gl := OA2.out.lt
          have ca0 := OA2.out.cell 0
          have ca1 := OA2.out.cell 1
          go_wp2_with fail
          refine (NU.out _).mono ?_
          rintro e w3 ⟨rfl, rfl⟩
          have SA := Lib.hid (OA2.out.set 0 (.int .i64 (numR (s.data.toList.take s.size) : Int)))
          have SR := Lib.hid (OR2.out.beside OA2.out.new (show B ≠ B + 1 by omega) 0 (.int .i64 (numR (s.data.toList.take s.size) : Int)))
          have SA : Hid (Own w (w1.setCell ⟨B + 1, 0, none⟩ (.int .i64 (numR (s.data.toList.take s.size) : Int))) (B + 1) #[.int .i64 (numR (s.data.toList.take s.size) : Int), .int .i64 1]) := SA
          have sa0 := SA.out.cell 0
          have sa1 := SA.out.cell 1
          have EF := Lib.hid (show guess s.data.toList = ⟨(numR (s.data.toList.take s.size) : Int), 1⟩ by rw [EG.out, EN.out])
          clear EG EN NU
          by_cases he : strOf [] = s
          · have E2 : Hid (r = (q0, 6)) := Lib.hid (by rw [E.out, if_pos (Or.inl he)])
            have hem : s.toList.isEmpty = true := by rw [← he, Lib.toList_data]; rfl
            have fr0 := SR.out.free 0
            have fr1 := SR.out.free 1
            have ltr := SR.out.lt
            have cr0 := SR.out.cell 0
            have cr1 := SR.out.cell 1
            clear he
            go_wp2_with fail
            refine bodyPost_ret (results_own rfl ((SR.out.set 0 _).set 1 _) rfl) rfl ?_
            exact ⟨by rw [E2.out]; rfl, ((SR.out.set 0 _).set 1 _).kept⟩
          · have hem : s.toList.isEmpty = false := by
              rw [Lib.toList_data, List.isEmpty_eq_false_iff]
              intro h
              exact he (ByteArray.ext (Array.toList_inj.1 h.symm))
            have hwf := WF.out
            rw [EF.out] at hwf
            have TX := Lib.hid (fun w => rtext_any ⟨(numR (s.data.toList.take s.size) : Int), 1⟩ hwf w)
            obtain ⟨T, hT⟩ : ∃ T, strOf (textL ⟨(numR (s.data.toList.take s.size) : Int), 1⟩) = T := ⟨_, rfl⟩
            rw [hT] at TX
            have ER := Lib.hid (show r = if strOf [] = s ∨ ¬ T = s then (q0, 6) else (⟨(numR (s.data.toList.take s.size) : Int), 1⟩, 0) by rw [E.out, EF.out, hT])
            clear hT E EF hwf WF
            unfold Q.val at TX
            dsimp only at TX
            go_wp2_with fail
            refine (TX.out _).mono ?_
            rintro e w4 ⟨rfl, hk4⟩
            have ZA := Lib.hid (SA.out.step hk4)
            have ZR := Lib.hid (SR.out.step hk4)
            clear hk4 SA SR sa0 sa1 TX
            have fr0 := ZR.out.free 0
            have fr1 := ZR.out.free 1
            have ltr := ZR.out.lt
            have cr0 := ZR.out.cell 0
            have cr1 := ZR.out.cell 1
            have za0 := ZA.out.cell 0
            have za1 := ZA.out.cell 1
            by_cases ht : T = s
            · have E2 := Lib.hid (ER.out.trans (if_neg (by rintro (h | h); exact he h; exact h ht)))
              have hb := bytes_eq ht
              clear ER ht he
              go_wp2_with fail
              refine bodyPost_ret (results_own rfl ((ZR.out.set 0 _).set 1 _) rfl) rfl ?_
              exact ⟨by rw [E2.out]; rfl, ((ZR.out.set 0 _).set 1 _).kept⟩
            · have E2 := Lib.hid (ER.out.trans (if_pos (Or.inr ht)))
              have hb := bytes_ne ht
              clear ER ht he
              go_wp2_with fail
              refine bodyPost_ret (results_own rfl ((ZR.out.set 0 _).set 1 _) rfl) rfl ?_
              exact ⟨by rw [E2.out]; rfl, ((ZR.out.set 0 _).set 1 _).kept⟩
end Go.Proofs.YtacjgkpncdnbgaaDoor
