/-
  The law RatioField, walked. Its condition: the library's variables are as the program's start leaves them.
-/
import Derived.Test.YtacjgkpncdnbgaaDoorE3
import Derived.Test.YtacjgkpncdnbgaaDoorQ5
import Derived.Deep.DeepCutAuto
namespace Go.Proofs.YtacjgkpncdnbgaaDoor
open Go.RowKit

theorem made_two {x y e : Int} (h : (∃ p : Q, ((⟨x, y⟩, e) : Q × Int) = (p, 0)) ∨ ((⟨x, y⟩, e) : Q × Int) = (q0, 2)) : e = 2 ∨ e = 0 := by
  rcases h with ⟨p, h⟩ | h
  · simp only [Prod.mk.injEq] at h; exact Or.inr h.2
  · simp only [Prod.mk.injEq] at h; exact Or.inl h.2

set_option maxRecDepth 100000 in
set_option maxHeartbeats 16000000 in
theorem ratioField_walk (a : Q) (ha : a.wf) (b : Q) (hb : b.wf) (c : Q) (hc : c.wf) (w : World) (hE : Env w) :
    Calls Tryd.prog 8 #[a.val, b.val, c.val] w fun e w' => e = .returned (.bool true) ∧ Kept w w' := by
  have O := three w #[.int .i64 a.n, .int .i64 a.d] #[.int .i64 b.n, .int .i64 b.d] #[.int .i64 c.n, .int .i64 c.d]
  have EN := Lib.hid hE
  obtain ⟨n, d⟩ := a
  obtain ⟨m, o⟩ := b
  obtain ⟨i, j⟩ := c
  unfold Q.val
  dsimp only at O ⊢
  clear hE
  go_enter Tryd.func8, Tryd.ntmps8
  go_wp2_with fail
  have Oa_0 := Lib.hid O.out.1
  have Ob_0 := Lib.hid O.out.2.1
  have Oc_0 := Lib.hid O.out.2.2
  have K0 := Lib.hid O.out.1.kept
  clear O
  generalize w.heap.size = Ba at *
  generalize hgen : ((w.alloc _).alloc _).alloc _ = w0 at *
  clear hgen
  refine (head_any _ (EN.out.kept K0.out)).mono ?_
  rintro e w1 ⟨rfl, hk⟩
  have K1 := Lib.hid (K0.out.trans hk)
  have Oa_1 := Lib.hid (Oa_0.out.step hk)
  have Ob_1 := Lib.hid (Ob_0.out.step hk)
  have Oc_1 := Lib.hid (Oc_0.out.step hk)
  clear K0 Oa_0 Ob_0 Oc_0
  clear hk
  have ca0 := Oa_1.out.cell 0
  have ca1 := Oa_1.out.cell 1
  have cb0 := Ob_1.out.cell 0
  have cb1 := Ob_1.out.cell 1
  have cc0 := Oc_1.out.cell 0
  have cc1 := Oc_1.out.cell 1
  go_wp2_with fail
  by_cases va : (Q.mk n d).valid = true
  · refine (valid_at va ha _).mono ?_
    rintro e w2 ⟨rfl, hk⟩
    clear ca0 ca1 cb0 cb1 cc0 cc1
    have K2 := Lib.hid (K1.out.trans hk)
    have Oa_2 := Lib.hid (Oa_1.out.step hk)
    have Ob_2 := Lib.hid (Ob_1.out.step hk)
    have Oc_2 := Lib.hid (Oc_1.out.step hk)
    clear K1 Oa_1 Ob_1 Oc_1
    clear hk
    have ca0 := Oa_2.out.cell 0
    have ca1 := Oa_2.out.cell 1
    have cb0 := Ob_2.out.cell 0
    have cb1 := Ob_2.out.cell 1
    have cc0 := Oc_2.out.cell 0
    have cc1 := Oc_2.out.cell 1
    go_wp2_with fail
    by_cases vb : (Q.mk m o).valid = true
    · refine (valid_at vb hb _).mono ?_
      rintro e w3 ⟨rfl, hk⟩
      clear ca0 ca1 cb0 cb1 cc0 cc1
      have K3 := Lib.hid (K2.out.trans hk)
      have Oa_3 := Lib.hid (Oa_2.out.step hk)
      have Ob_3 := Lib.hid (Ob_2.out.step hk)
      have Oc_3 := Lib.hid (Oc_2.out.step hk)
      clear K2 Oa_2 Ob_2 Oc_2
      clear hk
      have ca0 := Oa_3.out.cell 0
      have ca1 := Oa_3.out.cell 1
      have cb0 := Ob_3.out.cell 0
      have cb1 := Ob_3.out.cell 1
      have cc0 := Oc_3.out.cell 0
      have cc1 := Oc_3.out.cell 1
      go_wp2_with fail
      by_cases vc : (Q.mk i j).valid = true
      · refine (valid_at vc hc _).mono ?_
        rintro e w4 ⟨rfl, hk⟩
        clear ca0 ca1 cb0 cb1 cc0 cc1
        have K4 := Lib.hid (K3.out.trans hk)
        have Oa_4 := Lib.hid (Oa_3.out.step hk)
        have Ob_4 := Lib.hid (Ob_3.out.step hk)
        have Oc_4 := Lib.hid (Oc_3.out.step hk)
        clear K3 Oa_3 Ob_3 Oc_3
        clear hk
        have ca0 := Oa_4.out.cell 0
        have ca1 := Oa_4.out.cell 1
        have cb0 := Ob_4.out.cell 0
        have cb1 := Ob_4.out.cell 1
        have cc0 := Oc_4.out.cell 0
        have cc1 := Oc_4.out.cell 1
        go_wp2_with fail
        obtain ⟨⟨⟨sx, sy⟩, se⟩, sh⟩ : ∃ r, addR ⟨n, d⟩ ⟨m, o⟩ = r := ⟨_, rfl⟩
        obtain ⟨⟨⟨px, py⟩, pe⟩, ph⟩ : ∃ r, mulR ⟨n, d⟩ ⟨m, o⟩ = r := ⟨_, rfl⟩
        obtain ⟨⟨⟨ux, uy⟩, ue⟩, uh⟩ : ∃ r, addR ⟨m, o⟩ ⟨i, j⟩ = r := ⟨_, rfl⟩
        obtain ⟨⟨⟨vx, vy⟩, ve⟩, vh⟩ : ∃ r, mulR ⟨m, o⟩ ⟨i, j⟩ = r := ⟨_, rfl⟩
        obtain ⟨⟨⟨yx, yy⟩, ye⟩, yh⟩ : ∃ r, mulR ⟨n, d⟩ ⟨i, j⟩ = r := ⟨_, rfl⟩
        have SE : se = 2 ∨ se = 0 := made_two (by rw [← sh]; exact (add_cases va vb).symm)
        have PE : pe = 2 ∨ pe = 0 := made_two (by rw [← ph]; exact (mul_cases va vb).symm)
        have UE : ue = 2 ∨ ue = 0 := made_two (by rw [← uh]; exact (add_cases vb vc).symm)
        have VE : ve = 2 ∨ ve = 0 := made_two (by rw [← vh]; exact (mul_cases vb vc).symm)
        have YE : ye = 2 ∨ ye = 0 := made_two (by rw [← yh]; exact (mul_cases va vc).symm)
        have SH := Lib.hid sh
        have PH := Lib.hid ph
        have UH := Lib.hid uh
        have VH := Lib.hid vh
        have YH := Lib.hid yh
        have TH := Lib.hid ((field_add_comm va vb).trans sh)
        have RH := Lib.hid ((field_mul_comm va vb).trans ph)
        have SE := Lib.hid SE
        have PE := Lib.hid PE
        have UE := Lib.hid UE
        have VE := Lib.hid VE
        have YE := Lib.hid YE
        clear sh ph uh vh yh
        refine (add_at SH.out ha hb _).mono ?_
        rintro e w5 ⟨rfl, hk⟩
        clear ca0 ca1 cb0 cb1 cc0 cc1
        have K5 := Lib.hid (K4.out.trans hk)
        have Oa_5 := Lib.hid (Oa_4.out.step hk)
        have Ob_5 := Lib.hid (Ob_4.out.step hk)
        have Oc_5 := Lib.hid (Oc_4.out.step hk)
        clear K4 Oa_4 Ob_4 Oc_4
        clear hk
        have Ns := Lib.hid (Own.made K5.out #[.int .i64 (sx), .int .i64 (sy)])
        have K6 := Lib.hid (K5.out.trans ((Kept.refl w5).alloc (.cells #[.int .i64 (sx), .int .i64 (sy)] 24)))
        have Oa_6 := Lib.hid (Oa_5.out.step ((Kept.refl w5).alloc (.cells #[.int .i64 (sx), .int .i64 (sy)] 24)))
        have Ob_6 := Lib.hid (Ob_5.out.step ((Kept.refl w5).alloc (.cells #[.int .i64 (sx), .int .i64 (sy)] 24)))
        have Oc_6 := Lib.hid (Oc_5.out.step ((Kept.refl w5).alloc (.cells #[.int .i64 (sx), .int .i64 (sy)] 24)))
        clear K5 Oa_5 Ob_5 Oc_5
        have Os_6 := Ns
        clear Ns
        have ca0 := Oa_6.out.cell 0
        have ca1 := Oa_6.out.cell 1
        have cb0 := Ob_6.out.cell 0
        have cb1 := Ob_6.out.cell 1
        have cc0 := Oc_6.out.cell 0
        have cc1 := Oc_6.out.cell 1
        go_wp2_with fail
        clear ca0 ca1 cb0 cb1 cc0 cc1
        generalize w5.heap.size = Bs at *
        generalize w5.alloc _ = w6 at *
        refine (add_at TH.out hb ha _).mono ?_
        rintro e w7 ⟨rfl, hk⟩
        have K7 := Lib.hid (K6.out.trans hk)
        have Oa_7 := Lib.hid (Oa_6.out.step hk)
        have Ob_7 := Lib.hid (Ob_6.out.step hk)
        have Oc_7 := Lib.hid (Oc_6.out.step hk)
        have Os_7 := Lib.hid (Os_6.out.step hk)
        clear K6 Oa_6 Ob_6 Oc_6 Os_6
        clear hk
        have Nt := Lib.hid (Own.made K7.out #[.int .i64 (sx), .int .i64 (sy)])
        have K8 := Lib.hid (K7.out.trans ((Kept.refl w7).alloc (.cells #[.int .i64 (sx), .int .i64 (sy)] 24)))
        have Oa_8 := Lib.hid (Oa_7.out.step ((Kept.refl w7).alloc (.cells #[.int .i64 (sx), .int .i64 (sy)] 24)))
        have Ob_8 := Lib.hid (Ob_7.out.step ((Kept.refl w7).alloc (.cells #[.int .i64 (sx), .int .i64 (sy)] 24)))
        have Oc_8 := Lib.hid (Oc_7.out.step ((Kept.refl w7).alloc (.cells #[.int .i64 (sx), .int .i64 (sy)] 24)))
        have Os_8 := Lib.hid (Os_7.out.step ((Kept.refl w7).alloc (.cells #[.int .i64 (sx), .int .i64 (sy)] 24)))
        clear K7 Oa_7 Ob_7 Oc_7 Os_7
        have Ot_8 := Nt
        clear Nt
        have ca0 := Oa_8.out.cell 0
        have ca1 := Oa_8.out.cell 1
        have cb0 := Ob_8.out.cell 0
        have cb1 := Ob_8.out.cell 1
        have cc0 := Oc_8.out.cell 0
        have cc1 := Oc_8.out.cell 1
        go_wp2_with fail
        clear ca0 ca1 cb0 cb1 cc0 cc1
        generalize w7.heap.size = Bt at *
        generalize w7.alloc _ = w8 at *
        refine (mul_at PH.out ha hb _).mono ?_
        rintro e w9 ⟨rfl, hk⟩
        have K9 := Lib.hid (K8.out.trans hk)
        have Oa_9 := Lib.hid (Oa_8.out.step hk)
        have Ob_9 := Lib.hid (Ob_8.out.step hk)
        have Oc_9 := Lib.hid (Oc_8.out.step hk)
        have Os_9 := Lib.hid (Os_8.out.step hk)
        have Ot_9 := Lib.hid (Ot_8.out.step hk)
        clear K8 Oa_8 Ob_8 Oc_8 Os_8 Ot_8
        clear hk
        have Np := Lib.hid (Own.made K9.out #[.int .i64 (px), .int .i64 (py)])
        have K10 := Lib.hid (K9.out.trans ((Kept.refl w9).alloc (.cells #[.int .i64 (px), .int .i64 (py)] 24)))
        have Oa_10 := Lib.hid (Oa_9.out.step ((Kept.refl w9).alloc (.cells #[.int .i64 (px), .int .i64 (py)] 24)))
        have Ob_10 := Lib.hid (Ob_9.out.step ((Kept.refl w9).alloc (.cells #[.int .i64 (px), .int .i64 (py)] 24)))
        have Oc_10 := Lib.hid (Oc_9.out.step ((Kept.refl w9).alloc (.cells #[.int .i64 (px), .int .i64 (py)] 24)))
        have Os_10 := Lib.hid (Os_9.out.step ((Kept.refl w9).alloc (.cells #[.int .i64 (px), .int .i64 (py)] 24)))
        have Ot_10 := Lib.hid (Ot_9.out.step ((Kept.refl w9).alloc (.cells #[.int .i64 (px), .int .i64 (py)] 24)))
        clear K9 Oa_9 Ob_9 Oc_9 Os_9 Ot_9
        have Op_10 := Np
        clear Np
        have ca0 := Oa_10.out.cell 0
        have ca1 := Oa_10.out.cell 1
        have cb0 := Ob_10.out.cell 0
        have cb1 := Ob_10.out.cell 1
        have cc0 := Oc_10.out.cell 0
        have cc1 := Oc_10.out.cell 1
        go_wp2_with fail
        clear ca0 ca1 cb0 cb1 cc0 cc1
        generalize w9.heap.size = Bp at *
        generalize w9.alloc _ = w10 at *
        refine (mul_at RH.out hb ha _).mono ?_
        rintro e w11 ⟨rfl, hk⟩
        have K11 := Lib.hid (K10.out.trans hk)
        have Oa_11 := Lib.hid (Oa_10.out.step hk)
        have Ob_11 := Lib.hid (Ob_10.out.step hk)
        have Oc_11 := Lib.hid (Oc_10.out.step hk)
        have Os_11 := Lib.hid (Os_10.out.step hk)
        have Ot_11 := Lib.hid (Ot_10.out.step hk)
        have Op_11 := Lib.hid (Op_10.out.step hk)
        clear K10 Oa_10 Ob_10 Oc_10 Os_10 Ot_10 Op_10
        clear hk
        have Nq := Lib.hid (Own.made K11.out #[.int .i64 px, .int .i64 py])
        have K12 := Lib.hid (K11.out.trans ((Kept.refl w11).alloc (.cells #[.int .i64 px, .int .i64 py] 24)))
        have Oa_12 := Lib.hid (Oa_11.out.step ((Kept.refl w11).alloc (.cells #[.int .i64 px, .int .i64 py] 24)))
        have Ob_12 := Lib.hid (Ob_11.out.step ((Kept.refl w11).alloc (.cells #[.int .i64 px, .int .i64 py] 24)))
        have Oc_12 := Lib.hid (Oc_11.out.step ((Kept.refl w11).alloc (.cells #[.int .i64 px, .int .i64 py] 24)))
        have Os_12 := Lib.hid (Os_11.out.step ((Kept.refl w11).alloc (.cells #[.int .i64 px, .int .i64 py] 24)))
        have Ot_12 := Lib.hid (Ot_11.out.step ((Kept.refl w11).alloc (.cells #[.int .i64 px, .int .i64 py] 24)))
        have Op_12 := Lib.hid (Op_11.out.step ((Kept.refl w11).alloc (.cells #[.int .i64 px, .int .i64 py] 24)))
        clear K11 Oa_11 Ob_11 Oc_11 Os_11 Ot_11 Op_11
        have Oq_12 := Nq
        clear Nq
        have ca0 := Oa_12.out.cell 0
        have ca1 := Oa_12.out.cell 1
        have cb0 := Ob_12.out.cell 0
        have cb1 := Ob_12.out.cell 1
        have cc0 := Oc_12.out.cell 0
        have cc1 := Oc_12.out.cell 1
        have cs0 := Os_12.out.cell 0
        have cs1 := Os_12.out.cell 1
        have ct0 := Ot_12.out.cell 0
        have ct1 := Ot_12.out.cell 1
        have cp0 := Op_12.out.cell 0
        have cp1 := Op_12.out.cell 1
        have cq0 := Oq_12.out.cell 0
        have cq1 := Oq_12.out.cell 1
        go_upto_if 96 with fail
        clear ca0 ca1 cb0 cb1 cc0 cc1 cs0 cs1 ct0 ct1 cp0 cp1 cq0 cq1
        generalize w11.heap.size = Bq at *
        generalize w11.alloc _ = w12 at *
        go_cut [] (fun wx => Hid (Kept w wx) ∧ Hid (Own w wx (Ba) #[.int .i64 n, .int .i64 d]) ∧ Hid (Own w wx (Ba + 1) #[.int .i64 m, .int .i64 o]) ∧ Hid (Own w wx (Ba + 1 + 1) #[.int .i64 i, .int .i64 j]) ∧ Hid (Own w wx (Bs) #[.int .i64 sx, .int .i64 sy]) ∧ Hid (Own w wx (Bp) #[.int .i64 px, .int .i64 py]))
        case first =>
          as_aux_lemma =>
            rcases SE.out with rfl | rfl
            · go_wp2_with fail
              go_meet
              exact ⟨K12, Oa_12, Ob_12, Oc_12, Os_12, Op_12⟩
            · have cs0 := Os_12.out.cell 0
              have cs1 := Os_12.out.cell 1
              have cb0 := Ob_12.out.cell 0
              have cb1 := Ob_12.out.cell 1
              go_wp2_with fail
              refine (sub_at (field_sub va vb SH.out) (Q.wf_of (add_valid va vb SH.out)) hb _).mono ?_
              rintro e w13 ⟨rfl, hk⟩
              clear cs0 cs1 cb0 cb1
              have K13 := Lib.hid (K12.out.trans hk)
              have Oa_13 := Lib.hid (Oa_12.out.step hk)
              have Ob_13 := Lib.hid (Ob_12.out.step hk)
              have Oc_13 := Lib.hid (Oc_12.out.step hk)
              have Os_13 := Lib.hid (Os_12.out.step hk)
              have Ot_13 := Lib.hid (Ot_12.out.step hk)
              have Op_13 := Lib.hid (Op_12.out.step hk)
              have Oq_13 := Lib.hid (Oq_12.out.step hk)
              clear K12 Oa_12 Ob_12 Oc_12 Os_12 Ot_12 Op_12 Oq_12
              clear hk
              have Nk := Lib.hid (Own.made K13.out #[.int .i64 (n), .int .i64 (d)])
              have K14 := Lib.hid (K13.out.trans ((Kept.refl w13).alloc (.cells #[.int .i64 (n), .int .i64 (d)] 24)))
              have Oa_14 := Lib.hid (Oa_13.out.step ((Kept.refl w13).alloc (.cells #[.int .i64 (n), .int .i64 (d)] 24)))
              have Ob_14 := Lib.hid (Ob_13.out.step ((Kept.refl w13).alloc (.cells #[.int .i64 (n), .int .i64 (d)] 24)))
              have Oc_14 := Lib.hid (Oc_13.out.step ((Kept.refl w13).alloc (.cells #[.int .i64 (n), .int .i64 (d)] 24)))
              have Os_14 := Lib.hid (Os_13.out.step ((Kept.refl w13).alloc (.cells #[.int .i64 (n), .int .i64 (d)] 24)))
              have Ot_14 := Lib.hid (Ot_13.out.step ((Kept.refl w13).alloc (.cells #[.int .i64 (n), .int .i64 (d)] 24)))
              have Op_14 := Lib.hid (Op_13.out.step ((Kept.refl w13).alloc (.cells #[.int .i64 (n), .int .i64 (d)] 24)))
              have Oq_14 := Lib.hid (Oq_13.out.step ((Kept.refl w13).alloc (.cells #[.int .i64 (n), .int .i64 (d)] 24)))
              clear K13 Oa_13 Ob_13 Oc_13 Os_13 Ot_13 Op_13 Oq_13
              have Ok_14 := Nk
              clear Nk
              have ca0 := Oa_14.out.cell 0
              have ca1 := Oa_14.out.cell 1
              have ck0 := Ok_14.out.cell 0
              have ck1 := Ok_14.out.cell 1
              go_wp2_with fail
              clear ca0 ca1 ck0 ck1
              generalize w13.heap.size = Bk at *
              generalize w13.alloc _ = w14 at *
              go_meet
              exact ⟨K14, Oa_14, Ob_14, Oc_14, Os_14, Op_14⟩
        case rest =>
          as_aux_lemma =>
            clear K12 Oa_12 Ob_12 Oc_12 Os_12 Op_12
            obtain ⟨K13, Oa_13, Ob_13, Oc_13, Os_13, Op_13⟩ := hcut
            generalize wc = w13 at *
            go_upto_region 14 with fail
            go_cut [116] (fun v wx => v = .bool (decide (pe = 0) && decide (m ≠ 0)) ∧ Hid (Kept w wx) ∧ Hid (Own w wx (Ba) #[.int .i64 n, .int .i64 d]) ∧ Hid (Own w wx (Ba + 1) #[.int .i64 m, .int .i64 o]) ∧ Hid (Own w wx (Ba + 1 + 1) #[.int .i64 i, .int .i64 j]) ∧ Hid (Own w wx (Bs) #[.int .i64 sx, .int .i64 sy]) ∧ Hid (Own w wx (Bp) #[.int .i64 px, .int .i64 py]))
            case first =>
              as_aux_lemma =>
                rcases PE.out with rfl | rfl
                · go_wp2_with fail
                  go_meet
                  exact ⟨rfl, K13, Oa_13, Ob_13, Oc_13, Os_13, Op_13⟩
                · by_cases m0 : m = 0
                  · subst m0
                    have cb0 := Ob_13.out.cell 0
                    have cb1 := Ob_13.out.cell 1
                    go_wp2_with fail
                    go_meet
                    exact ⟨by first | rfl | simp, K13, Oa_13, Ob_13, Oc_13, Os_13, Op_13⟩
                  · have mz : (m == 0) = false := by simpa using m0
                    have cb0 := Ob_13.out.cell 0
                    have cb1 := Ob_13.out.cell 1
                    go_wp2_with fail
                    go_meet
                    exact ⟨by first | rfl | simp [m0], K13, Oa_13, Ob_13, Oc_13, Os_13, Op_13⟩
            case rest =>
              as_aux_lemma =>
                clear K13 Oa_13 Ob_13 Oc_13 Os_13 Op_13
                obtain ⟨rfl, K14, Oa_14, Ob_14, Oc_14, Os_14, Op_14⟩ := hcut
                generalize wc = w14 at *
                go_upto_if 116 with fail
                go_cut [] (fun wx => Hid (Kept w wx) ∧ Hid (Own w wx (Ba) #[.int .i64 n, .int .i64 d]) ∧ Hid (Own w wx (Ba + 1) #[.int .i64 m, .int .i64 o]) ∧ Hid (Own w wx (Ba + 1 + 1) #[.int .i64 i, .int .i64 j]) ∧ Hid (Own w wx (Bs) #[.int .i64 sx, .int .i64 sy]) ∧ Hid (Own w wx (Bp) #[.int .i64 px, .int .i64 py]))
                case first =>
                  as_aux_lemma =>
                    by_cases hh : pe = 0 ∧ m ≠ 0
                    · have hv : (decide (pe = 0) && decide (m ≠ 0)) = true := by simpa using hh
                      rw [hv]
                      obtain ⟨rfl, m0⟩ := hh
                      have DV := Lib.hid (field_div va vb PH.out m0)
                      clear hv m0
                      have cp0 := Op_14.out.cell 0
                      have cp1 := Op_14.out.cell 1
                      have cb0 := Ob_14.out.cell 0
                      have cb1 := Ob_14.out.cell 1
                      go_wp2_with fail
                      refine (div_at DV.out (Q.wf_of (mul_valid va vb PH.out)) hb _).mono ?_
                      rintro e w15 ⟨rfl, hk⟩
                      clear cp0 cp1 cb0 cb1
                      have K15 := Lib.hid (K14.out.trans hk)
                      have Oa_15 := Lib.hid (Oa_14.out.step hk)
                      have Ob_15 := Lib.hid (Ob_14.out.step hk)
                      have Oc_15 := Lib.hid (Oc_14.out.step hk)
                      have Os_15 := Lib.hid (Os_14.out.step hk)
                      have Op_15 := Lib.hid (Op_14.out.step hk)
                      clear K14 Oa_14 Ob_14 Oc_14 Os_14 Op_14
                      clear hk
                      have Nk := Lib.hid (Own.made K15.out #[.int .i64 (n), .int .i64 (d)])
                      have K16 := Lib.hid (K15.out.trans ((Kept.refl w15).alloc (.cells #[.int .i64 (n), .int .i64 (d)] 24)))
                      have Oa_16 := Lib.hid (Oa_15.out.step ((Kept.refl w15).alloc (.cells #[.int .i64 (n), .int .i64 (d)] 24)))
                      have Ob_16 := Lib.hid (Ob_15.out.step ((Kept.refl w15).alloc (.cells #[.int .i64 (n), .int .i64 (d)] 24)))
                      have Oc_16 := Lib.hid (Oc_15.out.step ((Kept.refl w15).alloc (.cells #[.int .i64 (n), .int .i64 (d)] 24)))
                      have Os_16 := Lib.hid (Os_15.out.step ((Kept.refl w15).alloc (.cells #[.int .i64 (n), .int .i64 (d)] 24)))
                      have Op_16 := Lib.hid (Op_15.out.step ((Kept.refl w15).alloc (.cells #[.int .i64 (n), .int .i64 (d)] 24)))
                      clear K15 Oa_15 Ob_15 Oc_15 Os_15 Op_15
                      have Ok_16 := Nk
                      clear Nk
                      have ca0 := Oa_16.out.cell 0
                      have ca1 := Oa_16.out.cell 1
                      have ck0 := Ok_16.out.cell 0
                      have ck1 := Ok_16.out.cell 1
                      go_wp2_with fail
                      clear ca0 ca1 ck0 ck1
                      generalize w15.heap.size = Bk at *
                      generalize w15.alloc _ = w16 at *
                      go_meet
                      exact ⟨K16, Oa_16, Ob_16, Oc_16, Os_16, Op_16⟩
                    · have hv : (decide (pe = 0) && decide (m ≠ 0)) = false := by
                        rw [Bool.eq_false_iff]; intro h; simp at h; exact hh h
                      rw [hv]
                      clear hv hh
                      go_wp2_with fail
                      go_meet
                      exact ⟨K14, Oa_14, Ob_14, Oc_14, Os_14, Op_14⟩
                case rest =>
                  as_aux_lemma =>
                    clear K14 Oa_14 Ob_14 Oc_14 Os_14 Op_14
                    obtain ⟨K15, Oa_15, Ob_15, Oc_15, Os_15, Op_15⟩ := hcut
                    generalize wc = w15 at *
                    have ca0 := Oa_15.out.cell 0
                    have ca1 := Oa_15.out.cell 1
                    have cb0 := Ob_15.out.cell 0
                    have cb1 := Ob_15.out.cell 1
                    have cc0 := Oc_15.out.cell 0
                    have cc1 := Oc_15.out.cell 1
                    go_wp2_with fail
                    refine (add_at UH.out hb hc _).mono ?_
                    rintro e w16 ⟨rfl, hk⟩
                    clear ca0 ca1 cb0 cb1 cc0 cc1
                    have K16 := Lib.hid (K15.out.trans hk)
                    have Oa_16 := Lib.hid (Oa_15.out.step hk)
                    have Ob_16 := Lib.hid (Ob_15.out.step hk)
                    have Oc_16 := Lib.hid (Oc_15.out.step hk)
                    have Os_16 := Lib.hid (Os_15.out.step hk)
                    have Op_16 := Lib.hid (Op_15.out.step hk)
                    clear K15 Oa_15 Ob_15 Oc_15 Os_15 Op_15
                    clear hk
                    have Nu := Lib.hid (Own.made K16.out #[.int .i64 (ux), .int .i64 (uy)])
                    have K17 := Lib.hid (K16.out.trans ((Kept.refl w16).alloc (.cells #[.int .i64 (ux), .int .i64 (uy)] 24)))
                    have Oa_17 := Lib.hid (Oa_16.out.step ((Kept.refl w16).alloc (.cells #[.int .i64 (ux), .int .i64 (uy)] 24)))
                    have Ob_17 := Lib.hid (Ob_16.out.step ((Kept.refl w16).alloc (.cells #[.int .i64 (ux), .int .i64 (uy)] 24)))
                    have Oc_17 := Lib.hid (Oc_16.out.step ((Kept.refl w16).alloc (.cells #[.int .i64 (ux), .int .i64 (uy)] 24)))
                    have Os_17 := Lib.hid (Os_16.out.step ((Kept.refl w16).alloc (.cells #[.int .i64 (ux), .int .i64 (uy)] 24)))
                    have Op_17 := Lib.hid (Op_16.out.step ((Kept.refl w16).alloc (.cells #[.int .i64 (ux), .int .i64 (uy)] 24)))
                    clear K16 Oa_16 Ob_16 Oc_16 Os_16 Op_16
                    have Ou_17 := Nu
                    clear Nu
                    have ca0 := Oa_17.out.cell 0
                    have ca1 := Oa_17.out.cell 1
                    have cb0 := Ob_17.out.cell 0
                    have cb1 := Ob_17.out.cell 1
                    have cc0 := Oc_17.out.cell 0
                    have cc1 := Oc_17.out.cell 1
                    go_wp2_with fail
                    clear ca0 ca1 cb0 cb1 cc0 cc1
                    generalize w16.heap.size = Bu at *
                    generalize w16.alloc _ = w17 at *
                    refine (mul_at VH.out hb hc _).mono ?_
                    rintro e w18 ⟨rfl, hk⟩
                    have K18 := Lib.hid (K17.out.trans hk)
                    have Oa_18 := Lib.hid (Oa_17.out.step hk)
                    have Ob_18 := Lib.hid (Ob_17.out.step hk)
                    have Oc_18 := Lib.hid (Oc_17.out.step hk)
                    have Os_18 := Lib.hid (Os_17.out.step hk)
                    have Op_18 := Lib.hid (Op_17.out.step hk)
                    have Ou_18 := Lib.hid (Ou_17.out.step hk)
                    clear K17 Oa_17 Ob_17 Oc_17 Os_17 Op_17 Ou_17
                    clear hk
                    have Nv := Lib.hid (Own.made K18.out #[.int .i64 (vx), .int .i64 (vy)])
                    have K19 := Lib.hid (K18.out.trans ((Kept.refl w18).alloc (.cells #[.int .i64 (vx), .int .i64 (vy)] 24)))
                    have Oa_19 := Lib.hid (Oa_18.out.step ((Kept.refl w18).alloc (.cells #[.int .i64 (vx), .int .i64 (vy)] 24)))
                    have Ob_19 := Lib.hid (Ob_18.out.step ((Kept.refl w18).alloc (.cells #[.int .i64 (vx), .int .i64 (vy)] 24)))
                    have Oc_19 := Lib.hid (Oc_18.out.step ((Kept.refl w18).alloc (.cells #[.int .i64 (vx), .int .i64 (vy)] 24)))
                    have Os_19 := Lib.hid (Os_18.out.step ((Kept.refl w18).alloc (.cells #[.int .i64 (vx), .int .i64 (vy)] 24)))
                    have Op_19 := Lib.hid (Op_18.out.step ((Kept.refl w18).alloc (.cells #[.int .i64 (vx), .int .i64 (vy)] 24)))
                    have Ou_19 := Lib.hid (Ou_18.out.step ((Kept.refl w18).alloc (.cells #[.int .i64 (vx), .int .i64 (vy)] 24)))
                    clear K18 Oa_18 Ob_18 Oc_18 Os_18 Op_18 Ou_18
                    have Ov_19 := Nv
                    clear Nv
                    have ca0 := Oa_19.out.cell 0
                    have ca1 := Oa_19.out.cell 1
                    have cb0 := Ob_19.out.cell 0
                    have cb1 := Ob_19.out.cell 1
                    have cc0 := Oc_19.out.cell 0
                    have cc1 := Oc_19.out.cell 1
                    go_wp2_with fail
                    clear ca0 ca1 cb0 cb1 cc0 cc1
                    generalize w18.heap.size = Bv at *
                    generalize w18.alloc _ = w19 at *
                    refine (mul_at YH.out ha hc _).mono ?_
                    rintro e w20 ⟨rfl, hk⟩
                    have K20 := Lib.hid (K19.out.trans hk)
                    have Oa_20 := Lib.hid (Oa_19.out.step hk)
                    have Ob_20 := Lib.hid (Ob_19.out.step hk)
                    have Oc_20 := Lib.hid (Oc_19.out.step hk)
                    have Os_20 := Lib.hid (Os_19.out.step hk)
                    have Op_20 := Lib.hid (Op_19.out.step hk)
                    have Ou_20 := Lib.hid (Ou_19.out.step hk)
                    have Ov_20 := Lib.hid (Ov_19.out.step hk)
                    clear K19 Oa_19 Ob_19 Oc_19 Os_19 Op_19 Ou_19 Ov_19
                    clear hk
                    have Ny := Lib.hid (Own.made K20.out #[.int .i64 yx, .int .i64 yy])
                    have K21 := Lib.hid (K20.out.trans ((Kept.refl w20).alloc (.cells #[.int .i64 yx, .int .i64 yy] 24)))
                    have Oa_21 := Lib.hid (Oa_20.out.step ((Kept.refl w20).alloc (.cells #[.int .i64 yx, .int .i64 yy] 24)))
                    have Ob_21 := Lib.hid (Ob_20.out.step ((Kept.refl w20).alloc (.cells #[.int .i64 yx, .int .i64 yy] 24)))
                    have Oc_21 := Lib.hid (Oc_20.out.step ((Kept.refl w20).alloc (.cells #[.int .i64 yx, .int .i64 yy] 24)))
                    have Os_21 := Lib.hid (Os_20.out.step ((Kept.refl w20).alloc (.cells #[.int .i64 yx, .int .i64 yy] 24)))
                    have Op_21 := Lib.hid (Op_20.out.step ((Kept.refl w20).alloc (.cells #[.int .i64 yx, .int .i64 yy] 24)))
                    have Ou_21 := Lib.hid (Ou_20.out.step ((Kept.refl w20).alloc (.cells #[.int .i64 yx, .int .i64 yy] 24)))
                    have Ov_21 := Lib.hid (Ov_20.out.step ((Kept.refl w20).alloc (.cells #[.int .i64 yx, .int .i64 yy] 24)))
                    clear K20 Oa_20 Ob_20 Oc_20 Os_20 Op_20 Ou_20 Ov_20
                    have Oy_21 := Ny
                    clear Ny
                    have ca0 := Oa_21.out.cell 0
                    have ca1 := Oa_21.out.cell 1
                    have cb0 := Ob_21.out.cell 0
                    have cb1 := Ob_21.out.cell 1
                    have cc0 := Oc_21.out.cell 0
                    have cc1 := Oc_21.out.cell 1
                    go_upto_region 21 with fail
                    clear ca0 ca1 cb0 cb1 cc0 cc1
                    generalize w20.heap.size = By at *
                    generalize w20.alloc _ = w21 at *
                    go_cut [153] (fun v wx => v = .bool (decide (se = 0) && decide (ue = 0)) ∧ Hid (Kept w wx) ∧ Hid (Own w wx (Ba) #[.int .i64 n, .int .i64 d]) ∧ Hid (Own w wx (Ba + 1) #[.int .i64 m, .int .i64 o]) ∧ Hid (Own w wx (Ba + 1 + 1) #[.int .i64 i, .int .i64 j]) ∧ Hid (Own w wx (Bs) #[.int .i64 sx, .int .i64 sy]) ∧ Hid (Own w wx (Bp) #[.int .i64 px, .int .i64 py]) ∧ Hid (Own w wx (Bu) #[.int .i64 ux, .int .i64 uy]) ∧ Hid (Own w wx (Bv) #[.int .i64 vx, .int .i64 vy]) ∧ Hid (Own w wx (By) #[.int .i64 yx, .int .i64 yy]))
                    case first =>
                      as_aux_lemma =>
                        rcases SE.out with rfl | rfl
                        · go_wp2_with fail
                          go_meet
                          exact ⟨rfl, K21, Oa_21, Ob_21, Oc_21, Os_21, Op_21, Ou_21, Ov_21, Oy_21⟩
                        · rcases UE.out with rfl | rfl
                          · go_wp2_with fail
                            go_meet
                            exact ⟨rfl, K21, Oa_21, Ob_21, Oc_21, Os_21, Op_21, Ou_21, Ov_21, Oy_21⟩
                          · go_wp2_with fail
                            go_meet
                            exact ⟨rfl, K21, Oa_21, Ob_21, Oc_21, Os_21, Op_21, Ou_21, Ov_21, Oy_21⟩
                    case rest =>
                      as_aux_lemma =>
                        clear K21 Oa_21 Ob_21 Oc_21 Os_21 Op_21 Ou_21 Ov_21 Oy_21
                        obtain ⟨rfl, K22, Oa_22, Ob_22, Oc_22, Os_22, Op_22, Ou_22, Ov_22, Oy_22⟩ := hcut
                        generalize wc = w22 at *
                        go_upto_if 153 with fail
                        go_cut [] (fun wx => Hid (Kept w wx) ∧ Hid (Own w wx (Ba) #[.int .i64 n, .int .i64 d]) ∧ Hid (Own w wx (Ba + 1) #[.int .i64 m, .int .i64 o]) ∧ Hid (Own w wx (Ba + 1 + 1) #[.int .i64 i, .int .i64 j]) ∧ Hid (Own w wx (Bs) #[.int .i64 sx, .int .i64 sy]) ∧ Hid (Own w wx (Bp) #[.int .i64 px, .int .i64 py]) ∧ Hid (Own w wx (Bu) #[.int .i64 ux, .int .i64 uy]) ∧ Hid (Own w wx (Bv) #[.int .i64 vx, .int .i64 vy]) ∧ Hid (Own w wx (By) #[.int .i64 yx, .int .i64 yy]))
                        case first =>
                          as_aux_lemma =>
                            by_cases hh : se = 0 ∧ ue = 0
                            · have hv : (decide (se = 0) && decide (ue = 0)) = true := by simpa using hh
                              rw [hv]
                              obtain ⟨rfl, rfl⟩ := hh
                              clear hv
                              obtain ⟨⟨⟨kx, ky⟩, ke⟩, kh⟩ : ∃ r, addR ⟨sx, sy⟩ ⟨i, j⟩ = r := ⟨_, rfl⟩
                              have KH := Lib.hid kh
                              have LH := Lib.hid ((field_add_assoc va vb vc SH.out UH.out).trans kh)
                              clear kh
                              have ca0 := Oa_22.out.cell 0
                              have ca1 := Oa_22.out.cell 1
                              have cb0 := Ob_22.out.cell 0
                              have cb1 := Ob_22.out.cell 1
                              have cc0 := Oc_22.out.cell 0
                              have cc1 := Oc_22.out.cell 1
                              have cs0 := Os_22.out.cell 0
                              have cs1 := Os_22.out.cell 1
                              have cu0 := Ou_22.out.cell 0
                              have cu1 := Ou_22.out.cell 1
                              go_wp2_with fail
                              refine (add_at KH.out (Q.wf_of (add_valid va vb SH.out)) hc _).mono ?_
                              rintro e w23 ⟨rfl, hk⟩
                              clear ca0 ca1 cb0 cb1 cc0 cc1 cs0 cs1 cu0 cu1
                              have K23 := Lib.hid (K22.out.trans hk)
                              have Oa_23 := Lib.hid (Oa_22.out.step hk)
                              have Ob_23 := Lib.hid (Ob_22.out.step hk)
                              have Oc_23 := Lib.hid (Oc_22.out.step hk)
                              have Os_23 := Lib.hid (Os_22.out.step hk)
                              have Op_23 := Lib.hid (Op_22.out.step hk)
                              have Ou_23 := Lib.hid (Ou_22.out.step hk)
                              have Ov_23 := Lib.hid (Ov_22.out.step hk)
                              have Oy_23 := Lib.hid (Oy_22.out.step hk)
                              clear K22 Oa_22 Ob_22 Oc_22 Os_22 Op_22 Ou_22 Ov_22 Oy_22
                              clear hk
                              have Nk := Lib.hid (Own.made K23.out #[.int .i64 (kx), .int .i64 (ky)])
                              have K24 := Lib.hid (K23.out.trans ((Kept.refl w23).alloc (.cells #[.int .i64 (kx), .int .i64 (ky)] 24)))
                              have Oa_24 := Lib.hid (Oa_23.out.step ((Kept.refl w23).alloc (.cells #[.int .i64 (kx), .int .i64 (ky)] 24)))
                              have Ob_24 := Lib.hid (Ob_23.out.step ((Kept.refl w23).alloc (.cells #[.int .i64 (kx), .int .i64 (ky)] 24)))
                              have Oc_24 := Lib.hid (Oc_23.out.step ((Kept.refl w23).alloc (.cells #[.int .i64 (kx), .int .i64 (ky)] 24)))
                              have Os_24 := Lib.hid (Os_23.out.step ((Kept.refl w23).alloc (.cells #[.int .i64 (kx), .int .i64 (ky)] 24)))
                              have Op_24 := Lib.hid (Op_23.out.step ((Kept.refl w23).alloc (.cells #[.int .i64 (kx), .int .i64 (ky)] 24)))
                              have Ou_24 := Lib.hid (Ou_23.out.step ((Kept.refl w23).alloc (.cells #[.int .i64 (kx), .int .i64 (ky)] 24)))
                              have Ov_24 := Lib.hid (Ov_23.out.step ((Kept.refl w23).alloc (.cells #[.int .i64 (kx), .int .i64 (ky)] 24)))
                              have Oy_24 := Lib.hid (Oy_23.out.step ((Kept.refl w23).alloc (.cells #[.int .i64 (kx), .int .i64 (ky)] 24)))
                              clear K23 Oa_23 Ob_23 Oc_23 Os_23 Op_23 Ou_23 Ov_23 Oy_23
                              have Ok_24 := Nk
                              clear Nk
                              have ca0 := Oa_24.out.cell 0
                              have ca1 := Oa_24.out.cell 1
                              have cb0 := Ob_24.out.cell 0
                              have cb1 := Ob_24.out.cell 1
                              have cc0 := Oc_24.out.cell 0
                              have cc1 := Oc_24.out.cell 1
                              have cs0 := Os_24.out.cell 0
                              have cs1 := Os_24.out.cell 1
                              have cu0 := Ou_24.out.cell 0
                              have cu1 := Ou_24.out.cell 1
                              go_wp2_with fail
                              clear ca0 ca1 cb0 cb1 cc0 cc1 cs0 cs1 cu0 cu1
                              generalize w23.heap.size = Bk at *
                              generalize w23.alloc _ = w24 at *
                              refine (add_at LH.out ha (Q.wf_of (add_valid vb vc UH.out)) _).mono ?_
                              rintro e w25 ⟨rfl, hk⟩
                              have K25 := Lib.hid (K24.out.trans hk)
                              have Oa_25 := Lib.hid (Oa_24.out.step hk)
                              have Ob_25 := Lib.hid (Ob_24.out.step hk)
                              have Oc_25 := Lib.hid (Oc_24.out.step hk)
                              have Os_25 := Lib.hid (Os_24.out.step hk)
                              have Op_25 := Lib.hid (Op_24.out.step hk)
                              have Ou_25 := Lib.hid (Ou_24.out.step hk)
                              have Ov_25 := Lib.hid (Ov_24.out.step hk)
                              have Oy_25 := Lib.hid (Oy_24.out.step hk)
                              have Ok_25 := Lib.hid (Ok_24.out.step hk)
                              clear K24 Oa_24 Ob_24 Oc_24 Os_24 Op_24 Ou_24 Ov_24 Oy_24 Ok_24
                              clear hk
                              have Nl := Lib.hid (Own.made K25.out #[.int .i64 (kx), .int .i64 (ky)])
                              have K26 := Lib.hid (K25.out.trans ((Kept.refl w25).alloc (.cells #[.int .i64 (kx), .int .i64 (ky)] 24)))
                              have Oa_26 := Lib.hid (Oa_25.out.step ((Kept.refl w25).alloc (.cells #[.int .i64 (kx), .int .i64 (ky)] 24)))
                              have Ob_26 := Lib.hid (Ob_25.out.step ((Kept.refl w25).alloc (.cells #[.int .i64 (kx), .int .i64 (ky)] 24)))
                              have Oc_26 := Lib.hid (Oc_25.out.step ((Kept.refl w25).alloc (.cells #[.int .i64 (kx), .int .i64 (ky)] 24)))
                              have Os_26 := Lib.hid (Os_25.out.step ((Kept.refl w25).alloc (.cells #[.int .i64 (kx), .int .i64 (ky)] 24)))
                              have Op_26 := Lib.hid (Op_25.out.step ((Kept.refl w25).alloc (.cells #[.int .i64 (kx), .int .i64 (ky)] 24)))
                              have Ou_26 := Lib.hid (Ou_25.out.step ((Kept.refl w25).alloc (.cells #[.int .i64 (kx), .int .i64 (ky)] 24)))
                              have Ov_26 := Lib.hid (Ov_25.out.step ((Kept.refl w25).alloc (.cells #[.int .i64 (kx), .int .i64 (ky)] 24)))
                              have Oy_26 := Lib.hid (Oy_25.out.step ((Kept.refl w25).alloc (.cells #[.int .i64 (kx), .int .i64 (ky)] 24)))
                              have Ok_26 := Lib.hid (Ok_25.out.step ((Kept.refl w25).alloc (.cells #[.int .i64 (kx), .int .i64 (ky)] 24)))
                              clear K25 Oa_25 Ob_25 Oc_25 Os_25 Op_25 Ou_25 Ov_25 Oy_25 Ok_25
                              have Ol_26 := Nl
                              clear Nl
                              have ck0 := Ok_26.out.cell 0
                              have ck1 := Ok_26.out.cell 1
                              have cl0 := Ol_26.out.cell 0
                              have cl1 := Ol_26.out.cell 1
                              go_wp2_with fail
                              clear ck0 ck1 cl0 cl1
                              generalize w25.heap.size = Bl at *
                              generalize w25.alloc _ = w26 at *
                              go_meet
                              exact ⟨K26, Oa_26, Ob_26, Oc_26, Os_26, Op_26, Ou_26, Ov_26, Oy_26⟩
                            · have hv : (decide (se = 0) && decide (ue = 0)) = false := by
                                rw [Bool.eq_false_iff]; intro h; simp at h; exact hh h
                              rw [hv]
                              clear hv hh
                              go_wp2_with fail
                              go_meet
                              exact ⟨K22, Oa_22, Ob_22, Oc_22, Os_22, Op_22, Ou_22, Ov_22, Oy_22⟩
                        case rest =>
                          as_aux_lemma =>
                            clear K22 Oa_22 Ob_22 Oc_22 Os_22 Op_22 Ou_22 Ov_22 Oy_22
                            obtain ⟨K23, Oa_23, Ob_23, Oc_23, Os_23, Op_23, Ou_23, Ov_23, Oy_23⟩ := hcut
                            generalize wc = w23 at *
                            go_upto_region 26 with fail
                            go_cut [179] (fun v wx => v = .bool (decide (pe = 0) && decide (ve = 0)) ∧ Hid (Kept w wx) ∧ Hid (Own w wx (Ba) #[.int .i64 n, .int .i64 d]) ∧ Hid (Own w wx (Ba + 1) #[.int .i64 m, .int .i64 o]) ∧ Hid (Own w wx (Ba + 1 + 1) #[.int .i64 i, .int .i64 j]) ∧ Hid (Own w wx (Bs) #[.int .i64 sx, .int .i64 sy]) ∧ Hid (Own w wx (Bp) #[.int .i64 px, .int .i64 py]) ∧ Hid (Own w wx (Bu) #[.int .i64 ux, .int .i64 uy]) ∧ Hid (Own w wx (Bv) #[.int .i64 vx, .int .i64 vy]) ∧ Hid (Own w wx (By) #[.int .i64 yx, .int .i64 yy]))
                            case first =>
                              as_aux_lemma =>
                                rcases PE.out with rfl | rfl
                                · go_wp2_with fail
                                  go_meet
                                  exact ⟨rfl, K23, Oa_23, Ob_23, Oc_23, Os_23, Op_23, Ou_23, Ov_23, Oy_23⟩
                                · rcases VE.out with rfl | rfl
                                  · go_wp2_with fail
                                    go_meet
                                    exact ⟨rfl, K23, Oa_23, Ob_23, Oc_23, Os_23, Op_23, Ou_23, Ov_23, Oy_23⟩
                                  · go_wp2_with fail
                                    go_meet
                                    exact ⟨rfl, K23, Oa_23, Ob_23, Oc_23, Os_23, Op_23, Ou_23, Ov_23, Oy_23⟩
                            case rest =>
                              as_aux_lemma =>
                                clear K23 Oa_23 Ob_23 Oc_23 Os_23 Op_23 Ou_23 Ov_23 Oy_23
                                obtain ⟨rfl, K24, Oa_24, Ob_24, Oc_24, Os_24, Op_24, Ou_24, Ov_24, Oy_24⟩ := hcut
                                generalize wc = w24 at *
                                go_upto_if 179 with fail
                                go_cut [] (fun wx => Hid (Kept w wx) ∧ Hid (Own w wx (Ba) #[.int .i64 n, .int .i64 d]) ∧ Hid (Own w wx (Ba + 1) #[.int .i64 m, .int .i64 o]) ∧ Hid (Own w wx (Ba + 1 + 1) #[.int .i64 i, .int .i64 j]) ∧ Hid (Own w wx (Bs) #[.int .i64 sx, .int .i64 sy]) ∧ Hid (Own w wx (Bp) #[.int .i64 px, .int .i64 py]) ∧ Hid (Own w wx (Bu) #[.int .i64 ux, .int .i64 uy]) ∧ Hid (Own w wx (Bv) #[.int .i64 vx, .int .i64 vy]) ∧ Hid (Own w wx (By) #[.int .i64 yx, .int .i64 yy]))
                                case first =>
                                  as_aux_lemma =>
                                    by_cases hh : pe = 0 ∧ ve = 0
                                    · have hv : (decide (pe = 0) && decide (ve = 0)) = true := by simpa using hh
                                      rw [hv]
                                      obtain ⟨rfl, rfl⟩ := hh
                                      clear hv
                                      obtain ⟨⟨⟨kx, ky⟩, ke⟩, kh⟩ : ∃ r, mulR ⟨px, py⟩ ⟨i, j⟩ = r := ⟨_, rfl⟩
                                      have KH := Lib.hid kh
                                      have LH := Lib.hid ((field_mul_assoc va vb vc PH.out VH.out).trans kh)
                                      clear kh
                                      have ca0 := Oa_24.out.cell 0
                                      have ca1 := Oa_24.out.cell 1
                                      have cb0 := Ob_24.out.cell 0
                                      have cb1 := Ob_24.out.cell 1
                                      have cc0 := Oc_24.out.cell 0
                                      have cc1 := Oc_24.out.cell 1
                                      have cp0 := Op_24.out.cell 0
                                      have cp1 := Op_24.out.cell 1
                                      have cv0 := Ov_24.out.cell 0
                                      have cv1 := Ov_24.out.cell 1
                                      go_wp2_with fail
                                      refine (mul_at KH.out (Q.wf_of (mul_valid va vb PH.out)) hc _).mono ?_
                                      rintro e w25 ⟨rfl, hk⟩
                                      clear ca0 ca1 cb0 cb1 cc0 cc1 cp0 cp1 cv0 cv1
                                      have K25 := Lib.hid (K24.out.trans hk)
                                      have Oa_25 := Lib.hid (Oa_24.out.step hk)
                                      have Ob_25 := Lib.hid (Ob_24.out.step hk)
                                      have Oc_25 := Lib.hid (Oc_24.out.step hk)
                                      have Os_25 := Lib.hid (Os_24.out.step hk)
                                      have Op_25 := Lib.hid (Op_24.out.step hk)
                                      have Ou_25 := Lib.hid (Ou_24.out.step hk)
                                      have Ov_25 := Lib.hid (Ov_24.out.step hk)
                                      have Oy_25 := Lib.hid (Oy_24.out.step hk)
                                      clear K24 Oa_24 Ob_24 Oc_24 Os_24 Op_24 Ou_24 Ov_24 Oy_24
                                      clear hk
                                      have Nk := Lib.hid (Own.made K25.out #[.int .i64 (kx), .int .i64 (ky)])
                                      have K26 := Lib.hid (K25.out.trans ((Kept.refl w25).alloc (.cells #[.int .i64 (kx), .int .i64 (ky)] 24)))
                                      have Oa_26 := Lib.hid (Oa_25.out.step ((Kept.refl w25).alloc (.cells #[.int .i64 (kx), .int .i64 (ky)] 24)))
                                      have Ob_26 := Lib.hid (Ob_25.out.step ((Kept.refl w25).alloc (.cells #[.int .i64 (kx), .int .i64 (ky)] 24)))
                                      have Oc_26 := Lib.hid (Oc_25.out.step ((Kept.refl w25).alloc (.cells #[.int .i64 (kx), .int .i64 (ky)] 24)))
                                      have Os_26 := Lib.hid (Os_25.out.step ((Kept.refl w25).alloc (.cells #[.int .i64 (kx), .int .i64 (ky)] 24)))
                                      have Op_26 := Lib.hid (Op_25.out.step ((Kept.refl w25).alloc (.cells #[.int .i64 (kx), .int .i64 (ky)] 24)))
                                      have Ou_26 := Lib.hid (Ou_25.out.step ((Kept.refl w25).alloc (.cells #[.int .i64 (kx), .int .i64 (ky)] 24)))
                                      have Ov_26 := Lib.hid (Ov_25.out.step ((Kept.refl w25).alloc (.cells #[.int .i64 (kx), .int .i64 (ky)] 24)))
                                      have Oy_26 := Lib.hid (Oy_25.out.step ((Kept.refl w25).alloc (.cells #[.int .i64 (kx), .int .i64 (ky)] 24)))
                                      clear K25 Oa_25 Ob_25 Oc_25 Os_25 Op_25 Ou_25 Ov_25 Oy_25
                                      have Ok_26 := Nk
                                      clear Nk
                                      have ca0 := Oa_26.out.cell 0
                                      have ca1 := Oa_26.out.cell 1
                                      have cb0 := Ob_26.out.cell 0
                                      have cb1 := Ob_26.out.cell 1
                                      have cc0 := Oc_26.out.cell 0
                                      have cc1 := Oc_26.out.cell 1
                                      have cp0 := Op_26.out.cell 0
                                      have cp1 := Op_26.out.cell 1
                                      have cv0 := Ov_26.out.cell 0
                                      have cv1 := Ov_26.out.cell 1
                                      go_wp2_with fail
                                      clear ca0 ca1 cb0 cb1 cc0 cc1 cp0 cp1 cv0 cv1
                                      generalize w25.heap.size = Bk at *
                                      generalize w25.alloc _ = w26 at *
                                      refine (mul_at LH.out ha (Q.wf_of (mul_valid vb vc VH.out)) _).mono ?_
                                      rintro e w27 ⟨rfl, hk⟩
                                      have K27 := Lib.hid (K26.out.trans hk)
                                      have Oa_27 := Lib.hid (Oa_26.out.step hk)
                                      have Ob_27 := Lib.hid (Ob_26.out.step hk)
                                      have Oc_27 := Lib.hid (Oc_26.out.step hk)
                                      have Os_27 := Lib.hid (Os_26.out.step hk)
                                      have Op_27 := Lib.hid (Op_26.out.step hk)
                                      have Ou_27 := Lib.hid (Ou_26.out.step hk)
                                      have Ov_27 := Lib.hid (Ov_26.out.step hk)
                                      have Oy_27 := Lib.hid (Oy_26.out.step hk)
                                      have Ok_27 := Lib.hid (Ok_26.out.step hk)
                                      clear K26 Oa_26 Ob_26 Oc_26 Os_26 Op_26 Ou_26 Ov_26 Oy_26 Ok_26
                                      clear hk
                                      have Nl := Lib.hid (Own.made K27.out #[.int .i64 (kx), .int .i64 (ky)])
                                      have K28 := Lib.hid (K27.out.trans ((Kept.refl w27).alloc (.cells #[.int .i64 (kx), .int .i64 (ky)] 24)))
                                      have Oa_28 := Lib.hid (Oa_27.out.step ((Kept.refl w27).alloc (.cells #[.int .i64 (kx), .int .i64 (ky)] 24)))
                                      have Ob_28 := Lib.hid (Ob_27.out.step ((Kept.refl w27).alloc (.cells #[.int .i64 (kx), .int .i64 (ky)] 24)))
                                      have Oc_28 := Lib.hid (Oc_27.out.step ((Kept.refl w27).alloc (.cells #[.int .i64 (kx), .int .i64 (ky)] 24)))
                                      have Os_28 := Lib.hid (Os_27.out.step ((Kept.refl w27).alloc (.cells #[.int .i64 (kx), .int .i64 (ky)] 24)))
                                      have Op_28 := Lib.hid (Op_27.out.step ((Kept.refl w27).alloc (.cells #[.int .i64 (kx), .int .i64 (ky)] 24)))
                                      have Ou_28 := Lib.hid (Ou_27.out.step ((Kept.refl w27).alloc (.cells #[.int .i64 (kx), .int .i64 (ky)] 24)))
                                      have Ov_28 := Lib.hid (Ov_27.out.step ((Kept.refl w27).alloc (.cells #[.int .i64 (kx), .int .i64 (ky)] 24)))
                                      have Oy_28 := Lib.hid (Oy_27.out.step ((Kept.refl w27).alloc (.cells #[.int .i64 (kx), .int .i64 (ky)] 24)))
                                      have Ok_28 := Lib.hid (Ok_27.out.step ((Kept.refl w27).alloc (.cells #[.int .i64 (kx), .int .i64 (ky)] 24)))
                                      clear K27 Oa_27 Ob_27 Oc_27 Os_27 Op_27 Ou_27 Ov_27 Oy_27 Ok_27
                                      have Ol_28 := Nl
                                      clear Nl
                                      have ck0 := Ok_28.out.cell 0
                                      have ck1 := Ok_28.out.cell 1
                                      have cl0 := Ol_28.out.cell 0
                                      have cl1 := Ol_28.out.cell 1
                                      go_wp2_with fail
                                      clear ck0 ck1 cl0 cl1
                                      generalize w27.heap.size = Bl at *
                                      generalize w27.alloc _ = w28 at *
                                      go_meet
                                      exact ⟨K28, Oa_28, Ob_28, Oc_28, Os_28, Op_28, Ou_28, Ov_28, Oy_28⟩
                                    · have hv : (decide (pe = 0) && decide (ve = 0)) = false := by
                                        rw [Bool.eq_false_iff]; intro h; simp at h; exact hh h
                                      rw [hv]
                                      clear hv hh
                                      go_wp2_with fail
                                      go_meet
                                      exact ⟨K24, Oa_24, Ob_24, Oc_24, Os_24, Op_24, Ou_24, Ov_24, Oy_24⟩
                                case rest =>
                                  as_aux_lemma =>
                                    clear K24 Oa_24 Ob_24 Oc_24 Os_24 Op_24 Ou_24 Ov_24 Oy_24
                                    obtain ⟨K25, Oa_25, Ob_25, Oc_25, Os_25, Op_25, Ou_25, Ov_25, Oy_25⟩ := hcut
                                    generalize wc = w25 at *
                                    rcases PE.out with rfl | rfl
                                    · go_wp2_with fail
                                      go_ret
                                      exact ⟨rfl, K25.out⟩
                                    · rcases UE.out with rfl | rfl
                                      · go_wp2_with fail
                                        go_ret
                                        exact ⟨rfl, K25.out⟩
                                      · rcases YE.out with rfl | rfl
                                        · go_wp2_with fail
                                          go_ret
                                          exact ⟨rfl, K25.out⟩
                                        · obtain ⟨⟨⟨kx, ky⟩, ke⟩, kh⟩ : ∃ r, mulR ⟨n, d⟩ ⟨ux, uy⟩ = r := ⟨_, rfl⟩
                                          have KH := Lib.hid kh
                                          have LH := Lib.hid ((field_distr va vb vc PH.out UH.out YH.out).trans kh)
                                          clear kh
                                          have ca0 := Oa_25.out.cell 0
                                          have ca1 := Oa_25.out.cell 1
                                          have cu0 := Ou_25.out.cell 0
                                          have cu1 := Ou_25.out.cell 1
                                          have cp0 := Op_25.out.cell 0
                                          have cp1 := Op_25.out.cell 1
                                          have cy0 := Oy_25.out.cell 0
                                          have cy1 := Oy_25.out.cell 1
                                          go_wp2_with fail
                                          refine (mul_at KH.out ha (Q.wf_of (add_valid vb vc UH.out)) _).mono ?_
                                          rintro e w26 ⟨rfl, hk⟩
                                          clear ca0 ca1 cu0 cu1 cp0 cp1 cy0 cy1
                                          have K26 := Lib.hid (K25.out.trans hk)
                                          have Oa_26 := Lib.hid (Oa_25.out.step hk)
                                          have Ob_26 := Lib.hid (Ob_25.out.step hk)
                                          have Oc_26 := Lib.hid (Oc_25.out.step hk)
                                          have Os_26 := Lib.hid (Os_25.out.step hk)
                                          have Op_26 := Lib.hid (Op_25.out.step hk)
                                          have Ou_26 := Lib.hid (Ou_25.out.step hk)
                                          have Ov_26 := Lib.hid (Ov_25.out.step hk)
                                          have Oy_26 := Lib.hid (Oy_25.out.step hk)
                                          clear K25 Oa_25 Ob_25 Oc_25 Os_25 Op_25 Ou_25 Ov_25 Oy_25
                                          clear hk
                                          have Nk := Lib.hid (Own.made K26.out #[.int .i64 (kx), .int .i64 (ky)])
                                          have K27 := Lib.hid (K26.out.trans ((Kept.refl w26).alloc (.cells #[.int .i64 (kx), .int .i64 (ky)] 24)))
                                          have Oa_27 := Lib.hid (Oa_26.out.step ((Kept.refl w26).alloc (.cells #[.int .i64 (kx), .int .i64 (ky)] 24)))
                                          have Ob_27 := Lib.hid (Ob_26.out.step ((Kept.refl w26).alloc (.cells #[.int .i64 (kx), .int .i64 (ky)] 24)))
                                          have Oc_27 := Lib.hid (Oc_26.out.step ((Kept.refl w26).alloc (.cells #[.int .i64 (kx), .int .i64 (ky)] 24)))
                                          have Os_27 := Lib.hid (Os_26.out.step ((Kept.refl w26).alloc (.cells #[.int .i64 (kx), .int .i64 (ky)] 24)))
                                          have Op_27 := Lib.hid (Op_26.out.step ((Kept.refl w26).alloc (.cells #[.int .i64 (kx), .int .i64 (ky)] 24)))
                                          have Ou_27 := Lib.hid (Ou_26.out.step ((Kept.refl w26).alloc (.cells #[.int .i64 (kx), .int .i64 (ky)] 24)))
                                          have Ov_27 := Lib.hid (Ov_26.out.step ((Kept.refl w26).alloc (.cells #[.int .i64 (kx), .int .i64 (ky)] 24)))
                                          have Oy_27 := Lib.hid (Oy_26.out.step ((Kept.refl w26).alloc (.cells #[.int .i64 (kx), .int .i64 (ky)] 24)))
                                          clear K26 Oa_26 Ob_26 Oc_26 Os_26 Op_26 Ou_26 Ov_26 Oy_26
                                          have Ok_27 := Nk
                                          clear Nk
                                          have ca0 := Oa_27.out.cell 0
                                          have ca1 := Oa_27.out.cell 1
                                          have cu0 := Ou_27.out.cell 0
                                          have cu1 := Ou_27.out.cell 1
                                          have cp0 := Op_27.out.cell 0
                                          have cp1 := Op_27.out.cell 1
                                          have cy0 := Oy_27.out.cell 0
                                          have cy1 := Oy_27.out.cell 1
                                          go_wp2_with fail
                                          clear ca0 ca1 cu0 cu1 cp0 cp1 cy0 cy1
                                          generalize w26.heap.size = Bk at *
                                          generalize w26.alloc _ = w27 at *
                                          refine (add_at LH.out (Q.wf_of (mul_valid va vb PH.out)) (Q.wf_of (mul_valid va vc YH.out)) _).mono ?_
                                          rintro e w28 ⟨rfl, hk⟩
                                          have K28 := Lib.hid (K27.out.trans hk)
                                          have Oa_28 := Lib.hid (Oa_27.out.step hk)
                                          have Ob_28 := Lib.hid (Ob_27.out.step hk)
                                          have Oc_28 := Lib.hid (Oc_27.out.step hk)
                                          have Os_28 := Lib.hid (Os_27.out.step hk)
                                          have Op_28 := Lib.hid (Op_27.out.step hk)
                                          have Ou_28 := Lib.hid (Ou_27.out.step hk)
                                          have Ov_28 := Lib.hid (Ov_27.out.step hk)
                                          have Oy_28 := Lib.hid (Oy_27.out.step hk)
                                          have Ok_28 := Lib.hid (Ok_27.out.step hk)
                                          clear K27 Oa_27 Ob_27 Oc_27 Os_27 Op_27 Ou_27 Ov_27 Oy_27 Ok_27
                                          clear hk
                                          have Nl := Lib.hid (Own.made K28.out #[.int .i64 (kx), .int .i64 (ky)])
                                          have K29 := Lib.hid (K28.out.trans ((Kept.refl w28).alloc (.cells #[.int .i64 (kx), .int .i64 (ky)] 24)))
                                          have Oa_29 := Lib.hid (Oa_28.out.step ((Kept.refl w28).alloc (.cells #[.int .i64 (kx), .int .i64 (ky)] 24)))
                                          have Ob_29 := Lib.hid (Ob_28.out.step ((Kept.refl w28).alloc (.cells #[.int .i64 (kx), .int .i64 (ky)] 24)))
                                          have Oc_29 := Lib.hid (Oc_28.out.step ((Kept.refl w28).alloc (.cells #[.int .i64 (kx), .int .i64 (ky)] 24)))
                                          have Os_29 := Lib.hid (Os_28.out.step ((Kept.refl w28).alloc (.cells #[.int .i64 (kx), .int .i64 (ky)] 24)))
                                          have Op_29 := Lib.hid (Op_28.out.step ((Kept.refl w28).alloc (.cells #[.int .i64 (kx), .int .i64 (ky)] 24)))
                                          have Ou_29 := Lib.hid (Ou_28.out.step ((Kept.refl w28).alloc (.cells #[.int .i64 (kx), .int .i64 (ky)] 24)))
                                          have Ov_29 := Lib.hid (Ov_28.out.step ((Kept.refl w28).alloc (.cells #[.int .i64 (kx), .int .i64 (ky)] 24)))
                                          have Oy_29 := Lib.hid (Oy_28.out.step ((Kept.refl w28).alloc (.cells #[.int .i64 (kx), .int .i64 (ky)] 24)))
                                          have Ok_29 := Lib.hid (Ok_28.out.step ((Kept.refl w28).alloc (.cells #[.int .i64 (kx), .int .i64 (ky)] 24)))
                                          clear K28 Oa_28 Ob_28 Oc_28 Os_28 Op_28 Ou_28 Ov_28 Oy_28 Ok_28
                                          have Ol_29 := Nl
                                          clear Nl
                                          have ck0 := Ok_29.out.cell 0
                                          have ck1 := Ok_29.out.cell 1
                                          have cl0 := Ol_29.out.cell 0
                                          have cl1 := Ol_29.out.cell 1
                                          go_wp2_with fail
                                          clear ck0 ck1 cl0 cl1
                                          generalize w28.heap.size = Bl at *
                                          generalize w28.alloc _ = w29 at *
                                          go_ret
                                          exact ⟨by first | rfl | simp, K29.out⟩
      · have vcf := Bool.eq_false_iff.2 vc
        refine (valid_at vcf hc _).mono ?_
        rintro e w4 ⟨rfl, hk⟩
        clear ca0 ca1 cb0 cb1 cc0 cc1
        have K4 := Lib.hid (K3.out.trans hk)
        have Oa_4 := Lib.hid (Oa_3.out.step hk)
        have Ob_4 := Lib.hid (Ob_3.out.step hk)
        have Oc_4 := Lib.hid (Oc_3.out.step hk)
        clear K3 Oa_3 Ob_3 Oc_3
        clear hk
        have ca0 := Oa_4.out.cell 0
        have ca1 := Oa_4.out.cell 1
        have cb0 := Ob_4.out.cell 0
        have cb1 := Ob_4.out.cell 1
        have cc0 := Oc_4.out.cell 0
        have cc1 := Oc_4.out.cell 1
        go_wp2_with fail
        go_ret
        exact ⟨rfl, K4.out⟩
    · have vbf := Bool.eq_false_iff.2 vb
      refine (valid_at vbf hb _).mono ?_
      rintro e w3 ⟨rfl, hk⟩
      clear ca0 ca1 cb0 cb1 cc0 cc1
      have K3 := Lib.hid (K2.out.trans hk)
      have Oa_3 := Lib.hid (Oa_2.out.step hk)
      have Ob_3 := Lib.hid (Ob_2.out.step hk)
      have Oc_3 := Lib.hid (Oc_2.out.step hk)
      clear K2 Oa_2 Ob_2 Oc_2
      clear hk
      have ca0 := Oa_3.out.cell 0
      have ca1 := Oa_3.out.cell 1
      have cb0 := Ob_3.out.cell 0
      have cb1 := Ob_3.out.cell 1
      have cc0 := Oc_3.out.cell 0
      have cc1 := Oc_3.out.cell 1
      go_wp2_with fail
      go_ret
      exact ⟨rfl, K3.out⟩
  · have vaf := Bool.eq_false_iff.2 va
    refine (valid_at vaf ha _).mono ?_
    rintro e w2 ⟨rfl, hk⟩
    clear ca0 ca1 cb0 cb1 cc0 cc1
    have K2 := Lib.hid (K1.out.trans hk)
    have Oa_2 := Lib.hid (Oa_1.out.step hk)
    have Ob_2 := Lib.hid (Ob_1.out.step hk)
    have Oc_2 := Lib.hid (Oc_1.out.step hk)
    clear K1 Oa_1 Ob_1 Oc_1
    clear hk
    have ca0 := Oa_2.out.cell 0
    have ca1 := Oa_2.out.cell 1
    have cb0 := Ob_2.out.cell 0
    have cb1 := Ob_2.out.cell 1
    have cc0 := Oc_2.out.cell 0
    have cc1 := Oc_2.out.cell 1
    go_wp2_with fail
    go_ret
    exact ⟨rfl, K2.out⟩
end Go.Proofs.YtacjgkpncdnbgaaDoor
