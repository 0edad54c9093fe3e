/-
  The law RatioOrder, walked. Its condition: the library's variables are as the program's start leaves them.
-/
import Derived.Test.YtacjgkpncdnbgaaDoorE3
import Derived.Test.YtacjgkpncdnbgaaDoorQ5
import Derived.Deep.DeepCutAuto
namespace Go.Proofs.YtacjgkpncdnbgaaDoor
open Go.RowKit

set_option maxRecDepth 100000 in
set_option maxHeartbeats 1600000 in
theorem ratioOrder_walk (a : Q) (ha : a.wf) (b : Q) (hb : b.wf) (c : Q) (hc : c.wf) (w : World) (hE : Env w) :
    Calls Tryd.prog 4 #[a.val, b.val, c.val] w fun e w' => e = .returned (.bool true) ∧ Kept w w' := by
  have O := three w #[.int .i64 a.n, .int .i64 a.d] #[.int .i64 b.n, .int .i64 b.d] #[.int .i64 c.n, .int .i64 c.d]
  have EN := Lib.hid hE
  obtain ⟨n, d⟩ := a
  obtain ⟨m, o⟩ := b
  obtain ⟨i, j⟩ := c
  unfold Q.val
  dsimp only at O ⊢
  clear hE
  go_enter Tryd.func4, Tryd.ntmps4
  go_wp2_with fail
  have Oa_0 := Lib.hid O.out.1
  have Ob_0 := Lib.hid O.out.2.1
  have Oc_0 := Lib.hid O.out.2.2
  have K0 := Lib.hid O.out.1.kept
  clear O
  generalize w.heap.size = Ba at *
  generalize hgen : ((w.alloc _).alloc _).alloc _ = w0 at *
  clear hgen
  refine (head_any _ (EN.out.kept K0.out)).mono ?_
  rintro e w1 ⟨rfl, hk⟩
  have K1 := Lib.hid (K0.out.trans hk)
  have Oa_1 := Lib.hid (Oa_0.out.step hk)
  have Ob_1 := Lib.hid (Ob_0.out.step hk)
  have Oc_1 := Lib.hid (Oc_0.out.step hk)
  clear K0 Oa_0 Ob_0 Oc_0
  clear hk
  have ca0 := Oa_1.out.cell 0
  have ca1 := Oa_1.out.cell 1
  have cb0 := Ob_1.out.cell 0
  have cb1 := Ob_1.out.cell 1
  have cc0 := Oc_1.out.cell 0
  have cc1 := Oc_1.out.cell 1
  go_wp2_with fail
  by_cases va : (Q.mk n d).valid = true
  · refine (valid_at va ha _).mono ?_
    rintro e w2 ⟨rfl, hk⟩
    clear ca0 ca1 cb0 cb1 cc0 cc1
    have K2 := Lib.hid (K1.out.trans hk)
    have Oa_2 := Lib.hid (Oa_1.out.step hk)
    have Ob_2 := Lib.hid (Ob_1.out.step hk)
    have Oc_2 := Lib.hid (Oc_1.out.step hk)
    clear K1 Oa_1 Ob_1 Oc_1
    clear hk
    have ca0 := Oa_2.out.cell 0
    have ca1 := Oa_2.out.cell 1
    have cb0 := Ob_2.out.cell 0
    have cb1 := Ob_2.out.cell 1
    have cc0 := Oc_2.out.cell 0
    have cc1 := Oc_2.out.cell 1
    go_wp2_with fail
    by_cases vb : (Q.mk m o).valid = true
    · refine (valid_at vb hb _).mono ?_
      rintro e w3 ⟨rfl, hk⟩
      clear ca0 ca1 cb0 cb1 cc0 cc1
      have K3 := Lib.hid (K2.out.trans hk)
      have Oa_3 := Lib.hid (Oa_2.out.step hk)
      have Ob_3 := Lib.hid (Ob_2.out.step hk)
      have Oc_3 := Lib.hid (Oc_2.out.step hk)
      clear K2 Oa_2 Ob_2 Oc_2
      clear hk
      have ca0 := Oa_3.out.cell 0
      have ca1 := Oa_3.out.cell 1
      have cb0 := Ob_3.out.cell 0
      have cb1 := Ob_3.out.cell 1
      have cc0 := Oc_3.out.cell 0
      have cc1 := Oc_3.out.cell 1
      go_wp2_with fail
      by_cases vc : (Q.mk i j).valid = true
      · refine (valid_at vc hc _).mono ?_
        rintro e w4 ⟨rfl, hk⟩
        clear ca0 ca1 cb0 cb1 cc0 cc1
        have K4 := Lib.hid (K3.out.trans hk)
        have Oa_4 := Lib.hid (Oa_3.out.step hk)
        have Ob_4 := Lib.hid (Ob_3.out.step hk)
        have Oc_4 := Lib.hid (Oc_3.out.step hk)
        clear K3 Oa_3 Ob_3 Oc_3
        clear hk
        have ca0 := Oa_4.out.cell 0
        have ca1 := Oa_4.out.cell 1
        have cb0 := Ob_4.out.cell 0
        have cb1 := Ob_4.out.cell 1
        have cc0 := Oc_4.out.cell 0
        have cc1 := Oc_4.out.cell 1
        go_wp2_with fail
        obtain ⟨k, hk0⟩ : ∃ r, cmpR ⟨n, d⟩ ⟨m, o⟩ = r := ⟨_, rfl⟩
        refine (cmp_at hk0 ha hb _).mono ?_
        rintro e w5 ⟨rfl, hk⟩
        clear ca0 ca1 cb0 cb1 cc0 cc1
        have K5 := Lib.hid (K4.out.trans hk)
        have Oa_5 := Lib.hid (Oa_4.out.step hk)
        have Ob_5 := Lib.hid (Ob_4.out.step hk)
        have Oc_5 := Lib.hid (Oc_4.out.step hk)
        clear K4 Oa_4 Ob_4 Oc_4
        clear hk
        have HK := Lib.hid hk0
        clear hk0
        have ca0 := Oa_5.out.cell 0
        have ca1 := Oa_5.out.cell 1
        have cb0 := Ob_5.out.cell 0
        have cb1 := Ob_5.out.cell 1
        have cc0 := Oc_5.out.cell 0
        have cc1 := Oc_5.out.cell 1
        go_upto_region 5 with fail
        go_cut [68] (fun v wx => v = .bool false ∧ Hid (Kept w wx) ∧ Hid (Own w wx Ba #[.int .i64 n, .int .i64 d]) ∧ Hid (Own w wx (Ba + 1) #[.int .i64 m, .int .i64 o]) ∧ Hid (Own w wx (Ba + 1 + 1) #[.int .i64 i, .int .i64 j]))
        case first =>
          have k1 : -1 ≤ k ∧ k ≤ 1 := by have := HK.out; rw [cmpR_eq va vb] at this; have := signR_le (n * o - m * d); dsimp only at *; omega
          obtain ⟨k1, k2⟩ := k1
          have kw : wrap64 (-k) = -k := wrap_small (by omega) (by omega)
          obtain ⟨l, hl⟩ : ∃ r, cmpR ⟨m, o⟩ ⟨i, j⟩ = r := ⟨_, rfl⟩
          obtain ⟨u, hu⟩ : ∃ r, cmpR ⟨n, d⟩ ⟨i, j⟩ = r := ⟨_, rfl⟩
          have hs : cmpR ⟨m, o⟩ ⟨n, d⟩ = -k := by rw [← HK.out]; exact order_sym va vb
          have C1 := Lib.hid (fun w => cmp_at hs hb ha w)
          have C2 := Lib.hid (fun w => cmp_at hl hb hc w)
          have C3 := Lib.hid (fun w => cmp_at hu ha hc w)
          have TR : Hid (k ≤ 0 → l ≤ 0 → u ≤ 0) := Lib.hid (by rw [← hl, ← hu, ← HK.out]; exact order_trans va vb vc)
          clear hs hl hu
          by_cases kz : k = 0
          · have heq := (order_eq va vb).1 (HK.out.trans kz)
            simp only [Q.mk.injEq] at heq
            obtain ⟨rfl, rfl⟩ := heq
            subst kz
            go_wp2_with fail
            refine (C1.out _).mono ?_
            rintro e w6 ⟨rfl, hk⟩
            clear ca0 ca1 cb0 cb1 cc0 cc1
            have K6 := Lib.hid (K5.out.trans hk)
            have Oa_6 := Lib.hid (Oa_5.out.step hk)
            have Ob_6 := Lib.hid (Ob_5.out.step hk)
            have Oc_6 := Lib.hid (Oc_5.out.step hk)
            clear K5 Oa_5 Ob_5 Oc_5
            clear hk
            have ca0 := Oa_6.out.cell 0
            have ca1 := Oa_6.out.cell 1
            have cb0 := Ob_6.out.cell 0
            have cb1 := Ob_6.out.cell 1
            have cc0 := Oc_6.out.cell 0
            have cc1 := Oc_6.out.cell 1
            go_wp2_with fail
            refine (C2.out _).mono ?_
            rintro e w7 ⟨rfl, hk⟩
            clear ca0 ca1 cb0 cb1 cc0 cc1
            have K7 := Lib.hid (K6.out.trans hk)
            have Oa_7 := Lib.hid (Oa_6.out.step hk)
            have Ob_7 := Lib.hid (Ob_6.out.step hk)
            have Oc_7 := Lib.hid (Oc_6.out.step hk)
            clear K6 Oa_6 Ob_6 Oc_6
            clear hk
            by_cases lz : l ≤ 0
            · have ca0 := Oa_7.out.cell 0
              have ca1 := Oa_7.out.cell 1
              have cb0 := Ob_7.out.cell 0
              have cb1 := Ob_7.out.cell 1
              have cc0 := Oc_7.out.cell 0
              have cc1 := Oc_7.out.cell 1
              go_wp2_with fail
              refine (C3.out _).mono ?_
              rintro e w8 ⟨rfl, hk⟩
              clear ca0 ca1 cb0 cb1 cc0 cc1
              have K8 := Lib.hid (K7.out.trans hk)
              have Oa_8 := Lib.hid (Oa_7.out.step hk)
              have Ob_8 := Lib.hid (Ob_7.out.step hk)
              have Oc_8 := Lib.hid (Oc_7.out.step hk)
              clear K7 Oa_7 Ob_7 Oc_7
              clear hk
              have uz : u ≤ 0 := TR.out (by omega) lz
              have ca0 := Oa_8.out.cell 0
              have ca1 := Oa_8.out.cell 1
              have cb0 := Ob_8.out.cell 0
              have cb1 := Ob_8.out.cell 1
              have cc0 := Oc_8.out.cell 0
              have cc1 := Oc_8.out.cell 1
              go_wp2_with fail
              go_meet
              exact ⟨by first | rfl | (simp; omega), K8, Oa_8, Ob_8, Oc_8⟩
            · have ca0 := Oa_7.out.cell 0
              have ca1 := Oa_7.out.cell 1
              have cb0 := Ob_7.out.cell 0
              have cb1 := Ob_7.out.cell 1
              have cc0 := Oc_7.out.cell 0
              have cc1 := Oc_7.out.cell 1
              go_wp2_with fail
              go_meet
              exact ⟨by first | rfl | (simp; omega), K7, Oa_7, Ob_7, Oc_7⟩
          · have hne : ¬ (n = m ∧ d = o) := fun h => kz (HK.out.symm.trans ((order_eq va vb).2 (by rw [h.1, h.2])))
            have KZ : (k == 0) = false := by simpa using kz
            by_cases hn : n = m
            · subst hn
              have hd : (d == o) = false := by simpa using hne
              clear hne
              go_wp2_with fail
              refine (C1.out _).mono ?_
              rintro e w6 ⟨rfl, hk⟩
              clear ca0 ca1 cb0 cb1 cc0 cc1
              have K6 := Lib.hid (K5.out.trans hk)
              have Oa_6 := Lib.hid (Oa_5.out.step hk)
              have Ob_6 := Lib.hid (Ob_5.out.step hk)
              have Oc_6 := Lib.hid (Oc_5.out.step hk)
              clear K5 Oa_5 Ob_5 Oc_5
              clear hk
              by_cases kn : k ≤ 0
              · have ca0 := Oa_6.out.cell 0
                have ca1 := Oa_6.out.cell 1
                have cb0 := Ob_6.out.cell 0
                have cb1 := Ob_6.out.cell 1
                have cc0 := Oc_6.out.cell 0
                have cc1 := Oc_6.out.cell 1
                go_wp2_with fail
                refine (C2.out _).mono ?_
                rintro e w7 ⟨rfl, hk⟩
                clear ca0 ca1 cb0 cb1 cc0 cc1
                have K7 := Lib.hid (K6.out.trans hk)
                have Oa_7 := Lib.hid (Oa_6.out.step hk)
                have Ob_7 := Lib.hid (Ob_6.out.step hk)
                have Oc_7 := Lib.hid (Oc_6.out.step hk)
                clear K6 Oa_6 Ob_6 Oc_6
                clear hk
                by_cases lz : l ≤ 0
                · have ca0 := Oa_7.out.cell 0
                  have ca1 := Oa_7.out.cell 1
                  have cb0 := Ob_7.out.cell 0
                  have cb1 := Ob_7.out.cell 1
                  have cc0 := Oc_7.out.cell 0
                  have cc1 := Oc_7.out.cell 1
                  go_wp2_with fail
                  refine (C3.out _).mono ?_
                  rintro e w8 ⟨rfl, hk⟩
                  clear ca0 ca1 cb0 cb1 cc0 cc1
                  have K8 := Lib.hid (K7.out.trans hk)
                  have Oa_8 := Lib.hid (Oa_7.out.step hk)
                  have Ob_8 := Lib.hid (Ob_7.out.step hk)
                  have Oc_8 := Lib.hid (Oc_7.out.step hk)
                  clear K7 Oa_7 Ob_7 Oc_7
                  clear hk
                  have uz : u ≤ 0 := TR.out (by omega) lz
                  have ca0 := Oa_8.out.cell 0
                  have ca1 := Oa_8.out.cell 1
                  have cb0 := Ob_8.out.cell 0
                  have cb1 := Ob_8.out.cell 1
                  have cc0 := Oc_8.out.cell 0
                  have cc1 := Oc_8.out.cell 1
                  go_wp2_with fail
                  go_meet
                  exact ⟨by first | rfl | (simp; omega), K8, Oa_8, Ob_8, Oc_8⟩
                · have ca0 := Oa_7.out.cell 0
                  have ca1 := Oa_7.out.cell 1
                  have cb0 := Ob_7.out.cell 0
                  have cb1 := Ob_7.out.cell 1
                  have cc0 := Oc_7.out.cell 0
                  have cc1 := Oc_7.out.cell 1
                  go_wp2_with fail
                  go_meet
                  exact ⟨by first | rfl | (simp; omega), K7, Oa_7, Ob_7, Oc_7⟩
              · have ca0 := Oa_6.out.cell 0
                have ca1 := Oa_6.out.cell 1
                have cb0 := Ob_6.out.cell 0
                have cb1 := Ob_6.out.cell 1
                have cc0 := Oc_6.out.cell 0
                have cc1 := Oc_6.out.cell 1
                go_wp2_with fail
                go_meet
                exact ⟨by first | rfl | (simp; omega), K6, Oa_6, Ob_6, Oc_6⟩
            · have hd : (n == m) = false := by simpa using hn
              clear hne hn
              go_wp2_with fail
              refine (C1.out _).mono ?_
              rintro e w6 ⟨rfl, hk⟩
              clear ca0 ca1 cb0 cb1 cc0 cc1
              have K6 := Lib.hid (K5.out.trans hk)
              have Oa_6 := Lib.hid (Oa_5.out.step hk)
              have Ob_6 := Lib.hid (Ob_5.out.step hk)
              have Oc_6 := Lib.hid (Oc_5.out.step hk)
              clear K5 Oa_5 Ob_5 Oc_5
              clear hk
              by_cases kn : k ≤ 0
              · have ca0 := Oa_6.out.cell 0
                have ca1 := Oa_6.out.cell 1
                have cb0 := Ob_6.out.cell 0
                have cb1 := Ob_6.out.cell 1
                have cc0 := Oc_6.out.cell 0
                have cc1 := Oc_6.out.cell 1
                go_wp2_with fail
                refine (C2.out _).mono ?_
                rintro e w7 ⟨rfl, hk⟩
                clear ca0 ca1 cb0 cb1 cc0 cc1
                have K7 := Lib.hid (K6.out.trans hk)
                have Oa_7 := Lib.hid (Oa_6.out.step hk)
                have Ob_7 := Lib.hid (Ob_6.out.step hk)
                have Oc_7 := Lib.hid (Oc_6.out.step hk)
                clear K6 Oa_6 Ob_6 Oc_6
                clear hk
                by_cases lz : l ≤ 0
                · have ca0 := Oa_7.out.cell 0
                  have ca1 := Oa_7.out.cell 1
                  have cb0 := Ob_7.out.cell 0
                  have cb1 := Ob_7.out.cell 1
                  have cc0 := Oc_7.out.cell 0
                  have cc1 := Oc_7.out.cell 1
                  go_wp2_with fail
                  refine (C3.out _).mono ?_
                  rintro e w8 ⟨rfl, hk⟩
                  clear ca0 ca1 cb0 cb1 cc0 cc1
                  have K8 := Lib.hid (K7.out.trans hk)
                  have Oa_8 := Lib.hid (Oa_7.out.step hk)
                  have Ob_8 := Lib.hid (Ob_7.out.step hk)
                  have Oc_8 := Lib.hid (Oc_7.out.step hk)
                  clear K7 Oa_7 Ob_7 Oc_7
                  clear hk
                  have uz : u ≤ 0 := TR.out (by omega) lz
                  have ca0 := Oa_8.out.cell 0
                  have ca1 := Oa_8.out.cell 1
                  have cb0 := Ob_8.out.cell 0
                  have cb1 := Ob_8.out.cell 1
                  have cc0 := Oc_8.out.cell 0
                  have cc1 := Oc_8.out.cell 1
                  go_wp2_with fail
                  go_meet
                  exact ⟨by first | rfl | (simp; omega), K8, Oa_8, Ob_8, Oc_8⟩
                · have ca0 := Oa_7.out.cell 0
                  have ca1 := Oa_7.out.cell 1
                  have cb0 := Ob_7.out.cell 0
                  have cb1 := Ob_7.out.cell 1
                  have cc0 := Oc_7.out.cell 0
                  have cc1 := Oc_7.out.cell 1
                  go_wp2_with fail
                  go_meet
                  exact ⟨by first | rfl | (simp; omega), K7, Oa_7, Ob_7, Oc_7⟩
              · have ca0 := Oa_6.out.cell 0
                have ca1 := Oa_6.out.cell 1
                have cb0 := Ob_6.out.cell 0
                have cb1 := Ob_6.out.cell 1
                have cc0 := Oc_6.out.cell 0
                have cc1 := Oc_6.out.cell 1
                go_wp2_with fail
                go_meet
                exact ⟨by first | rfl | (simp; omega), K6, Oa_6, Ob_6, Oc_6⟩
        case rest =>
          clear ca0 ca1 cb0 cb1 cc0 cc1
          obtain ⟨rfl, K6, Oa_6, Ob_6, Oc_6⟩ := hcut

          have ca0 := Oa_6.out.cell 0
          have ca1 := Oa_6.out.cell 1
          have cb0 := Ob_6.out.cell 0
          have cb1 := Ob_6.out.cell 1
          have cc0 := Oc_6.out.cell 0
          have cc1 := Oc_6.out.cell 1
          go_wp2_with fail
          obtain ⟨⟨⟨sx, sy⟩, se⟩, hs⟩ : ∃ r, addR ⟨n, d⟩ ⟨i, j⟩ = r := ⟨_, rfl⟩
          refine (add_at hs ha hc _).mono ?_
          rintro e w7 ⟨rfl, hk⟩
          clear ca0 ca1 cb0 cb1 cc0 cc1
          have K7 := Lib.hid (K6.out.trans hk)
          have Oa_7 := Lib.hid (Oa_6.out.step hk)
          have Ob_7 := Lib.hid (Ob_6.out.step hk)
          have Oc_7 := Lib.hid (Oc_6.out.step hk)
          clear K6 Oa_6 Ob_6 Oc_6
          clear hk
          have HS := Lib.hid hs
          clear hs
          have Ls := Lib.hid Oc_7.out.lt
          have Ns := Lib.hid (Own.made K7.out #[.int .i64 (sx), .int .i64 (sy)])
          have K8 := Lib.hid (K7.out.trans ((Kept.refl w7).alloc (.cells #[.int .i64 (sx), .int .i64 (sy)] 24)))
          have Oa_8 := Lib.hid (Oa_7.out.step ((Kept.refl w7).alloc (.cells #[.int .i64 (sx), .int .i64 (sy)] 24)))
          have Ob_8 := Lib.hid (Ob_7.out.step ((Kept.refl w7).alloc (.cells #[.int .i64 (sx), .int .i64 (sy)] 24)))
          have Oc_8 := Lib.hid (Oc_7.out.step ((Kept.refl w7).alloc (.cells #[.int .i64 (sx), .int .i64 (sy)] 24)))
          clear K7 Oa_7 Ob_7 Oc_7
          have Os_8 := Ns
          clear Ns
          have ca0 := Oa_8.out.cell 0
          have ca1 := Oa_8.out.cell 1
          have cb0 := Ob_8.out.cell 0
          have cb1 := Ob_8.out.cell 1
          have cc0 := Oc_8.out.cell 0
          have cc1 := Oc_8.out.cell 1
          go_wp2_with fail
          clear ca0 ca1 cb0 cb1 cc0 cc1
          generalize w7.heap.size = Bs at *
          generalize w7.alloc _ = w8 at *
          obtain ⟨⟨⟨tx, ty⟩, te⟩, ht⟩ : ∃ r, addR ⟨m, o⟩ ⟨i, j⟩ = r := ⟨_, rfl⟩
          refine (add_at ht hb hc _).mono ?_
          rintro e w9 ⟨rfl, hk⟩
          have K9 := Lib.hid (K8.out.trans hk)
          have Oa_9 := Lib.hid (Oa_8.out.step hk)
          have Ob_9 := Lib.hid (Ob_8.out.step hk)
          have Oc_9 := Lib.hid (Oc_8.out.step hk)
          have Os_9 := Lib.hid (Os_8.out.step hk)
          clear K8 Oa_8 Ob_8 Oc_8 Os_8
          clear hk
          have HT := Lib.hid ht
          clear ht
          have Lt := Lib.hid (And.intro Oc_9.out.lt Os_9.out.lt)
          have Nt := Lib.hid (Own.made K9.out #[.int .i64 tx, .int .i64 ty])
          have K10 := Lib.hid (K9.out.trans ((Kept.refl w9).alloc (.cells #[.int .i64 tx, .int .i64 ty] 24)))
          have Oa_10 := Lib.hid (Oa_9.out.step ((Kept.refl w9).alloc (.cells #[.int .i64 tx, .int .i64 ty] 24)))
          have Ob_10 := Lib.hid (Ob_9.out.step ((Kept.refl w9).alloc (.cells #[.int .i64 tx, .int .i64 ty] 24)))
          have Oc_10 := Lib.hid (Oc_9.out.step ((Kept.refl w9).alloc (.cells #[.int .i64 tx, .int .i64 ty] 24)))
          have Os_10 := Lib.hid (Os_9.out.step ((Kept.refl w9).alloc (.cells #[.int .i64 tx, .int .i64 ty] 24)))
          clear K9 Oa_9 Ob_9 Oc_9 Os_9
          have Ot_10 := Nt
          clear Nt
          have ca0 := Oa_10.out.cell 0
          have ca1 := Oa_10.out.cell 1
          have cb0 := Ob_10.out.cell 0
          have cb1 := Ob_10.out.cell 1
          have cc0 := Oc_10.out.cell 0
          have cc1 := Oc_10.out.cell 1
          have cs0 := Os_10.out.cell 0
          have cs1 := Os_10.out.cell 1
          have ct0 := Ot_10.out.cell 0
          have ct1 := Ot_10.out.cell 1
          go_upto_region 9 with fail
          clear ca0 ca1 cb0 cb1 cc0 cc1 cs0 cs1 ct0 ct1
          generalize w9.heap.size = Bt at *
          generalize w9.alloc _ = w10 at *
          go_cut [93] (fun v wx => v = .bool false ∧ Hid (Kept w wx) ∧ Hid (Own w wx (Ba) #[.int .i64 n, .int .i64 d]) ∧ Hid (Own w wx (Ba + 1) #[.int .i64 m, .int .i64 o]) ∧ Hid (Own w wx (Ba + 1 + 1) #[.int .i64 i, .int .i64 j]) ∧ Hid (Own w wx (Bs) #[.int .i64 sx, .int .i64 sy]) ∧ Hid (Own w wx (Bt) #[.int .i64 tx, .int .i64 ty]))
          case first =>
            have ca0 := Oa_10.out.cell 0
            have ca1 := Oa_10.out.cell 1
            have cb0 := Ob_10.out.cell 0
            have cb1 := Ob_10.out.cell 1
            have cc0 := Oc_10.out.cell 0
            have cc1 := Oc_10.out.cell 1
            have cs0 := Os_10.out.cell 0
            have cs1 := Os_10.out.cell 1
            have ct0 := Ot_10.out.cell 0
            have ct1 := Ot_10.out.cell 1
            have SC : (sx = 0 ∧ sy = 0 ∧ se = 2) ∨ (se = 0 ∧ addR ⟨n, d⟩ ⟨i, j⟩ = (⟨sx, sy⟩, 0)) := by
              have hs := HS.out
              rcases add_cases va vc with h | ⟨p, h⟩
              · rw [hs] at h
                simp only [q0, Prod.mk.injEq, Q.mk.injEq] at h
                exact Or.inl ⟨h.1.1, h.1.2, h.2⟩
              · have h2 := hs.symm.trans h
                simp only [Prod.mk.injEq] at h2
                exact Or.inr ⟨h2.2, by rw [hs, h2.2]⟩
            have TC : (tx = 0 ∧ ty = 0 ∧ te = 2) ∨ (te = 0 ∧ addR ⟨m, o⟩ ⟨i, j⟩ = (⟨tx, ty⟩, 0)) := by
              have hs := HT.out
              rcases add_cases vb vc with h | ⟨p, h⟩
              · rw [hs] at h
                simp only [q0, Prod.mk.injEq, Q.mk.injEq] at h
                exact Or.inl ⟨h.1.1, h.1.2, h.2⟩
              · have h2 := hs.symm.trans h
                simp only [Prod.mk.injEq] at h2
                exact Or.inr ⟨h2.2, by rw [hs, h2.2]⟩
            clear HS HT
            rcases SC with ⟨rfl, rfl, rfl⟩ | ⟨rfl, hs⟩
            · clear TC
              go_wp2_with fail
              go_meet
              exact ⟨rfl, K10, Oa_10, Ob_10, Oc_10, Os_10, Ot_10⟩
            · rcases TC with ⟨rfl, rfl, rfl⟩ | ⟨rfl, ht⟩
              · clear hs
                go_wp2_with fail
                go_meet
                exact ⟨rfl, K10, Oa_10, Ob_10, Oc_10, Os_10, Ot_10⟩
              · have hc1 : cmpR ⟨sx, sy⟩ ⟨tx, ty⟩ = k := by rw [← HK.out]; exact order_add va vb vc hs ht
                have C1 := Lib.hid (fun w => cmp_at hc1 (Q.wf_of (add_valid va vc hs)) (Q.wf_of (add_valid vb vc ht)) w)
                clear hs ht hc1
                go_wp2_with fail
                refine (C1.out _).mono ?_
                rintro e w11 ⟨rfl, hk⟩
                clear ca0 ca1 cb0 cb1 cc0 cc1 cs0 cs1 ct0 ct1
                have K11 := Lib.hid (K10.out.trans hk)
                have Oa_11 := Lib.hid (Oa_10.out.step hk)
                have Ob_11 := Lib.hid (Ob_10.out.step hk)
                have Oc_11 := Lib.hid (Oc_10.out.step hk)
                have Os_11 := Lib.hid (Os_10.out.step hk)
                have Ot_11 := Lib.hid (Ot_10.out.step hk)
                clear K10 Oa_10 Ob_10 Oc_10 Os_10 Ot_10
                clear hk
                have ca0 := Oa_11.out.cell 0
                have ca1 := Oa_11.out.cell 1
                have cb0 := Ob_11.out.cell 0
                have cb1 := Ob_11.out.cell 1
                have cc0 := Oc_11.out.cell 0
                have cc1 := Oc_11.out.cell 1
                have cs0 := Os_11.out.cell 0
                have cs1 := Os_11.out.cell 1
                have ct0 := Ot_11.out.cell 0
                have ct1 := Ot_11.out.cell 1
                go_wp2_with fail
                go_meet
                exact ⟨by first | rfl | simp, K11, Oa_11, Ob_11, Oc_11, Os_11, Ot_11⟩
          case rest =>
            obtain ⟨rfl, K11, Oa_11, Ob_11, Oc_11, Os_11, Ot_11⟩ := hcut
            clear HS HT
            have ca0 := Oa_11.out.cell 0
            have ca1 := Oa_11.out.cell 1
            have cb0 := Ob_11.out.cell 0
            have cb1 := Ob_11.out.cell 1
            have cc0 := Oc_11.out.cell 0
            have cc1 := Oc_11.out.cell 1
            go_wp2_with fail
            obtain ⟨⟨⟨px, py⟩, pe⟩, hp⟩ : ∃ r, mulR ⟨n, d⟩ ⟨i, j⟩ = r := ⟨_, rfl⟩
            refine (mul_at hp ha hc _).mono ?_
            rintro e w12 ⟨rfl, hk⟩
            clear ca0 ca1 cb0 cb1 cc0 cc1
            have K12 := Lib.hid (K11.out.trans hk)
            have Oa_12 := Lib.hid (Oa_11.out.step hk)
            have Ob_12 := Lib.hid (Ob_11.out.step hk)
            have Oc_12 := Lib.hid (Oc_11.out.step hk)
            have Os_12 := Lib.hid (Os_11.out.step hk)
            have Ot_12 := Lib.hid (Ot_11.out.step hk)
            clear K11 Oa_11 Ob_11 Oc_11 Os_11 Ot_11
            clear hk
            have HP := Lib.hid hp
            clear hp
            have fr0 := Os_12.out.free 0
            have fr1 := Os_12.out.free 1
            have ltb := Os_12.out.lt
            have nb := Os_12.out.new
            have l1 := Ls.out
            have l2 := Lt.out.1
            have l3 := Lt.out.2
            have Ss := Lib.hid ((Os_12.out.set 0 (.int .i64 px)).set 1 (.int .i64 py))
            have Sa := Lib.hid ((Oa_12.out.other nb (show Ba ≠ Bs by omega) 0 (.int .i64 px)).other nb (show Ba ≠ Bs by omega) 1 (.int .i64 py))
            have Sb := Lib.hid ((Ob_12.out.other nb (show Ba + 1 ≠ Bs by omega) 0 (.int .i64 px)).other nb (show Ba + 1 ≠ Bs by omega) 1 (.int .i64 py))
            have Sc := Lib.hid ((Oc_12.out.other nb (show Ba + 1 + 1 ≠ Bs by omega) 0 (.int .i64 px)).other nb (show Ba + 1 + 1 ≠ Bs by omega) 1 (.int .i64 py))
            have St := Lib.hid ((Ot_12.out.other nb (show Bt ≠ Bs by omega) 0 (.int .i64 px)).other nb (show Bt ≠ Bs by omega) 1 (.int .i64 py))
            clear l1 l2 l3
            have cs0 := Os_12.out.cell 0
            have cs1 := Os_12.out.cell 1
            have da0 := Sa.out.cell 0
            have da1 := Sa.out.cell 1
            have db0 := Sb.out.cell 0
            have db1 := Sb.out.cell 1
            have dc0 := Sc.out.cell 0
            have dc1 := Sc.out.cell 1
            go_wp2_with fail
            clear cs0 cs1
            clear fr0 fr1 ltb nb da0 da1 db0 db1 dc0 dc1 K12 Oa_12 Ob_12 Oc_12 Os_12 Ot_12
            generalize hgen : World.setCell _ _ _ = w13 at *
            clear hgen
            have K13 := Lib.hid Ss.out.kept
            have Oa_13 := Sa
            have Ob_13 := Sb
            have Oc_13 := Sc
            have Ot_13 := St
            have Os_13 : Hid (Own w w13 (Bs) #[.int .i64 px, .int .i64 py]) := Ss
            clear Sa Sb Sc Ss St
            obtain ⟨⟨⟨qx, qy⟩, qe⟩, hq⟩ : ∃ r, mulR ⟨m, o⟩ ⟨i, j⟩ = r := ⟨_, rfl⟩
            refine (mul_at hq hb hc _).mono ?_
            rintro e w14 ⟨rfl, hk⟩
            have K14 := Lib.hid (K13.out.trans hk)
            have Oa_14 := Lib.hid (Oa_13.out.step hk)
            have Ob_14 := Lib.hid (Ob_13.out.step hk)
            have Oc_14 := Lib.hid (Oc_13.out.step hk)
            have Os_14 := Lib.hid (Os_13.out.step hk)
            have Ot_14 := Lib.hid (Ot_13.out.step hk)
            clear K13 Oa_13 Ob_13 Oc_13 Os_13 Ot_13
            clear hk
            have HQ := Lib.hid hq
            clear hq
            have fr0 := Ot_14.out.free 0
            have fr1 := Ot_14.out.free 1
            have ltb := Ot_14.out.lt
            have nb := Ot_14.out.new
            have l1 := Ls.out
            have l2 := Lt.out.1
            have l3 := Lt.out.2
            have St := Lib.hid ((Ot_14.out.set 0 (.int .i64 qx)).set 1 (.int .i64 qy))
            have Sa := Lib.hid ((Oa_14.out.other nb (show Ba ≠ Bt by omega) 0 (.int .i64 qx)).other nb (show Ba ≠ Bt by omega) 1 (.int .i64 qy))
            have Sb := Lib.hid ((Ob_14.out.other nb (show Ba + 1 ≠ Bt by omega) 0 (.int .i64 qx)).other nb (show Ba + 1 ≠ Bt by omega) 1 (.int .i64 qy))
            have Sc := Lib.hid ((Oc_14.out.other nb (show Ba + 1 + 1 ≠ Bt by omega) 0 (.int .i64 qx)).other nb (show Ba + 1 + 1 ≠ Bt by omega) 1 (.int .i64 qy))
            have Ss := Lib.hid ((Os_14.out.other nb (show Bs ≠ Bt by omega) 0 (.int .i64 qx)).other nb (show Bs ≠ Bt by omega) 1 (.int .i64 qy))
            clear l1 l2 l3
            have ct0 := Ot_14.out.cell 0
            have ct1 := Ot_14.out.cell 1
            have da0 := Sa.out.cell 0
            have da1 := Sa.out.cell 1
            have db0 := Sb.out.cell 0
            have db1 := Sb.out.cell 1
            have dc0 := Sc.out.cell 0
            have dc1 := Sc.out.cell 1
            go_upto_region 13 with fail
            clear ct0 ct1
            clear fr0 fr1 ltb nb da0 da1 db0 db1 dc0 dc1 K14 Oa_14 Ob_14 Oc_14 Os_14 Ot_14
            generalize hgen : World.setCell _ _ _ = w15 at *
            clear hgen
            have K15 := Lib.hid St.out.kept
            have Oa_15 := Sa
            have Ob_15 := Sb
            have Oc_15 := Sc
            have Os_15 := Ss
            have Ot_15 : Hid (Own w w15 (Bt) #[.int .i64 qx, .int .i64 qy]) := St
            clear Sa Sb Sc Ss St
            have PC : pe = 2 ∨ (pe = 0 ∧ mulR ⟨n, d⟩ ⟨i, j⟩ = (⟨px, py⟩, 0)) := by
              have hs := HP.out
              rcases mul_cases va vc with h | ⟨p, h⟩
              · rw [hs] at h
                simp only [q0, Prod.mk.injEq, Q.mk.injEq] at h
                exact Or.inl h.2
              · have h2 := hs.symm.trans h
                simp only [Prod.mk.injEq] at h2
                exact Or.inr ⟨h2.2, by rw [hs, h2.2]⟩
            have QC : qe = 2 ∨ (qe = 0 ∧ mulR ⟨m, o⟩ ⟨i, j⟩ = (⟨qx, qy⟩, 0)) := by
              have hs := HQ.out
              rcases mul_cases vb vc with h | ⟨p, h⟩
              · rw [hs] at h
                simp only [q0, Prod.mk.injEq, Q.mk.injEq] at h
                exact Or.inl h.2
              · have h2 := hs.symm.trans h
                simp only [Prod.mk.injEq] at h2
                exact Or.inr ⟨h2.2, by rw [hs, h2.2]⟩
            clear HP HQ
            have ca0 := Oa_15.out.cell 0
            have ca1 := Oa_15.out.cell 1
            have cb0 := Ob_15.out.cell 0
            have cb1 := Ob_15.out.cell 1
            have cc0 := Oc_15.out.cell 0
            have cc1 := Oc_15.out.cell 1
            have cs0 := Os_15.out.cell 0
            have cs1 := Os_15.out.cell 1
            have ct0 := Ot_15.out.cell 0
            have ct1 := Ot_15.out.cell 1
            by_cases iz : i ≤ 0
            · clear PC QC
              go_wp2_with fail
              go_ret
              exact ⟨rfl, K15.out⟩
            · rcases PC with rfl | ⟨rfl, hp⟩
              · clear QC
                go_wp2_with fail
                go_ret
                exact ⟨rfl, K15.out⟩
              · rcases QC with rfl | ⟨rfl, hq⟩
                · clear hp
                  go_wp2_with fail
                  go_ret
                  exact ⟨rfl, K15.out⟩
                · have hc1 : cmpR ⟨px, py⟩ ⟨qx, qy⟩ = k := by rw [← HK.out]; exact order_mul va vb vc (by show 0 < i; omega) hp hq
                  have C1 := Lib.hid (fun w => cmp_at hc1 (Q.wf_of (mul_valid va vc hp)) (Q.wf_of (mul_valid vb vc hq)) w)
                  clear hp hq hc1
                  go_wp2_with fail
                  refine (C1.out _).mono ?_
                  rintro e w16 ⟨rfl, hk⟩
                  clear ca0 ca1 cb0 cb1 cc0 cc1 cs0 cs1 ct0 ct1
                  have K16 := Lib.hid (K15.out.trans hk)
                  have Oa_16 := Lib.hid (Oa_15.out.step hk)
                  have Ob_16 := Lib.hid (Ob_15.out.step hk)
                  have Oc_16 := Lib.hid (Oc_15.out.step hk)
                  have Os_16 := Lib.hid (Os_15.out.step hk)
                  have Ot_16 := Lib.hid (Ot_15.out.step hk)
                  clear K15 Oa_15 Ob_15 Oc_15 Os_15 Ot_15
                  clear hk
                  have ca0 := Oa_16.out.cell 0
                  have ca1 := Oa_16.out.cell 1
                  have cb0 := Ob_16.out.cell 0
                  have cb1 := Ob_16.out.cell 1
                  have cc0 := Oc_16.out.cell 0
                  have cc1 := Oc_16.out.cell 1
                  have cs0 := Os_16.out.cell 0
                  have cs1 := Os_16.out.cell 1
                  have ct0 := Ot_16.out.cell 0
                  have ct1 := Ot_16.out.cell 1
                  go_wp2_with fail
                  go_ret
                  exact ⟨by first | rfl | simp, K16.out⟩
      · have vcf := Bool.eq_false_iff.2 vc
        refine (valid_at vcf hc _).mono ?_
        rintro e w4 ⟨rfl, hk⟩
        clear ca0 ca1 cb0 cb1 cc0 cc1
        have K4 := Lib.hid (K3.out.trans hk)
        have Oa_4 := Lib.hid (Oa_3.out.step hk)
        have Ob_4 := Lib.hid (Ob_3.out.step hk)
        have Oc_4 := Lib.hid (Oc_3.out.step hk)
        clear K3 Oa_3 Ob_3 Oc_3
        clear hk
        have ca0 := Oa_4.out.cell 0
        have ca1 := Oa_4.out.cell 1
        have cb0 := Ob_4.out.cell 0
        have cb1 := Ob_4.out.cell 1
        have cc0 := Oc_4.out.cell 0
        have cc1 := Oc_4.out.cell 1
        go_wp2_with fail
        go_ret
        exact ⟨rfl, K4.out⟩
    · have vbf := Bool.eq_false_iff.2 vb
      refine (valid_at vbf hb _).mono ?_
      rintro e w3 ⟨rfl, hk⟩
      clear ca0 ca1 cb0 cb1 cc0 cc1
      have K3 := Lib.hid (K2.out.trans hk)
      have Oa_3 := Lib.hid (Oa_2.out.step hk)
      have Ob_3 := Lib.hid (Ob_2.out.step hk)
      have Oc_3 := Lib.hid (Oc_2.out.step hk)
      clear K2 Oa_2 Ob_2 Oc_2
      clear hk
      have ca0 := Oa_3.out.cell 0
      have ca1 := Oa_3.out.cell 1
      have cb0 := Ob_3.out.cell 0
      have cb1 := Ob_3.out.cell 1
      have cc0 := Oc_3.out.cell 0
      have cc1 := Oc_3.out.cell 1
      go_wp2_with fail
      go_ret
      exact ⟨rfl, K3.out⟩
  · have vaf := Bool.eq_false_iff.2 va
    refine (valid_at vaf ha _).mono ?_
    rintro e w2 ⟨rfl, hk⟩
    clear ca0 ca1 cb0 cb1 cc0 cc1
    have K2 := Lib.hid (K1.out.trans hk)
    have Oa_2 := Lib.hid (Oa_1.out.step hk)
    have Ob_2 := Lib.hid (Ob_1.out.step hk)
    have Oc_2 := Lib.hid (Oc_1.out.step hk)
    clear K1 Oa_1 Ob_1 Oc_1
    clear hk
    have ca0 := Oa_2.out.cell 0
    have ca1 := Oa_2.out.cell 1
    have cb0 := Ob_2.out.cell 0
    have cb1 := Ob_2.out.cell 1
    have cc0 := Oc_2.out.cell 0
    have cc1 := Oc_2.out.cell 1
    go_wp2_with fail
    go_ret
    exact ⟨rfl, K2.out⟩
end Go.Proofs.YtacjgkpncdnbgaaDoor
