/-
  The law RatioTexts, walked. Its condition: the library's variables are as the program's start leaves them.
-/
import Derived.Test.YtacjgkpncdnbgaaDoorQ6
import Derived.Test.YtacjgkpncdnbgaaDoorVB
namespace Go.Proofs.YtacjgkpncdnbgaaDoor
open Go.RowKit

theorem parse_at {s : ByteArray} {x y r : Int} (h : parseR s = (⟨x, y⟩, r)) (hs : s.size ≤ 1000) (w : World) (hE : Env w) :
    Calls Tryd.prog 18 #[.string s] w fun e w' => e = .returned (.tuple #[.agg #[.int .i64 x, .int .i64 y], .int .i64 r]) ∧ Kept w w' := by
  have := parse_any s hs w hE
  rw [h] at this
  exact this
theorem text_at {n d : Int} {t : ByteArray} (h : strOf (textL ⟨n, d⟩) = t) (ha : (Q.mk n d).wf) (w : World) (hE : Env w) :
    Calls Tryd.prog 17 #[.agg #[.int .i64 n, .int .i64 d]] w fun e w' => e = .returned (.string t) ∧ Kept w w' := by
  have := text_any ⟨n, d⟩ ha w hE
  rw [h] at this
  exact this
theorem text_size {a : Q} (h : a.wf) : (strOf (textL a)).size ≤ 43 := by
  show (textL a).toArray.size ≤ 43
  have h1 := Lib.itoa_length_le a.n h.n1 h.n2
  have h2 := Lib.itoa_length_le a.d h.d1 h.d2
  unfold textL
  split
  · split
    · simp; omega
    · simp; omega
  · simp

set_option maxRecDepth 100000 in
set_option maxHeartbeats 1600000 in
theorem ratioTexts_walk (a : Q) (ha : a.wf) (s : ByteArray) (hs : s.size ≤ 9223372036854775807) (w : World) (hE : Env w) :
    Calls Tryd.prog 5 #[a.val, .string s] w fun e w' => e = .returned (.bool true) ∧ Kept w w' := by
  have O : Hid (Own w (w.alloc (.cells #[.int .i64 a.n, .int .i64 a.d] 24)) w.heap.size #[.int .i64 a.n, .int .i64 a.d]) := Lib.hid (Own.made (Kept.refl w) _)
  have EN := Lib.hid hE
  obtain ⟨n, d⟩ := a
  unfold Q.val
  dsimp only at O ⊢
  clear hE
  go_enter Tryd.func5, Tryd.ntmps5
  go_wp2_with fail
  have Oa_0 := O
  have K0 := Lib.hid O.out.kept
  clear O
  generalize w.heap.size = Ba at *
  generalize hgen : w.alloc _ = w0 at *
  clear hgen
  refine (head_any _ (EN.out.kept K0.out)).mono ?_
  rintro e w1 ⟨rfl, hk⟩
  have K1 := Lib.hid (K0.out.trans hk)
  have Oa_1 := Lib.hid (Oa_0.out.step hk)
  clear K0 Oa_0
  clear hk
  by_cases hl : 1000 < s.size
  · go_wp2_with fail
    go_ret
    exact ⟨rfl, K1.out⟩
  · have hl' : s.size ≤ 1000 := by omega
    obtain ⟨T, hT⟩ : ∃ T, strOf (textL ⟨n, d⟩) = T := ⟨_, rfl⟩
    have hTs : T.size ≤ 1000 := by have := text_size ha; rw [hT] at this; omega
    have PC : (parseR s = (⟨0, 0⟩, 6)) ∨ ∃ p q : Int, parseR s = (⟨p, q⟩, 0) ∧ strOf (textL ⟨p, q⟩) = s ∧ (Q.mk p q).valid = true := by
      rcases parse_two s with h | ⟨a, h1, h2, h3⟩
      · exact Or.inl h
      · exact Or.inr ⟨a.n, a.d, h1, h2, h3⟩
    have PC := Lib.hid PC
    have ca0 := Oa_1.out.cell 0
    have ca1 := Oa_1.out.cell 1
    go_wp2_with fail
    refine (text_at hT ha _ (EN.out.kept K1.out)).mono ?_
    rintro e w2 ⟨rfl, hk⟩
    clear ca0 ca1
    have K2 := Lib.hid (K1.out.trans hk)
    have Oa_2 := Lib.hid (Oa_1.out.step hk)
    clear K1 Oa_1
    clear hk
    by_cases va : (Q.mk n d).valid = true
    · have hne : T.toList.isEmpty = false := by
        rw [← hT, Lib.toList_data, List.isEmpty_eq_false_iff]
        exact text_some va
      have hne2 : (T.toList == []) = false := by
        rw [beq_eq_false_iff_ne]; intro h; rw [h] at hne; cases hne
      have hp0 : parseR T = (⟨n, d⟩, 0) := by rw [← hT]; exact parse_text va
      have ca0 := Oa_2.out.cell 0
      have ca1 := Oa_2.out.cell 1
      go_wp2_with fail
      refine (valid_at va ha _).mono ?_
      rintro e w3 ⟨rfl, hk⟩
      clear ca0 ca1
      have K3 := Lib.hid (K2.out.trans hk)
      have Oa_3 := Lib.hid (Oa_2.out.step hk)
      clear K2 Oa_2
      clear hk
      have ca0 := Oa_3.out.cell 0
      have ca1 := Oa_3.out.cell 1
      go_wp2_with fail
      refine (parse_at hp0 hTs _ (EN.out.kept K3.out)).mono ?_
      rintro e w4 ⟨rfl, hk⟩
      clear ca0 ca1
      have K4 := Lib.hid (K3.out.trans hk)
      have Oa_4 := Lib.hid (Oa_3.out.step hk)
      clear K3 Oa_3
      clear hk
      have Nb := Lib.hid (Own.made K4.out #[.int .i64 (n), .int .i64 (d)])
      have K5 := Lib.hid (K4.out.trans ((Kept.refl w4).alloc (.cells #[.int .i64 (n), .int .i64 (d)] 24)))
      have Oa_5 := Lib.hid (Oa_4.out.step ((Kept.refl w4).alloc (.cells #[.int .i64 (n), .int .i64 (d)] 24)))
      clear K4 Oa_4
      have Ob_5 := Nb
      clear Nb
      have ca0 := Oa_5.out.cell 0
      have ca1 := Oa_5.out.cell 1
      have cb0 := Ob_5.out.cell 0
      have cb1 := Ob_5.out.cell 1
      go_wp2_with fail
      clear ca0 ca1 cb0 cb1
      generalize w4.heap.size = Bb at *
      generalize w4.alloc _ = w5 at *
      rcases PC.out with hp | ⟨p, q, hp, ht, hv⟩
      · refine (parse_at hp hl' _ (EN.out.kept K5.out)).mono ?_
        rintro e w6 ⟨rfl, hk⟩
        have K6 := Lib.hid (K5.out.trans hk)
        have Oa_6 := Lib.hid (Oa_5.out.step hk)
        have Ob_6 := Lib.hid (Ob_5.out.step hk)
        clear K5 Oa_5 Ob_5
        clear hk
        have Nc := Lib.hid (Own.made K6.out #[.int .i64 (0), .int .i64 (0)])
        have K7 := Lib.hid (K6.out.trans ((Kept.refl w6).alloc (.cells #[.int .i64 (0), .int .i64 (0)] 24)))
        have Oa_7 := Lib.hid (Oa_6.out.step ((Kept.refl w6).alloc (.cells #[.int .i64 (0), .int .i64 (0)] 24)))
        have Ob_7 := Lib.hid (Ob_6.out.step ((Kept.refl w6).alloc (.cells #[.int .i64 (0), .int .i64 (0)] 24)))
        clear K6 Oa_6 Ob_6
        have Oc_7 := Nc
        clear Nc
        have ca0 := Oa_7.out.cell 0
        have ca1 := Oa_7.out.cell 1
        have cb0 := Ob_7.out.cell 0
        have cb1 := Ob_7.out.cell 1
        have cc0 := Oc_7.out.cell 0
        have cc1 := Oc_7.out.cell 1
        go_wp2_with fail
        clear ca0 ca1 cb0 cb1 cc0 cc1
        generalize w6.heap.size = Bc at *
        generalize w6.alloc _ = w7 at *
        go_ret
        exact ⟨rfl, K7.out⟩
      · refine (parse_at hp hl' _ (EN.out.kept K5.out)).mono ?_
        rintro e w6 ⟨rfl, hk⟩
        have K6 := Lib.hid (K5.out.trans hk)
        have Oa_6 := Lib.hid (Oa_5.out.step hk)
        have Ob_6 := Lib.hid (Ob_5.out.step hk)
        clear K5 Oa_5 Ob_5
        clear hk
        have Nc := Lib.hid (Own.made K6.out #[.int .i64 (p), .int .i64 (q)])
        have K7 := Lib.hid (K6.out.trans ((Kept.refl w6).alloc (.cells #[.int .i64 (p), .int .i64 (q)] 24)))
        have Oa_7 := Lib.hid (Oa_6.out.step ((Kept.refl w6).alloc (.cells #[.int .i64 (p), .int .i64 (q)] 24)))
        have Ob_7 := Lib.hid (Ob_6.out.step ((Kept.refl w6).alloc (.cells #[.int .i64 (p), .int .i64 (q)] 24)))
        clear K6 Oa_6 Ob_6
        have Oc_7 := Nc
        clear Nc
        have ca0 := Oa_7.out.cell 0
        have ca1 := Oa_7.out.cell 1
        have cb0 := Ob_7.out.cell 0
        have cb1 := Ob_7.out.cell 1
        have cc0 := Oc_7.out.cell 0
        have cc1 := Oc_7.out.cell 1
        go_wp2_with fail
        clear ca0 ca1 cb0 cb1 cc0 cc1
        generalize w6.heap.size = Bc at *
        generalize w6.alloc _ = w7 at *
        refine (valid_at hv (Q.wf_of hv) _).mono ?_
        rintro e w8 ⟨rfl, hk⟩
        have K8 := Lib.hid (K7.out.trans hk)
        have Oa_8 := Lib.hid (Oa_7.out.step hk)
        have Ob_8 := Lib.hid (Ob_7.out.step hk)
        have Oc_8 := Lib.hid (Oc_7.out.step hk)
        clear K7 Oa_7 Ob_7 Oc_7
        clear hk
        have cc0 := Oc_8.out.cell 0
        have cc1 := Oc_8.out.cell 1
        go_wp2_with fail
        refine (text_at ht (Q.wf_of hv) _ (EN.out.kept K8.out)).mono ?_
        rintro e w9 ⟨rfl, hk⟩
        clear cc0 cc1
        have K9 := Lib.hid (K8.out.trans hk)
        have Oa_9 := Lib.hid (Oa_8.out.step hk)
        have Ob_9 := Lib.hid (Ob_8.out.step hk)
        have Oc_9 := Lib.hid (Oc_8.out.step hk)
        clear K8 Oa_8 Ob_8 Oc_8
        clear hk
        have cc0 := Oc_9.out.cell 0
        have cc1 := Oc_9.out.cell 1
        go_wp2_with fail
        go_ret
        exact ⟨by first | rfl | simp, K9.out⟩
    · have vf := Bool.eq_false_iff.2 va
      rw [show T = (⟨#[]⟩ : ByteArray) from by rw [← hT, text_none vf]; rfl]
      have ca0 := Oa_2.out.cell 0
      have ca1 := Oa_2.out.cell 1
      go_wp2_with fail
      refine (valid_at vf ha _).mono ?_
      rintro e w3 ⟨rfl, hk⟩
      clear ca0 ca1
      have K3 := Lib.hid (K2.out.trans hk)
      have Oa_3 := Lib.hid (Oa_2.out.step hk)
      clear K2 Oa_2
      clear hk
      have ca0 := Oa_3.out.cell 0
      have ca1 := Oa_3.out.cell 1
      go_wp2_with fail
      refine (parse_at (s := ⟨#[]⟩) (x := 0) (y := 0) (r := 6) (by kernel_rfl) (by decide) _ (EN.out.kept K3.out)).mono ?_
      rintro e w4 ⟨rfl, hk⟩
      clear ca0 ca1
      have K4 := Lib.hid (K3.out.trans hk)
      have Oa_4 := Lib.hid (Oa_3.out.step hk)
      clear K3 Oa_3
      clear hk
      have Nb := Lib.hid (Own.made K4.out #[.int .i64 (0), .int .i64 (0)])
      have K5 := Lib.hid (K4.out.trans ((Kept.refl w4).alloc (.cells #[.int .i64 (0), .int .i64 (0)] 24)))
      have Oa_5 := Lib.hid (Oa_4.out.step ((Kept.refl w4).alloc (.cells #[.int .i64 (0), .int .i64 (0)] 24)))
      clear K4 Oa_4
      have Ob_5 := Nb
      clear Nb
      have ca0 := Oa_5.out.cell 0
      have ca1 := Oa_5.out.cell 1
      have cb0 := Ob_5.out.cell 0
      have cb1 := Ob_5.out.cell 1
      go_wp2_with fail
      clear ca0 ca1 cb0 cb1
      generalize w4.heap.size = Bb at *
      generalize w4.alloc _ = w5 at *
      rcases PC.out with hp | ⟨p, q, hp, ht, hv⟩
      · refine (parse_at hp hl' _ (EN.out.kept K5.out)).mono ?_
        rintro e w6 ⟨rfl, hk⟩
        have K6 := Lib.hid (K5.out.trans hk)
        have Oa_6 := Lib.hid (Oa_5.out.step hk)
        have Ob_6 := Lib.hid (Ob_5.out.step hk)
        clear K5 Oa_5 Ob_5
        clear hk
        have Nc := Lib.hid (Own.made K6.out #[.int .i64 (0), .int .i64 (0)])
        have K7 := Lib.hid (K6.out.trans ((Kept.refl w6).alloc (.cells #[.int .i64 (0), .int .i64 (0)] 24)))
        have Oa_7 := Lib.hid (Oa_6.out.step ((Kept.refl w6).alloc (.cells #[.int .i64 (0), .int .i64 (0)] 24)))
        have Ob_7 := Lib.hid (Ob_6.out.step ((Kept.refl w6).alloc (.cells #[.int .i64 (0), .int .i64 (0)] 24)))
        clear K6 Oa_6 Ob_6
        have Oc_7 := Nc
        clear Nc
        have ca0 := Oa_7.out.cell 0
        have ca1 := Oa_7.out.cell 1
        have cb0 := Ob_7.out.cell 0
        have cb1 := Ob_7.out.cell 1
        have cc0 := Oc_7.out.cell 0
        have cc1 := Oc_7.out.cell 1
        go_wp2_with fail
        clear ca0 ca1 cb0 cb1 cc0 cc1
        generalize w6.heap.size = Bc at *
        generalize w6.alloc _ = w7 at *
        go_ret
        exact ⟨rfl, K7.out⟩
      · refine (parse_at hp hl' _ (EN.out.kept K5.out)).mono ?_
        rintro e w6 ⟨rfl, hk⟩
        have K6 := Lib.hid (K5.out.trans hk)
        have Oa_6 := Lib.hid (Oa_5.out.step hk)
        have Ob_6 := Lib.hid (Ob_5.out.step hk)
        clear K5 Oa_5 Ob_5
        clear hk
        have Nc := Lib.hid (Own.made K6.out #[.int .i64 (p), .int .i64 (q)])
        have K7 := Lib.hid (K6.out.trans ((Kept.refl w6).alloc (.cells #[.int .i64 (p), .int .i64 (q)] 24)))
        have Oa_7 := Lib.hid (Oa_6.out.step ((Kept.refl w6).alloc (.cells #[.int .i64 (p), .int .i64 (q)] 24)))
        have Ob_7 := Lib.hid (Ob_6.out.step ((Kept.refl w6).alloc (.cells #[.int .i64 (p), .int .i64 (q)] 24)))
        clear K6 Oa_6 Ob_6
        have Oc_7 := Nc
        clear Nc
        have ca0 := Oa_7.out.cell 0
        have ca1 := Oa_7.out.cell 1
        have cb0 := Ob_7.out.cell 0
        have cb1 := Ob_7.out.cell 1
        have cc0 := Oc_7.out.cell 0
        have cc1 := Oc_7.out.cell 1
        go_wp2_with fail
        clear ca0 ca1 cb0 cb1 cc0 cc1
        generalize w6.heap.size = Bc at *
        generalize w6.alloc _ = w7 at *
        refine (valid_at hv (Q.wf_of hv) _).mono ?_
        rintro e w8 ⟨rfl, hk⟩
        have K8 := Lib.hid (K7.out.trans hk)
        have Oa_8 := Lib.hid (Oa_7.out.step hk)
        have Ob_8 := Lib.hid (Ob_7.out.step hk)
        have Oc_8 := Lib.hid (Oc_7.out.step hk)
        clear K7 Oa_7 Ob_7 Oc_7
        clear hk
        have cc0 := Oc_8.out.cell 0
        have cc1 := Oc_8.out.cell 1
        go_wp2_with fail
        refine (text_at ht (Q.wf_of hv) _ (EN.out.kept K8.out)).mono ?_
        rintro e w9 ⟨rfl, hk⟩
        clear cc0 cc1
        have K9 := Lib.hid (K8.out.trans hk)
        have Oa_9 := Lib.hid (Oa_8.out.step hk)
        have Ob_9 := Lib.hid (Ob_8.out.step hk)
        have Oc_9 := Lib.hid (Oc_8.out.step hk)
        clear K8 Oa_8 Ob_8 Oc_8
        clear hk
        have cc0 := Oc_9.out.cell 0
        have cc1 := Oc_9.out.cell 1
        go_wp2_with fail
        go_ret
        exact ⟨by first | rfl | simp, K9.out⟩
end Go.Proofs.YtacjgkpncdnbgaaDoor
