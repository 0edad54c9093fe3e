/-
  The law RatioShares, walked. Its condition: the library's variables are as the program's start leaves them.
-/
import Derived.Test.YtacjgkpncdnbgaaDoorE2
import Derived.Test.YtacjgkpncdnbgaaDoorQ4
namespace Go.Proofs.YtacjgkpncdnbgaaDoor
open Go.RowKit

theorem Own.other {w wx : World} {B : Nat} {c : Array Value} (h : Own w wx B c) {B' : Nat} (hn : w.heap.size ≤ B') (hne : B ≠ B') (i : Nat) (v : Value) : Own w (wx.setCell ⟨B', i, none⟩ v) B c :=
  ⟨h.kept.setCell hn v, h.new, by rw [Below.heap_setCell _ _ _ _ hne]; exact h.block⟩

set_option maxRecDepth 100000 in
set_option maxHeartbeats 1600000 in
theorem ratioShares_walk (a : Q) (ha : a.wf) (b : Q) (hb : b.wf) (w : World) (hE : Env w) :
    Calls Tryd.prog 6 #[a.val, b.val] w fun e w' => e = .returned (.bool true) ∧ Kept w w' := by
  have O := pair w #[.int .i64 a.n, .int .i64 a.d] #[.int .i64 b.n, .int .i64 b.d]
  have EN := Lib.hid hE
  obtain ⟨n, d⟩ := a
  obtain ⟨m, o⟩ := b
  unfold Q.val
  dsimp only at O ⊢
  clear hE
  go_enter Tryd.func6, Tryd.ntmps6
  go_wp2_with fail
  have Oa_0 := Lib.hid O.out.1
  have Ob_0 := Lib.hid O.out.2
  have K0 := Lib.hid O.out.1.kept
  clear O
  generalize w.heap.size = Ba at *
  generalize hgen : (w.alloc _).alloc _ = w0 at *
  clear hgen
  refine (head_any _ (EN.out.kept K0.out)).mono ?_
  rintro e w1 ⟨rfl, hk⟩
  have K1 := Lib.hid (K0.out.trans hk)
  have Oa_1 := Lib.hid (Oa_0.out.step hk)
  have Ob_1 := Lib.hid (Ob_0.out.step hk)
  clear K0 Oa_0 Ob_0
  clear hk
  go_wp2_with fail
  refine (of_any 0 1 _).mono ?_
  rintro e w2 ⟨rfl, hk⟩
  have K2 := Lib.hid (K1.out.trans hk)
  have Oa_2 := Lib.hid (Oa_1.out.step hk)
  have Ob_2 := Lib.hid (Ob_1.out.step hk)
  clear K1 Oa_1 Ob_1
  clear hk
  have Lz := Lib.hid Ob_2.out.lt
  have Nz := Lib.hid (Own.made K2.out #[.int .i64 (0), .int .i64 (1)])
  have K3 := Lib.hid (K2.out.trans ((Kept.refl w2).alloc (.cells #[.int .i64 (0), .int .i64 (1)] 24)))
  have Oa_3 := Lib.hid (Oa_2.out.step ((Kept.refl w2).alloc (.cells #[.int .i64 (0), .int .i64 (1)] 24)))
  have Ob_3 := Lib.hid (Ob_2.out.step ((Kept.refl w2).alloc (.cells #[.int .i64 (0), .int .i64 (1)] 24)))
  clear K2 Oa_2 Ob_2
  have Oz_3 := Nz
  clear Nz
  go_wp2_with fail
  generalize w2.heap.size = Bz at *
  generalize w2.alloc _ = w3 at *
  refine (of_any 1 1 _).mono ?_
  rintro e w4 ⟨rfl, hk⟩
  have K4 := Lib.hid (K3.out.trans hk)
  have Oa_4 := Lib.hid (Oa_3.out.step hk)
  have Ob_4 := Lib.hid (Ob_3.out.step hk)
  have Oz_4 := Lib.hid (Oz_3.out.step hk)
  clear K3 Oa_3 Ob_3 Oz_3
  clear hk
  have Le := Lib.hid (And.intro Ob_4.out.lt Oz_4.out.lt)
  have Ne := Lib.hid (Own.made K4.out #[.int .i64 (1), .int .i64 (1)])
  have K5 := Lib.hid (K4.out.trans ((Kept.refl w4).alloc (.cells #[.int .i64 (1), .int .i64 (1)] 24)))
  have Oa_5 := Lib.hid (Oa_4.out.step ((Kept.refl w4).alloc (.cells #[.int .i64 (1), .int .i64 (1)] 24)))
  have Ob_5 := Lib.hid (Ob_4.out.step ((Kept.refl w4).alloc (.cells #[.int .i64 (1), .int .i64 (1)] 24)))
  have Oz_5 := Lib.hid (Oz_4.out.step ((Kept.refl w4).alloc (.cells #[.int .i64 (1), .int .i64 (1)] 24)))
  clear K4 Oa_4 Ob_4 Oz_4
  have Oe_5 := Ne
  clear Ne
  have ca0 := Oa_5.out.cell 0
  have ca1 := Oa_5.out.cell 1
  have cb0 := Ob_5.out.cell 0
  have cb1 := Ob_5.out.cell 1
  have cz0 := Oz_5.out.cell 0
  have cz1 := Oz_5.out.cell 1
  go_wp2_with fail
  clear ca0 ca1 cb0 cb1 cz0 cz1
  generalize w4.heap.size = Be at *
  generalize w4.alloc _ = w5 at *
  by_cases va : (Q.mk n d).valid = true
  · refine (valid_at va ha _).mono ?_
    rintro e w6 ⟨rfl, hk⟩
    have K6 := Lib.hid (K5.out.trans hk)
    have Oa_6 := Lib.hid (Oa_5.out.step hk)
    have Ob_6 := Lib.hid (Ob_5.out.step hk)
    have Oz_6 := Lib.hid (Oz_5.out.step hk)
    have Oe_6 := Lib.hid (Oe_5.out.step hk)
    clear K5 Oa_5 Ob_5 Oz_5 Oe_5
    clear hk
    have ca0 := Oa_6.out.cell 0
    have ca1 := Oa_6.out.cell 1
    have cb0 := Ob_6.out.cell 0
    have cb1 := Ob_6.out.cell 1
    have cz0 := Oz_6.out.cell 0
    have cz1 := Oz_6.out.cell 1
    have ce0 := Oe_6.out.cell 0
    have ce1 := Oe_6.out.cell 1
    go_wp2_with fail
    by_cases vb : (Q.mk m o).valid = true
    · refine (valid_at vb hb _).mono ?_
      rintro e w7 ⟨rfl, hk⟩
      clear ca0 ca1 cb0 cb1 cz0 cz1 ce0 ce1
      have K7 := Lib.hid (K6.out.trans hk)
      have Oa_7 := Lib.hid (Oa_6.out.step hk)
      have Ob_7 := Lib.hid (Ob_6.out.step hk)
      have Oz_7 := Lib.hid (Oz_6.out.step hk)
      have Oe_7 := Lib.hid (Oe_6.out.step hk)
      clear K6 Oa_6 Ob_6 Oz_6 Oe_6
      clear hk
      have ca0 := Oa_7.out.cell 0
      have ca1 := Oa_7.out.cell 1
      have cb0 := Ob_7.out.cell 0
      have cb1 := Ob_7.out.cell 1
      have cz0 := Oz_7.out.cell 0
      have cz1 := Oz_7.out.cell 1
      have ce0 := Oe_7.out.cell 0
      have ce1 := Oe_7.out.cell 1
      go_wp2_with fail
      obtain ⟨r1, hr1⟩ : ∃ r, cmpR ⟨n, d⟩ qNone = r := ⟨_, rfl⟩
      refine (cmp_at hr1 ha (Q.wf_of none_valid) _).mono ?_
      rintro e w8 ⟨rfl, hk⟩
      clear ca0 ca1 cb0 cb1 cz0 cz1 ce0 ce1
      have K8 := Lib.hid (K7.out.trans hk)
      have Oa_8 := Lib.hid (Oa_7.out.step hk)
      have Ob_8 := Lib.hid (Ob_7.out.step hk)
      have Oz_8 := Lib.hid (Oz_7.out.step hk)
      have Oe_8 := Lib.hid (Oe_7.out.step hk)
      clear K7 Oa_7 Ob_7 Oz_7 Oe_7
      clear hk
      have R1 := Lib.hid hr1
      clear hr1
      by_cases k1 : r1 < 0
      · have ca0 := Oa_8.out.cell 0
        have ca1 := Oa_8.out.cell 1
        have cb0 := Ob_8.out.cell 0
        have cb1 := Ob_8.out.cell 1
        have cz0 := Oz_8.out.cell 0
        have cz1 := Oz_8.out.cell 1
        have ce0 := Oe_8.out.cell 0
        have ce1 := Oe_8.out.cell 1
        go_wp2_with fail
        go_ret
        exact ⟨rfl, K8.out⟩
      · have ca0 := Oa_8.out.cell 0
        have ca1 := Oa_8.out.cell 1
        have cb0 := Ob_8.out.cell 0
        have cb1 := Ob_8.out.cell 1
        have cz0 := Oz_8.out.cell 0
        have cz1 := Oz_8.out.cell 1
        have ce0 := Oe_8.out.cell 0
        have ce1 := Oe_8.out.cell 1
        go_wp2_with fail
        obtain ⟨r2, hr2⟩ : ∃ r, cmpR ⟨m, o⟩ qNone = r := ⟨_, rfl⟩
        refine (cmp_at hr2 hb (Q.wf_of none_valid) _).mono ?_
        rintro e w9 ⟨rfl, hk⟩
        clear ca0 ca1 cb0 cb1 cz0 cz1 ce0 ce1
        have K9 := Lib.hid (K8.out.trans hk)
        have Oa_9 := Lib.hid (Oa_8.out.step hk)
        have Ob_9 := Lib.hid (Ob_8.out.step hk)
        have Oz_9 := Lib.hid (Oz_8.out.step hk)
        have Oe_9 := Lib.hid (Oe_8.out.step hk)
        clear K8 Oa_8 Ob_8 Oz_8 Oe_8
        clear hk
        have R2 := Lib.hid hr2
        clear hr2
        by_cases k2 : r2 < 0
        · have ca0 := Oa_9.out.cell 0
          have ca1 := Oa_9.out.cell 1
          have cb0 := Ob_9.out.cell 0
          have cb1 := Ob_9.out.cell 1
          have cz0 := Oz_9.out.cell 0
          have cz1 := Oz_9.out.cell 1
          have ce0 := Oe_9.out.cell 0
          have ce1 := Oe_9.out.cell 1
          go_wp2_with fail
          go_ret
          exact ⟨rfl, K9.out⟩
        · have ca0 := Oa_9.out.cell 0
          have ca1 := Oa_9.out.cell 1
          have cb0 := Ob_9.out.cell 0
          have cb1 := Ob_9.out.cell 1
          have cz0 := Oz_9.out.cell 0
          have cz1 := Oz_9.out.cell 1
          have ce0 := Oe_9.out.cell 0
          have ce1 := Oe_9.out.cell 1
          go_wp2_with fail
          obtain ⟨r3, hr3⟩ : ∃ r, cmpR ⟨n, d⟩ qOne = r := ⟨_, rfl⟩
          refine (cmp_at hr3 ha (Q.wf_of one_valid) _).mono ?_
          rintro e w10 ⟨rfl, hk⟩
          clear ca0 ca1 cb0 cb1 cz0 cz1 ce0 ce1
          have K10 := Lib.hid (K9.out.trans hk)
          have Oa_10 := Lib.hid (Oa_9.out.step hk)
          have Ob_10 := Lib.hid (Ob_9.out.step hk)
          have Oz_10 := Lib.hid (Oz_9.out.step hk)
          have Oe_10 := Lib.hid (Oe_9.out.step hk)
          clear K9 Oa_9 Ob_9 Oz_9 Oe_9
          clear hk
          have R3 := Lib.hid hr3
          clear hr3
          by_cases k3 : 0 < r3
          · have ca0 := Oa_10.out.cell 0
            have ca1 := Oa_10.out.cell 1
            have cb0 := Ob_10.out.cell 0
            have cb1 := Ob_10.out.cell 1
            have cz0 := Oz_10.out.cell 0
            have cz1 := Oz_10.out.cell 1
            have ce0 := Oe_10.out.cell 0
            have ce1 := Oe_10.out.cell 1
            go_wp2_with fail
            go_ret
            exact ⟨rfl, K10.out⟩
          · have ca0 := Oa_10.out.cell 0
            have ca1 := Oa_10.out.cell 1
            have cb0 := Ob_10.out.cell 0
            have cb1 := Ob_10.out.cell 1
            have cz0 := Oz_10.out.cell 0
            have cz1 := Oz_10.out.cell 1
            have ce0 := Oe_10.out.cell 0
            have ce1 := Oe_10.out.cell 1
            go_wp2_with fail
            obtain ⟨r4, hr4⟩ : ∃ r, cmpR ⟨m, o⟩ qOne = r := ⟨_, rfl⟩
            refine (cmp_at hr4 hb (Q.wf_of one_valid) _).mono ?_
            rintro e w11 ⟨rfl, hk⟩
            clear ca0 ca1 cb0 cb1 cz0 cz1 ce0 ce1
            have K11 := Lib.hid (K10.out.trans hk)
            have Oa_11 := Lib.hid (Oa_10.out.step hk)
            have Ob_11 := Lib.hid (Ob_10.out.step hk)
            have Oz_11 := Lib.hid (Oz_10.out.step hk)
            have Oe_11 := Lib.hid (Oe_10.out.step hk)
            clear K10 Oa_10 Ob_10 Oz_10 Oe_10
            clear hk
            have R4 := Lib.hid hr4
            clear hr4
            by_cases k4 : 0 < r4
            · have ca0 := Oa_11.out.cell 0
              have ca1 := Oa_11.out.cell 1
              have cb0 := Ob_11.out.cell 0
              have cb1 := Ob_11.out.cell 1
              have cz0 := Oz_11.out.cell 0
              have cz1 := Oz_11.out.cell 1
              have ce0 := Oe_11.out.cell 0
              have ce1 := Oe_11.out.cell 1
              go_wp2_with fail
              go_ret
              exact ⟨rfl, K11.out⟩
            · have ca0 := Oa_11.out.cell 0
              have ca1 := Oa_11.out.cell 1
              have cb0 := Ob_11.out.cell 0
              have cb1 := Ob_11.out.cell 1
              have cz0 := Oz_11.out.cell 0
              have cz1 := Oz_11.out.cell 1
              have ce0 := Oe_11.out.cell 0
              have ce1 := Oe_11.out.cell 1
              go_wp2_with fail
              obtain ⟨r5, hr5⟩ : ∃ r, cmpR ⟨n, d⟩ ⟨m, o⟩ = r := ⟨_, rfl⟩
              refine (cmp_at hr5 ha hb _).mono ?_
              rintro e w12 ⟨rfl, hk⟩
              clear ca0 ca1 cb0 cb1 cz0 cz1 ce0 ce1
              have K12 := Lib.hid (K11.out.trans hk)
              have Oa_12 := Lib.hid (Oa_11.out.step hk)
              have Ob_12 := Lib.hid (Ob_11.out.step hk)
              have Oz_12 := Lib.hid (Oz_11.out.step hk)
              have Oe_12 := Lib.hid (Oe_11.out.step hk)
              clear K11 Oa_11 Ob_11 Oz_11 Oe_11
              clear hk
              obtain ⟨_, _, s3⟩ := Q.small va
              obtain ⟨_, _, t3⟩ := Q.small vb
              dsimp only at s3 t3
              have F : Hid (0 ≤ n ∧ 0 ≤ m ∧ n ≤ d ∧ m ≤ o) := Lib.hid (by
                have e1 := R1.out
                have e2 := R2.out
                have e3 := R3.out
                have e4 := R4.out
                rw [cmp_none va] at e1
                rw [cmp_none vb] at e2
                rw [cmp_one va] at e3
                rw [cmp_one vb] at e4
                have := (signR_neg n).2
                have := (signR_neg m).2
                have := (signR_pos (n - d)).2
                have := (signR_pos (m - o)).2
                dsimp only at e1 e2 e3 e4
                omega)
              have G := Lib.hid (show signR (n * o - m * d) = r5 by rw [← hr5, cmpR_eq va vb])
              clear hr5 k1 k2 k3 k4 R1 R2 R3 R4 s3 t3
              by_cases k5 : 0 < r5
              · have G := Lib.hid (show m * d ≤ n * o by have := G.out; have := (signR_pos (n * o - m * d)).1; omega)
                have F := Lib.hid (show 0 ≤ m ∧ 0 ≤ n ∧ m ≤ o ∧ n ≤ d from ⟨F.out.2.1, F.out.1, F.out.2.2.2, F.out.2.2.1⟩)
                have fa0 := Oa_12.out.free 0
                have fa1 := Oa_12.out.free 1
                have fb0 := Ob_12.out.free 0
                have fb1 := Ob_12.out.free 1
                have lta := Oa_12.out.lt
                have ltb := Ob_12.out.lt
                have na := Oa_12.out.new
                have nb := Ob_12.out.new
                have lz := Lz.out
                have le := Le.out
                have Sa := Lib.hid (((((Oa_12.out.set 0 (.int .i64 m)).set 1 (.int .i64 o)).other nb (show Ba ≠ Ba + 1 by omega) 0 (.int .i64 n)).other nb (show Ba ≠ Ba + 1 by omega) 1 (.int .i64 d)))
                have Sb := Lib.hid (((((Ob_12.out.other na (show Ba + 1 ≠ Ba by omega) 0 (.int .i64 m)).other na (show Ba + 1 ≠ Ba by omega) 1 (.int .i64 o)).set 0 (.int .i64 n)).set 1 (.int .i64 d)))
                have Sz := Lib.hid (((((Oz_12.out.other na (show Bz ≠ Ba by omega) 0 (.int .i64 m)).other na (show Bz ≠ Ba by omega) 1 (.int .i64 o)).other nb (show Bz ≠ Ba + 1 by omega) 0 (.int .i64 n)).other nb (show Bz ≠ Ba + 1 by omega) 1 (.int .i64 d)))
                have Se := Lib.hid (((((Oe_12.out.other na (show Be ≠ Ba by omega) 0 (.int .i64 m)).other na (show Be ≠ Ba by omega) 1 (.int .i64 o)).other nb (show Be ≠ Ba + 1 by omega) 0 (.int .i64 n)).other nb (show Be ≠ Ba + 1 by omega) 1 (.int .i64 d)))
                clear lz le
                have ca0 := Oa_12.out.cell 0
                have ca1 := Oa_12.out.cell 1
                have cb0 := Ob_12.out.cell 0
                have cb1 := Ob_12.out.cell 1
                have cz0 := Oz_12.out.cell 0
                have cz1 := Oz_12.out.cell 1
                have ce0 := Oe_12.out.cell 0
                have ce1 := Oe_12.out.cell 1
                go_wp2_with fail
                clear ca0 ca1 cb0 cb1 cz0 cz1 ce0 ce1
                clear fa0 fa1 fb0 fb1 lta ltb na nb Oa_12 Ob_12 Oz_12 Oe_12 K12
                generalize hgen : World.setCell _ _ _ = w13 at *
                clear hgen
                have K13 := Lib.hid Sa.out.kept
                have Oa_13 : Hid (Own w w13 Ba #[.int .i64 m, .int .i64 o]) := Sa
                have Ob_13 : Hid (Own w w13 (Ba + 1) #[.int .i64 n, .int .i64 d]) := Sb
                have Oz_13 := Sz
                have Oe_13 := Se
                clear Sa Sb Sz Se
                have ca0 := Oa_13.out.cell 0
                have ca1 := Oa_13.out.cell 1
                have cb0 := Ob_13.out.cell 0
                have cb1 := Ob_13.out.cell 1
                have cz0 := Oz_13.out.cell 0
                have cz1 := Oz_13.out.cell 1
                have ce0 := Oe_13.out.cell 0
                have ce1 := Oe_13.out.cell 1
                obtain ⟨⟨⟨px, py⟩, pe⟩, hp⟩ : ∃ r, mulR ⟨m, o⟩ ⟨n, d⟩ = r := ⟨_, rfl⟩
                obtain ⟨⟨⟨qx, qy⟩, qe⟩, hq⟩ : ∃ r, divR ⟨m, o⟩ ⟨n, d⟩ = r := ⟨_, rfl⟩
                refine (mul_at hp hb ha _).mono ?_
                rintro e w14 ⟨rfl, hk⟩
                clear ca0 ca1 cb0 cb1 cz0 cz1 ce0 ce1
                have K14 := Lib.hid (K13.out.trans hk)
                have Oa_14 := Lib.hid (Oa_13.out.step hk)
                have Ob_14 := Lib.hid (Ob_13.out.step hk)
                have Oz_14 := Lib.hid (Oz_13.out.step hk)
                have Oe_14 := Lib.hid (Oe_13.out.step hk)
                clear K13 Oa_13 Ob_13 Oz_13 Oe_13
                clear hk
                have HP := Lib.hid hp
                clear hp
                have Np := Lib.hid (Own.made K14.out #[.int .i64 (px), .int .i64 (py)])
                have K15 := Lib.hid (K14.out.trans ((Kept.refl w14).alloc (.cells #[.int .i64 (px), .int .i64 (py)] 24)))
                have Oa_15 := Lib.hid (Oa_14.out.step ((Kept.refl w14).alloc (.cells #[.int .i64 (px), .int .i64 (py)] 24)))
                have Ob_15 := Lib.hid (Ob_14.out.step ((Kept.refl w14).alloc (.cells #[.int .i64 (px), .int .i64 (py)] 24)))
                have Oz_15 := Lib.hid (Oz_14.out.step ((Kept.refl w14).alloc (.cells #[.int .i64 (px), .int .i64 (py)] 24)))
                have Oe_15 := Lib.hid (Oe_14.out.step ((Kept.refl w14).alloc (.cells #[.int .i64 (px), .int .i64 (py)] 24)))
                clear K14 Oa_14 Ob_14 Oz_14 Oe_14
                have Op_15 := Np
                clear Np
                have ca0 := Oa_15.out.cell 0
                have ca1 := Oa_15.out.cell 1
                have cb0 := Ob_15.out.cell 0
                have cb1 := Ob_15.out.cell 1
                have cz0 := Oz_15.out.cell 0
                have cz1 := Oz_15.out.cell 1
                have ce0 := Oe_15.out.cell 0
                have ce1 := Oe_15.out.cell 1
                go_wp2_with fail
                clear ca0 ca1 cb0 cb1 cz0 cz1 ce0 ce1
                generalize w14.heap.size = Bp at *
                generalize w14.alloc _ = w15 at *
                refine (div_at hq hb ha _).mono ?_
                rintro e w16 ⟨rfl, hk⟩
                have K16 := Lib.hid (K15.out.trans hk)
                have Oa_16 := Lib.hid (Oa_15.out.step hk)
                have Ob_16 := Lib.hid (Ob_15.out.step hk)
                have Oz_16 := Lib.hid (Oz_15.out.step hk)
                have Oe_16 := Lib.hid (Oe_15.out.step hk)
                have Op_16 := Lib.hid (Op_15.out.step hk)
                clear K15 Oa_15 Ob_15 Oz_15 Oe_15 Op_15
                clear hk
                have HQ := Lib.hid hq
                clear hq
                have PC : (px = 0 ∧ py = 0 ∧ pe = 2) ∨ (pe = 0 ∧ (Q.mk px py).valid = true ∧ 0 ≤ cmpR ⟨px, py⟩ qNone ∧ cmpR ⟨px, py⟩ ⟨m, o⟩ ≤ 0) := by
                  have hp := HP.out
                  rcases mul_cases vb va with h | ⟨p, h⟩
                  · rw [hp] at h
                    simp only [q0, Prod.mk.injEq, Q.mk.injEq] at h
                    exact Or.inl ⟨h.1.1, h.1.2, h.2⟩
                  · rw [hp] at h
                    simp only [Prod.mk.injEq] at h
                    obtain ⟨rfl, rfl⟩ := h
                    exact Or.inr ⟨rfl, shares_mul vb va F.out.1 F.out.2.1 F.out.2.2.2 hp⟩
                have QC : (qx = 0 ∧ qy = 0 ∧ qe = 1 ∧ n = 0 ∧ d = 1) ∨ (qx = 0 ∧ qy = 0 ∧ qe = 2) ∨ (qe = 0 ∧ (Q.mk qx qy).valid = true ∧ 0 ≤ cmpR ⟨qx, qy⟩ qNone ∧ cmpR ⟨qx, qy⟩ qOne ≤ 0) := by
                  have hq := HQ.out
                  rcases div_cases vb va with ⟨h1, h⟩ | h | ⟨p, h⟩
                  · rw [hq] at h
                    simp only [q0, Prod.mk.injEq, Q.mk.injEq] at h
                    simp only [qNone, Q.mk.injEq] at h1
                    exact Or.inl ⟨h.1.1, h.1.2, h.2, h1.1, h1.2⟩
                  · rw [hq] at h
                    simp only [q0, Prod.mk.injEq, Q.mk.injEq] at h
                    exact Or.inr (Or.inl ⟨h.1.1, h.1.2, h.2⟩)
                  · rw [hq] at h
                    simp only [Prod.mk.injEq] at h
                    obtain ⟨rfl, rfl⟩ := h
                    exact Or.inr (Or.inr ⟨rfl, shares_div vb va F.out.1 F.out.2.1 G.out hq⟩)
                clear HP HQ
                rcases PC with ⟨rfl, rfl, rfl⟩ | ⟨rfl, pv, c1, c2⟩
                · skip
                  rcases QC with ⟨rfl, rfl, rfl, rfl, rfl⟩ | ⟨rfl, rfl, rfl⟩ | ⟨rfl, qv, c3, c4⟩
                  · have Nq := Lib.hid (Own.made K16.out #[.int .i64 (0), .int .i64 (0)])
                    have K17 := Lib.hid (K16.out.trans ((Kept.refl w16).alloc (.cells #[.int .i64 (0), .int .i64 (0)] 24)))
                    have Oa_17 := Lib.hid (Oa_16.out.step ((Kept.refl w16).alloc (.cells #[.int .i64 (0), .int .i64 (0)] 24)))
                    have Ob_17 := Lib.hid (Ob_16.out.step ((Kept.refl w16).alloc (.cells #[.int .i64 (0), .int .i64 (0)] 24)))
                    have Oz_17 := Lib.hid (Oz_16.out.step ((Kept.refl w16).alloc (.cells #[.int .i64 (0), .int .i64 (0)] 24)))
                    have Oe_17 := Lib.hid (Oe_16.out.step ((Kept.refl w16).alloc (.cells #[.int .i64 (0), .int .i64 (0)] 24)))
                    have Op_17 := Lib.hid (Op_16.out.step ((Kept.refl w16).alloc (.cells #[.int .i64 (0), .int .i64 (0)] 24)))
                    clear K16 Oa_16 Ob_16 Oz_16 Oe_16 Op_16
                    have Oq_17 := Nq
                    clear Nq
                    have ca0 := Oa_17.out.cell 0
                    have ca1 := Oa_17.out.cell 1
                    have cb0 := Ob_17.out.cell 0
                    have cb1 := Ob_17.out.cell 1
                    have cz0 := Oz_17.out.cell 0
                    have cz1 := Oz_17.out.cell 1
                    have ce0 := Oe_17.out.cell 0
                    have ce1 := Oe_17.out.cell 1
                    have cp0 := Op_17.out.cell 0
                    have cp1 := Op_17.out.cell 1
                    have cq0 := Oq_17.out.cell 0
                    have cq1 := Oq_17.out.cell 1
                    go_wp2_with fail
                    clear ca0 ca1 cb0 cb1 cz0 cz1 ce0 ce1 cp0 cp1 cq0 cq1
                    generalize w16.heap.size = Bq at *
                    generalize w16.alloc _ = w17 at *
                    go_ret
                    exact ⟨rfl, K17.out⟩
                  · have Nq := Lib.hid (Own.made K16.out #[.int .i64 (0), .int .i64 (0)])
                    have K17 := Lib.hid (K16.out.trans ((Kept.refl w16).alloc (.cells #[.int .i64 (0), .int .i64 (0)] 24)))
                    have Oa_17 := Lib.hid (Oa_16.out.step ((Kept.refl w16).alloc (.cells #[.int .i64 (0), .int .i64 (0)] 24)))
                    have Ob_17 := Lib.hid (Ob_16.out.step ((Kept.refl w16).alloc (.cells #[.int .i64 (0), .int .i64 (0)] 24)))
                    have Oz_17 := Lib.hid (Oz_16.out.step ((Kept.refl w16).alloc (.cells #[.int .i64 (0), .int .i64 (0)] 24)))
                    have Oe_17 := Lib.hid (Oe_16.out.step ((Kept.refl w16).alloc (.cells #[.int .i64 (0), .int .i64 (0)] 24)))
                    have Op_17 := Lib.hid (Op_16.out.step ((Kept.refl w16).alloc (.cells #[.int .i64 (0), .int .i64 (0)] 24)))
                    clear K16 Oa_16 Ob_16 Oz_16 Oe_16 Op_16
                    have Oq_17 := Nq
                    clear Nq
                    have ca0 := Oa_17.out.cell 0
                    have ca1 := Oa_17.out.cell 1
                    have cb0 := Ob_17.out.cell 0
                    have cb1 := Ob_17.out.cell 1
                    have cz0 := Oz_17.out.cell 0
                    have cz1 := Oz_17.out.cell 1
                    have ce0 := Oe_17.out.cell 0
                    have ce1 := Oe_17.out.cell 1
                    have cp0 := Op_17.out.cell 0
                    have cp1 := Op_17.out.cell 1
                    have cq0 := Oq_17.out.cell 0
                    have cq1 := Oq_17.out.cell 1
                    go_wp2_with fail
                    clear ca0 ca1 cb0 cb1 cz0 cz1 ce0 ce1 cp0 cp1 cq0 cq1
                    generalize w16.heap.size = Bq at *
                    generalize w16.alloc _ = w17 at *
                    go_ret
                    exact ⟨rfl, K17.out⟩
                  · have Nq := Lib.hid (Own.made K16.out #[.int .i64 (qx), .int .i64 (qy)])
                    have K17 := Lib.hid (K16.out.trans ((Kept.refl w16).alloc (.cells #[.int .i64 (qx), .int .i64 (qy)] 24)))
                    have Oa_17 := Lib.hid (Oa_16.out.step ((Kept.refl w16).alloc (.cells #[.int .i64 (qx), .int .i64 (qy)] 24)))
                    have Ob_17 := Lib.hid (Ob_16.out.step ((Kept.refl w16).alloc (.cells #[.int .i64 (qx), .int .i64 (qy)] 24)))
                    have Oz_17 := Lib.hid (Oz_16.out.step ((Kept.refl w16).alloc (.cells #[.int .i64 (qx), .int .i64 (qy)] 24)))
                    have Oe_17 := Lib.hid (Oe_16.out.step ((Kept.refl w16).alloc (.cells #[.int .i64 (qx), .int .i64 (qy)] 24)))
                    have Op_17 := Lib.hid (Op_16.out.step ((Kept.refl w16).alloc (.cells #[.int .i64 (qx), .int .i64 (qy)] 24)))
                    clear K16 Oa_16 Ob_16 Oz_16 Oe_16 Op_16
                    have Oq_17 := Nq
                    clear Nq
                    have ca0 := Oa_17.out.cell 0
                    have ca1 := Oa_17.out.cell 1
                    have cb0 := Ob_17.out.cell 0
                    have cb1 := Ob_17.out.cell 1
                    have cz0 := Oz_17.out.cell 0
                    have cz1 := Oz_17.out.cell 1
                    have ce0 := Oe_17.out.cell 0
                    have ce1 := Oe_17.out.cell 1
                    have cp0 := Op_17.out.cell 0
                    have cp1 := Op_17.out.cell 1
                    have cq0 := Oq_17.out.cell 0
                    have cq1 := Oq_17.out.cell 1
                    go_wp2_with fail
                    clear ca0 ca1 cb0 cb1 cz0 cz1 ce0 ce1 cp0 cp1 cq0 cq1
                    generalize w16.heap.size = Bq at *
                    generalize w16.alloc _ = w17 at *
                    obtain ⟨u3, hu3⟩ : ∃ r, cmpR ⟨qx, qy⟩ qNone = r := ⟨_, rfl⟩
                    obtain ⟨u4, hu4⟩ : ∃ r, cmpR ⟨qx, qy⟩ qOne = r := ⟨_, rfl⟩
                    have P3 := Lib.hid (fun w => cmp_at hu3 (Q.wf_of qv) (Q.wf_of none_valid) w)
                    have P4 := Lib.hid (fun w => cmp_at hu4 (Q.wf_of qv) (Q.wf_of one_valid) w)
                    rw [hu3] at c3
                    rw [hu4] at c4
                    clear hu3 hu4 qv
                    refine (P3.out _).mono ?_
                    rintro e w18 ⟨rfl, hk⟩
                    have K18 := Lib.hid (K17.out.trans hk)
                    have Oa_18 := Lib.hid (Oa_17.out.step hk)
                    have Ob_18 := Lib.hid (Ob_17.out.step hk)
                    have Oz_18 := Lib.hid (Oz_17.out.step hk)
                    have Oe_18 := Lib.hid (Oe_17.out.step hk)
                    have Op_18 := Lib.hid (Op_17.out.step hk)
                    have Oq_18 := Lib.hid (Oq_17.out.step hk)
                    clear K17 Oa_17 Ob_17 Oz_17 Oe_17 Op_17 Oq_17
                    clear hk
                    have ca0 := Oa_18.out.cell 0
                    have ca1 := Oa_18.out.cell 1
                    have cb0 := Ob_18.out.cell 0
                    have cb1 := Ob_18.out.cell 1
                    have cz0 := Oz_18.out.cell 0
                    have cz1 := Oz_18.out.cell 1
                    have ce0 := Oe_18.out.cell 0
                    have ce1 := Oe_18.out.cell 1
                    have cp0 := Op_18.out.cell 0
                    have cp1 := Op_18.out.cell 1
                    have cq0 := Oq_18.out.cell 0
                    have cq1 := Oq_18.out.cell 1
                    go_wp2_with fail
                    refine (P4.out _).mono ?_
                    rintro e w19 ⟨rfl, hk⟩
                    clear ca0 ca1 cb0 cb1 cz0 cz1 ce0 ce1 cp0 cp1 cq0 cq1
                    have K19 := Lib.hid (K18.out.trans hk)
                    have Oa_19 := Lib.hid (Oa_18.out.step hk)
                    have Ob_19 := Lib.hid (Ob_18.out.step hk)
                    have Oz_19 := Lib.hid (Oz_18.out.step hk)
                    have Oe_19 := Lib.hid (Oe_18.out.step hk)
                    have Op_19 := Lib.hid (Op_18.out.step hk)
                    have Oq_19 := Lib.hid (Oq_18.out.step hk)
                    clear K18 Oa_18 Ob_18 Oz_18 Oe_18 Op_18 Oq_18
                    clear hk
                    have ca0 := Oa_19.out.cell 0
                    have ca1 := Oa_19.out.cell 1
                    have cb0 := Ob_19.out.cell 0
                    have cb1 := Ob_19.out.cell 1
                    have cz0 := Oz_19.out.cell 0
                    have cz1 := Oz_19.out.cell 1
                    have ce0 := Oe_19.out.cell 0
                    have ce1 := Oe_19.out.cell 1
                    have cp0 := Op_19.out.cell 0
                    have cp1 := Op_19.out.cell 1
                    have cq0 := Oq_19.out.cell 0
                    have cq1 := Oq_19.out.cell 1
                    go_wp2_with fail
                    go_ret
                    exact ⟨rfl, K19.out⟩
                · obtain ⟨u1, hu1⟩ : ∃ r, cmpR ⟨px, py⟩ qNone = r := ⟨_, rfl⟩
                  obtain ⟨u2, hu2⟩ : ∃ r, cmpR ⟨px, py⟩ ⟨m, o⟩ = r := ⟨_, rfl⟩
                  have P1 := Lib.hid (fun w => cmp_at hu1 (Q.wf_of pv) (Q.wf_of none_valid) w)
                  have P2 := Lib.hid (fun w => cmp_at hu2 (Q.wf_of pv) hb w)
                  rw [hu1] at c1
                  rw [hu2] at c2
                  clear hu1 hu2 pv
                  rcases QC with ⟨rfl, rfl, rfl, rfl, rfl⟩ | ⟨rfl, rfl, rfl⟩ | ⟨rfl, qv, c3, c4⟩
                  · have Nq := Lib.hid (Own.made K16.out #[.int .i64 (0), .int .i64 (0)])
                    have K17 := Lib.hid (K16.out.trans ((Kept.refl w16).alloc (.cells #[.int .i64 (0), .int .i64 (0)] 24)))
                    have Oa_17 := Lib.hid (Oa_16.out.step ((Kept.refl w16).alloc (.cells #[.int .i64 (0), .int .i64 (0)] 24)))
                    have Ob_17 := Lib.hid (Ob_16.out.step ((Kept.refl w16).alloc (.cells #[.int .i64 (0), .int .i64 (0)] 24)))
                    have Oz_17 := Lib.hid (Oz_16.out.step ((Kept.refl w16).alloc (.cells #[.int .i64 (0), .int .i64 (0)] 24)))
                    have Oe_17 := Lib.hid (Oe_16.out.step ((Kept.refl w16).alloc (.cells #[.int .i64 (0), .int .i64 (0)] 24)))
                    have Op_17 := Lib.hid (Op_16.out.step ((Kept.refl w16).alloc (.cells #[.int .i64 (0), .int .i64 (0)] 24)))
                    clear K16 Oa_16 Ob_16 Oz_16 Oe_16 Op_16
                    have Oq_17 := Nq
                    clear Nq
                    have ca0 := Oa_17.out.cell 0
                    have ca1 := Oa_17.out.cell 1
                    have cb0 := Ob_17.out.cell 0
                    have cb1 := Ob_17.out.cell 1
                    have cz0 := Oz_17.out.cell 0
                    have cz1 := Oz_17.out.cell 1
                    have ce0 := Oe_17.out.cell 0
                    have ce1 := Oe_17.out.cell 1
                    have cp0 := Op_17.out.cell 0
                    have cp1 := Op_17.out.cell 1
                    have cq0 := Oq_17.out.cell 0
                    have cq1 := Oq_17.out.cell 1
                    go_wp2_with fail
                    clear ca0 ca1 cb0 cb1 cz0 cz1 ce0 ce1 cp0 cp1 cq0 cq1
                    generalize w16.heap.size = Bq at *
                    generalize w16.alloc _ = w17 at *
                    refine (P1.out _).mono ?_
                    rintro e w18 ⟨rfl, hk⟩
                    have K18 := Lib.hid (K17.out.trans hk)
                    have Oa_18 := Lib.hid (Oa_17.out.step hk)
                    have Ob_18 := Lib.hid (Ob_17.out.step hk)
                    have Oz_18 := Lib.hid (Oz_17.out.step hk)
                    have Oe_18 := Lib.hid (Oe_17.out.step hk)
                    have Op_18 := Lib.hid (Op_17.out.step hk)
                    have Oq_18 := Lib.hid (Oq_17.out.step hk)
                    clear K17 Oa_17 Ob_17 Oz_17 Oe_17 Op_17 Oq_17
                    clear hk
                    have ca0 := Oa_18.out.cell 0
                    have ca1 := Oa_18.out.cell 1
                    have cb0 := Ob_18.out.cell 0
                    have cb1 := Ob_18.out.cell 1
                    have cz0 := Oz_18.out.cell 0
                    have cz1 := Oz_18.out.cell 1
                    have ce0 := Oe_18.out.cell 0
                    have ce1 := Oe_18.out.cell 1
                    have cp0 := Op_18.out.cell 0
                    have cp1 := Op_18.out.cell 1
                    have cq0 := Oq_18.out.cell 0
                    have cq1 := Oq_18.out.cell 1
                    go_wp2_with fail
                    refine (P2.out _).mono ?_
                    rintro e w19 ⟨rfl, hk⟩
                    clear ca0 ca1 cb0 cb1 cz0 cz1 ce0 ce1 cp0 cp1 cq0 cq1
                    have K19 := Lib.hid (K18.out.trans hk)
                    have Oa_19 := Lib.hid (Oa_18.out.step hk)
                    have Ob_19 := Lib.hid (Ob_18.out.step hk)
                    have Oz_19 := Lib.hid (Oz_18.out.step hk)
                    have Oe_19 := Lib.hid (Oe_18.out.step hk)
                    have Op_19 := Lib.hid (Op_18.out.step hk)
                    have Oq_19 := Lib.hid (Oq_18.out.step hk)
                    clear K18 Oa_18 Ob_18 Oz_18 Oe_18 Op_18 Oq_18
                    clear hk
                    have ca0 := Oa_19.out.cell 0
                    have ca1 := Oa_19.out.cell 1
                    have cb0 := Ob_19.out.cell 0
                    have cb1 := Ob_19.out.cell 1
                    have cz0 := Oz_19.out.cell 0
                    have cz1 := Oz_19.out.cell 1
                    have ce0 := Oe_19.out.cell 0
                    have ce1 := Oe_19.out.cell 1
                    have cp0 := Op_19.out.cell 0
                    have cp1 := Op_19.out.cell 1
                    have cq0 := Oq_19.out.cell 0
                    have cq1 := Oq_19.out.cell 1
                    go_wp2_with fail
                    go_ret
                    exact ⟨rfl, K19.out⟩
                  · have Nq := Lib.hid (Own.made K16.out #[.int .i64 (0), .int .i64 (0)])
                    have K17 := Lib.hid (K16.out.trans ((Kept.refl w16).alloc (.cells #[.int .i64 (0), .int .i64 (0)] 24)))
                    have Oa_17 := Lib.hid (Oa_16.out.step ((Kept.refl w16).alloc (.cells #[.int .i64 (0), .int .i64 (0)] 24)))
                    have Ob_17 := Lib.hid (Ob_16.out.step ((Kept.refl w16).alloc (.cells #[.int .i64 (0), .int .i64 (0)] 24)))
                    have Oz_17 := Lib.hid (Oz_16.out.step ((Kept.refl w16).alloc (.cells #[.int .i64 (0), .int .i64 (0)] 24)))
                    have Oe_17 := Lib.hid (Oe_16.out.step ((Kept.refl w16).alloc (.cells #[.int .i64 (0), .int .i64 (0)] 24)))
                    have Op_17 := Lib.hid (Op_16.out.step ((Kept.refl w16).alloc (.cells #[.int .i64 (0), .int .i64 (0)] 24)))
                    clear K16 Oa_16 Ob_16 Oz_16 Oe_16 Op_16
                    have Oq_17 := Nq
                    clear Nq
                    have ca0 := Oa_17.out.cell 0
                    have ca1 := Oa_17.out.cell 1
                    have cb0 := Ob_17.out.cell 0
                    have cb1 := Ob_17.out.cell 1
                    have cz0 := Oz_17.out.cell 0
                    have cz1 := Oz_17.out.cell 1
                    have ce0 := Oe_17.out.cell 0
                    have ce1 := Oe_17.out.cell 1
                    have cp0 := Op_17.out.cell 0
                    have cp1 := Op_17.out.cell 1
                    have cq0 := Oq_17.out.cell 0
                    have cq1 := Oq_17.out.cell 1
                    go_wp2_with fail
                    clear ca0 ca1 cb0 cb1 cz0 cz1 ce0 ce1 cp0 cp1 cq0 cq1
                    generalize w16.heap.size = Bq at *
                    generalize w16.alloc _ = w17 at *
                    refine (P1.out _).mono ?_
                    rintro e w18 ⟨rfl, hk⟩
                    have K18 := Lib.hid (K17.out.trans hk)
                    have Oa_18 := Lib.hid (Oa_17.out.step hk)
                    have Ob_18 := Lib.hid (Ob_17.out.step hk)
                    have Oz_18 := Lib.hid (Oz_17.out.step hk)
                    have Oe_18 := Lib.hid (Oe_17.out.step hk)
                    have Op_18 := Lib.hid (Op_17.out.step hk)
                    have Oq_18 := Lib.hid (Oq_17.out.step hk)
                    clear K17 Oa_17 Ob_17 Oz_17 Oe_17 Op_17 Oq_17
                    clear hk
                    have ca0 := Oa_18.out.cell 0
                    have ca1 := Oa_18.out.cell 1
                    have cb0 := Ob_18.out.cell 0
                    have cb1 := Ob_18.out.cell 1
                    have cz0 := Oz_18.out.cell 0
                    have cz1 := Oz_18.out.cell 1
                    have ce0 := Oe_18.out.cell 0
                    have ce1 := Oe_18.out.cell 1
                    have cp0 := Op_18.out.cell 0
                    have cp1 := Op_18.out.cell 1
                    have cq0 := Oq_18.out.cell 0
                    have cq1 := Oq_18.out.cell 1
                    go_wp2_with fail
                    refine (P2.out _).mono ?_
                    rintro e w19 ⟨rfl, hk⟩
                    clear ca0 ca1 cb0 cb1 cz0 cz1 ce0 ce1 cp0 cp1 cq0 cq1
                    have K19 := Lib.hid (K18.out.trans hk)
                    have Oa_19 := Lib.hid (Oa_18.out.step hk)
                    have Ob_19 := Lib.hid (Ob_18.out.step hk)
                    have Oz_19 := Lib.hid (Oz_18.out.step hk)
                    have Oe_19 := Lib.hid (Oe_18.out.step hk)
                    have Op_19 := Lib.hid (Op_18.out.step hk)
                    have Oq_19 := Lib.hid (Oq_18.out.step hk)
                    clear K18 Oa_18 Ob_18 Oz_18 Oe_18 Op_18 Oq_18
                    clear hk
                    have ca0 := Oa_19.out.cell 0
                    have ca1 := Oa_19.out.cell 1
                    have cb0 := Ob_19.out.cell 0
                    have cb1 := Ob_19.out.cell 1
                    have cz0 := Oz_19.out.cell 0
                    have cz1 := Oz_19.out.cell 1
                    have ce0 := Oe_19.out.cell 0
                    have ce1 := Oe_19.out.cell 1
                    have cp0 := Op_19.out.cell 0
                    have cp1 := Op_19.out.cell 1
                    have cq0 := Oq_19.out.cell 0
                    have cq1 := Oq_19.out.cell 1
                    go_wp2_with fail
                    go_ret
                    exact ⟨rfl, K19.out⟩
                  · have Nq := Lib.hid (Own.made K16.out #[.int .i64 (qx), .int .i64 (qy)])
                    have K17 := Lib.hid (K16.out.trans ((Kept.refl w16).alloc (.cells #[.int .i64 (qx), .int .i64 (qy)] 24)))
                    have Oa_17 := Lib.hid (Oa_16.out.step ((Kept.refl w16).alloc (.cells #[.int .i64 (qx), .int .i64 (qy)] 24)))
                    have Ob_17 := Lib.hid (Ob_16.out.step ((Kept.refl w16).alloc (.cells #[.int .i64 (qx), .int .i64 (qy)] 24)))
                    have Oz_17 := Lib.hid (Oz_16.out.step ((Kept.refl w16).alloc (.cells #[.int .i64 (qx), .int .i64 (qy)] 24)))
                    have Oe_17 := Lib.hid (Oe_16.out.step ((Kept.refl w16).alloc (.cells #[.int .i64 (qx), .int .i64 (qy)] 24)))
                    have Op_17 := Lib.hid (Op_16.out.step ((Kept.refl w16).alloc (.cells #[.int .i64 (qx), .int .i64 (qy)] 24)))
                    clear K16 Oa_16 Ob_16 Oz_16 Oe_16 Op_16
                    have Oq_17 := Nq
                    clear Nq
                    have ca0 := Oa_17.out.cell 0
                    have ca1 := Oa_17.out.cell 1
                    have cb0 := Ob_17.out.cell 0
                    have cb1 := Ob_17.out.cell 1
                    have cz0 := Oz_17.out.cell 0
                    have cz1 := Oz_17.out.cell 1
                    have ce0 := Oe_17.out.cell 0
                    have ce1 := Oe_17.out.cell 1
                    have cp0 := Op_17.out.cell 0
                    have cp1 := Op_17.out.cell 1
                    have cq0 := Oq_17.out.cell 0
                    have cq1 := Oq_17.out.cell 1
                    go_wp2_with fail
                    clear ca0 ca1 cb0 cb1 cz0 cz1 ce0 ce1 cp0 cp1 cq0 cq1
                    generalize w16.heap.size = Bq at *
                    generalize w16.alloc _ = w17 at *
                    refine (P1.out _).mono ?_
                    rintro e w18 ⟨rfl, hk⟩
                    have K18 := Lib.hid (K17.out.trans hk)
                    have Oa_18 := Lib.hid (Oa_17.out.step hk)
                    have Ob_18 := Lib.hid (Ob_17.out.step hk)
                    have Oz_18 := Lib.hid (Oz_17.out.step hk)
                    have Oe_18 := Lib.hid (Oe_17.out.step hk)
                    have Op_18 := Lib.hid (Op_17.out.step hk)
                    have Oq_18 := Lib.hid (Oq_17.out.step hk)
                    clear K17 Oa_17 Ob_17 Oz_17 Oe_17 Op_17 Oq_17
                    clear hk
                    have ca0 := Oa_18.out.cell 0
                    have ca1 := Oa_18.out.cell 1
                    have cb0 := Ob_18.out.cell 0
                    have cb1 := Ob_18.out.cell 1
                    have cz0 := Oz_18.out.cell 0
                    have cz1 := Oz_18.out.cell 1
                    have ce0 := Oe_18.out.cell 0
                    have ce1 := Oe_18.out.cell 1
                    have cp0 := Op_18.out.cell 0
                    have cp1 := Op_18.out.cell 1
                    have cq0 := Oq_18.out.cell 0
                    have cq1 := Oq_18.out.cell 1
                    go_wp2_with fail
                    refine (P2.out _).mono ?_
                    rintro e w19 ⟨rfl, hk⟩
                    clear ca0 ca1 cb0 cb1 cz0 cz1 ce0 ce1 cp0 cp1 cq0 cq1
                    have K19 := Lib.hid (K18.out.trans hk)
                    have Oa_19 := Lib.hid (Oa_18.out.step hk)
                    have Ob_19 := Lib.hid (Ob_18.out.step hk)
                    have Oz_19 := Lib.hid (Oz_18.out.step hk)
                    have Oe_19 := Lib.hid (Oe_18.out.step hk)
                    have Op_19 := Lib.hid (Op_18.out.step hk)
                    have Oq_19 := Lib.hid (Oq_18.out.step hk)
                    clear K18 Oa_18 Ob_18 Oz_18 Oe_18 Op_18 Oq_18
                    clear hk
                    have ca0 := Oa_19.out.cell 0
                    have ca1 := Oa_19.out.cell 1
                    have cb0 := Ob_19.out.cell 0
                    have cb1 := Ob_19.out.cell 1
                    have cz0 := Oz_19.out.cell 0
                    have cz1 := Oz_19.out.cell 1
                    have ce0 := Oe_19.out.cell 0
                    have ce1 := Oe_19.out.cell 1
                    have cp0 := Op_19.out.cell 0
                    have cp1 := Op_19.out.cell 1
                    have cq0 := Oq_19.out.cell 0
                    have cq1 := Oq_19.out.cell 1
                    go_wp2_with fail
                    obtain ⟨u3, hu3⟩ : ∃ r, cmpR ⟨qx, qy⟩ qNone = r := ⟨_, rfl⟩
                    obtain ⟨u4, hu4⟩ : ∃ r, cmpR ⟨qx, qy⟩ qOne = r := ⟨_, rfl⟩
                    have P3 := Lib.hid (fun w => cmp_at hu3 (Q.wf_of qv) (Q.wf_of none_valid) w)
                    have P4 := Lib.hid (fun w => cmp_at hu4 (Q.wf_of qv) (Q.wf_of one_valid) w)
                    rw [hu3] at c3
                    rw [hu4] at c4
                    clear hu3 hu4 qv
                    refine (P3.out _).mono ?_
                    rintro e w20 ⟨rfl, hk⟩
                    have K20 := Lib.hid (K19.out.trans hk)
                    have Oa_20 := Lib.hid (Oa_19.out.step hk)
                    have Ob_20 := Lib.hid (Ob_19.out.step hk)
                    have Oz_20 := Lib.hid (Oz_19.out.step hk)
                    have Oe_20 := Lib.hid (Oe_19.out.step hk)
                    have Op_20 := Lib.hid (Op_19.out.step hk)
                    have Oq_20 := Lib.hid (Oq_19.out.step hk)
                    clear K19 Oa_19 Ob_19 Oz_19 Oe_19 Op_19 Oq_19
                    clear hk
                    have ca0 := Oa_20.out.cell 0
                    have ca1 := Oa_20.out.cell 1
                    have cb0 := Ob_20.out.cell 0
                    have cb1 := Ob_20.out.cell 1
                    have cz0 := Oz_20.out.cell 0
                    have cz1 := Oz_20.out.cell 1
                    have ce0 := Oe_20.out.cell 0
                    have ce1 := Oe_20.out.cell 1
                    have cp0 := Op_20.out.cell 0
                    have cp1 := Op_20.out.cell 1
                    have cq0 := Oq_20.out.cell 0
                    have cq1 := Oq_20.out.cell 1
                    go_wp2_with fail
                    refine (P4.out _).mono ?_
                    rintro e w21 ⟨rfl, hk⟩
                    clear ca0 ca1 cb0 cb1 cz0 cz1 ce0 ce1 cp0 cp1 cq0 cq1
                    have K21 := Lib.hid (K20.out.trans hk)
                    have Oa_21 := Lib.hid (Oa_20.out.step hk)
                    have Ob_21 := Lib.hid (Ob_20.out.step hk)
                    have Oz_21 := Lib.hid (Oz_20.out.step hk)
                    have Oe_21 := Lib.hid (Oe_20.out.step hk)
                    have Op_21 := Lib.hid (Op_20.out.step hk)
                    have Oq_21 := Lib.hid (Oq_20.out.step hk)
                    clear K20 Oa_20 Ob_20 Oz_20 Oe_20 Op_20 Oq_20
                    clear hk
                    have ca0 := Oa_21.out.cell 0
                    have ca1 := Oa_21.out.cell 1
                    have cb0 := Ob_21.out.cell 0
                    have cb1 := Ob_21.out.cell 1
                    have cz0 := Oz_21.out.cell 0
                    have cz1 := Oz_21.out.cell 1
                    have ce0 := Oe_21.out.cell 0
                    have ce1 := Oe_21.out.cell 1
                    have cp0 := Op_21.out.cell 0
                    have cp1 := Op_21.out.cell 1
                    have cq0 := Oq_21.out.cell 0
                    have cq1 := Oq_21.out.cell 1
                    go_wp2_with fail
                    go_ret
                    exact ⟨rfl, K21.out⟩
              · have G := Lib.hid (show n * o ≤ m * d by have := G.out; have := (signR_pos (n * o - m * d)).2; omega)
                have ca0 := Oa_12.out.cell 0
                have ca1 := Oa_12.out.cell 1
                have cb0 := Ob_12.out.cell 0
                have cb1 := Ob_12.out.cell 1
                have cz0 := Oz_12.out.cell 0
                have cz1 := Oz_12.out.cell 1
                have ce0 := Oe_12.out.cell 0
                have ce1 := Oe_12.out.cell 1
                go_wp2_with fail
                obtain ⟨⟨⟨px, py⟩, pe⟩, hp⟩ : ∃ r, mulR ⟨n, d⟩ ⟨m, o⟩ = r := ⟨_, rfl⟩
                obtain ⟨⟨⟨qx, qy⟩, qe⟩, hq⟩ : ∃ r, divR ⟨n, d⟩ ⟨m, o⟩ = r := ⟨_, rfl⟩
                refine (mul_at hp ha hb _).mono ?_
                rintro e w13 ⟨rfl, hk⟩
                clear ca0 ca1 cb0 cb1 cz0 cz1 ce0 ce1
                have K13 := Lib.hid (K12.out.trans hk)
                have Oa_13 := Lib.hid (Oa_12.out.step hk)
                have Ob_13 := Lib.hid (Ob_12.out.step hk)
                have Oz_13 := Lib.hid (Oz_12.out.step hk)
                have Oe_13 := Lib.hid (Oe_12.out.step hk)
                clear K12 Oa_12 Ob_12 Oz_12 Oe_12
                clear hk
                have HP := Lib.hid hp
                clear hp
                have Np := Lib.hid (Own.made K13.out #[.int .i64 (px), .int .i64 (py)])
                have K14 := Lib.hid (K13.out.trans ((Kept.refl w13).alloc (.cells #[.int .i64 (px), .int .i64 (py)] 24)))
                have Oa_14 := Lib.hid (Oa_13.out.step ((Kept.refl w13).alloc (.cells #[.int .i64 (px), .int .i64 (py)] 24)))
                have Ob_14 := Lib.hid (Ob_13.out.step ((Kept.refl w13).alloc (.cells #[.int .i64 (px), .int .i64 (py)] 24)))
                have Oz_14 := Lib.hid (Oz_13.out.step ((Kept.refl w13).alloc (.cells #[.int .i64 (px), .int .i64 (py)] 24)))
                have Oe_14 := Lib.hid (Oe_13.out.step ((Kept.refl w13).alloc (.cells #[.int .i64 (px), .int .i64 (py)] 24)))
                clear K13 Oa_13 Ob_13 Oz_13 Oe_13
                have Op_14 := Np
                clear Np
                have ca0 := Oa_14.out.cell 0
                have ca1 := Oa_14.out.cell 1
                have cb0 := Ob_14.out.cell 0
                have cb1 := Ob_14.out.cell 1
                have cz0 := Oz_14.out.cell 0
                have cz1 := Oz_14.out.cell 1
                have ce0 := Oe_14.out.cell 0
                have ce1 := Oe_14.out.cell 1
                go_wp2_with fail
                clear ca0 ca1 cb0 cb1 cz0 cz1 ce0 ce1
                generalize w13.heap.size = Bp at *
                generalize w13.alloc _ = w14 at *
                refine (div_at hq ha hb _).mono ?_
                rintro e w15 ⟨rfl, hk⟩
                have K15 := Lib.hid (K14.out.trans hk)
                have Oa_15 := Lib.hid (Oa_14.out.step hk)
                have Ob_15 := Lib.hid (Ob_14.out.step hk)
                have Oz_15 := Lib.hid (Oz_14.out.step hk)
                have Oe_15 := Lib.hid (Oe_14.out.step hk)
                have Op_15 := Lib.hid (Op_14.out.step hk)
                clear K14 Oa_14 Ob_14 Oz_14 Oe_14 Op_14
                clear hk
                have HQ := Lib.hid hq
                clear hq
                have PC : (px = 0 ∧ py = 0 ∧ pe = 2) ∨ (pe = 0 ∧ (Q.mk px py).valid = true ∧ 0 ≤ cmpR ⟨px, py⟩ qNone ∧ cmpR ⟨px, py⟩ ⟨n, d⟩ ≤ 0) := by
                  have hp := HP.out
                  rcases mul_cases va vb with h | ⟨p, h⟩
                  · rw [hp] at h
                    simp only [q0, Prod.mk.injEq, Q.mk.injEq] at h
                    exact Or.inl ⟨h.1.1, h.1.2, h.2⟩
                  · rw [hp] at h
                    simp only [Prod.mk.injEq] at h
                    obtain ⟨rfl, rfl⟩ := h
                    exact Or.inr ⟨rfl, shares_mul va vb F.out.1 F.out.2.1 F.out.2.2.2 hp⟩
                have QC : (qx = 0 ∧ qy = 0 ∧ qe = 1 ∧ m = 0 ∧ o = 1) ∨ (qx = 0 ∧ qy = 0 ∧ qe = 2) ∨ (qe = 0 ∧ (Q.mk qx qy).valid = true ∧ 0 ≤ cmpR ⟨qx, qy⟩ qNone ∧ cmpR ⟨qx, qy⟩ qOne ≤ 0) := by
                  have hq := HQ.out
                  rcases div_cases va vb with ⟨h1, h⟩ | h | ⟨p, h⟩
                  · rw [hq] at h
                    simp only [q0, Prod.mk.injEq, Q.mk.injEq] at h
                    simp only [qNone, Q.mk.injEq] at h1
                    exact Or.inl ⟨h.1.1, h.1.2, h.2, h1.1, h1.2⟩
                  · rw [hq] at h
                    simp only [q0, Prod.mk.injEq, Q.mk.injEq] at h
                    exact Or.inr (Or.inl ⟨h.1.1, h.1.2, h.2⟩)
                  · rw [hq] at h
                    simp only [Prod.mk.injEq] at h
                    obtain ⟨rfl, rfl⟩ := h
                    exact Or.inr (Or.inr ⟨rfl, shares_div va vb F.out.1 F.out.2.1 G.out hq⟩)
                clear HP HQ
                rcases PC with ⟨rfl, rfl, rfl⟩ | ⟨rfl, pv, c1, c2⟩
                · skip
                  rcases QC with ⟨rfl, rfl, rfl, rfl, rfl⟩ | ⟨rfl, rfl, rfl⟩ | ⟨rfl, qv, c3, c4⟩
                  · have Nq := Lib.hid (Own.made K15.out #[.int .i64 (0), .int .i64 (0)])
                    have K16 := Lib.hid (K15.out.trans ((Kept.refl w15).alloc (.cells #[.int .i64 (0), .int .i64 (0)] 24)))
                    have Oa_16 := Lib.hid (Oa_15.out.step ((Kept.refl w15).alloc (.cells #[.int .i64 (0), .int .i64 (0)] 24)))
                    have Ob_16 := Lib.hid (Ob_15.out.step ((Kept.refl w15).alloc (.cells #[.int .i64 (0), .int .i64 (0)] 24)))
                    have Oz_16 := Lib.hid (Oz_15.out.step ((Kept.refl w15).alloc (.cells #[.int .i64 (0), .int .i64 (0)] 24)))
                    have Oe_16 := Lib.hid (Oe_15.out.step ((Kept.refl w15).alloc (.cells #[.int .i64 (0), .int .i64 (0)] 24)))
                    have Op_16 := Lib.hid (Op_15.out.step ((Kept.refl w15).alloc (.cells #[.int .i64 (0), .int .i64 (0)] 24)))
                    clear K15 Oa_15 Ob_15 Oz_15 Oe_15 Op_15
                    have Oq_16 := Nq
                    clear Nq
                    have ca0 := Oa_16.out.cell 0
                    have ca1 := Oa_16.out.cell 1
                    have cb0 := Ob_16.out.cell 0
                    have cb1 := Ob_16.out.cell 1
                    have cz0 := Oz_16.out.cell 0
                    have cz1 := Oz_16.out.cell 1
                    have ce0 := Oe_16.out.cell 0
                    have ce1 := Oe_16.out.cell 1
                    have cp0 := Op_16.out.cell 0
                    have cp1 := Op_16.out.cell 1
                    have cq0 := Oq_16.out.cell 0
                    have cq1 := Oq_16.out.cell 1
                    go_wp2_with fail
                    clear ca0 ca1 cb0 cb1 cz0 cz1 ce0 ce1 cp0 cp1 cq0 cq1
                    generalize w15.heap.size = Bq at *
                    generalize w15.alloc _ = w16 at *
                    go_ret
                    exact ⟨rfl, K16.out⟩
                  · have Nq := Lib.hid (Own.made K15.out #[.int .i64 (0), .int .i64 (0)])
                    have K16 := Lib.hid (K15.out.trans ((Kept.refl w15).alloc (.cells #[.int .i64 (0), .int .i64 (0)] 24)))
                    have Oa_16 := Lib.hid (Oa_15.out.step ((Kept.refl w15).alloc (.cells #[.int .i64 (0), .int .i64 (0)] 24)))
                    have Ob_16 := Lib.hid (Ob_15.out.step ((Kept.refl w15).alloc (.cells #[.int .i64 (0), .int .i64 (0)] 24)))
                    have Oz_16 := Lib.hid (Oz_15.out.step ((Kept.refl w15).alloc (.cells #[.int .i64 (0), .int .i64 (0)] 24)))
                    have Oe_16 := Lib.hid (Oe_15.out.step ((Kept.refl w15).alloc (.cells #[.int .i64 (0), .int .i64 (0)] 24)))
                    have Op_16 := Lib.hid (Op_15.out.step ((Kept.refl w15).alloc (.cells #[.int .i64 (0), .int .i64 (0)] 24)))
                    clear K15 Oa_15 Ob_15 Oz_15 Oe_15 Op_15
                    have Oq_16 := Nq
                    clear Nq
                    have ca0 := Oa_16.out.cell 0
                    have ca1 := Oa_16.out.cell 1
                    have cb0 := Ob_16.out.cell 0
                    have cb1 := Ob_16.out.cell 1
                    have cz0 := Oz_16.out.cell 0
                    have cz1 := Oz_16.out.cell 1
                    have ce0 := Oe_16.out.cell 0
                    have ce1 := Oe_16.out.cell 1
                    have cp0 := Op_16.out.cell 0
                    have cp1 := Op_16.out.cell 1
                    have cq0 := Oq_16.out.cell 0
                    have cq1 := Oq_16.out.cell 1
                    go_wp2_with fail
                    clear ca0 ca1 cb0 cb1 cz0 cz1 ce0 ce1 cp0 cp1 cq0 cq1
                    generalize w15.heap.size = Bq at *
                    generalize w15.alloc _ = w16 at *
                    go_ret
                    exact ⟨rfl, K16.out⟩
                  · have Nq := Lib.hid (Own.made K15.out #[.int .i64 (qx), .int .i64 (qy)])
                    have K16 := Lib.hid (K15.out.trans ((Kept.refl w15).alloc (.cells #[.int .i64 (qx), .int .i64 (qy)] 24)))
                    have Oa_16 := Lib.hid (Oa_15.out.step ((Kept.refl w15).alloc (.cells #[.int .i64 (qx), .int .i64 (qy)] 24)))
                    have Ob_16 := Lib.hid (Ob_15.out.step ((Kept.refl w15).alloc (.cells #[.int .i64 (qx), .int .i64 (qy)] 24)))
                    have Oz_16 := Lib.hid (Oz_15.out.step ((Kept.refl w15).alloc (.cells #[.int .i64 (qx), .int .i64 (qy)] 24)))
                    have Oe_16 := Lib.hid (Oe_15.out.step ((Kept.refl w15).alloc (.cells #[.int .i64 (qx), .int .i64 (qy)] 24)))
                    have Op_16 := Lib.hid (Op_15.out.step ((Kept.refl w15).alloc (.cells #[.int .i64 (qx), .int .i64 (qy)] 24)))
                    clear K15 Oa_15 Ob_15 Oz_15 Oe_15 Op_15
                    have Oq_16 := Nq
                    clear Nq
                    have ca0 := Oa_16.out.cell 0
                    have ca1 := Oa_16.out.cell 1
                    have cb0 := Ob_16.out.cell 0
                    have cb1 := Ob_16.out.cell 1
                    have cz0 := Oz_16.out.cell 0
                    have cz1 := Oz_16.out.cell 1
                    have ce0 := Oe_16.out.cell 0
                    have ce1 := Oe_16.out.cell 1
                    have cp0 := Op_16.out.cell 0
                    have cp1 := Op_16.out.cell 1
                    have cq0 := Oq_16.out.cell 0
                    have cq1 := Oq_16.out.cell 1
                    go_wp2_with fail
                    clear ca0 ca1 cb0 cb1 cz0 cz1 ce0 ce1 cp0 cp1 cq0 cq1
                    generalize w15.heap.size = Bq at *
                    generalize w15.alloc _ = w16 at *
                    obtain ⟨u3, hu3⟩ : ∃ r, cmpR ⟨qx, qy⟩ qNone = r := ⟨_, rfl⟩
                    obtain ⟨u4, hu4⟩ : ∃ r, cmpR ⟨qx, qy⟩ qOne = r := ⟨_, rfl⟩
                    have P3 := Lib.hid (fun w => cmp_at hu3 (Q.wf_of qv) (Q.wf_of none_valid) w)
                    have P4 := Lib.hid (fun w => cmp_at hu4 (Q.wf_of qv) (Q.wf_of one_valid) w)
                    rw [hu3] at c3
                    rw [hu4] at c4
                    clear hu3 hu4 qv
                    refine (P3.out _).mono ?_
                    rintro e w17 ⟨rfl, hk⟩
                    have K17 := Lib.hid (K16.out.trans hk)
                    have Oa_17 := Lib.hid (Oa_16.out.step hk)
                    have Ob_17 := Lib.hid (Ob_16.out.step hk)
                    have Oz_17 := Lib.hid (Oz_16.out.step hk)
                    have Oe_17 := Lib.hid (Oe_16.out.step hk)
                    have Op_17 := Lib.hid (Op_16.out.step hk)
                    have Oq_17 := Lib.hid (Oq_16.out.step hk)
                    clear K16 Oa_16 Ob_16 Oz_16 Oe_16 Op_16 Oq_16
                    clear hk
                    have ca0 := Oa_17.out.cell 0
                    have ca1 := Oa_17.out.cell 1
                    have cb0 := Ob_17.out.cell 0
                    have cb1 := Ob_17.out.cell 1
                    have cz0 := Oz_17.out.cell 0
                    have cz1 := Oz_17.out.cell 1
                    have ce0 := Oe_17.out.cell 0
                    have ce1 := Oe_17.out.cell 1
                    have cp0 := Op_17.out.cell 0
                    have cp1 := Op_17.out.cell 1
                    have cq0 := Oq_17.out.cell 0
                    have cq1 := Oq_17.out.cell 1
                    go_wp2_with fail
                    refine (P4.out _).mono ?_
                    rintro e w18 ⟨rfl, hk⟩
                    clear ca0 ca1 cb0 cb1 cz0 cz1 ce0 ce1 cp0 cp1 cq0 cq1
                    have K18 := Lib.hid (K17.out.trans hk)
                    have Oa_18 := Lib.hid (Oa_17.out.step hk)
                    have Ob_18 := Lib.hid (Ob_17.out.step hk)
                    have Oz_18 := Lib.hid (Oz_17.out.step hk)
                    have Oe_18 := Lib.hid (Oe_17.out.step hk)
                    have Op_18 := Lib.hid (Op_17.out.step hk)
                    have Oq_18 := Lib.hid (Oq_17.out.step hk)
                    clear K17 Oa_17 Ob_17 Oz_17 Oe_17 Op_17 Oq_17
                    clear hk
                    have ca0 := Oa_18.out.cell 0
                    have ca1 := Oa_18.out.cell 1
                    have cb0 := Ob_18.out.cell 0
                    have cb1 := Ob_18.out.cell 1
                    have cz0 := Oz_18.out.cell 0
                    have cz1 := Oz_18.out.cell 1
                    have ce0 := Oe_18.out.cell 0
                    have ce1 := Oe_18.out.cell 1
                    have cp0 := Op_18.out.cell 0
                    have cp1 := Op_18.out.cell 1
                    have cq0 := Oq_18.out.cell 0
                    have cq1 := Oq_18.out.cell 1
                    go_wp2_with fail
                    go_ret
                    exact ⟨rfl, K18.out⟩
                · obtain ⟨u1, hu1⟩ : ∃ r, cmpR ⟨px, py⟩ qNone = r := ⟨_, rfl⟩
                  obtain ⟨u2, hu2⟩ : ∃ r, cmpR ⟨px, py⟩ ⟨n, d⟩ = r := ⟨_, rfl⟩
                  have P1 := Lib.hid (fun w => cmp_at hu1 (Q.wf_of pv) (Q.wf_of none_valid) w)
                  have P2 := Lib.hid (fun w => cmp_at hu2 (Q.wf_of pv) ha w)
                  rw [hu1] at c1
                  rw [hu2] at c2
                  clear hu1 hu2 pv
                  rcases QC with ⟨rfl, rfl, rfl, rfl, rfl⟩ | ⟨rfl, rfl, rfl⟩ | ⟨rfl, qv, c3, c4⟩
                  · have Nq := Lib.hid (Own.made K15.out #[.int .i64 (0), .int .i64 (0)])
                    have K16 := Lib.hid (K15.out.trans ((Kept.refl w15).alloc (.cells #[.int .i64 (0), .int .i64 (0)] 24)))
                    have Oa_16 := Lib.hid (Oa_15.out.step ((Kept.refl w15).alloc (.cells #[.int .i64 (0), .int .i64 (0)] 24)))
                    have Ob_16 := Lib.hid (Ob_15.out.step ((Kept.refl w15).alloc (.cells #[.int .i64 (0), .int .i64 (0)] 24)))
                    have Oz_16 := Lib.hid (Oz_15.out.step ((Kept.refl w15).alloc (.cells #[.int .i64 (0), .int .i64 (0)] 24)))
                    have Oe_16 := Lib.hid (Oe_15.out.step ((Kept.refl w15).alloc (.cells #[.int .i64 (0), .int .i64 (0)] 24)))
                    have Op_16 := Lib.hid (Op_15.out.step ((Kept.refl w15).alloc (.cells #[.int .i64 (0), .int .i64 (0)] 24)))
                    clear K15 Oa_15 Ob_15 Oz_15 Oe_15 Op_15
                    have Oq_16 := Nq
                    clear Nq
                    have ca0 := Oa_16.out.cell 0
                    have ca1 := Oa_16.out.cell 1
                    have cb0 := Ob_16.out.cell 0
                    have cb1 := Ob_16.out.cell 1
                    have cz0 := Oz_16.out.cell 0
                    have cz1 := Oz_16.out.cell 1
                    have ce0 := Oe_16.out.cell 0
                    have ce1 := Oe_16.out.cell 1
                    have cp0 := Op_16.out.cell 0
                    have cp1 := Op_16.out.cell 1
                    have cq0 := Oq_16.out.cell 0
                    have cq1 := Oq_16.out.cell 1
                    go_wp2_with fail
                    clear ca0 ca1 cb0 cb1 cz0 cz1 ce0 ce1 cp0 cp1 cq0 cq1
                    generalize w15.heap.size = Bq at *
                    generalize w15.alloc _ = w16 at *
                    refine (P1.out _).mono ?_
                    rintro e w17 ⟨rfl, hk⟩
                    have K17 := Lib.hid (K16.out.trans hk)
                    have Oa_17 := Lib.hid (Oa_16.out.step hk)
                    have Ob_17 := Lib.hid (Ob_16.out.step hk)
                    have Oz_17 := Lib.hid (Oz_16.out.step hk)
                    have Oe_17 := Lib.hid (Oe_16.out.step hk)
                    have Op_17 := Lib.hid (Op_16.out.step hk)
                    have Oq_17 := Lib.hid (Oq_16.out.step hk)
                    clear K16 Oa_16 Ob_16 Oz_16 Oe_16 Op_16 Oq_16
                    clear hk
                    have ca0 := Oa_17.out.cell 0
                    have ca1 := Oa_17.out.cell 1
                    have cb0 := Ob_17.out.cell 0
                    have cb1 := Ob_17.out.cell 1
                    have cz0 := Oz_17.out.cell 0
                    have cz1 := Oz_17.out.cell 1
                    have ce0 := Oe_17.out.cell 0
                    have ce1 := Oe_17.out.cell 1
                    have cp0 := Op_17.out.cell 0
                    have cp1 := Op_17.out.cell 1
                    have cq0 := Oq_17.out.cell 0
                    have cq1 := Oq_17.out.cell 1
                    go_wp2_with fail
                    refine (P2.out _).mono ?_
                    rintro e w18 ⟨rfl, hk⟩
                    clear ca0 ca1 cb0 cb1 cz0 cz1 ce0 ce1 cp0 cp1 cq0 cq1
                    have K18 := Lib.hid (K17.out.trans hk)
                    have Oa_18 := Lib.hid (Oa_17.out.step hk)
                    have Ob_18 := Lib.hid (Ob_17.out.step hk)
                    have Oz_18 := Lib.hid (Oz_17.out.step hk)
                    have Oe_18 := Lib.hid (Oe_17.out.step hk)
                    have Op_18 := Lib.hid (Op_17.out.step hk)
                    have Oq_18 := Lib.hid (Oq_17.out.step hk)
                    clear K17 Oa_17 Ob_17 Oz_17 Oe_17 Op_17 Oq_17
                    clear hk
                    have ca0 := Oa_18.out.cell 0
                    have ca1 := Oa_18.out.cell 1
                    have cb0 := Ob_18.out.cell 0
                    have cb1 := Ob_18.out.cell 1
                    have cz0 := Oz_18.out.cell 0
                    have cz1 := Oz_18.out.cell 1
                    have ce0 := Oe_18.out.cell 0
                    have ce1 := Oe_18.out.cell 1
                    have cp0 := Op_18.out.cell 0
                    have cp1 := Op_18.out.cell 1
                    have cq0 := Oq_18.out.cell 0
                    have cq1 := Oq_18.out.cell 1
                    go_wp2_with fail
                    go_ret
                    exact ⟨rfl, K18.out⟩
                  · have Nq := Lib.hid (Own.made K15.out #[.int .i64 (0), .int .i64 (0)])
                    have K16 := Lib.hid (K15.out.trans ((Kept.refl w15).alloc (.cells #[.int .i64 (0), .int .i64 (0)] 24)))
                    have Oa_16 := Lib.hid (Oa_15.out.step ((Kept.refl w15).alloc (.cells #[.int .i64 (0), .int .i64 (0)] 24)))
                    have Ob_16 := Lib.hid (Ob_15.out.step ((Kept.refl w15).alloc (.cells #[.int .i64 (0), .int .i64 (0)] 24)))
                    have Oz_16 := Lib.hid (Oz_15.out.step ((Kept.refl w15).alloc (.cells #[.int .i64 (0), .int .i64 (0)] 24)))
                    have Oe_16 := Lib.hid (Oe_15.out.step ((Kept.refl w15).alloc (.cells #[.int .i64 (0), .int .i64 (0)] 24)))
                    have Op_16 := Lib.hid (Op_15.out.step ((Kept.refl w15).alloc (.cells #[.int .i64 (0), .int .i64 (0)] 24)))
                    clear K15 Oa_15 Ob_15 Oz_15 Oe_15 Op_15
                    have Oq_16 := Nq
                    clear Nq
                    have ca0 := Oa_16.out.cell 0
                    have ca1 := Oa_16.out.cell 1
                    have cb0 := Ob_16.out.cell 0
                    have cb1 := Ob_16.out.cell 1
                    have cz0 := Oz_16.out.cell 0
                    have cz1 := Oz_16.out.cell 1
                    have ce0 := Oe_16.out.cell 0
                    have ce1 := Oe_16.out.cell 1
                    have cp0 := Op_16.out.cell 0
                    have cp1 := Op_16.out.cell 1
                    have cq0 := Oq_16.out.cell 0
                    have cq1 := Oq_16.out.cell 1
                    go_wp2_with fail
                    clear ca0 ca1 cb0 cb1 cz0 cz1 ce0 ce1 cp0 cp1 cq0 cq1
                    generalize w15.heap.size = Bq at *
                    generalize w15.alloc _ = w16 at *
                    refine (P1.out _).mono ?_
                    rintro e w17 ⟨rfl, hk⟩
                    have K17 := Lib.hid (K16.out.trans hk)
                    have Oa_17 := Lib.hid (Oa_16.out.step hk)
                    have Ob_17 := Lib.hid (Ob_16.out.step hk)
                    have Oz_17 := Lib.hid (Oz_16.out.step hk)
                    have Oe_17 := Lib.hid (Oe_16.out.step hk)
                    have Op_17 := Lib.hid (Op_16.out.step hk)
                    have Oq_17 := Lib.hid (Oq_16.out.step hk)
                    clear K16 Oa_16 Ob_16 Oz_16 Oe_16 Op_16 Oq_16
                    clear hk
                    have ca0 := Oa_17.out.cell 0
                    have ca1 := Oa_17.out.cell 1
                    have cb0 := Ob_17.out.cell 0
                    have cb1 := Ob_17.out.cell 1
                    have cz0 := Oz_17.out.cell 0
                    have cz1 := Oz_17.out.cell 1
                    have ce0 := Oe_17.out.cell 0
                    have ce1 := Oe_17.out.cell 1
                    have cp0 := Op_17.out.cell 0
                    have cp1 := Op_17.out.cell 1
                    have cq0 := Oq_17.out.cell 0
                    have cq1 := Oq_17.out.cell 1
                    go_wp2_with fail
                    refine (P2.out _).mono ?_
                    rintro e w18 ⟨rfl, hk⟩
                    clear ca0 ca1 cb0 cb1 cz0 cz1 ce0 ce1 cp0 cp1 cq0 cq1
                    have K18 := Lib.hid (K17.out.trans hk)
                    have Oa_18 := Lib.hid (Oa_17.out.step hk)
                    have Ob_18 := Lib.hid (Ob_17.out.step hk)
                    have Oz_18 := Lib.hid (Oz_17.out.step hk)
                    have Oe_18 := Lib.hid (Oe_17.out.step hk)
                    have Op_18 := Lib.hid (Op_17.out.step hk)
                    have Oq_18 := Lib.hid (Oq_17.out.step hk)
                    clear K17 Oa_17 Ob_17 Oz_17 Oe_17 Op_17 Oq_17
                    clear hk
                    have ca0 := Oa_18.out.cell 0
                    have ca1 := Oa_18.out.cell 1
                    have cb0 := Ob_18.out.cell 0
                    have cb1 := Ob_18.out.cell 1
                    have cz0 := Oz_18.out.cell 0
                    have cz1 := Oz_18.out.cell 1
                    have ce0 := Oe_18.out.cell 0
                    have ce1 := Oe_18.out.cell 1
                    have cp0 := Op_18.out.cell 0
                    have cp1 := Op_18.out.cell 1
                    have cq0 := Oq_18.out.cell 0
                    have cq1 := Oq_18.out.cell 1
                    go_wp2_with fail
                    go_ret
                    exact ⟨rfl, K18.out⟩
                  · have Nq := Lib.hid (Own.made K15.out #[.int .i64 (qx), .int .i64 (qy)])
                    have K16 := Lib.hid (K15.out.trans ((Kept.refl w15).alloc (.cells #[.int .i64 (qx), .int .i64 (qy)] 24)))
                    have Oa_16 := Lib.hid (Oa_15.out.step ((Kept.refl w15).alloc (.cells #[.int .i64 (qx), .int .i64 (qy)] 24)))
                    have Ob_16 := Lib.hid (Ob_15.out.step ((Kept.refl w15).alloc (.cells #[.int .i64 (qx), .int .i64 (qy)] 24)))
                    have Oz_16 := Lib.hid (Oz_15.out.step ((Kept.refl w15).alloc (.cells #[.int .i64 (qx), .int .i64 (qy)] 24)))
                    have Oe_16 := Lib.hid (Oe_15.out.step ((Kept.refl w15).alloc (.cells #[.int .i64 (qx), .int .i64 (qy)] 24)))
                    have Op_16 := Lib.hid (Op_15.out.step ((Kept.refl w15).alloc (.cells #[.int .i64 (qx), .int .i64 (qy)] 24)))
                    clear K15 Oa_15 Ob_15 Oz_15 Oe_15 Op_15
                    have Oq_16 := Nq
                    clear Nq
                    have ca0 := Oa_16.out.cell 0
                    have ca1 := Oa_16.out.cell 1
                    have cb0 := Ob_16.out.cell 0
                    have cb1 := Ob_16.out.cell 1
                    have cz0 := Oz_16.out.cell 0
                    have cz1 := Oz_16.out.cell 1
                    have ce0 := Oe_16.out.cell 0
                    have ce1 := Oe_16.out.cell 1
                    have cp0 := Op_16.out.cell 0
                    have cp1 := Op_16.out.cell 1
                    have cq0 := Oq_16.out.cell 0
                    have cq1 := Oq_16.out.cell 1
                    go_wp2_with fail
                    clear ca0 ca1 cb0 cb1 cz0 cz1 ce0 ce1 cp0 cp1 cq0 cq1
                    generalize w15.heap.size = Bq at *
                    generalize w15.alloc _ = w16 at *
                    refine (P1.out _).mono ?_
                    rintro e w17 ⟨rfl, hk⟩
                    have K17 := Lib.hid (K16.out.trans hk)
                    have Oa_17 := Lib.hid (Oa_16.out.step hk)
                    have Ob_17 := Lib.hid (Ob_16.out.step hk)
                    have Oz_17 := Lib.hid (Oz_16.out.step hk)
                    have Oe_17 := Lib.hid (Oe_16.out.step hk)
                    have Op_17 := Lib.hid (Op_16.out.step hk)
                    have Oq_17 := Lib.hid (Oq_16.out.step hk)
                    clear K16 Oa_16 Ob_16 Oz_16 Oe_16 Op_16 Oq_16
                    clear hk
                    have ca0 := Oa_17.out.cell 0
                    have ca1 := Oa_17.out.cell 1
                    have cb0 := Ob_17.out.cell 0
                    have cb1 := Ob_17.out.cell 1
                    have cz0 := Oz_17.out.cell 0
                    have cz1 := Oz_17.out.cell 1
                    have ce0 := Oe_17.out.cell 0
                    have ce1 := Oe_17.out.cell 1
                    have cp0 := Op_17.out.cell 0
                    have cp1 := Op_17.out.cell 1
                    have cq0 := Oq_17.out.cell 0
                    have cq1 := Oq_17.out.cell 1
                    go_wp2_with fail
                    refine (P2.out _).mono ?_
                    rintro e w18 ⟨rfl, hk⟩
                    clear ca0 ca1 cb0 cb1 cz0 cz1 ce0 ce1 cp0 cp1 cq0 cq1
                    have K18 := Lib.hid (K17.out.trans hk)
                    have Oa_18 := Lib.hid (Oa_17.out.step hk)
                    have Ob_18 := Lib.hid (Ob_17.out.step hk)
                    have Oz_18 := Lib.hid (Oz_17.out.step hk)
                    have Oe_18 := Lib.hid (Oe_17.out.step hk)
                    have Op_18 := Lib.hid (Op_17.out.step hk)
                    have Oq_18 := Lib.hid (Oq_17.out.step hk)
                    clear K17 Oa_17 Ob_17 Oz_17 Oe_17 Op_17 Oq_17
                    clear hk
                    have ca0 := Oa_18.out.cell 0
                    have ca1 := Oa_18.out.cell 1
                    have cb0 := Ob_18.out.cell 0
                    have cb1 := Ob_18.out.cell 1
                    have cz0 := Oz_18.out.cell 0
                    have cz1 := Oz_18.out.cell 1
                    have ce0 := Oe_18.out.cell 0
                    have ce1 := Oe_18.out.cell 1
                    have cp0 := Op_18.out.cell 0
                    have cp1 := Op_18.out.cell 1
                    have cq0 := Oq_18.out.cell 0
                    have cq1 := Oq_18.out.cell 1
                    go_wp2_with fail
                    obtain ⟨u3, hu3⟩ : ∃ r, cmpR ⟨qx, qy⟩ qNone = r := ⟨_, rfl⟩
                    obtain ⟨u4, hu4⟩ : ∃ r, cmpR ⟨qx, qy⟩ qOne = r := ⟨_, rfl⟩
                    have P3 := Lib.hid (fun w => cmp_at hu3 (Q.wf_of qv) (Q.wf_of none_valid) w)
                    have P4 := Lib.hid (fun w => cmp_at hu4 (Q.wf_of qv) (Q.wf_of one_valid) w)
                    rw [hu3] at c3
                    rw [hu4] at c4
                    clear hu3 hu4 qv
                    refine (P3.out _).mono ?_
                    rintro e w19 ⟨rfl, hk⟩
                    have K19 := Lib.hid (K18.out.trans hk)
                    have Oa_19 := Lib.hid (Oa_18.out.step hk)
                    have Ob_19 := Lib.hid (Ob_18.out.step hk)
                    have Oz_19 := Lib.hid (Oz_18.out.step hk)
                    have Oe_19 := Lib.hid (Oe_18.out.step hk)
                    have Op_19 := Lib.hid (Op_18.out.step hk)
                    have Oq_19 := Lib.hid (Oq_18.out.step hk)
                    clear K18 Oa_18 Ob_18 Oz_18 Oe_18 Op_18 Oq_18
                    clear hk
                    have ca0 := Oa_19.out.cell 0
                    have ca1 := Oa_19.out.cell 1
                    have cb0 := Ob_19.out.cell 0
                    have cb1 := Ob_19.out.cell 1
                    have cz0 := Oz_19.out.cell 0
                    have cz1 := Oz_19.out.cell 1
                    have ce0 := Oe_19.out.cell 0
                    have ce1 := Oe_19.out.cell 1
                    have cp0 := Op_19.out.cell 0
                    have cp1 := Op_19.out.cell 1
                    have cq0 := Oq_19.out.cell 0
                    have cq1 := Oq_19.out.cell 1
                    go_wp2_with fail
                    refine (P4.out _).mono ?_
                    rintro e w20 ⟨rfl, hk⟩
                    clear ca0 ca1 cb0 cb1 cz0 cz1 ce0 ce1 cp0 cp1 cq0 cq1
                    have K20 := Lib.hid (K19.out.trans hk)
                    have Oa_20 := Lib.hid (Oa_19.out.step hk)
                    have Ob_20 := Lib.hid (Ob_19.out.step hk)
                    have Oz_20 := Lib.hid (Oz_19.out.step hk)
                    have Oe_20 := Lib.hid (Oe_19.out.step hk)
                    have Op_20 := Lib.hid (Op_19.out.step hk)
                    have Oq_20 := Lib.hid (Oq_19.out.step hk)
                    clear K19 Oa_19 Ob_19 Oz_19 Oe_19 Op_19 Oq_19
                    clear hk
                    have ca0 := Oa_20.out.cell 0
                    have ca1 := Oa_20.out.cell 1
                    have cb0 := Ob_20.out.cell 0
                    have cb1 := Ob_20.out.cell 1
                    have cz0 := Oz_20.out.cell 0
                    have cz1 := Oz_20.out.cell 1
                    have ce0 := Oe_20.out.cell 0
                    have ce1 := Oe_20.out.cell 1
                    have cp0 := Op_20.out.cell 0
                    have cp1 := Op_20.out.cell 1
                    have cq0 := Oq_20.out.cell 0
                    have cq1 := Oq_20.out.cell 1
                    go_wp2_with fail
                    go_ret
                    exact ⟨rfl, K20.out⟩
    · have vbf := Bool.eq_false_iff.2 vb
      refine (valid_at vbf hb _).mono ?_
      rintro e w7 ⟨rfl, hk⟩
      clear ca0 ca1 cb0 cb1 cz0 cz1 ce0 ce1
      have K7 := Lib.hid (K6.out.trans hk)
      have Oa_7 := Lib.hid (Oa_6.out.step hk)
      have Ob_7 := Lib.hid (Ob_6.out.step hk)
      have Oz_7 := Lib.hid (Oz_6.out.step hk)
      have Oe_7 := Lib.hid (Oe_6.out.step hk)
      clear K6 Oa_6 Ob_6 Oz_6 Oe_6
      clear hk
      have ca0 := Oa_7.out.cell 0
      have ca1 := Oa_7.out.cell 1
      have cb0 := Ob_7.out.cell 0
      have cb1 := Ob_7.out.cell 1
      have cz0 := Oz_7.out.cell 0
      have cz1 := Oz_7.out.cell 1
      have ce0 := Oe_7.out.cell 0
      have ce1 := Oe_7.out.cell 1
      go_wp2_with fail
      go_ret
      exact ⟨rfl, K7.out⟩
  · have vaf := Bool.eq_false_iff.2 va
    refine (valid_at vaf ha _).mono ?_
    rintro e w6 ⟨rfl, hk⟩
    have K6 := Lib.hid (K5.out.trans hk)
    have Oa_6 := Lib.hid (Oa_5.out.step hk)
    have Ob_6 := Lib.hid (Ob_5.out.step hk)
    have Oz_6 := Lib.hid (Oz_5.out.step hk)
    have Oe_6 := Lib.hid (Oe_5.out.step hk)
    clear K5 Oa_5 Ob_5 Oz_5 Oe_5
    clear hk
    have ca0 := Oa_6.out.cell 0
    have ca1 := Oa_6.out.cell 1
    have cb0 := Ob_6.out.cell 0
    have cb1 := Ob_6.out.cell 1
    have cz0 := Oz_6.out.cell 0
    have cz1 := Oz_6.out.cell 1
    have ce0 := Oe_6.out.cell 0
    have ce1 := Oe_6.out.cell 1
    go_wp2_with fail
    go_ret
    exact ⟨rfl, K6.out⟩
end Go.Proofs.YtacjgkpncdnbgaaDoor
