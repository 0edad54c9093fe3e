/-
  The ratio laws' head, walked: its fixed examples have the known results. Its condition: the library's variables are as the program's start leaves them.
-/
import Derived.Test.YtacjgkpncdnbgaaDoorVA
namespace Go.Proofs.YtacjgkpncdnbgaaDoor
open Go.RowKit

theorem mk_at {n d x y r : Int} (h : makeR n d = (⟨x, y⟩, r)) (n1 : -9223372036854775808 ≤ n) (n2 : n ≤ 9223372036854775807) (d1 : -9223372036854775808 ≤ d) (d2 : d ≤ 9223372036854775807) (w : World) :
    Calls Tryd.prog 11 #[.int .i64 n, .int .i64 d] w fun e w' => e = .returned (.tuple #[.agg #[.int .i64 x, .int .i64 y], .int .i64 r]) ∧ Kept w w' := by
  have := make_any n d n1 n2 d1 d2 w
  rw [h] at this
  exact this
theorem add_at {n d m o x y r : Int} (h : addR ⟨n, d⟩ ⟨m, o⟩ = (⟨x, y⟩, r)) (ha : (Q.mk n d).wf) (hb : (Q.mk m o).wf) (w : World) :
    Calls Tryd.prog 15 #[.agg #[.int .i64 n, .int .i64 d], .agg #[.int .i64 m, .int .i64 o]] w fun e w' => e = .returned (.tuple #[.agg #[.int .i64 x, .int .i64 y], .int .i64 r]) ∧ Kept w w' := by
  have := add_any ⟨n, d⟩ ⟨m, o⟩ ha hb w
  rw [h] at this
  exact this
theorem mul_at {n d m o x y r : Int} (h : mulR ⟨n, d⟩ ⟨m, o⟩ = (⟨x, y⟩, r)) (ha : (Q.mk n d).wf) (hb : (Q.mk m o).wf) (w : World) :
    Calls Tryd.prog 16 #[.agg #[.int .i64 n, .int .i64 d], .agg #[.int .i64 m, .int .i64 o]] w fun e w' => e = .returned (.tuple #[.agg #[.int .i64 x, .int .i64 y], .int .i64 r]) ∧ Kept w w' := by
  have := mul_any ⟨n, d⟩ ⟨m, o⟩ ha hb w
  rw [h] at this
  exact this
theorem div_at {n d m o x y r : Int} (h : divR ⟨n, d⟩ ⟨m, o⟩ = (⟨x, y⟩, r)) (ha : (Q.mk n d).wf) (hb : (Q.mk m o).wf) (w : World) :
    Calls Tryd.prog 20 #[.agg #[.int .i64 n, .int .i64 d], .agg #[.int .i64 m, .int .i64 o]] w fun e w' => e = .returned (.tuple #[.agg #[.int .i64 x, .int .i64 y], .int .i64 r]) ∧ Kept w w' := by
  have := div_any ⟨n, d⟩ ⟨m, o⟩ ha hb w
  rw [h] at this
  exact this
theorem parse_42 (w : World) (hE : Env w) :
    Calls Tryd.prog 18 #[.string ⟨#[52, 47, 50]⟩] w fun e w' => e = .returned (.tuple #[.agg #[.int .i64 0, .int .i64 0], .int .i64 6]) ∧ Kept w w' := by
  have h : parseR ⟨#[52, 47, 50]⟩ = (q0, 6) := by kernel_rfl
  have := parse_any ⟨#[52, 47, 50]⟩ (by decide) w hE
  rw [h] at this
  exact this
theorem text_32 (w : World) (hE : Env w) :
    Calls Tryd.prog 17 #[.agg #[.int .i64 (-3), .int .i64 2]] w fun e w' => e = .returned (.string ⟨#[45, 51, 47, 50]⟩) ∧ Kept w w' := by
  have v : (Q.mk (-3) 2).valid = true := by kernel_rfl
  have h : textL ⟨-3, 2⟩ = [45, 51, 47, 50] := by
    unfold textL
    rw [v]
    simp [Lib.itoa, Lib.decDigits]
  have := text_any ⟨-3, 2⟩ ⟨by decide, by decide, by decide, by decide⟩ w hE
  rw [h] at this
  exact this
theorem valid_at {n d : Int} {b : Bool} (h : (Q.mk n d).valid = b) (ha : (Q.mk n d).wf) (w : World) :
    Calls Tryd.prog 13 #[.agg #[.int .i64 n, .int .i64 d]] w fun e w' => e = .returned (.bool b) ∧ Kept w w' := by
  have := valid_any ⟨n, d⟩ ha w
  rw [h] at this
  exact this
theorem cmp_at {n d m o r : Int} (h : cmpR ⟨n, d⟩ ⟨m, o⟩ = r) (ha : (Q.mk n d).wf) (hb : (Q.mk m o).wf) (w : World) :
    Calls Tryd.prog 14 #[.agg #[.int .i64 n, .int .i64 d], .agg #[.int .i64 m, .int .i64 o]] w fun e w' => e = .returned (.int .i64 r) ∧ Kept w w' := by
  have := cmp_any ⟨n, d⟩ ⟨m, o⟩ ha hb w
  rw [h] at this
  exact this
theorem eight_kept {w w1 w2 : World} {A B C D : Nat} {x0 x1 x2 x3 x4 x5 x6 x7 : Value} (h : Kept w w1 ∧ w1.cell? ⟨A, 0, none⟩ = some x0 ∧ w1.cell? ⟨A, 1, none⟩ = some x1 ∧ w1.cell? ⟨B, 0, none⟩ = some x2 ∧ w1.cell? ⟨B, 1, none⟩ = some x3 ∧ w1.cell? ⟨C, 0, none⟩ = some x4 ∧ w1.cell? ⟨C, 1, none⟩ = some x5 ∧ w1.cell? ⟨D, 0, none⟩ = some x6 ∧ w1.cell? ⟨D, 1, none⟩ = some x7) (k : Kept w1 w2) :
    Kept w w2 ∧ w2.cell? ⟨A, 0, none⟩ = some x0 ∧ w2.cell? ⟨A, 1, none⟩ = some x1 ∧ w2.cell? ⟨B, 0, none⟩ = some x2 ∧ w2.cell? ⟨B, 1, none⟩ = some x3 ∧ w2.cell? ⟨C, 0, none⟩ = some x4 ∧ w2.cell? ⟨C, 1, none⟩ = some x5 ∧ w2.cell? ⟨D, 0, none⟩ = some x6 ∧ w2.cell? ⟨D, 1, none⟩ = some x7 :=
  ⟨h.1.trans k, k.cell h.2.1, k.cell h.2.2.1, k.cell h.2.2.2.1, k.cell h.2.2.2.2.1, k.cell h.2.2.2.2.2.1, k.cell h.2.2.2.2.2.2.1, k.cell h.2.2.2.2.2.2.2.1, k.cell h.2.2.2.2.2.2.2.2⟩

set_option maxRecDepth 100000 in
set_option maxHeartbeats 1600000 in
theorem head_any (w : World) (hE : Env w) : Calls Tryd.prog 10 #[] w fun e w' => e = .returned (.bool true) ∧ Kept w w' := by
  have EN := Lib.hid hE
  have K0 := Lib.hid (Kept.refl w)
  clear hE
  go_enter Tryd.func10, Tryd.ntmps10
  go_wp2_with fail
  refine (mk_at (n := 6) (d := -4) (x := -3) (y := 2) (r := 0) (by kernel_rfl) (by decide) (by decide) (by decide) (by decide) _).mono ?_
  rintro e w1 ⟨rfl, hk⟩
  have K1 := Lib.hid (K0.out.trans hk)
  clear hk K0
  go_wp2_with fail
  have K2 := Lib.hid (K1.out.alloc (.cells #[.int .i64 (-3), .int .i64 (2)] 24))
  have Oa_2 : Hid (Own w (w1.alloc (.cells #[.int .i64 (-3), .int .i64 (2)] 24)) w1.heap.size #[.int .i64 (-3), .int .i64 (2)]) := Lib.hid (Own.made K1.out _)
  clear K1
  generalize w1.heap.size = B2 at *
  generalize w1.alloc _ = w2 at *
  refine (mk_at (n := 0) (d := -7) (x := 0) (y := 1) (r := 0) (by kernel_rfl) (by decide) (by decide) (by decide) (by decide) _).mono ?_
  rintro e w3 ⟨rfl, hk⟩
  have K3 := Lib.hid (K2.out.trans hk)
  have Oa_3 := Lib.hid (Oa_2.out.step hk)
  clear hk K2 Oa_2
  go_wp2_with fail
  have K4 := Lib.hid (K3.out.alloc (.cells #[.int .i64 (0), .int .i64 (1)] 24))
  have Oa_4 := Lib.hid (Oa_3.out.step ((Kept.refl _).alloc (.cells #[.int .i64 (0), .int .i64 (1)] 24)))
  have Ob_4 : Hid (Own w (w3.alloc (.cells #[.int .i64 (0), .int .i64 (1)] 24)) w3.heap.size #[.int .i64 (0), .int .i64 (1)]) := Lib.hid (Own.made K3.out _)
  clear K3 Oa_3
  generalize w3.heap.size = B4 at *
  generalize w3.alloc _ = w4 at *
  refine (mk_at (n := 1) (d := 0) (x := 0) (y := 0) (r := 1) (by kernel_rfl) (by decide) (by decide) (by decide) (by decide) _).mono ?_
  rintro e w5 ⟨rfl, hk⟩
  have K5 := Lib.hid (K4.out.trans hk)
  have Oa_5 := Lib.hid (Oa_4.out.step hk)
  have Ob_5 := Lib.hid (Ob_4.out.step hk)
  clear hk K4 Oa_4 Ob_4
  go_wp2_with fail
  have K6 := Lib.hid (K5.out.alloc (.cells #[.int .i64 (0), .int .i64 (0)] 24))
  have Oa_6 := Lib.hid (Oa_5.out.step ((Kept.refl _).alloc (.cells #[.int .i64 (0), .int .i64 (0)] 24)))
  have Ob_6 := Lib.hid (Ob_5.out.step ((Kept.refl _).alloc (.cells #[.int .i64 (0), .int .i64 (0)] 24)))
  clear K5 Oa_5 Ob_5
  generalize w5.heap.size = B6 at *
  generalize w5.alloc _ = w6 at *
  refine (mk_at (n := 1) (d := 1000000001) (x := 0) (y := 0) (r := 2) (by kernel_rfl) (by decide) (by decide) (by decide) (by decide) _).mono ?_
  rintro e w7 ⟨rfl, hk⟩
  have K7 := Lib.hid (K6.out.trans hk)
  have Oa_7 := Lib.hid (Oa_6.out.step hk)
  have Ob_7 := Lib.hid (Ob_6.out.step hk)
  clear hk K6 Oa_6 Ob_6
  go_wp2_with fail
  have K8 := Lib.hid (K7.out.alloc (.cells #[.int .i64 (0), .int .i64 (0)] 24))
  have Oa_8 := Lib.hid (Oa_7.out.step ((Kept.refl _).alloc (.cells #[.int .i64 (0), .int .i64 (0)] 24)))
  have Ob_8 := Lib.hid (Ob_7.out.step ((Kept.refl _).alloc (.cells #[.int .i64 (0), .int .i64 (0)] 24)))
  clear K7 Oa_7 Ob_7
  generalize w7.heap.size = B8 at *
  generalize w7.alloc _ = w8 at *
  refine (of_any (1) 6 _).mono ?_
  rintro e w9 ⟨rfl, hk⟩
  have K9 := Lib.hid (K8.out.trans hk)
  have Oa_9 := Lib.hid (Oa_8.out.step hk)
  have Ob_9 := Lib.hid (Ob_8.out.step hk)
  clear hk K8 Oa_8 Ob_8
  go_wp2_with fail
  refine (of_any (1) 3 _).mono ?_
  rintro e w10 ⟨rfl, hk⟩
  have K10 := Lib.hid (K9.out.trans hk)
  have Oa_10 := Lib.hid (Oa_9.out.step hk)
  have Ob_10 := Lib.hid (Ob_9.out.step hk)
  clear hk K9 Oa_9 Ob_9
  go_wp2_with fail
  refine (add_at (n := 1) (d := 6) (m := 1) (o := 3) (x := 1) (y := 2) (r := 0) (by kernel_rfl) ⟨by decide, by decide, by decide, by decide⟩ ⟨by decide, by decide, by decide, by decide⟩ _).mono ?_
  rintro e w11 ⟨rfl, hk⟩
  have K11 := Lib.hid (K10.out.trans hk)
  have Oa_11 := Lib.hid (Oa_10.out.step hk)
  have Ob_11 := Lib.hid (Ob_10.out.step hk)
  clear hk K10 Oa_10 Ob_10
  go_wp2_with fail
  have K12 := Lib.hid (K11.out.alloc (.cells #[.int .i64 (1), .int .i64 (2)] 24))
  have Oa_12 := Lib.hid (Oa_11.out.step ((Kept.refl _).alloc (.cells #[.int .i64 (1), .int .i64 (2)] 24)))
  have Ob_12 := Lib.hid (Ob_11.out.step ((Kept.refl _).alloc (.cells #[.int .i64 (1), .int .i64 (2)] 24)))
  have Oc_12 : Hid (Own w (w11.alloc (.cells #[.int .i64 (1), .int .i64 (2)] 24)) w11.heap.size #[.int .i64 (1), .int .i64 (2)]) := Lib.hid (Own.made K11.out _)
  clear K11 Oa_11 Ob_11
  generalize w11.heap.size = B12 at *
  generalize w11.alloc _ = w12 at *
  refine (of_any (2) 3 _).mono ?_
  rintro e w13 ⟨rfl, hk⟩
  have K13 := Lib.hid (K12.out.trans hk)
  have Oa_13 := Lib.hid (Oa_12.out.step hk)
  have Ob_13 := Lib.hid (Ob_12.out.step hk)
  have Oc_13 := Lib.hid (Oc_12.out.step hk)
  clear hk K12 Oa_12 Ob_12 Oc_12
  go_wp2_with fail
  refine (of_any (9) 4 _).mono ?_
  rintro e w14 ⟨rfl, hk⟩
  have K14 := Lib.hid (K13.out.trans hk)
  have Oa_14 := Lib.hid (Oa_13.out.step hk)
  have Ob_14 := Lib.hid (Ob_13.out.step hk)
  have Oc_14 := Lib.hid (Oc_13.out.step hk)
  clear hk K13 Oa_13 Ob_13 Oc_13
  go_wp2_with fail
  refine (mul_at (n := 2) (d := 3) (m := 9) (o := 4) (x := 3) (y := 2) (r := 0) (by kernel_rfl) ⟨by decide, by decide, by decide, by decide⟩ ⟨by decide, by decide, by decide, by decide⟩ _).mono ?_
  rintro e w15 ⟨rfl, hk⟩
  have K15 := Lib.hid (K14.out.trans hk)
  have Oa_15 := Lib.hid (Oa_14.out.step hk)
  have Ob_15 := Lib.hid (Ob_14.out.step hk)
  have Oc_15 := Lib.hid (Oc_14.out.step hk)
  clear hk K14 Oa_14 Ob_14 Oc_14
  go_wp2_with fail
  have K16 := Lib.hid (K15.out.alloc (.cells #[.int .i64 (3), .int .i64 (2)] 24))
  have Oa_16 := Lib.hid (Oa_15.out.step ((Kept.refl _).alloc (.cells #[.int .i64 (3), .int .i64 (2)] 24)))
  have Ob_16 := Lib.hid (Ob_15.out.step ((Kept.refl _).alloc (.cells #[.int .i64 (3), .int .i64 (2)] 24)))
  have Oc_16 := Lib.hid (Oc_15.out.step ((Kept.refl _).alloc (.cells #[.int .i64 (3), .int .i64 (2)] 24)))
  have Od_16 : Hid (Own w (w15.alloc (.cells #[.int .i64 (3), .int .i64 (2)] 24)) w15.heap.size #[.int .i64 (3), .int .i64 (2)]) := Lib.hid (Own.made K15.out _)
  clear K15 Oa_15 Ob_15 Oc_15
  generalize w15.heap.size = B16 at *
  generalize w15.alloc _ = w16 at *
  refine (of_any (1) 2 _).mono ?_
  rintro e w17 ⟨rfl, hk⟩
  have K17 := Lib.hid (K16.out.trans hk)
  have Oa_17 := Lib.hid (Oa_16.out.step hk)
  have Ob_17 := Lib.hid (Ob_16.out.step hk)
  have Oc_17 := Lib.hid (Oc_16.out.step hk)
  have Od_17 := Lib.hid (Od_16.out.step hk)
  clear hk K16 Oa_16 Ob_16 Oc_16 Od_16
  go_wp2_with fail
  refine (of_any (0) 1 _).mono ?_
  rintro e w18 ⟨rfl, hk⟩
  have K18 := Lib.hid (K17.out.trans hk)
  have Oa_18 := Lib.hid (Oa_17.out.step hk)
  have Ob_18 := Lib.hid (Ob_17.out.step hk)
  have Oc_18 := Lib.hid (Oc_17.out.step hk)
  have Od_18 := Lib.hid (Od_17.out.step hk)
  clear hk K17 Oa_17 Ob_17 Oc_17 Od_17
  go_wp2_with fail
  refine (div_at (n := 1) (d := 2) (m := 0) (o := 1) (x := 0) (y := 0) (r := 1) (by kernel_rfl) ⟨by decide, by decide, by decide, by decide⟩ ⟨by decide, by decide, by decide, by decide⟩ _).mono ?_
  rintro e w19 ⟨rfl, hk⟩
  have K19 := Lib.hid (K18.out.trans hk)
  have Oa_19 := Lib.hid (Oa_18.out.step hk)
  have Ob_19 := Lib.hid (Ob_18.out.step hk)
  have Oc_19 := Lib.hid (Oc_18.out.step hk)
  have Od_19 := Lib.hid (Od_18.out.step hk)
  clear hk K18 Oa_18 Ob_18 Oc_18 Od_18
  go_wp2_with fail
  have K20 := Lib.hid (K19.out.alloc (.cells #[.int .i64 (0), .int .i64 (0)] 24))
  have Oa_20 := Lib.hid (Oa_19.out.step ((Kept.refl _).alloc (.cells #[.int .i64 (0), .int .i64 (0)] 24)))
  have Ob_20 := Lib.hid (Ob_19.out.step ((Kept.refl _).alloc (.cells #[.int .i64 (0), .int .i64 (0)] 24)))
  have Oc_20 := Lib.hid (Oc_19.out.step ((Kept.refl _).alloc (.cells #[.int .i64 (0), .int .i64 (0)] 24)))
  have Od_20 := Lib.hid (Od_19.out.step ((Kept.refl _).alloc (.cells #[.int .i64 (0), .int .i64 (0)] 24)))
  clear K19 Oa_19 Ob_19 Oc_19 Od_19
  generalize w19.heap.size = B20 at *
  generalize w19.alloc _ = w20 at *
  refine (parse_42 _ (EN.out.kept K20.out)).mono ?_
  rintro e w21 ⟨rfl, hk⟩
  have K21 := Lib.hid (K20.out.trans hk)
  have Oa_21 := Lib.hid (Oa_20.out.step hk)
  have Ob_21 := Lib.hid (Ob_20.out.step hk)
  have Oc_21 := Lib.hid (Oc_20.out.step hk)
  have Od_21 := Lib.hid (Od_20.out.step hk)
  clear hk K20 Oa_20 Ob_20 Oc_20 Od_20
  go_wp2_with fail
  have K22 := Lib.hid (K21.out.alloc (.cells #[.int .i64 (0), .int .i64 (0)] 24))
  have Oa_22 := Lib.hid (Oa_21.out.step ((Kept.refl _).alloc (.cells #[.int .i64 (0), .int .i64 (0)] 24)))
  have Ob_22 := Lib.hid (Ob_21.out.step ((Kept.refl _).alloc (.cells #[.int .i64 (0), .int .i64 (0)] 24)))
  have Oc_22 := Lib.hid (Oc_21.out.step ((Kept.refl _).alloc (.cells #[.int .i64 (0), .int .i64 (0)] 24)))
  have Od_22 := Lib.hid (Od_21.out.step ((Kept.refl _).alloc (.cells #[.int .i64 (0), .int .i64 (0)] 24)))
  clear K21 Oa_21 Ob_21 Oc_21 Od_21
  generalize w21.heap.size = B22 at *
  generalize w21.alloc _ = w22 at *
  have f0 := Lib.hid (show Kept w w22.drew ∧ w22.drew.cell? ⟨B2, 0, none⟩ = some (.int .i64 (-3)) ∧ w22.drew.cell? ⟨B2, 1, none⟩ = some (.int .i64 (2)) ∧ w22.drew.cell? ⟨B4, 0, none⟩ = some (.int .i64 (0)) ∧ w22.drew.cell? ⟨B4, 1, none⟩ = some (.int .i64 (1)) ∧ w22.drew.cell? ⟨B12, 0, none⟩ = some (.int .i64 (1)) ∧ w22.drew.cell? ⟨B12, 1, none⟩ = some (.int .i64 (2)) ∧ w22.drew.cell? ⟨B16, 0, none⟩ = some (.int .i64 (3)) ∧ w22.drew.cell? ⟨B16, 1, none⟩ = some (.int .i64 (2)) from ⟨K22.out.drew, Oa_22.out.cell 0, Oa_22.out.cell 1, Ob_22.out.cell 0, Ob_22.out.cell 1, Oc_22.out.cell 0, Oc_22.out.cell 1, Od_22.out.cell 0, Od_22.out.cell 1⟩)
  clear K22 Oa_22 Ob_22 Oc_22 Od_22
  go_region_held3 (fun wx => Kept w wx ∧ wx.cell? ⟨B2, 0, none⟩ = some (.int .i64 (-3)) ∧ wx.cell? ⟨B2, 1, none⟩ = some (.int .i64 (2)) ∧ wx.cell? ⟨B4, 0, none⟩ = some (.int .i64 (0)) ∧ wx.cell? ⟨B4, 1, none⟩ = some (.int .i64 (1)) ∧ wx.cell? ⟨B12, 0, none⟩ = some (.int .i64 (1)) ∧ wx.cell? ⟨B12, 1, none⟩ = some (.int .i64 (2)) ∧ wx.cell? ⟨B16, 0, none⟩ = some (.int .i64 (3)) ∧ wx.cell? ⟨B16, 1, none⟩ = some (.int .i64 (2)))
    (first | exact f0.out | exact eight_kept (by assumption) hk)
    (first | (go_at_call 19; refine (of_any _ _ _).mono ?_; rintro e wy ⟨rfl, hk⟩))
  rename_i hS
  clear f0 hk
  have f0 := Lib.hid (eight_kept hS (Kept.refl wy).drew)
  clear hS
  go_wp2_with fail
  go_region_held3 (fun wx => Kept w wx ∧ wx.cell? ⟨B2, 0, none⟩ = some (.int .i64 (-3)) ∧ wx.cell? ⟨B2, 1, none⟩ = some (.int .i64 (2)) ∧ wx.cell? ⟨B4, 0, none⟩ = some (.int .i64 (0)) ∧ wx.cell? ⟨B4, 1, none⟩ = some (.int .i64 (1)) ∧ wx.cell? ⟨B12, 0, none⟩ = some (.int .i64 (1)) ∧ wx.cell? ⟨B12, 1, none⟩ = some (.int .i64 (2)) ∧ wx.cell? ⟨B16, 0, none⟩ = some (.int .i64 (3)) ∧ wx.cell? ⟨B16, 1, none⟩ = some (.int .i64 (2)))
    (first | exact f0.out | exact eight_kept (by assumption) hk)
    (first | (go_at_call 19; refine (of_any _ _ _).mono ?_; rintro e wz ⟨rfl, hk⟩))
  rename_i hS
  have K23 := Lib.hid hS.1
  clear f0 hk hS
  generalize wz = w23 at *

  go_wp2_with fail
  refine (of_any (-3) 2 _).mono ?_
  rintro e w24 ⟨rfl, hk⟩
  have K24 := Lib.hid (K23.out.trans hk)
  clear hk K23
  go_wp2_with fail
  refine (text_32 _ (EN.out.kept K24.out)).mono ?_
  rintro e w25 ⟨rfl, hk⟩
  have K25 := Lib.hid (K24.out.trans hk)
  clear hk K24
  go_wp2_with fail
  refine (of_any (-3) 2 _).mono ?_
  rintro e w26 ⟨rfl, hk⟩
  have K26 := Lib.hid (K25.out.trans hk)
  clear hk K25
  go_wp2_with fail
  refine (valid_at (n := -3) (d := 2) (b := true) (by kernel_rfl) ⟨by decide, by decide, by decide, by decide⟩ _).mono ?_
  rintro e w27 ⟨rfl, hk⟩
  have K27 := Lib.hid (K26.out.trans hk)
  clear hk K26
  go_wp2_with fail
  refine (of_any (2) 4 _).mono ?_
  rintro e w28 ⟨rfl, hk⟩
  have K28 := Lib.hid (K27.out.trans hk)
  clear hk K27
  go_wp2_with fail
  refine (valid_at (n := 2) (d := 4) (b := false) (by kernel_rfl) ⟨by decide, by decide, by decide, by decide⟩ _).mono ?_
  rintro e w29 ⟨rfl, hk⟩
  have K29 := Lib.hid (K28.out.trans hk)
  clear hk K28
  go_wp2_with fail
  refine (of_any (1) 3 _).mono ?_
  rintro e w30 ⟨rfl, hk⟩
  have K30 := Lib.hid (K29.out.trans hk)
  clear hk K29
  go_wp2_with fail
  refine (of_any (1) 2 _).mono ?_
  rintro e w31 ⟨rfl, hk⟩
  have K31 := Lib.hid (K30.out.trans hk)
  clear hk K30
  go_wp2_with fail
  refine (cmp_at (n := 1) (d := 3) (m := 1) (o := 2) (r := -1) (by kernel_rfl) ⟨by decide, by decide, by decide, by decide⟩ ⟨by decide, by decide, by decide, by decide⟩ _).mono ?_
  rintro e w32 ⟨rfl, hk⟩
  have K32 := Lib.hid (K31.out.trans hk)
  clear hk K31
  go_wp2_with fail
  go_ret
  exact ⟨rfl, K32.out⟩
end Go.Proofs.YtacjgkpncdnbgaaDoor
