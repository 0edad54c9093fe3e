/-
  The law RatioMatchesReference, walked. Its condition: the library's variables are as the program's start leaves them.
-/
import Derived.Test.YtacjgkpncdnbgaaDoorX8
import Derived.Test.YtacjgkpncdnbgaaDoorE6
import Derived.Deep.RegionHeld3
import Derived.Deep.DeepCutAuto
namespace Go.Proofs.YtacjgkpncdnbgaaDoor
open Go.RowKit

structure XB (w : World) (B : Nat) (n m : Int) (s : ByteArray) : Prop where
  c0 : w.cell? ⟨B, 0, none⟩ = some (.int .i64 n)
  c1 : w.cell? ⟨B, 1, none⟩ = some (.int .i64 m)
  c2 : w.cell? ⟨B, 2, none⟩ = some (.string s)
theorem XB.step {w w' : World} {B : Nat} {n m : Int} {s : ByteArray} (h : XB w B n m s) (k : Kept w w') : XB w' B n m s := ⟨k.cell h.c0, k.cell h.c1, k.cell h.c2⟩
theorem boxes (w : World) (x y : Array Value) (n m : Int) (s : ByteArray) :
    Hid (Own w (((w.alloc (.cells x 24)).alloc (.cells y 24)).alloc (.cells #[.int .i64 n, .int .i64 m, .string s] 41)) w.heap.size x ∧
      Own w (((w.alloc (.cells x 24)).alloc (.cells y 24)).alloc (.cells #[.int .i64 n, .int .i64 m, .string s] 41)) (w.heap.size + 1) y ∧
      XB (((w.alloc (.cells x 24)).alloc (.cells y 24)).alloc (.cells #[.int .i64 n, .int .i64 m, .string s] 41)) (w.heap.size + 1 + 1) n m s) :=
  Lib.hid ⟨((Own.at (Kept.refl w) x rfl).step ((Kept.refl _).alloc _)).step ((Kept.refl _).alloc _), (Own.at ((Kept.refl w).alloc _) y (by simp)).step ((Kept.refl _).alloc _),
    ⟨by go_simp, by go_simp, by go_simp⟩⟩
theorem held_kept {w wx : World} {P : Prop} (h : Kept w wx ∧ P) : Kept w wx := h.1
theorem radd_at {n d m o x y r : Int} (h : addR ⟨n, d⟩ ⟨m, o⟩ = (⟨x, y⟩, r)) (ha : (Q.mk n d).wf) (hb : (Q.mk m o).wf) (w : World) :
    Calls Tryd.prog 23 #[.agg #[.int .i64 n, .int .i64 d], .agg #[.int .i64 m, .int .i64 o]] w fun e w' => e = .returned (.tuple #[.agg #[.int .i64 x, .int .i64 y], .int .i64 r]) ∧ Kept w w' := by
  have := radd_any ⟨n, d⟩ ⟨m, o⟩ ha hb w
  rw [h] at this
  exact this
theorem rsub_at {n d m o x y r : Int} (h : subR ⟨n, d⟩ ⟨m, o⟩ = (⟨x, y⟩, r)) (ha : (Q.mk n d).wf) (hb : (Q.mk m o).wf) (w : World) :
    Calls Tryd.prog 25 #[.agg #[.int .i64 n, .int .i64 d], .agg #[.int .i64 m, .int .i64 o]] w fun e w' => e = .returned (.tuple #[.agg #[.int .i64 x, .int .i64 y], .int .i64 r]) ∧ Kept w w' := by
  have := rsub_any ⟨n, d⟩ ⟨m, o⟩ ha hb w
  rw [h] at this
  exact this
theorem rmul_at {n d m o x y r : Int} (h : mulR ⟨n, d⟩ ⟨m, o⟩ = (⟨x, y⟩, r)) (ha : (Q.mk n d).wf) (hb : (Q.mk m o).wf) (w : World) :
    Calls Tryd.prog 26 #[.agg #[.int .i64 n, .int .i64 d], .agg #[.int .i64 m, .int .i64 o]] w fun e w' => e = .returned (.tuple #[.agg #[.int .i64 x, .int .i64 y], .int .i64 r]) ∧ Kept w w' := by
  have := rmul_any ⟨n, d⟩ ⟨m, o⟩ ha hb w
  rw [h] at this
  exact this
theorem rdiv_at {n d m o x y r : Int} (h : divR ⟨n, d⟩ ⟨m, o⟩ = (⟨x, y⟩, r)) (ha : (Q.mk n d).wf) (hb : (Q.mk m o).wf) (w : World) :
    Calls Tryd.prog 27 #[.agg #[.int .i64 n, .int .i64 d], .agg #[.int .i64 m, .int .i64 o]] w fun e w' => e = .returned (.tuple #[.agg #[.int .i64 x, .int .i64 y], .int .i64 r]) ∧ Kept w w' := by
  have := rdiv_any ⟨n, d⟩ ⟨m, o⟩ ha hb w
  rw [h] at this
  exact this
theorem rmk_at {n d x y r : Int} (h : makeR n d = (⟨x, y⟩, r)) (hw : (Q.mk n d).wf) (w : World) :
    Calls Tryd.prog 21 #[.int .i64 n, .int .i64 d] w fun e w' => e = .returned (.tuple #[.agg #[.int .i64 x, .int .i64 y], .int .i64 r]) ∧ Kept w w' := by
  have := rmake_any n d hw.n1 hw.n2 hw.d1 hw.d2 w
  rw [h] at this
  exact this
theorem rparse_at {s : ByteArray} {x y r : Int} (h : parseR s = (⟨x, y⟩, r)) (hs : s.size ≤ 1000) (w : World) :
    Calls Tryd.prog 22 #[.string s] w fun e w' => e = .returned (.tuple #[.agg #[.int .i64 x, .int .i64 y], .int .i64 r]) ∧ Kept w w' := by
  have := rparse_any s hs w
  rw [rparse_same, h] at this
  exact this
theorem rvalid_at {n d : Int} {b : Bool} (h : (Q.mk n d).valid = b) (ha : (Q.mk n d).wf) (w : World) :
    Calls Tryd.prog 28 #[.agg #[.int .i64 n, .int .i64 d]] w fun e w' => e = .returned (.bool b) ∧ Kept w w' := by
  have := rvalid_any ⟨n, d⟩ ha w
  rw [h] at this
  exact this
theorem rcmp_at {n d m o r : Int} (h : cmpR ⟨n, d⟩ ⟨m, o⟩ = r) (ha : (Q.mk n d).wf) (hb : (Q.mk m o).wf) (w : World) :
    Calls Tryd.prog 29 #[.agg #[.int .i64 n, .int .i64 d], .agg #[.int .i64 m, .int .i64 o]] w fun e w' => e = .returned (.int .i64 r) ∧ Kept w w' := by
  have := rcmp_any ⟨n, d⟩ ⟨m, o⟩ ha hb w
  rw [h] at this
  exact this
theorem rtext_at {n d : Int} {t : ByteArray} (h : strOf (textL ⟨n, d⟩) = t) (ha : (Q.mk n d).wf) (w : World) :
    Calls Tryd.prog 30 #[.agg #[.int .i64 n, .int .i64 d]] w fun e w' => e = .returned (.string t) ∧ Kept w w' := by
  have := rtext_any ⟨n, d⟩ ha w
  rw [h] at this
  exact this

set_option maxRecDepth 100000 in
set_option maxHeartbeats 8000000 in
theorem ratioMatchesReference_walk (a : Q) (ha : a.wf) (b : Q) (hb : b.wf) (i j : Int) (s : ByteArray) (hij : (Q.mk i j).wf) (hmax : s.size ≤ 9223372036854775807) (w : World) (hE : Env w) :
    Calls Tryd.prog 7 #[a.val, b.val, .agg #[.int .i64 i, .int .i64 j, .string s]] w fun e w' => e = .returned (.bool true) ∧ Kept w w' := by
  have O := boxes w #[.int .i64 a.n, .int .i64 a.d] #[.int .i64 b.n, .int .i64 b.d] i j s
  have EN := Lib.hid hE
  obtain ⟨n, d⟩ := a
  obtain ⟨m, o⟩ := b
  unfold Q.val
  dsimp only at O ⊢
  clear hE
  go_enter Tryd.func7, Tryd.ntmps7
  go_wp2_with fail
  have Oa_0 := Lib.hid O.out.1
  have Ob_0 := Lib.hid O.out.2.1
  have X0 := Lib.hid O.out.2.2
  have K0 := Lib.hid O.out.1.kept
  clear O
  generalize w.heap.size = Ba at *
  generalize hgen : ((w.alloc _).alloc _).alloc _ = w0 at *
  clear hgen
  refine (head_any _ (EN.out.kept K0.out)).mono ?_
  rintro e w1 ⟨rfl, hk⟩
  have K1 := Lib.hid (K0.out.trans hk)
  have Oa_1 := Lib.hid (Oa_0.out.step hk)
  have Ob_1 := Lib.hid (Ob_0.out.step hk)
  clear K0 Oa_0 Ob_0
  have X1 := Lib.hid (X0.out.step hk)
  clear X0
  clear hk
  by_cases hl : 1000 < s.size
  · have cx0 := X1.out.c0
    have cx1 := X1.out.c1
    have cx2 := X1.out.c2
    go_wp2_with fail
    go_ret
    exact ⟨rfl, K1.out⟩
  · have hl' : s.size ≤ 1000 := by omega
    obtain ⟨⟨⟨px, py⟩, pe⟩, ph⟩ : ∃ r, makeR i j = r := ⟨_, rfl⟩
    obtain ⟨⟨⟨qx, qy⟩, qe⟩, qh⟩ : ∃ r, parseR s = r := ⟨_, rfl⟩
    obtain ⟨⟨⟨ax, ay⟩, ae⟩, ah⟩ : ∃ r, addR ⟨n, d⟩ ⟨m, o⟩ = r := ⟨_, rfl⟩
    obtain ⟨⟨⟨sx, sy⟩, se⟩, sh⟩ : ∃ r, subR ⟨n, d⟩ ⟨m, o⟩ = r := ⟨_, rfl⟩
    obtain ⟨⟨⟨mx, my⟩, me⟩, mh⟩ : ∃ r, mulR ⟨n, d⟩ ⟨m, o⟩ = r := ⟨_, rfl⟩
    obtain ⟨⟨⟨dx, dy⟩, de⟩, dh⟩ : ∃ r, divR ⟨n, d⟩ ⟨m, o⟩ = r := ⟨_, rfl⟩
    obtain ⟨AV, hav⟩ : ∃ r, (Q.mk n d).valid = r := ⟨_, rfl⟩
    obtain ⟨CR, hcr⟩ : ∃ r, cmpR ⟨n, d⟩ ⟨m, o⟩ = r := ⟨_, rfl⟩
    obtain ⟨T, hT⟩ : ∃ T, strOf (textL ⟨n, d⟩) = T := ⟨_, rfl⟩
    have PH := Lib.hid ph
    have QH := Lib.hid qh
    have AH := Lib.hid ah
    have SH := Lib.hid sh
    have MH := Lib.hid mh
    have DH := Lib.hid dh
    have AV' := Lib.hid hav
    have CR' := Lib.hid hcr
    have TT := Lib.hid hT
    clear ph qh ah sh mh dh hav hcr hT
    have cx0 := X1.out.c0
    have cx1 := X1.out.c1
    have cx2 := X1.out.c2
    go_wp2_with fail
    refine (mk_at PH.out hij.n1 hij.n2 hij.d1 hij.d2 _).mono ?_
    rintro e w2 ⟨rfl, hk⟩
    clear cx0 cx1 cx2
    have K2 := Lib.hid (K1.out.trans hk)
    have Oa_2 := Lib.hid (Oa_1.out.step hk)
    have Ob_2 := Lib.hid (Ob_1.out.step hk)
    clear K1 Oa_1 Ob_1
    have X2 := Lib.hid (X1.out.step hk)
    clear X1
    clear hk
    have Np1 := Lib.hid (Own.made K2.out #[.int .i64 (px), .int .i64 (py)])
    have K3 := Lib.hid (K2.out.trans ((Kept.refl w2).alloc (.cells #[.int .i64 (px), .int .i64 (py)] 24)))
    have Oa_3 := Lib.hid (Oa_2.out.step ((Kept.refl w2).alloc (.cells #[.int .i64 (px), .int .i64 (py)] 24)))
    have Ob_3 := Lib.hid (Ob_2.out.step ((Kept.refl w2).alloc (.cells #[.int .i64 (px), .int .i64 (py)] 24)))
    clear K2 Oa_2 Ob_2
    have X3 := Lib.hid (X2.out.step ((Kept.refl w2).alloc (.cells #[.int .i64 (px), .int .i64 (py)] 24)))
    clear X2
    have Op1_3 := Np1
    clear Np1
    have cx0 := X3.out.c0
    have cx1 := X3.out.c1
    have cx2 := X3.out.c2
    go_wp2_with fail
    clear cx0 cx1 cx2
    generalize w2.heap.size = Bp1 at *
    generalize w2.alloc _ = w3 at *
    refine (rmk_at PH.out hij _).mono ?_
    rintro e w4 ⟨rfl, hk⟩
    have K4 := Lib.hid (K3.out.trans hk)
    have Oa_4 := Lib.hid (Oa_3.out.step hk)
    have Ob_4 := Lib.hid (Ob_3.out.step hk)
    have Op1_4 := Lib.hid (Op1_3.out.step hk)
    clear K3 Oa_3 Ob_3 Op1_3
    have X4 := Lib.hid (X3.out.step hk)
    clear X3
    clear hk
    have Np2 := Lib.hid (Own.made K4.out #[.int .i64 (px), .int .i64 (py)])
    have K5 := Lib.hid (K4.out.trans ((Kept.refl w4).alloc (.cells #[.int .i64 (px), .int .i64 (py)] 24)))
    have Oa_5 := Lib.hid (Oa_4.out.step ((Kept.refl w4).alloc (.cells #[.int .i64 (px), .int .i64 (py)] 24)))
    have Ob_5 := Lib.hid (Ob_4.out.step ((Kept.refl w4).alloc (.cells #[.int .i64 (px), .int .i64 (py)] 24)))
    have Op1_5 := Lib.hid (Op1_4.out.step ((Kept.refl w4).alloc (.cells #[.int .i64 (px), .int .i64 (py)] 24)))
    clear K4 Oa_4 Ob_4 Op1_4
    have X5 := Lib.hid (X4.out.step ((Kept.refl w4).alloc (.cells #[.int .i64 (px), .int .i64 (py)] 24)))
    clear X4
    have Op2_5 := Np2
    clear Np2
    have cx0 := X5.out.c0
    have cx1 := X5.out.c1
    have cx2 := X5.out.c2
    go_wp2_with fail
    clear cx0 cx1 cx2
    generalize w4.heap.size = Bp2 at *
    generalize w4.alloc _ = w5 at *
    refine (parse_at QH.out hl' _ (EN.out.kept K5.out)).mono ?_
    rintro e w6 ⟨rfl, hk⟩
    have K6 := Lib.hid (K5.out.trans hk)
    have Oa_6 := Lib.hid (Oa_5.out.step hk)
    have Ob_6 := Lib.hid (Ob_5.out.step hk)
    have Op1_6 := Lib.hid (Op1_5.out.step hk)
    have Op2_6 := Lib.hid (Op2_5.out.step hk)
    clear K5 Oa_5 Ob_5 Op1_5 Op2_5
    have X6 := Lib.hid (X5.out.step hk)
    clear X5
    clear hk
    have Nq1 := Lib.hid (Own.made K6.out #[.int .i64 (qx), .int .i64 (qy)])
    have K7 := Lib.hid (K6.out.trans ((Kept.refl w6).alloc (.cells #[.int .i64 (qx), .int .i64 (qy)] 24)))
    have Oa_7 := Lib.hid (Oa_6.out.step ((Kept.refl w6).alloc (.cells #[.int .i64 (qx), .int .i64 (qy)] 24)))
    have Ob_7 := Lib.hid (Ob_6.out.step ((Kept.refl w6).alloc (.cells #[.int .i64 (qx), .int .i64 (qy)] 24)))
    have Op1_7 := Lib.hid (Op1_6.out.step ((Kept.refl w6).alloc (.cells #[.int .i64 (qx), .int .i64 (qy)] 24)))
    have Op2_7 := Lib.hid (Op2_6.out.step ((Kept.refl w6).alloc (.cells #[.int .i64 (qx), .int .i64 (qy)] 24)))
    clear K6 Oa_6 Ob_6 Op1_6 Op2_6
    have X7 := Lib.hid (X6.out.step ((Kept.refl w6).alloc (.cells #[.int .i64 (qx), .int .i64 (qy)] 24)))
    clear X6
    have Oq1_7 := Nq1
    clear Nq1
    have cx0 := X7.out.c0
    have cx1 := X7.out.c1
    have cx2 := X7.out.c2
    go_wp2_with fail
    clear cx0 cx1 cx2
    generalize w6.heap.size = Bq1 at *
    generalize w6.alloc _ = w7 at *
    refine (rparse_at QH.out hl' _).mono ?_
    rintro e w8 ⟨rfl, hk⟩
    have K8 := Lib.hid (K7.out.trans hk)
    have Oa_8 := Lib.hid (Oa_7.out.step hk)
    have Ob_8 := Lib.hid (Ob_7.out.step hk)
    have Op1_8 := Lib.hid (Op1_7.out.step hk)
    have Op2_8 := Lib.hid (Op2_7.out.step hk)
    have Oq1_8 := Lib.hid (Oq1_7.out.step hk)
    clear K7 Oa_7 Ob_7 Op1_7 Op2_7 Oq1_7
    have X8 := Lib.hid (X7.out.step hk)
    clear X7
    clear hk
    have Nq2 := Lib.hid (Own.made K8.out #[.int .i64 (qx), .int .i64 (qy)])
    have K9 := Lib.hid (K8.out.trans ((Kept.refl w8).alloc (.cells #[.int .i64 (qx), .int .i64 (qy)] 24)))
    have Oa_9 := Lib.hid (Oa_8.out.step ((Kept.refl w8).alloc (.cells #[.int .i64 (qx), .int .i64 (qy)] 24)))
    have Ob_9 := Lib.hid (Ob_8.out.step ((Kept.refl w8).alloc (.cells #[.int .i64 (qx), .int .i64 (qy)] 24)))
    have Op1_9 := Lib.hid (Op1_8.out.step ((Kept.refl w8).alloc (.cells #[.int .i64 (qx), .int .i64 (qy)] 24)))
    have Op2_9 := Lib.hid (Op2_8.out.step ((Kept.refl w8).alloc (.cells #[.int .i64 (qx), .int .i64 (qy)] 24)))
    have Oq1_9 := Lib.hid (Oq1_8.out.step ((Kept.refl w8).alloc (.cells #[.int .i64 (qx), .int .i64 (qy)] 24)))
    clear K8 Oa_8 Ob_8 Op1_8 Op2_8 Oq1_8
    have X9 := Lib.hid (X8.out.step ((Kept.refl w8).alloc (.cells #[.int .i64 (qx), .int .i64 (qy)] 24)))
    clear X8
    have Oq2_9 := Nq2
    clear Nq2
    have ca0 := Oa_9.out.cell 0
    have ca1 := Oa_9.out.cell 1
    have cb0 := Ob_9.out.cell 0
    have cb1 := Ob_9.out.cell 1
    have cp10 := Op1_9.out.cell 0
    have cp11 := Op1_9.out.cell 1
    have cp20 := Op2_9.out.cell 0
    have cp21 := Op2_9.out.cell 1
    have cq10 := Oq1_9.out.cell 0
    have cq11 := Oq1_9.out.cell 1
    have cq20 := Oq2_9.out.cell 0
    have cq21 := Oq2_9.out.cell 1
    go_wp2_with fail
    clear ca0 ca1 cb0 cb1 cp10 cp11 cp20 cp21 cq10 cq11 cq20 cq21
    generalize w8.heap.size = Bq2 at *
    generalize w8.alloc _ = w9 at *
    refine (add_at AH.out ha hb _).mono ?_
    rintro e w10 ⟨rfl, hk⟩
    have K10 := Lib.hid (K9.out.trans hk)
    have Oa_10 := Lib.hid (Oa_9.out.step hk)
    have Ob_10 := Lib.hid (Ob_9.out.step hk)
    have Op1_10 := Lib.hid (Op1_9.out.step hk)
    have Op2_10 := Lib.hid (Op2_9.out.step hk)
    have Oq1_10 := Lib.hid (Oq1_9.out.step hk)
    have Oq2_10 := Lib.hid (Oq2_9.out.step hk)
    clear K9 Oa_9 Ob_9 Op1_9 Op2_9 Oq1_9 Oq2_9
    have X10 := Lib.hid (X9.out.step hk)
    clear X9
    clear hk
    have Na1 := Lib.hid (Own.made K10.out #[.int .i64 (ax), .int .i64 (ay)])
    have K11 := Lib.hid (K10.out.trans ((Kept.refl w10).alloc (.cells #[.int .i64 (ax), .int .i64 (ay)] 24)))
    have Oa_11 := Lib.hid (Oa_10.out.step ((Kept.refl w10).alloc (.cells #[.int .i64 (ax), .int .i64 (ay)] 24)))
    have Ob_11 := Lib.hid (Ob_10.out.step ((Kept.refl w10).alloc (.cells #[.int .i64 (ax), .int .i64 (ay)] 24)))
    have Op1_11 := Lib.hid (Op1_10.out.step ((Kept.refl w10).alloc (.cells #[.int .i64 (ax), .int .i64 (ay)] 24)))
    have Op2_11 := Lib.hid (Op2_10.out.step ((Kept.refl w10).alloc (.cells #[.int .i64 (ax), .int .i64 (ay)] 24)))
    have Oq1_11 := Lib.hid (Oq1_10.out.step ((Kept.refl w10).alloc (.cells #[.int .i64 (ax), .int .i64 (ay)] 24)))
    have Oq2_11 := Lib.hid (Oq2_10.out.step ((Kept.refl w10).alloc (.cells #[.int .i64 (ax), .int .i64 (ay)] 24)))
    clear K10 Oa_10 Ob_10 Op1_10 Op2_10 Oq1_10 Oq2_10
    have X11 := Lib.hid (X10.out.step ((Kept.refl w10).alloc (.cells #[.int .i64 (ax), .int .i64 (ay)] 24)))
    clear X10
    have Oa1_11 := Na1
    clear Na1
    have ca0 := Oa_11.out.cell 0
    have ca1 := Oa_11.out.cell 1
    have cb0 := Ob_11.out.cell 0
    have cb1 := Ob_11.out.cell 1
    go_wp2_with fail
    clear ca0 ca1 cb0 cb1
    generalize w10.heap.size = Ba1 at *
    generalize w10.alloc _ = w11 at *
    refine (radd_at AH.out ha hb _).mono ?_
    rintro e w12 ⟨rfl, hk⟩
    have K12 := Lib.hid (K11.out.trans hk)
    have Oa_12 := Lib.hid (Oa_11.out.step hk)
    have Ob_12 := Lib.hid (Ob_11.out.step hk)
    have Op1_12 := Lib.hid (Op1_11.out.step hk)
    have Op2_12 := Lib.hid (Op2_11.out.step hk)
    have Oq1_12 := Lib.hid (Oq1_11.out.step hk)
    have Oq2_12 := Lib.hid (Oq2_11.out.step hk)
    have Oa1_12 := Lib.hid (Oa1_11.out.step hk)
    clear K11 Oa_11 Ob_11 Op1_11 Op2_11 Oq1_11 Oq2_11 Oa1_11
    have X12 := Lib.hid (X11.out.step hk)
    clear X11
    clear hk
    have Na2 := Lib.hid (Own.made K12.out #[.int .i64 (ax), .int .i64 (ay)])
    have K13 := Lib.hid (K12.out.trans ((Kept.refl w12).alloc (.cells #[.int .i64 (ax), .int .i64 (ay)] 24)))
    have Oa_13 := Lib.hid (Oa_12.out.step ((Kept.refl w12).alloc (.cells #[.int .i64 (ax), .int .i64 (ay)] 24)))
    have Ob_13 := Lib.hid (Ob_12.out.step ((Kept.refl w12).alloc (.cells #[.int .i64 (ax), .int .i64 (ay)] 24)))
    have Op1_13 := Lib.hid (Op1_12.out.step ((Kept.refl w12).alloc (.cells #[.int .i64 (ax), .int .i64 (ay)] 24)))
    have Op2_13 := Lib.hid (Op2_12.out.step ((Kept.refl w12).alloc (.cells #[.int .i64 (ax), .int .i64 (ay)] 24)))
    have Oq1_13 := Lib.hid (Oq1_12.out.step ((Kept.refl w12).alloc (.cells #[.int .i64 (ax), .int .i64 (ay)] 24)))
    have Oq2_13 := Lib.hid (Oq2_12.out.step ((Kept.refl w12).alloc (.cells #[.int .i64 (ax), .int .i64 (ay)] 24)))
    have Oa1_13 := Lib.hid (Oa1_12.out.step ((Kept.refl w12).alloc (.cells #[.int .i64 (ax), .int .i64 (ay)] 24)))
    clear K12 Oa_12 Ob_12 Op1_12 Op2_12 Oq1_12 Oq2_12 Oa1_12
    have X13 := Lib.hid (X12.out.step ((Kept.refl w12).alloc (.cells #[.int .i64 (ax), .int .i64 (ay)] 24)))
    clear X12
    have Oa2_13 := Na2
    clear Na2
    have ca0 := Oa_13.out.cell 0
    have ca1 := Oa_13.out.cell 1
    have cb0 := Ob_13.out.cell 0
    have cb1 := Ob_13.out.cell 1
    go_wp2_with fail
    clear ca0 ca1 cb0 cb1
    generalize w12.heap.size = Ba2 at *
    generalize w12.alloc _ = w13 at *
    refine (sub_at SH.out ha hb _).mono ?_
    rintro e w14 ⟨rfl, hk⟩
    have K14 := Lib.hid (K13.out.trans hk)
    have Oa_14 := Lib.hid (Oa_13.out.step hk)
    have Ob_14 := Lib.hid (Ob_13.out.step hk)
    have Op1_14 := Lib.hid (Op1_13.out.step hk)
    have Op2_14 := Lib.hid (Op2_13.out.step hk)
    have Oq1_14 := Lib.hid (Oq1_13.out.step hk)
    have Oq2_14 := Lib.hid (Oq2_13.out.step hk)
    have Oa1_14 := Lib.hid (Oa1_13.out.step hk)
    have Oa2_14 := Lib.hid (Oa2_13.out.step hk)
    clear K13 Oa_13 Ob_13 Op1_13 Op2_13 Oq1_13 Oq2_13 Oa1_13 Oa2_13
    have X14 := Lib.hid (X13.out.step hk)
    clear X13
    clear hk
    have Ns1 := Lib.hid (Own.made K14.out #[.int .i64 (sx), .int .i64 (sy)])
    have K15 := Lib.hid (K14.out.trans ((Kept.refl w14).alloc (.cells #[.int .i64 (sx), .int .i64 (sy)] 24)))
    have Oa_15 := Lib.hid (Oa_14.out.step ((Kept.refl w14).alloc (.cells #[.int .i64 (sx), .int .i64 (sy)] 24)))
    have Ob_15 := Lib.hid (Ob_14.out.step ((Kept.refl w14).alloc (.cells #[.int .i64 (sx), .int .i64 (sy)] 24)))
    have Op1_15 := Lib.hid (Op1_14.out.step ((Kept.refl w14).alloc (.cells #[.int .i64 (sx), .int .i64 (sy)] 24)))
    have Op2_15 := Lib.hid (Op2_14.out.step ((Kept.refl w14).alloc (.cells #[.int .i64 (sx), .int .i64 (sy)] 24)))
    have Oq1_15 := Lib.hid (Oq1_14.out.step ((Kept.refl w14).alloc (.cells #[.int .i64 (sx), .int .i64 (sy)] 24)))
    have Oq2_15 := Lib.hid (Oq2_14.out.step ((Kept.refl w14).alloc (.cells #[.int .i64 (sx), .int .i64 (sy)] 24)))
    have Oa1_15 := Lib.hid (Oa1_14.out.step ((Kept.refl w14).alloc (.cells #[.int .i64 (sx), .int .i64 (sy)] 24)))
    have Oa2_15 := Lib.hid (Oa2_14.out.step ((Kept.refl w14).alloc (.cells #[.int .i64 (sx), .int .i64 (sy)] 24)))
    clear K14 Oa_14 Ob_14 Op1_14 Op2_14 Oq1_14 Oq2_14 Oa1_14 Oa2_14
    have X15 := Lib.hid (X14.out.step ((Kept.refl w14).alloc (.cells #[.int .i64 (sx), .int .i64 (sy)] 24)))
    clear X14
    have Os1_15 := Ns1
    clear Ns1
    have ca0 := Oa_15.out.cell 0
    have ca1 := Oa_15.out.cell 1
    have cb0 := Ob_15.out.cell 0
    have cb1 := Ob_15.out.cell 1
    go_wp2_with fail
    clear ca0 ca1 cb0 cb1
    generalize w14.heap.size = Bs1 at *
    generalize w14.alloc _ = w15 at *
    refine (rsub_at SH.out ha hb _).mono ?_
    rintro e w16 ⟨rfl, hk⟩
    have K16 := Lib.hid (K15.out.trans hk)
    have Oa_16 := Lib.hid (Oa_15.out.step hk)
    have Ob_16 := Lib.hid (Ob_15.out.step hk)
    have Op1_16 := Lib.hid (Op1_15.out.step hk)
    have Op2_16 := Lib.hid (Op2_15.out.step hk)
    have Oq1_16 := Lib.hid (Oq1_15.out.step hk)
    have Oq2_16 := Lib.hid (Oq2_15.out.step hk)
    have Oa1_16 := Lib.hid (Oa1_15.out.step hk)
    have Oa2_16 := Lib.hid (Oa2_15.out.step hk)
    have Os1_16 := Lib.hid (Os1_15.out.step hk)
    clear K15 Oa_15 Ob_15 Op1_15 Op2_15 Oq1_15 Oq2_15 Oa1_15 Oa2_15 Os1_15
    have X16 := Lib.hid (X15.out.step hk)
    clear X15
    clear hk
    have Ns2 := Lib.hid (Own.made K16.out #[.int .i64 (sx), .int .i64 (sy)])
    have K17 := Lib.hid (K16.out.trans ((Kept.refl w16).alloc (.cells #[.int .i64 (sx), .int .i64 (sy)] 24)))
    have Oa_17 := Lib.hid (Oa_16.out.step ((Kept.refl w16).alloc (.cells #[.int .i64 (sx), .int .i64 (sy)] 24)))
    have Ob_17 := Lib.hid (Ob_16.out.step ((Kept.refl w16).alloc (.cells #[.int .i64 (sx), .int .i64 (sy)] 24)))
    have Op1_17 := Lib.hid (Op1_16.out.step ((Kept.refl w16).alloc (.cells #[.int .i64 (sx), .int .i64 (sy)] 24)))
    have Op2_17 := Lib.hid (Op2_16.out.step ((Kept.refl w16).alloc (.cells #[.int .i64 (sx), .int .i64 (sy)] 24)))
    have Oq1_17 := Lib.hid (Oq1_16.out.step ((Kept.refl w16).alloc (.cells #[.int .i64 (sx), .int .i64 (sy)] 24)))
    have Oq2_17 := Lib.hid (Oq2_16.out.step ((Kept.refl w16).alloc (.cells #[.int .i64 (sx), .int .i64 (sy)] 24)))
    have Oa1_17 := Lib.hid (Oa1_16.out.step ((Kept.refl w16).alloc (.cells #[.int .i64 (sx), .int .i64 (sy)] 24)))
    have Oa2_17 := Lib.hid (Oa2_16.out.step ((Kept.refl w16).alloc (.cells #[.int .i64 (sx), .int .i64 (sy)] 24)))
    have Os1_17 := Lib.hid (Os1_16.out.step ((Kept.refl w16).alloc (.cells #[.int .i64 (sx), .int .i64 (sy)] 24)))
    clear K16 Oa_16 Ob_16 Op1_16 Op2_16 Oq1_16 Oq2_16 Oa1_16 Oa2_16 Os1_16
    have X17 := Lib.hid (X16.out.step ((Kept.refl w16).alloc (.cells #[.int .i64 (sx), .int .i64 (sy)] 24)))
    clear X16
    have Os2_17 := Ns2
    clear Ns2
    have ca0 := Oa_17.out.cell 0
    have ca1 := Oa_17.out.cell 1
    have cb0 := Ob_17.out.cell 0
    have cb1 := Ob_17.out.cell 1
    go_wp2_with fail
    clear ca0 ca1 cb0 cb1
    generalize w16.heap.size = Bs2 at *
    generalize w16.alloc _ = w17 at *
    refine (mul_at MH.out ha hb _).mono ?_
    rintro e w18 ⟨rfl, hk⟩
    have K18 := Lib.hid (K17.out.trans hk)
    have Oa_18 := Lib.hid (Oa_17.out.step hk)
    have Ob_18 := Lib.hid (Ob_17.out.step hk)
    have Op1_18 := Lib.hid (Op1_17.out.step hk)
    have Op2_18 := Lib.hid (Op2_17.out.step hk)
    have Oq1_18 := Lib.hid (Oq1_17.out.step hk)
    have Oq2_18 := Lib.hid (Oq2_17.out.step hk)
    have Oa1_18 := Lib.hid (Oa1_17.out.step hk)
    have Oa2_18 := Lib.hid (Oa2_17.out.step hk)
    have Os1_18 := Lib.hid (Os1_17.out.step hk)
    have Os2_18 := Lib.hid (Os2_17.out.step hk)
    clear K17 Oa_17 Ob_17 Op1_17 Op2_17 Oq1_17 Oq2_17 Oa1_17 Oa2_17 Os1_17 Os2_17
    have X18 := Lib.hid (X17.out.step hk)
    clear X17
    clear hk
    have Nm1 := Lib.hid (Own.made K18.out #[.int .i64 (mx), .int .i64 (my)])
    have K19 := Lib.hid (K18.out.trans ((Kept.refl w18).alloc (.cells #[.int .i64 (mx), .int .i64 (my)] 24)))
    have Oa_19 := Lib.hid (Oa_18.out.step ((Kept.refl w18).alloc (.cells #[.int .i64 (mx), .int .i64 (my)] 24)))
    have Ob_19 := Lib.hid (Ob_18.out.step ((Kept.refl w18).alloc (.cells #[.int .i64 (mx), .int .i64 (my)] 24)))
    have Op1_19 := Lib.hid (Op1_18.out.step ((Kept.refl w18).alloc (.cells #[.int .i64 (mx), .int .i64 (my)] 24)))
    have Op2_19 := Lib.hid (Op2_18.out.step ((Kept.refl w18).alloc (.cells #[.int .i64 (mx), .int .i64 (my)] 24)))
    have Oq1_19 := Lib.hid (Oq1_18.out.step ((Kept.refl w18).alloc (.cells #[.int .i64 (mx), .int .i64 (my)] 24)))
    have Oq2_19 := Lib.hid (Oq2_18.out.step ((Kept.refl w18).alloc (.cells #[.int .i64 (mx), .int .i64 (my)] 24)))
    have Oa1_19 := Lib.hid (Oa1_18.out.step ((Kept.refl w18).alloc (.cells #[.int .i64 (mx), .int .i64 (my)] 24)))
    have Oa2_19 := Lib.hid (Oa2_18.out.step ((Kept.refl w18).alloc (.cells #[.int .i64 (mx), .int .i64 (my)] 24)))
    have Os1_19 := Lib.hid (Os1_18.out.step ((Kept.refl w18).alloc (.cells #[.int .i64 (mx), .int .i64 (my)] 24)))
    have Os2_19 := Lib.hid (Os2_18.out.step ((Kept.refl w18).alloc (.cells #[.int .i64 (mx), .int .i64 (my)] 24)))
    clear K18 Oa_18 Ob_18 Op1_18 Op2_18 Oq1_18 Oq2_18 Oa1_18 Oa2_18 Os1_18 Os2_18
    have X19 := Lib.hid (X18.out.step ((Kept.refl w18).alloc (.cells #[.int .i64 (mx), .int .i64 (my)] 24)))
    clear X18
    have Om1_19 := Nm1
    clear Nm1
    have ca0 := Oa_19.out.cell 0
    have ca1 := Oa_19.out.cell 1
    have cb0 := Ob_19.out.cell 0
    have cb1 := Ob_19.out.cell 1
    go_wp2_with fail
    clear ca0 ca1 cb0 cb1
    generalize w18.heap.size = Bm1 at *
    generalize w18.alloc _ = w19 at *
    refine (rmul_at MH.out ha hb _).mono ?_
    rintro e w20 ⟨rfl, hk⟩
    have K20 := Lib.hid (K19.out.trans hk)
    have Oa_20 := Lib.hid (Oa_19.out.step hk)
    have Ob_20 := Lib.hid (Ob_19.out.step hk)
    have Op1_20 := Lib.hid (Op1_19.out.step hk)
    have Op2_20 := Lib.hid (Op2_19.out.step hk)
    have Oq1_20 := Lib.hid (Oq1_19.out.step hk)
    have Oq2_20 := Lib.hid (Oq2_19.out.step hk)
    have Oa1_20 := Lib.hid (Oa1_19.out.step hk)
    have Oa2_20 := Lib.hid (Oa2_19.out.step hk)
    have Os1_20 := Lib.hid (Os1_19.out.step hk)
    have Os2_20 := Lib.hid (Os2_19.out.step hk)
    have Om1_20 := Lib.hid (Om1_19.out.step hk)
    clear K19 Oa_19 Ob_19 Op1_19 Op2_19 Oq1_19 Oq2_19 Oa1_19 Oa2_19 Os1_19 Os2_19 Om1_19
    have X20 := Lib.hid (X19.out.step hk)
    clear X19
    clear hk
    have Nm2 := Lib.hid (Own.made K20.out #[.int .i64 (mx), .int .i64 (my)])
    have K21 := Lib.hid (K20.out.trans ((Kept.refl w20).alloc (.cells #[.int .i64 (mx), .int .i64 (my)] 24)))
    have Oa_21 := Lib.hid (Oa_20.out.step ((Kept.refl w20).alloc (.cells #[.int .i64 (mx), .int .i64 (my)] 24)))
    have Ob_21 := Lib.hid (Ob_20.out.step ((Kept.refl w20).alloc (.cells #[.int .i64 (mx), .int .i64 (my)] 24)))
    have Op1_21 := Lib.hid (Op1_20.out.step ((Kept.refl w20).alloc (.cells #[.int .i64 (mx), .int .i64 (my)] 24)))
    have Op2_21 := Lib.hid (Op2_20.out.step ((Kept.refl w20).alloc (.cells #[.int .i64 (mx), .int .i64 (my)] 24)))
    have Oq1_21 := Lib.hid (Oq1_20.out.step ((Kept.refl w20).alloc (.cells #[.int .i64 (mx), .int .i64 (my)] 24)))
    have Oq2_21 := Lib.hid (Oq2_20.out.step ((Kept.refl w20).alloc (.cells #[.int .i64 (mx), .int .i64 (my)] 24)))
    have Oa1_21 := Lib.hid (Oa1_20.out.step ((Kept.refl w20).alloc (.cells #[.int .i64 (mx), .int .i64 (my)] 24)))
    have Oa2_21 := Lib.hid (Oa2_20.out.step ((Kept.refl w20).alloc (.cells #[.int .i64 (mx), .int .i64 (my)] 24)))
    have Os1_21 := Lib.hid (Os1_20.out.step ((Kept.refl w20).alloc (.cells #[.int .i64 (mx), .int .i64 (my)] 24)))
    have Os2_21 := Lib.hid (Os2_20.out.step ((Kept.refl w20).alloc (.cells #[.int .i64 (mx), .int .i64 (my)] 24)))
    have Om1_21 := Lib.hid (Om1_20.out.step ((Kept.refl w20).alloc (.cells #[.int .i64 (mx), .int .i64 (my)] 24)))
    clear K20 Oa_20 Ob_20 Op1_20 Op2_20 Oq1_20 Oq2_20 Oa1_20 Oa2_20 Os1_20 Os2_20 Om1_20
    have X21 := Lib.hid (X20.out.step ((Kept.refl w20).alloc (.cells #[.int .i64 (mx), .int .i64 (my)] 24)))
    clear X20
    have Om2_21 := Nm2
    clear Nm2
    have ca0 := Oa_21.out.cell 0
    have ca1 := Oa_21.out.cell 1
    have cb0 := Ob_21.out.cell 0
    have cb1 := Ob_21.out.cell 1
    have ca10 := Oa1_21.out.cell 0
    have ca11 := Oa1_21.out.cell 1
    have ca20 := Oa2_21.out.cell 0
    have ca21 := Oa2_21.out.cell 1
    have cs10 := Os1_21.out.cell 0
    have cs11 := Os1_21.out.cell 1
    have cs20 := Os2_21.out.cell 0
    have cs21 := Os2_21.out.cell 1
    have cm10 := Om1_21.out.cell 0
    have cm11 := Om1_21.out.cell 1
    have cm20 := Om2_21.out.cell 0
    have cm21 := Om2_21.out.cell 1
    go_wp2_with fail
    clear ca0 ca1 cb0 cb1 ca10 ca11 ca20 ca21 cs10 cs11 cs20 cs21 cm10 cm11 cm20 cm21
    generalize w20.heap.size = Bm2 at *
    generalize w20.alloc _ = w21 at *
    refine (div_at DH.out ha hb _).mono ?_
    rintro e w22 ⟨rfl, hk⟩
    have K22 := Lib.hid (K21.out.trans hk)
    have Oa_22 := Lib.hid (Oa_21.out.step hk)
    have Ob_22 := Lib.hid (Ob_21.out.step hk)
    have Op1_22 := Lib.hid (Op1_21.out.step hk)
    have Op2_22 := Lib.hid (Op2_21.out.step hk)
    have Oq1_22 := Lib.hid (Oq1_21.out.step hk)
    have Oq2_22 := Lib.hid (Oq2_21.out.step hk)
    have Oa1_22 := Lib.hid (Oa1_21.out.step hk)
    have Oa2_22 := Lib.hid (Oa2_21.out.step hk)
    have Os1_22 := Lib.hid (Os1_21.out.step hk)
    have Os2_22 := Lib.hid (Os2_21.out.step hk)
    have Om1_22 := Lib.hid (Om1_21.out.step hk)
    have Om2_22 := Lib.hid (Om2_21.out.step hk)
    clear K21 Oa_21 Ob_21 Op1_21 Op2_21 Oq1_21 Oq2_21 Oa1_21 Oa2_21 Os1_21 Os2_21 Om1_21 Om2_21
    have X22 := Lib.hid (X21.out.step hk)
    clear X21
    clear hk
    have Nd1 := Lib.hid (Own.made K22.out #[.int .i64 (dx), .int .i64 (dy)])
    have K23 := Lib.hid (K22.out.trans ((Kept.refl w22).alloc (.cells #[.int .i64 (dx), .int .i64 (dy)] 24)))
    have Oa_23 := Lib.hid (Oa_22.out.step ((Kept.refl w22).alloc (.cells #[.int .i64 (dx), .int .i64 (dy)] 24)))
    have Ob_23 := Lib.hid (Ob_22.out.step ((Kept.refl w22).alloc (.cells #[.int .i64 (dx), .int .i64 (dy)] 24)))
    have Op1_23 := Lib.hid (Op1_22.out.step ((Kept.refl w22).alloc (.cells #[.int .i64 (dx), .int .i64 (dy)] 24)))
    have Op2_23 := Lib.hid (Op2_22.out.step ((Kept.refl w22).alloc (.cells #[.int .i64 (dx), .int .i64 (dy)] 24)))
    have Oq1_23 := Lib.hid (Oq1_22.out.step ((Kept.refl w22).alloc (.cells #[.int .i64 (dx), .int .i64 (dy)] 24)))
    have Oq2_23 := Lib.hid (Oq2_22.out.step ((Kept.refl w22).alloc (.cells #[.int .i64 (dx), .int .i64 (dy)] 24)))
    have Oa1_23 := Lib.hid (Oa1_22.out.step ((Kept.refl w22).alloc (.cells #[.int .i64 (dx), .int .i64 (dy)] 24)))
    have Oa2_23 := Lib.hid (Oa2_22.out.step ((Kept.refl w22).alloc (.cells #[.int .i64 (dx), .int .i64 (dy)] 24)))
    have Os1_23 := Lib.hid (Os1_22.out.step ((Kept.refl w22).alloc (.cells #[.int .i64 (dx), .int .i64 (dy)] 24)))
    have Os2_23 := Lib.hid (Os2_22.out.step ((Kept.refl w22).alloc (.cells #[.int .i64 (dx), .int .i64 (dy)] 24)))
    have Om1_23 := Lib.hid (Om1_22.out.step ((Kept.refl w22).alloc (.cells #[.int .i64 (dx), .int .i64 (dy)] 24)))
    have Om2_23 := Lib.hid (Om2_22.out.step ((Kept.refl w22).alloc (.cells #[.int .i64 (dx), .int .i64 (dy)] 24)))
    clear K22 Oa_22 Ob_22 Op1_22 Op2_22 Oq1_22 Oq2_22 Oa1_22 Oa2_22 Os1_22 Os2_22 Om1_22 Om2_22
    have X23 := Lib.hid (X22.out.step ((Kept.refl w22).alloc (.cells #[.int .i64 (dx), .int .i64 (dy)] 24)))
    clear X22
    have Od1_23 := Nd1
    clear Nd1
    have ca0 := Oa_23.out.cell 0
    have ca1 := Oa_23.out.cell 1
    have cb0 := Ob_23.out.cell 0
    have cb1 := Ob_23.out.cell 1
    go_wp2_with fail
    clear ca0 ca1 cb0 cb1
    generalize w22.heap.size = Bd1 at *
    generalize w22.alloc _ = w23 at *
    refine (rdiv_at DH.out ha hb _).mono ?_
    rintro e w24 ⟨rfl, hk⟩
    have K24 := Lib.hid (K23.out.trans hk)
    have Oa_24 := Lib.hid (Oa_23.out.step hk)
    have Ob_24 := Lib.hid (Ob_23.out.step hk)
    have Op1_24 := Lib.hid (Op1_23.out.step hk)
    have Op2_24 := Lib.hid (Op2_23.out.step hk)
    have Oq1_24 := Lib.hid (Oq1_23.out.step hk)
    have Oq2_24 := Lib.hid (Oq2_23.out.step hk)
    have Oa1_24 := Lib.hid (Oa1_23.out.step hk)
    have Oa2_24 := Lib.hid (Oa2_23.out.step hk)
    have Os1_24 := Lib.hid (Os1_23.out.step hk)
    have Os2_24 := Lib.hid (Os2_23.out.step hk)
    have Om1_24 := Lib.hid (Om1_23.out.step hk)
    have Om2_24 := Lib.hid (Om2_23.out.step hk)
    have Od1_24 := Lib.hid (Od1_23.out.step hk)
    clear K23 Oa_23 Ob_23 Op1_23 Op2_23 Oq1_23 Oq2_23 Oa1_23 Oa2_23 Os1_23 Os2_23 Om1_23 Om2_23 Od1_23
    have X24 := Lib.hid (X23.out.step hk)
    clear X23
    clear hk
    have Nd2 := Lib.hid (Own.made K24.out #[.int .i64 dx, .int .i64 dy])
    have K25 := Lib.hid (K24.out.trans ((Kept.refl w24).alloc (.cells #[.int .i64 dx, .int .i64 dy] 24)))
    have Oa_25 := Lib.hid (Oa_24.out.step ((Kept.refl w24).alloc (.cells #[.int .i64 dx, .int .i64 dy] 24)))
    have Ob_25 := Lib.hid (Ob_24.out.step ((Kept.refl w24).alloc (.cells #[.int .i64 dx, .int .i64 dy] 24)))
    have Op1_25 := Lib.hid (Op1_24.out.step ((Kept.refl w24).alloc (.cells #[.int .i64 dx, .int .i64 dy] 24)))
    have Op2_25 := Lib.hid (Op2_24.out.step ((Kept.refl w24).alloc (.cells #[.int .i64 dx, .int .i64 dy] 24)))
    have Oq1_25 := Lib.hid (Oq1_24.out.step ((Kept.refl w24).alloc (.cells #[.int .i64 dx, .int .i64 dy] 24)))
    have Oq2_25 := Lib.hid (Oq2_24.out.step ((Kept.refl w24).alloc (.cells #[.int .i64 dx, .int .i64 dy] 24)))
    have Oa1_25 := Lib.hid (Oa1_24.out.step ((Kept.refl w24).alloc (.cells #[.int .i64 dx, .int .i64 dy] 24)))
    have Oa2_25 := Lib.hid (Oa2_24.out.step ((Kept.refl w24).alloc (.cells #[.int .i64 dx, .int .i64 dy] 24)))
    have Os1_25 := Lib.hid (Os1_24.out.step ((Kept.refl w24).alloc (.cells #[.int .i64 dx, .int .i64 dy] 24)))
    have Os2_25 := Lib.hid (Os2_24.out.step ((Kept.refl w24).alloc (.cells #[.int .i64 dx, .int .i64 dy] 24)))
    have Om1_25 := Lib.hid (Om1_24.out.step ((Kept.refl w24).alloc (.cells #[.int .i64 dx, .int .i64 dy] 24)))
    have Om2_25 := Lib.hid (Om2_24.out.step ((Kept.refl w24).alloc (.cells #[.int .i64 dx, .int .i64 dy] 24)))
    have Od1_25 := Lib.hid (Od1_24.out.step ((Kept.refl w24).alloc (.cells #[.int .i64 dx, .int .i64 dy] 24)))
    clear K24 Oa_24 Ob_24 Op1_24 Op2_24 Oq1_24 Oq2_24 Oa1_24 Oa2_24 Os1_24 Os2_24 Om1_24 Om2_24 Od1_24
    have X25 := Lib.hid (X24.out.step ((Kept.refl w24).alloc (.cells #[.int .i64 dx, .int .i64 dy] 24)))
    clear X24
    have Od2_25 := Nd2
    clear Nd2
    go_upto_region 20 with fail
    generalize w24.heap.size = Bd2 at *
    generalize w24.alloc _ = w25 at *
    have f0 := Lib.hid (show Kept w w25.drew ∧ w25.drew.cell? ⟨Ba, 0, none⟩ = some (.int .i64 n) ∧ w25.drew.cell? ⟨Ba, 1, none⟩ = some (.int .i64 d) ∧ w25.drew.cell? ⟨Ba + 1, 0, none⟩ = some (.int .i64 m) ∧ w25.drew.cell? ⟨Ba + 1, 1, none⟩ = some (.int .i64 o) ∧ w25.drew.cell? ⟨Bd1, 0, none⟩ = some (.int .i64 dx) ∧ w25.drew.cell? ⟨Bd1, 1, none⟩ = some (.int .i64 dy) ∧ w25.drew.cell? ⟨Bd2, 0, none⟩ = some (.int .i64 dx) ∧ w25.drew.cell? ⟨Bd2, 1, none⟩ = some (.int .i64 dy) from ⟨K25.out.drew, Oa_25.out.cell 0, Oa_25.out.cell 1, Ob_25.out.cell 0, Ob_25.out.cell 1, Od1_25.out.cell 0, Od1_25.out.cell 1, Od2_25.out.cell 0, Od2_25.out.cell 1⟩)
    clear K25 X25 Oa_25 Ob_25 Op1_25 Op2_25 Oq1_25 Oq2_25 Oa1_25 Oa2_25 Os1_25 Os2_25 Om1_25 Om2_25 Od1_25 Od2_25
    go_region_held3 (fun wx => Kept w wx ∧ wx.cell? ⟨Ba, 0, none⟩ = some (.int .i64 n) ∧ wx.cell? ⟨Ba, 1, none⟩ = some (.int .i64 d) ∧ wx.cell? ⟨Ba + 1, 0, none⟩ = some (.int .i64 m) ∧ wx.cell? ⟨Ba + 1, 1, none⟩ = some (.int .i64 o) ∧ wx.cell? ⟨Bd1, 0, none⟩ = some (.int .i64 dx) ∧ wx.cell? ⟨Bd1, 1, none⟩ = some (.int .i64 dy) ∧ wx.cell? ⟨Bd2, 0, none⟩ = some (.int .i64 dx) ∧ wx.cell? ⟨Bd2, 1, none⟩ = some (.int .i64 dy))
      (first | exact f0.out | exact eight_kept (by assumption) hk)
      (first
        | (go_at_call 13; refine (valid_at AV'.out ha _).mono ?_; rintro e wy ⟨rfl, hk⟩)
        | (go_at_call 28; refine (rvalid_at AV'.out ha _).mono ?_; rintro e wy ⟨rfl, hk⟩)
        | (go_at_call 14; refine (cmp_at CR'.out ha hb _).mono ?_; rintro e wy ⟨rfl, hk⟩)
        | (go_at_call 29; refine (rcmp_at CR'.out ha hb _).mono ?_; rintro e wy ⟨rfl, hk⟩)
        | (go_at_call 17; refine (text_at TT.out ha _ (EN.out.kept (held_kept (by assumption)))).mono ?_; rintro e wy ⟨rfl, hk⟩)
        | (go_at_call 30; refine (rtext_at TT.out ha _).mono ?_; rintro e wy ⟨rfl, hk⟩))
    all_goals (rename_i hS; have KF := held_kept hS; clear hS f0; go_wp2_with fail; go_ret; exact ⟨by first | rfl | simp, KF⟩)
end Go.Proofs.YtacjgkpncdnbgaaDoor
