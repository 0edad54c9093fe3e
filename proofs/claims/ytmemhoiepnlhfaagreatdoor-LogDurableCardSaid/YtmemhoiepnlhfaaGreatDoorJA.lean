/-
  log's pad, sector and plain, walked. Their condition: the library's tables.
-/
import Derived.Test.YtmemhoiepnlhfaaGreatDoorK5
import Derived.Test.YtmemhoiepnlhfaaGreatDoorJ9
namespace Go.Proofs.YtmemhoiepnlhfaaGreatDoor
open Go.RowKit
set_option maxRecDepth 100000

theorem repeat_zeros (c : Nat) : Lib.repeatL [48] c = List.replicate c 48 := by
  induction c with
  | zero => rfl
  | succ c ih => rw [Lib.repeatL, ih]; rfl
theorem run_max2 {P : Program} (w : World) (ts : Array TypeId) (t : TypeId) (x y : Int) :
    (Builtin.max_ ts t #[.int .i64 x, .int .i64 y]).run P w = .ok (.int .i64 (max x y)) w := by
  have e : ∀ a b : Int, (if b > a then b else a) = max a b := by
    intro a b
    rw [Int.max_def]
    split <;> split <;> omega
  simp only [Builtin.max_, List.foldlM, Builtin.max2, e]
  simp
theorem srepeat_any (c : Nat) (hc : c ≤ 100) (w : World) : Calls Tryz.prog 96 #[.string ⟨#[48]⟩, .int .i64 (c : Int)] w fun e w' => e = .returned (.string (strOf (List.replicate c 48))) ∧ Kept w w' :=
  (Tryz.strings_Repeat ⟨#[48]⟩ c w (by omega) (by show 1 * c ≤ _; omega)).mono fun _ _ ⟨h, hb⟩ => ⟨by rw [h, ← repeat_zeros]; rfl, Kept.of_below hb⟩
theorem strOf_append (x y : List UInt8) : strOf x ++ strOf y = strOf (x ++ y) := by
  apply data_inj
  simp [strOf]

set_option maxHeartbeats 800000 in
theorem pad_any (n k : Nat) (hn : n ≤ 999999999) (hk : k ≤ 9) (w : World) (hE : Env w) : Calls Tryz.prog 84 #[.int .i64 (n : Int), .int .i64 (k : Int)] w fun e w' => e = .returned (.string (strOf (padL n k))) ∧ Kept w w' := by
  have HI := Lib.hid (itoa_any n (by omega) w hE)
  have hXl : (strOf (Lib.decDigits n)).size ≤ 21 := dec_len n (by omega)
  have hXs : (strOf (Lib.decDigits n)).size = (Lib.decDigits n).length := rfl
  obtain ⟨X, hX⟩ : ∃ X, strOf (Lib.decDigits n) = X := ⟨_, rfl⟩
  rw [hX] at HI hXl hXs
  obtain ⟨c, hc⟩ : ∃ c, k - X.size = c := ⟨_, rfl⟩
  have hcl : c ≤ 9 := by omega
  have hmx : ∀ (ts : Array TypeId) (t : TypeId) (w : World), (Builtin.max_ ts t #[.int .i64 0, .int .i64 ((k : Int) - (X.size : Int))]).run Tryz.prog w = .ok (.int .i64 (c : Int)) w := fun ts t w => by
    rw [run_max2]
    congr 2
    omega
  have HR := Lib.hid (fun w => srepeat_any c (by omega) w)
  have hZl : (strOf (List.replicate c 48)).size ≤ 9 := by show (List.replicate c (48 : UInt8)).length ≤ 9; rw [List.length_replicate]; exact hcl
  obtain ⟨Z, hZ⟩ : ∃ Z, strOf (List.replicate c 48) = Z := ⟨_, rfl⟩
  rw [hZ] at HR hZl
  have HG : Hid (Z ++ X = strOf (padL n k)) := Lib.hid (by
    rw [← hZ, ← hX, strOf_append]
    unfold padL
    rw [← hXs, hc])
  clear hX hZ hXs hc
  go_enter Tryz.func84, Tryz.ntmps84
  go_wp2_with fail
  refine HI.out.mono ?_
  rintro e w1 ⟨rfl, hk1⟩
  have HK1 := Lib.hid hk1
  clear hk1 HI
  go_wp2_with fail
  refine (HR.out _).mono ?_
  rintro e w2 ⟨rfl, hk2⟩
  have HK2 := Lib.hid (HK1.out.trans hk2)
  clear hk2 HR hmx HK1
  go_wp2_with fail
  go_ret
  exact ⟨by rw [HG.out]; rfl, HK2.out⟩

set_option maxHeartbeats 3200000 in
theorem sector_any (s : St) (hs : s.ok) (a : Nat) (ha : a < 4000) (w : World) (hE : Env w) :
    Calls Tryz.prog 69 #[.agg #[.int .i64 (s.number : Int), .int .i64 (s.generation : Int), .int .i64 (s.length : Int)], .int .i64 (a : Int)] w fun e w' => e = .returned (.string (strOf (headL a s))) ∧ Kept w w' := by
  obtain ⟨h1, h2, h3⟩ := hs
  have hlen := digitsL_len (s := s) ⟨h1, h2, h3⟩
  have HE := Lib.hid hE
  have P1 := Lib.hid (fun w hE => (pad_any s.number 9 (by omega) (by decide) w hE : Calls Tryz.prog 84 #[.int .i64 (s.number : Int), .int .i64 9] w _))
  have P2 := Lib.hid (fun w hE => (pad_any s.generation 6 (by omega) (by decide) w hE : Calls Tryz.prog 84 #[.int .i64 (s.generation : Int), .int .i64 6] w _))
  have P3 := Lib.hid (fun w hE => (pad_any s.length 4 (by omega) (by decide) w hE : Calls Tryz.prog 84 #[.int .i64 (s.length : Int), .int .i64 4] w _))
  have l1 : (strOf (padL s.number 9)).size = 9 := padL_len (by decide) (by simpa using h1)
  have l2 : (strOf (padL s.generation 6)).size = 6 := padL_len (by decide) (by simpa using h2)
  have l3 : (strOf (padL s.length 4)).size = 4 := padL_len (by decide) (by simpa using h3)
  have hD : strOf (padL s.number 9) ++ strOf (padL s.generation 6) ++ strOf (padL s.length 4) = strOf (digitsL s) := by
    rw [strOf_append, strOf_append]; rfl
  have hG : headL a s = putL 0 a (digitsL s ++ digitsL s) := rfl
  obtain ⟨T, hT⟩ : ∃ T, headL a s = T := ⟨_, rfl⟩
  rw [hT] at hG ⊢
  have HT := Lib.hid hG
  obtain ⟨n, g, l⟩ := s
  dsimp only at *
  generalize strOf (padL n 9) = X1 at *
  generalize strOf (padL g 6) = X2 at *
  generalize strOf (padL l 4) = X3 at *
  have HD := Lib.hid hD
  have hs1 := fun w' => run_string_add_sum (P := Tryz.prog) (w := w') X1 X2 (by omega)
  have hs2 := fun w' => run_string_add_sum (P := Tryz.prog) (w := w') (X1 ++ X2) X3 (by rw [ByteArray.size_append]; omega)
  clear hD hG hT
  have HA := Lib.hid ((Kept.refl w).alloc (.cells #[.int .i64 (n : Int), .int .i64 g, .int .i64 l] 67))
  have hc0 : (w.alloc (.cells #[.int .i64 (n : Int), .int .i64 g, .int .i64 l] 67)).cell? ⟨w.heap.size, 0, none⟩ = some (.int .i64 n) := by rw [(Sat.allocNew (Sat.start w) _).cell]; rfl
  have hc1 : (w.alloc (.cells #[.int .i64 (n : Int), .int .i64 g, .int .i64 l] 67)).cell? ⟨w.heap.size, 1, none⟩ = some (.int .i64 g) := by rw [(Sat.allocNew (Sat.start w) _).cell]; rfl
  have hc2 : (w.alloc (.cells #[.int .i64 (n : Int), .int .i64 g, .int .i64 l] 67)).cell? ⟨w.heap.size, 2, none⟩ = some (.int .i64 l) := by rw [(Sat.allocNew (Sat.start w) _).cell]; rfl
  have HC := Lib.hid (And.intro hc0 (And.intro hc1 hc2))
  clear hc0 hc1 hc2
  go_enter Tryz.func69, Tryz.ntmps69
  go_wp2_with fail
  generalize w.alloc (.cells #[.int .i64 (n : Int), .int .i64 g, .int .i64 l] 67) = w0 at *
  generalize w.heap.size = B at *
  have f0 : Hid (w0.drew.cell? ⟨B, 0, none⟩ = some (.int .i64 n) ∧ w0.drew.cell? ⟨B, 1, none⟩ = some (.int .i64 g) ∧ w0.drew.cell? ⟨B, 2, none⟩ = some (.int .i64 l)) := Lib.hid HC.out
  have HK0 := Lib.hid (HA.out.drew)
  have HE0 := Lib.hid (HE.out.kept HK0.out)
  clear HA HC
  go_region_held3 (fun wx => wx.cell? ⟨B, 0, none⟩ = some (.int .i64 n) ∧ wx.cell? ⟨B, 1, none⟩ = some (.int .i64 g) ∧ wx.cell? ⟨B, 2, none⟩ = some (.int .i64 l))
    (first | exact f0.out | exact f1.out | exact f2.out | exact f3.out)
    (first
      | (go_at_call 84; refine (P1.out _ HE0.out).mono ?_; rintro e w1 ⟨rfl, hk⟩; have HK1 := Lib.hid (HK0.out.trans hk); have HE1 := Lib.hid (HE0.out.kept hk); have f1 := Lib.hid (And.intro (hk.cell f0.out.1) (And.intro (hk.cell f0.out.2.1) (hk.cell f0.out.2.2))); clear hk P1)
      | (go_at_call 84; refine (P2.out _ HE1.out).mono ?_; rintro e w2 ⟨rfl, hk⟩; have HK2 := Lib.hid (HK1.out.trans hk); have HE2 := Lib.hid (HE1.out.kept hk); have f2 := Lib.hid (And.intro (hk.cell f1.out.1) (And.intro (hk.cell f1.out.2.1) (hk.cell f1.out.2.2))); clear hk P2)
      | (go_at_call 84; refine (P3.out _ HE2.out).mono ?_; rintro e w3 ⟨rfl, hk⟩; have HK3 := Lib.hid (HK2.out.trans hk); have HE3 := Lib.hid (HE2.out.kept hk); have f3 := Lib.hid (And.intro (hk.cell f2.out.1) (And.intro (hk.cell f2.out.2.1) (hk.cell f2.out.2.2))); clear hk P3))
  clear f0 f1 f2 f3 hs1 hs2 HK0 HK1 HK2 HE0 HE1 HE2
  have hDs : (X1 ++ X2 ++ X3).size = 19 := by rw [ByteArray.size_append, ByteArray.size_append]; omega
  generalize X1 ++ X2 ++ X3 = D at *
  have hDD : (D ++ D).data.toList = digitsL ⟨n, g, l⟩ ++ digitsL ⟨n, g, l⟩ := by
    rw [HD.out, strOf_append]; rfl
  have hs3 := fun w' => run_string_add_sum (P := Tryz.prog) (w := w') D D (by omega)
  have hpr : putR 0 a (D ++ D) = (strOf T, 0) := by
    unfold putR
    rw [if_pos (by simp [placed]; omega), if_pos (by rw [ByteArray.size_append]; omega), hDD, HT.out]
    rfl
  have HP := Lib.hid hpr
  clear hpr hDD
  go_wp2_with fail
  refine (put_any 0 a (D ++ D) _).mono ?_
  rintro e w4 ⟨rfl, hk⟩
  rw [HP.out]
  have HK4 := Lib.hid (HK3.out.trans hk)
  clear hk HK3
  go_wp2_with fail
  go_ret
  exact ⟨rfl, HK4.out⟩

/-- plain's closure. -/
theorem plain1_any (x : Nat) (hx : x ≤ 1114111) (w : World) : Calls Tryz.prog 72 #[.int .i32 (x : Int)] w fun e w' => e = .returned (.bool (decide (x < 48) || decide (57 < x))) ∧ w = w' := by
  by_cases h1 : x < 48
  · have h1' : (x : Int) < 48 := by omega
    rw [show (decide (x < 48) || decide (57 < x)) = true by simp [h1]]
    go_enter Tryz.func72, Tryz.ntmps72
    go_wp2_with fail
    go_ret
    exact ⟨rfl, rfl⟩
  · have h1' : ¬ (x : Int) < 48 := by omega
    by_cases h2 : 57 < x
    · have h2' : (57 : Int) < x := by omega
      rw [show (decide (x < 48) || decide (57 < x)) = true by simp [h2]]
      go_enter Tryz.func72, Tryz.ntmps72
      go_wp2_with fail
      go_ret
      exact ⟨rfl, rfl⟩
    · have h2' : ¬ (57 : Int) < x := by omega
      rw [show (decide (x < 48) || decide (57 < x)) = false by simp [h1, h2]]
      go_enter Tryz.func72, Tryz.ntmps72
      go_wp2_with fail
      go_ret
      exact ⟨rfl, rfl⟩
end Go.Proofs.YtmemhoiepnlhfaaGreatDoor
