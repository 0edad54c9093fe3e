/-
  seal's Put, walked.
-/
import Derived.Test.YtmemhoiepnlhfaaGreatDoorJ4
import Derived.Laws.IdiomStrings
namespace Go.Proofs.YtmemhoiepnlhfaaGreatDoor
open Go.RowKit
set_option maxRecDepth 100000

def putR (e p : Int) (b : ByteArray) : ByteArray × Int :=
  if placed e p then (if b.size ≤ 40 then (strOf (putL e.toNat p.toNat b.data.toList), 0) else (⟨#[]⟩, 3)) else (⟨#[]⟩, 1)

theorem Sat.comm3 {w : World} {A B C : HProp} (h : Sat w (A * (B * C))) : Sat w (B * (A * C)) := h.cast (by ac_rfl)
theorem Sat.drop3 {w : World} {A B C : HProp} (h : Sat w (A * (B * C))) : Sat w (A * C) := (h.cast (show _ = B * (A * C) by ac_rfl)).right
theorem fOut_three (e p n : Nat) : fOut [(e, 8), (p, 4), (n, 4)] = beD e 8 ++ beD p 4 ++ beD n 4 := by simp [fOut]
theorem strCells_u8s (b : ByteArray) : Lib.strCells b = u8s b.data.toList := rfl
theorem size_len (b : ByteArray) : b.data.toList.length = b.size := rfl
theorem placed_nat {e p : Nat} (h : placed (e : Int) (p : Int) = true) : e ≤ 1000000000 ∧ p < 4000 := by
  simp only [placed, Bool.and_eq_true, decide_eq_true_eq] at h
  omega
theorem Kept.of_old {w w' : World} {R : HProp} (hx : Ext w w') (h : Sat w' (old w * R)) : Kept w w' :=
  ⟨hx, fun k o hk => by rw [h.oldBlock (Array.getElem?_eq_some_iff.1 hk).1]; exact hk⟩

def Z64 : Array Value := (u8s (List.replicate 64 0)).toArray
theorem Z64_size : Z64.size = 64 := by unfold Z64; simp [u8s]
theorem make_room (w : World) : (Instr.makeSlice 54 (.int .i64 0) (.int .i64 64)).run Tryz.prog w =
    .ok (.slice (some ⟨w.heap.size, 0, none⟩) 0 64) (w.alloc (.cells Z64 5)) := by
  obtain ⟨i0, hi0, hz0, hz1, hz2⟩ := info_parts Tryz.infoByte
  rw [run_make (P := Tryz.prog) w 54 5 i0 _ (by kernel_rfl) hi0 hz0 .i64 .i64 _ _ (by omega) (by omega) (by rw [hz2]; omega) (by omega)]
  rw [hz1, Nat.mul_one, made_bytes]
  rfl

set_option maxHeartbeats 1600000 in
theorem put_yes (e p : Nat) (b : ByteArray) (hpl : placed (e : Int) (p : Int) = true) (hb : b.size ≤ 40) (w : World) : Calls Tryz.prog 57 #[.int .i64 (e : Int), .int .i64 (p : Int), .string b] w fun r w' => r = .returned (.tuple #[.string (strOf (putL e p b.data.toList)), .int .i64 0]) ∧ Kept w w' := by
  obtain ⟨i0, hi0, hz0, hz1, hz2⟩ := info_parts Tryz.infoByte
  have H := Lib.hid (Sat.start w)
  have HP := Lib.hid hpl
  have hmk := fun wx => make_room wx
  have hb1 : ¬ ((40 : Int) < (b.size : Int)) := by omega
  go_enter Tryz.func57, Tryz.ntmps57
  go_wp2_with fail
  refine (placed_any (e : Int) (p : Int) _).mono ?_
  rintro r w' ⟨rfl, rfl⟩
  rw [HP.out]
  go_wp2_with fail
  clear hmk
  have h1 := (H.out.allocNew (.cells Z64 5)).allocNew (.cells (fCells [(e, 8), (p, 4), (b.size, 4)]).toArray 110)
  rw [World.size_alloc] at h1
  have h2 : Sat _ (rowP 5 1 (.slice (some ⟨w.heap.size, 0, none⟩) 0 64) 0 [] * (pts (w.heap.size + 1) (.cells (fCells [(e, 8), (p, 4), (b.size, 4)]).toArray 110) * old w)) :=
    Sat.mkRow rfl (Nat.zero_le _) (by unfold maxLen; omega) Z64_size rfl h1.comm3
  have hx2 : Ext w _ := ((Ext.refl w).alloc (.cells Z64 5)).alloc (.cells (fCells [(e, 8), (p, 4), (b.size, 4)]).toArray 110)
  have pn := placed_nat HP.out
  refine (swrite_any [(e, 8), (p, 4), (b.size, 4)] (by simp; omega) (Nat.le_refl 3) _ _ [] (by decide) _ _ h2).mono ?_
  rintro r w2 ⟨v2, rfl, hx, hs⟩
  have H2 : Hid (Ext w w2 ∧ Sat w2 (rowP 5 1 v2 16 (u8s (fOut [(e, 8), (p, 4), (b.size, 4)])) * old w)) := Lib.hid ⟨hx2.trans hx, by
    have h3 := hs.drop3
    simpa [fOut, beD_len] using h3⟩
  clear h1 h2 hx2 hx hs
  obtain ⟨v3, w3, hr3, hx3, hs3⟩ := append_str_row i0 hi0 hz0 hz1 hz2 w2 v2 16 _ _ H2.out.2 (by decide) b (by omega) 54
  have HR3 := Lib.hid hr3
  have H3 := Lib.hid (And.intro (H2.out.1.trans hx3) hs3)
  clear hr3 hx3 hs3
  obtain ⟨g3, c3, rfl, _, _⟩ := H3.out.2.owns.form (by omega)
  obtain ⟨v4, w4, hr4, hx4, hs4⟩ := append_zero_row i0 hi0 hz0 hz1 hz2 w3 _ (16 + b.size) _ _ H3.out.2 (by omega) (40 - b.size) (by omega) 54
  rw [show ((40 - b.size : Nat) : Int) = 56 - (16 + (b.size : Int)) by omega] at hr4
  have HR4 := Lib.hid hr4
  have H4 : Hid (Ext w w4 ∧ Sat w4 (rowP 5 1 v4 56 (u8s (putH e p b.data.toList)) * old w)) := Lib.hid ⟨H3.out.1.trans hx4, by
    have e1 : u8s (fOut [(e, 8), (p, 4), (b.size, 4)]) ++ Lib.strCells b ++ u8s (List.replicate (40 - b.size) 0) = u8s (putH e p b.data.toList) := by
      rw [strCells_u8s, ← u8s_add, ← u8s_add, fOut_three]
      unfold putH
      rw [size_len]
    rw [e1, show 16 + b.size + (40 - b.size) = 56 by omega] at hs4
    exact hs4⟩
  clear hr4 hx4 hs4 H3 H2
  obtain ⟨g4, c4, rfl, _, _⟩ := H4.out.2.owns.form (by omega)
  have hl4 := putH_len e p (b := b.data.toList) hb
  have hcv := run_convert_bytes_back (P := Tryz.prog) w4 54 9 5 ⟨g4, 0, none⟩ c4 (putH e p b.data.toList) (by kernel_rfl) (by kernel_rfl) (by kernel_rfl) (fun j hj => by
    rw [Addr.add_lit, Nat.zero_add]
    exact H4.out.2.rowCell (by rw [u8s_get, List.getElem?_eq_getElem hj]; rfl))
  rw [hl4] at hcv
  have HL4 := Lib.hid hl4
  clear hl4
  go_wp2_with (first | (at_builtin; refine Lib.wpList_append_run _ rfl (.tmp 28) (.tmp 29) 54 9 rfl _ _ rfl rfl _ _ HR3.out ?_) | (at_builtin; refine Lib.wpList_append_run _ rfl (.tmp 31) (.tmp 34) 54 3 rfl _ _ rfl rfl _ _ HR4.out ?_))
  clear HR3 HR4 hcv
  have hsz : (strOf (putH e p b.data.toList)).size = 56 := HL4.out
  refine (sum_any (strOf (putH e p b.data.toList)) (by rw [hsz]; decide) _).mono ?_
  rintro r w' ⟨rfl, rfl⟩
  rw [show (strOf (putH e p b.data.toList)).data.toList = putH e p b.data.toList from rfl]
  obtain ⟨sm, hsm⟩ : ∃ sm, sumL (putH e p b.data.toList) = sm := ⟨_, rfl⟩
  have hlt : sm < 2147483647 := by rw [← hsm]; exact sum_lt _
  rw [hsm]
  have h5 := (H4.out.2.allocNew (.cells (fCells [(sm, 8)]).toArray 110)).comm3
  have hx5 := H4.out.1.alloc (.cells (fCells [(sm, 8)]).toArray 110)
  have h5' : Sat (w4.alloc (.cells (fCells [(sm, 8)]).toArray 110)) (rowP 5 1 (.slice (some ⟨g4, 0, none⟩) 56 c4) (putH e p b.data.toList).length (u8s (putH e p b.data.toList)) * (pts w4.heap.size (.cells (fCells [(sm, 8)]).toArray 110) * old w)) := by rw [HL4.out]; exact h5
  have H5 := Lib.hid (And.intro hx5 h5')
  have HSM := Lib.hid hsm
  clear h5 h5' hx5 hsm hsz H4
  go_wp2_with fail
  refine (swrite_any [(sm, 8)] (by simp; omega) (show 1 ≤ 3 from by decide) _ _ (putH e p b.data.toList) (by rw [HL4.out]; decide) _ _ H5.out.2).mono ?_
  rintro r w6 ⟨v6, rfl, hx, hs⟩
  have H6 : Hid (Ext w w6 ∧ Sat w6 (rowP 5 1 v6 64 (u8s (putL e p b.data.toList)) * old w)) := Lib.hid ⟨H5.out.1.trans hx, by
    have h3 := hs.drop3
    have e1 : putH e p b.data.toList ++ fOut [(sm, 8)] = putL e p b.data.toList := by
      unfold putL; rw [HSM.out]; simp [fOut]
    rw [e1, putL_len e p (b := b.data.toList) hb] at h3
    exact h3⟩
  clear hx hs H5
  obtain ⟨g6, c6, rfl, _, _⟩ := H6.out.2.owns.form (by omega)
  have hl6 := putL_len e p (b := b.data.toList) hb
  have hcv := run_convert_bytes_back (P := Tryz.prog) w6 54 9 5 ⟨g6, 0, none⟩ c6 (putL e p b.data.toList) (by kernel_rfl) (by kernel_rfl) (by kernel_rfl) (fun j hj => by
    rw [Addr.add_lit, Nat.zero_add]
    exact H6.out.2.rowCell (by rw [u8s_get, List.getElem?_eq_getElem hj]; rfl))
  rw [hl6] at hcv
  clear hl6
  go_wp2_with fail
  go_ret2
  exact ⟨rfl, Kept.of_old H6.out.1 H6.out.2.swap⟩

theorem put_no (e p : Int) (b : ByteArray) (hpl : placed e p = false) (w : World) : Calls Tryz.prog 57 #[.int .i64 e, .int .i64 p, .string b] w fun r w' => r = .returned (.tuple #[.string ⟨#[]⟩, .int .i64 1]) ∧ Kept w w' := by
  have HP := Lib.hid hpl
  go_enter Tryz.func57, Tryz.ntmps57
  go_wp2_with fail
  refine (placed_any e p _).mono ?_
  rintro r w' ⟨rfl, rfl⟩
  rw [HP.out]
  go_wp2_with fail
  go_ret2
  exact ⟨rfl, Kept.refl _⟩
theorem put_long (e p : Int) (b : ByteArray) (hpl : placed e p = true) (hb : ¬ b.size ≤ 40) (w : World) : Calls Tryz.prog 57 #[.int .i64 e, .int .i64 p, .string b] w fun r w' => r = .returned (.tuple #[.string ⟨#[]⟩, .int .i64 3]) ∧ Kept w w' := by
  have HP := Lib.hid hpl
  have hb1 : (40 : Int) < (b.size : Int) := by omega
  go_enter Tryz.func57, Tryz.ntmps57
  go_wp2_with fail
  refine (placed_any e p _).mono ?_
  rintro r w' ⟨rfl, rfl⟩
  rw [HP.out]
  go_wp2_with fail
  go_ret2
  exact ⟨rfl, Kept.refl _⟩
theorem put_any (e p : Int) (b : ByteArray) (w : World) : Calls Tryz.prog 57 #[.int .i64 e, .int .i64 p, .string b] w fun r w' => r = .returned (.tuple #[.string (putR e p b).1, .int .i64 (putR e p b).2]) ∧ Kept w w' := by
  unfold putR
  by_cases h : placed e p = true
  · rw [if_pos h]
    by_cases hb : b.size ≤ 40
    · rw [if_pos hb]
      have h0 := h
      simp only [placed, Bool.and_eq_true, decide_eq_true_eq] at h0
      obtain ⟨e', rfl⟩ := Int.eq_ofNat_of_zero_le h0.1.1.1
      obtain ⟨p', rfl⟩ := Int.eq_ofNat_of_zero_le h0.1.2
      exact put_yes e' p' b h hb w
    · rw [if_neg hb]; exact put_long e p b h hb w
  · rw [if_neg h]; exact put_no e p b (by simpa using h) w
end Go.Proofs.YtmemhoiepnlhfaaGreatDoor
