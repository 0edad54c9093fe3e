/-
  seal's write, walked. Its condition: a row of bytes of the call's own; fields in memory.
-/
import Derived.Test.YtmemhoiepnlhfaaGreatDoorJ2
namespace Go.Proofs.YtmemhoiepnlhfaaGreatDoor
open Go.RowKit
set_option maxRecDepth 100000

def fCells (fs : List (Nat × Nat)) : List Value := fs.flatMap fun f => [Value.int .i64 (f.1 : Int), Value.int .i64 (f.2 : Int)]
def fOut (fs : List (Nat × Nat)) : List UInt8 := fs.flatMap fun f => beD f.1 f.2
theorem fCells_at : ∀ (fs : List (Nat × Nat)) (i : Nat) (f : Nat × Nat), fs[i]? = some f → (fCells fs)[i * 2]? = some (.int .i64 (f.1 : Int)) ∧ (fCells fs)[i * 2 + 1]? = some (.int .i64 (f.2 : Int))
  | [], i, f, h => by simp at h
  | g :: r, 0, f, h => by
    simp only [List.getElem?_cons_zero, Option.some.injEq] at h
    subst h
    simp [fCells]
  | g :: r, i + 1, f, h => by
    have := fCells_at r i f (by simpa using h)
    have e : fCells (g :: r) = .int .i64 (g.1 : Int) :: .int .i64 (g.2 : Int) :: fCells r := rfl
    rw [e, show (i + 1) * 2 = i * 2 + 2 by omega, show i * 2 + 2 + 1 = (i * 2 + 1) + 2 by omega]
    simpa using this
theorem fOut_snoc (fs : List (Nat × Nat)) (f : Nat × Nat) : fOut (fs ++ [f]) = fOut fs ++ beD f.1 f.2 := by simp [fOut]
theorem fOut_len : ∀ (fs : List (Nat × Nat)), (∀ f ∈ fs, f.2 ≤ 8) → (fOut fs).length ≤ 8 * fs.length
  | [], _ => by simp [fOut]
  | f :: r, h => by
    have h1 := fOut_len r (fun g hg => h g (List.mem_cons_of_mem _ hg))
    have h2 := h f (List.mem_cons_self ..)
    have e : fOut (f :: r) = beD f.1 f.2 ++ fOut r := rfl
    rw [e, List.length_append, beD_len, List.length_cons]
    omega
theorem u8s_add (x y : List UInt8) : u8s (x ++ y) = u8s x ++ u8s y := by simp [u8s]
theorem one_u8 (c : UInt8) : ∀ u ∈ [Value.int .u8 (c.toNat : Int)], u.oneCell' = true := by
  intro u hu
  simp only [List.mem_singleton] at hu
  rw [hu]; rfl

set_option maxHeartbeats 1600000 in
theorem swrite_any (fs : List (Nat × Nat)) (hf : ∀ f ∈ fs, f.1 < 4611686018427387904 ∧ f.2 ≤ 8) (hm : fs.length ≤ 3) (F : Nat) (v : Value) (X : List UInt8) (hX : X.length ≤ 64) (R : HProp) (w : World)
    (h : Sat w (rowP 5 1 v X.length (u8s X) * (pts F (.cells (fCells fs).toArray 110) * R))) :
    Calls Tryz.prog 75 #[v, .slice (some ⟨F, 0, none⟩) fs.length fs.length] w fun e w' => ∃ v', e = .returned v' ∧ Ext w w' ∧
      Sat w' (rowP 5 1 v' (X ++ fOut fs).length (u8s (X ++ fOut fs)) * (pts F (.cells (fCells fs).toArray 110) * R)) := by
  obtain ⟨i0, hi0, hz0, hz1, hz2⟩ := info_parts Tryz.infoByte
  have H := Lib.hid h
  have HF := Lib.hid hf
  obtain ⟨m, hmm⟩ : ∃ m, fs.length = m := ⟨_, rfl⟩
  rw [hmm] at hm ⊢
  have HM := Lib.hid hmm
  clear h hf hmm
  go_enter Tryz.func75, Tryz.ntmps75
  go_wp2_with fail
  go_loopw [0, 10] (fun b i wr => ∃ j : Nat, j ≤ m ∧ i = .int .i64 j ∧ Hid (Ext w wr ∧ Sat wr (rowP 5 1 b (X ++ fOut (fs.take j)).length (u8s (X ++ fOut (fs.take j))) * (pts F (.cells (fCells fs).toArray 110) * R)))) (fun _ i _ => m - (intOf i).toNat)
  case atStart => exact ⟨0, Nat.zero_le _, rfl, Lib.hid ⟨Ext.refl _, by have := H.out; simpa [fOut] using this⟩⟩
  case round =>
    obtain ⟨j, hj, rfl, HR⟩ := hrel
    by_cases hlt : j < m
    · obtain ⟨f, hfj⟩ : ∃ f, fs[j]? = some f := ⟨_, List.getElem?_eq_getElem (by rw [HM.out]; exact hlt)⟩
      obtain ⟨f1, f2⟩ := HF.out f (List.mem_of_getElem? hfj)
      have hc := fCells_at fs j f hfj
      have hfd := HR.out.2.right
      have q0 : wr.cell? ⟨F, j * 2, none⟩ = some (.int .i64 (f.1 : Int)) := by rw [hfd.cell]; simpa using hc.1
      have q1 : wr.cell? ⟨F, j * 2 + 1, none⟩ = some (.int .i64 (f.2 : Int)) := by rw [hfd.cell]; simpa using hc.2
      have HJ := Lib.hid hfj
      clear hc hfd hfj
      obtain ⟨n, k⟩ := f
      dsimp only at f1 f2 q0 q1
      obtain ⟨Y, hY⟩ : ∃ Y, X ++ fOut (fs.take j) = Y := ⟨_, rfl⟩
      rw [hY] at HR
      have HYD := Lib.hid hY
      have hYl : Y.length ≤ 88 := by
        rw [← hY, List.length_append]
        have := fOut_len (fs.take j) (fun f hf => (HF.out f (List.mem_of_mem_take hf)).2)
        have h3 : (fs.take j).length ≤ j := by simp; omega
        omega
      have h1 := HR.out.2.allocNew (.cells #[.int .i64 (n : Int), .int .i64 (k : Int)] 110)
      have H1 := Lib.hid (And.intro (HR.out.1.alloc (.cells #[.int .i64 (n : Int), .int .i64 (k : Int)] 110)) (h1.cast (show _ = rowP 5 1 u0 Y.length (u8s Y) * (pts wr.heap.size (.cells #[.int .i64 (n : Int), .int .i64 (k : Int)] 110) * (pts F (.cells (fCells fs).toArray 110) * R)) by ac_rfl)))
      clear h1 hY HR
      go_wp2_with fail
      clear q0 q1
      generalize wr.heap.size = B at *
      generalize wr.alloc _ = w1 at *
      go_loopw [0, 7] (fun b jj wt => ∃ (c : Nat) (Z : List UInt8), c ≤ k ∧ jj = .int .i64 ((c : Int) - 1) ∧ Z.length + c ≤ 100 ∧ Hid (Z ++ beD n c = Y ++ beD n k) ∧ Hid (Ext w wt ∧ Sat wt (rowP 5 1 b Z.length (u8s Z) * (pts B (.cells #[.int .i64 (n : Int), .int .i64 (k : Int)] 110) * (pts F (.cells (fCells fs).toArray 110) * R))))) (fun _ jj _ => (intOf jj + 1).toNat)
      case atStart => exact ⟨k, Y, Nat.le_refl _, rfl, by omega, Lib.hid rfl, H1⟩
      case round =>
        obtain ⟨c, Z, hck, rfl, hZ, HZ, HT⟩ := hrel
        have hfd := HT.out.2.right
        have q0 : wr.cell? ⟨B, 0, none⟩ = some (.int .i64 (n : Int)) := hfd.cell
        clear hfd
        cases c with
        | zero =>
          have HE := Lib.hid (show Ext w wr ∧ Sat wr (rowP 5 1 u0 (X ++ fOut (fs.take (j + 1))).length (u8s (X ++ fOut (fs.take (j + 1)))) * (pts F (.cells (fCells fs).toArray 110) * R)) from ⟨HT.out.1, by
            have e : X ++ fOut (fs.take (j + 1)) = Z := by
              rw [List.take_add_one, HJ.out]
              show X ++ fOut (List.take j fs ++ [(n, k)]) = Z
              rw [fOut_snoc, ← List.append_assoc, HYD.out, ← HZ.out]
              simp [beD]
            rw [e]
            have := HT.out.2
            exact (this.cast (show _ = pts B (.cells #[.int .i64 (n : Int), .int .i64 (k : Int)] 110) * _ by ac_rfl)).right⟩)
          clear HT HZ H1 HYD q0
          go_wp2_with fail
          exact ⟨⟨j + 1, by omega, by go_num, HE⟩, by simp [intOf]; omega⟩
        | succ c =>
          rw [show ((c + 1 : Nat) : Int) - 1 = (c : Int) by omega]
          have hb : (n : Int) / 2 ^ (8 * c) % 256 = (((UInt8.ofNat (n / 256 ^ c)).toNat : Nat) : Int) := by
            rw [UInt8.toNat_ofNat', show (256 : Nat) ^ c = 2 ^ (8 * c) by rw [Nat.pow_mul]]
            simp
          have h3 := HT.out.2.alloc (.cells #[.int .u8 ((n : Int) / 2 ^ (8 * c) % 256)] 5)
          have H3 := Lib.hid (And.intro (HT.out.1.alloc (.cells #[.int .u8 ((n : Int) / 2 ^ (8 * c) % 256)] 5)) h3)
          have HN := Lib.hid (World.news_of_block (heap_alloc_new wr (.cells #[.int .u8 ((n : Int) / 2 ^ (8 * c) % 256)] 5)))
          have HB := Lib.hid hb
          clear hb h3
          go_wp2_with (at_builtin; refine wpList_append_lies _ rfl (.tmp 21) (.tmp 28) 54 rfl 0 5 i0 (.int .u8 0) 1 1 (by kernel_rfl) hi0 hz0 hz1 hz2 rfl (by decide) u0 Z.length _ rfl H3.out.2.owns ⟨wr.heap.size, 0, none⟩ 1 1 [.int .u8 ((n : Int) / 2 ^ (8 * c) % 256)] rfl rfl HN.out (by rw [HB.out]; exact one_u8 _) (by decide) (by unfold maxLen; omega) (by omega) (Nat.zero_le _) _ rfl ?_)
          intro g cap w3 hown hgrow hat hlt3
          have hs4 := H3.out.2.appended hown hgrow (by rw [World.size_alloc]; exact hat)
          have H4 := Lib.hid (And.intro (H3.out.1.grown hgrow) hs4)
          clear hown hgrow hat hlt3 hs4 q0
          go_wp2_with fail
          refine ⟨⟨c, Z ++ [UInt8.ofNat (n / 256 ^ c)], by omega, by go_num, by simp; omega, Lib.hid (by rw [← HZ.out, List.append_assoc]; rfl), Lib.hid ⟨H4.out.1, ?_⟩⟩, by simp [intOf]⟩
          have := H4.out.2
          rw [HB.out] at this
          rw [u8s_add, List.length_append]
          exact this
    · have hjm : j = m := by omega
      have HE := Lib.hid (show fs.take j = fs from List.take_of_length_le (by rw [HM.out]; omega))
      go_wp2_with fail
      go_ret
      have := HR.out
      rw [HE.out] at this
      exact ⟨_, rfl, this⟩
end Go.Proofs.YtmemhoiepnlhfaaGreatDoor
