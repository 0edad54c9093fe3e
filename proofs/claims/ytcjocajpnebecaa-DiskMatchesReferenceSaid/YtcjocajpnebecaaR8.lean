/-
  The ref disk's New, walked, for a number of sectors that is valid.
-/
import Derived.Test.YtcjocajpnebecaaR7
import Derived.Deep.DeepCutAuto
namespace Go.Proofs.Ytcjocajpnebecaa
open Go.RowKit

def zeroText : ByteArray := ⟨(List.replicate 64 (0 : UInt8)).toArray⟩
set_option maxRecDepth 100000 in
set_option maxHeartbeats 800000 in
theorem zero_any (w : World) : Calls Try.prog 31 #[.int .i64 64] w fun e w' => e = .returned (.string zeroText) ∧ w = w' := by
  go_enter Try.func31, Try.ntmps31
  go_wp2_with fail
  go_loop [3, 4] (fun s x => ∃ k : Nat, k ≤ 64 ∧ x = .int .i64 k ∧ s = .string ⟨(List.replicate k (0 : UInt8)).toArray⟩) (fun _ x => 64 - (intOf x).toNat)
  case atStart => exact ⟨0, by omega, rfl, rfl⟩
  case round =>
    obtain ⟨k, hk, rfl, rfl⟩ := hrel
    have hsz : (⟨(List.replicate k (0 : UInt8)).toArray⟩ : ByteArray).size ≤ 64 := by rw [ba_size]; simpa using hk
    by_cases hlt : k < 64
    · have hadd := fun wx => run_string_add_sum (P := Try.prog) (w := wx) (⟨(List.replicate k (0 : UInt8)).toArray⟩ : ByteArray) (⟨#[0]⟩ : ByteArray) (by show _ + 1 ≤ _; omega)
      go_wp2_with fail
      refine ⟨⟨k + 1, by omega, by go_num, ?_⟩, by simp [intOf]; omega⟩
      rw [ba_append, List.replicate_succ']; simp
    · have hkk : k = 64 := by omega
      subst hkk
      go_wp2_with fail
      go_ret
      exact ⟨rfl, rfl⟩
theorem secs_zero (n : Nat) : secs n (List.replicate (64 * n) 0) = List.replicate n zeroText := by
  apply List.ext_getElem?
  intro i
  by_cases hi : i < n
  · rw [secs_get n _ i hi, List.getElem?_replicate, if_pos hi]
    congr 2
    unfold sec
    rw [List.drop_replicate, List.take_replicate, Nat.min_eq_left (by omega)]
  · rw [List.getElem?_eq_none (by rw [secs_len]; omega), List.getElem?_eq_none (by simp; omega)]

def rowsOf (k : Nat) : List Value := (List.replicate k zeroText).map Value.string
theorem rowsOf_succ (k : Nat) : rowsOf (k + 1) = rowsOf k ++ [.string zeroText] := by
  unfold rowsOf; rw [List.replicate_succ', List.map_append]; rfl
set_option maxRecDepth 100000 in
set_option maxHeartbeats 1600000 in
theorem rnew_yes (n : Nat) (h1 : 1 ≤ n) (h2 : n ≤ 4000) (R : HProp) (w : World) (h : Sat w R) : Calls Try.prog 14 #[.int .i64 (n : Int)] w fun e w' =>
    ∃ m, e = .returned (.pointer (some ⟨m, 0, none⟩)) ∧ Ext w w' ∧ Sat w' (refP m (DS.fresh n) * R) := by
  have hb1 : ¬ ((n : Int) < 1) := by omega
  have hb2 : ¬ ((4000 : Int) < n) := by omega
  obtain ⟨i0, hi0, hz0, hz1, hz2⟩ := info_parts Try.infoString
  have H0 := Lib.hid h
  clear h
  go_enter Try.func14, Try.ntmps14
  go_wp2_with fail
  refine (zero_any _).mono ?_
  rintro e wx ⟨rfl, rfl⟩
  have hs := (H0.out.allocNew (.cells (RA.cells ⟨.slice none 0 0, .slice none 0 0, .slice none 0 0, false, 0, 0, 0⟩ false) 64))
  have hs2 : Sat _ (rowP 9 1 (.slice none 0 0) 0 [] * (rowP 9 1 (.slice none 0 0) 0 [] * _)) := Sat.nilRow (Sat.nilRow hs)
  have H1 := Lib.hid (And.intro ((Ext.refl w).alloc (.cells (RA.cells ⟨.slice none 0 0, .slice none 0 0, .slice none 0 0, false, 0, 0, 0⟩ false) 64)) (hs2.cast (show _ = pts w.heap.size (.cells (RA.cells ⟨.slice none 0 0, .slice none 0 0, .slice none 0 0, false, 0, 0, 0⟩ false) 64) * (rowP 9 1 (.slice none 0 0) 0 (rowsOf 0) * (rowP 9 1 (.slice none 0 0) 0 (rowsOf 0) * R)) by (show rowP 9 1 (.slice none 0 0) 0 [] * (rowP 9 1 (.slice none 0 0) 0 [] * _) = _ * (rowP 9 1 (.slice none 0 0) 0 [] * (rowP 9 1 (.slice none 0 0) 0 [] * R)); ac_rfl))))
  clear hs hs2 H0
  generalize w.heap.size = m at *
  go_wp2_with fail
  go_loopw [5] (fun x wr => ∃ (k : Nat) (sv ev : Value), k ≤ n ∧ x = .int .i64 k ∧ Hid (Ext w wr ∧ Sat wr (pts m (.cells (RA.cells ⟨sv, ev, .slice none 0 0, false, 0, 0, 0⟩ false) 64) * (rowP 9 1 sv k (rowsOf k) * (rowP 9 1 ev k (rowsOf k) * R))))) (fun x _ => n - (intOf x).toNat)
  case atStart => exact ⟨0, _, _, Nat.zero_le _, rfl, H1.out⟩
  case round =>
    obtain ⟨k, sv, ev, hk, rfl, HR⟩ := hrel
    clear H1
    by_cases hlt : k < n
    · obtain ⟨c0, c1, c2, c3, c4, c5, c6, c7, hm⟩ := HR.out.2.ref8
      have hs := (HR.out.2.alloc (.cells #[.string zeroText] 9)).cast (show _ = rowP 9 1 sv k (rowsOf k) * (pts m (.cells (RA.cells ⟨sv, ev, .slice none 0 0, false, 0, 0, 0⟩ false) 64) * (rowP 9 1 ev k (rowsOf k) * R)) by ac_rfl)
      have H3 := Lib.hid (And.intro (HR.out.1.alloc (.cells #[.string zeroText] 9)) hs)
      have HN := Lib.hid (World.news_of_block (heap_alloc_new wr (.cells #[.string zeroText] 9)))
      clear hs
      go_wp2_with (at_builtin; refine wpList_append_lies _ rfl (.tmp 24) (.tmp 26) 39 rfl 0 9 i0 (.string ⟨#[]⟩) 1 16 (by kernel_rfl) hi0 hz0 hz1 hz2 rfl (by decide) sv k (rowsOf k) rfl H3.out.2.owns ⟨wr.heap.size, 0, none⟩ 1 1 [.string zeroText] rfl rfl HN.out (strs_one [zeroText]) (by decide) (by unfold maxLen; omega) (by omega) (Nat.zero_le _) _ rfl ?_)
      intro g cap w2 hown hgrow hat hlt2
      have hs4 := H3.out.2.appended hown hgrow (by rw [World.size_alloc]; exact hat)
      rw [← rowsOf_succ] at hs4
      have hs5 := hs4.cast (show _ = pts m (.cells (RA.cells ⟨sv, ev, .slice none 0 0, false, 0, 0, 0⟩ false) 64) * (rowP 9 1 (.slice (some ⟨g, 0, none⟩) (k + 1) cap) (k + 1) (rowsOf (k + 1)) * (rowP 9 1 ev k (rowsOf k) * R)) by ac_rfl)
      clear c0 c1 c2 c3 c4 c5 c6 c7 hm
      have f0 := fun i => hs5.free (i := i)
      have hm := hs5.lt
      obtain ⟨c0, _⟩ := hs5.ref8
      have hs6 := hs5.setCell (i := 0) (.slice (some ⟨g, 0, none⟩) (k + 1) cap)
      have hx6 := (H3.out.1.grown hgrow).setCell ⟨m, 0, none⟩ (.slice (some ⟨g, 0, none⟩) (k + 1) cap)
      have H6 := Lib.hid (And.intro hx6 (show Sat _ (pts m (.cells (RA.cells ⟨.slice (some ⟨g, 0, none⟩) (k + 1) cap, ev, .slice none 0 0, false, 0, 0, 0⟩ false) 64) * _) from hs6))
      clear hs4 hs5 hs6 hx6 hown hgrow hat hlt2 H3 HN
      go_upto_region 9 with fail
      clear c0 f0 hm
      generalize w2.setCell _ _ = w3 at *
      obtain ⟨c0, c1, c2, c3, c4, c5, c6, c7, hm⟩ := H6.out.2.ref8
      have hs := (H6.out.2.alloc (.cells #[.string zeroText] 9)).cast (show _ = rowP 9 1 ev k (rowsOf k) * (pts m (.cells (RA.cells ⟨.slice (some ⟨g, 0, none⟩) (k + 1) cap, ev, .slice none 0 0, false, 0, 0, 0⟩ false) 64) * (rowP 9 1 (.slice (some ⟨g, 0, none⟩) (k + 1) cap) (k + 1) (rowsOf (k + 1)) * R)) by ac_rfl)
      have H3 := Lib.hid (And.intro (H6.out.1.alloc (.cells #[.string zeroText] 9)) hs)
      have HN := Lib.hid (World.news_of_block (heap_alloc_new w3 (.cells #[.string zeroText] 9)))
      clear hs
      go_wp2_with (at_builtin; refine wpList_append_lies _ rfl (.tmp 34) (.tmp 36) 39 rfl 0 9 i0 (.string ⟨#[]⟩) 1 16 (by kernel_rfl) hi0 hz0 hz1 hz2 rfl (by decide) ev k (rowsOf k) rfl H3.out.2.owns ⟨w3.heap.size, 0, none⟩ 1 1 [.string zeroText] rfl rfl HN.out (strs_one [zeroText]) (by decide) (by unfold maxLen; omega) (by omega) (Nat.zero_le _) _ rfl ?_)
      intro g2 cap2 w4 hown hgrow hat hlt2
      have hs4 := H3.out.2.appended hown hgrow (by rw [World.size_alloc]; exact hat)
      rw [← rowsOf_succ] at hs4
      have hs5 := hs4.cast (show _ = pts m (.cells (RA.cells ⟨.slice (some ⟨g, 0, none⟩) (k + 1) cap, ev, .slice none 0 0, false, 0, 0, 0⟩ false) 64) * (rowP 9 1 (.slice (some ⟨g, 0, none⟩) (k + 1) cap) (k + 1) (rowsOf (k + 1)) * (rowP 9 1 (.slice (some ⟨g2, 0, none⟩) (k + 1) cap2) (k + 1) (rowsOf (k + 1)) * R)) by ac_rfl)
      clear c0 c1 c2 c3 c4 c5 c6 c7 hm
      have f0 := fun i => hs5.free (i := i)
      have hm := hs5.lt
      have d1 := hs5.ref8.2.1
      have hs6 := hs5.setCell (i := 1) (.slice (some ⟨g2, 0, none⟩) (k + 1) cap2)
      have hx6 := (H3.out.1.grown hgrow).setCell ⟨m, 1, none⟩ (.slice (some ⟨g2, 0, none⟩) (k + 1) cap2)
      have H7 := Lib.hid (And.intro hx6 (show Sat _ (pts m (.cells (RA.cells ⟨.slice (some ⟨g, 0, none⟩) (k + 1) cap, .slice (some ⟨g2, 0, none⟩) (k + 1) cap2, .slice none 0 0, false, 0, 0, 0⟩ false) 64) * _) from hs6))
      clear hs4 hs5 hs6 hx6 hown hgrow hat hlt2 H3 HN H6
      go_wp2_with fail
      exact ⟨⟨k + 1, _, _, by omega, by go_num, H7.out⟩, by simp [intOf]; omega⟩
    · have hkn : k = n := by omega
      subst hkn
      have hrow : ∀ v : Value, rowP 9 1 v k (rowsOf k) = strRow v (secs k (List.replicate (64 * k) 0)) := fun v => by
        unfold strRow rowsOf; rw [secs_zero, List.length_replicate]
      have hs := HR.out.2
      rw [hrow, hrow] at hs
      have hs2 : Sat wr (rowP 73 2 (.slice none 0 0) 0 [] * _) := Sat.nilRow hs
      have hs3 : Sat wr (refP m (DS.fresh k) * R) := Sat.mkRef (x := ⟨sv, ev, .slice none 0 0, false, 0, 0, 0⟩) (DS.fresh_ok k h1 h2) rfl (hs2.cast (show _ = pts m (.cells (RA.cells ⟨sv, ev, .slice none 0 0, false, 0, 0, 0⟩ false) 64) * (strRow sv (secs k (List.replicate (64 * k) 0)) * (strRow ev (secs k (List.replicate (64 * k) 0)) * (rowP 73 2 (.slice none 0 0) 0 [] * R))) by ac_rfl))
      have H8 := Lib.hid (And.intro HR.out.1 hs3)
      clear hs hs2 hs3 hrow
      go_wp2_with fail
      go_ret
      exact ⟨m, rfl, H8.out⟩
end Go.Proofs.Ytcjocajpnebecaa
