/-
  The helpers of the disk's laws, walked: contents, same. Their condition: a disk that is on; lists of texts in memory.
-/
import Derived.Test.YtcjocajpnebecaaL2
namespace Go.Proofs.Ytcjocajpnebecaa
open Go.RowKit

theorem Try.infoString : (Try.prog.info? 9).map (fun i => (i.zero, i.size, i.bytes)) = some (some (.string ⟨#[]⟩), 1, 16) := by kernel_rfl
/-- A slice of texts in a row of its own. -/
def strRow (v : Value) (l : List ByteArray) : HProp := rowP 9 1 v l.length (l.map Value.string)
def DS.all (S : DS) : List ByteArray := (List.range S.n).map S.secNow
theorem secNow_size {S : DS} (h : S.ok) (i : Nat) (hi : i < S.n) : (S.secNow i).size = 64 := by
  unfold DS.secNow
  cases hl : lastOf S.q i with
  | none => simp only [Option.getD_none]; rw [ba_size, sec_len h.st hi]
  | some t =>
    simp only [Option.getD_some]
    unfold lastOf at hl
    obtain ⟨p, hp, rfl⟩ := Option.map_eq_some_iff.1 hl
    exact (h.q p (List.mem_reverse.1 (List.mem_of_find?_eq_some hp))).2
theorem read_ok {S : DS} (hoff : S.off = false) (i : Nat) (hi : i < S.n) : S.read (i : Int) = (S.secNow i, 0) := by
  have : S.valid (i : Int) = true := by rw [valid_iff]; omega
  simp [DS.read, hoff, this]
def Listed (d : Nat) (S : DS) (R : HProp) (w : World) (e : Ending) (w' : World) : Prop := ∃ v, e = .returned (.tuple #[v, .bool true]) ∧ Ext w w' ∧ Sat w' (strRow v S.all * (diskP d S * R))
theorem strs_one (l : List ByteArray) : ∀ u ∈ l.map Value.string, u.oneCell' = true := by
  intro u hu
  obtain ⟨b, _, rfl⟩ := List.mem_map.1 hu
  rfl

set_option maxRecDepth 100000 in
set_option maxHeartbeats 1600000 in
theorem contents_any (d : Nat) (S : DS) (hoff : S.off = false) (hq : S.q.length ≤ 1000000) (R : HProp) (w : World) (h : Sat w (diskP d S * R)) :
    Calls Try.prog 21 #[.pointer (some ⟨d, 0, none⟩), .int .i64 (S.n : Int)] w (Listed d S R w) := by
  have hok := h.disk.1
  have hn := hok.most
  have HO := Lib.hid hok
  have HF := Lib.hid hoff
  have H := Lib.hid h
  obtain ⟨i0, hi0, hz0, hz1, hz2⟩ := info_parts Try.infoString
  clear hok h hoff
  go_enter Try.func21, Try.ntmps21
  go_wp2_with fail
  go_loopw [6, 7] (fun v x wr => ∃ k : Nat, k ≤ S.n ∧ x = .int .i64 k ∧ Hid (Ext w wr ∧ Sat wr (rowP 9 1 v k (((List.range k).map S.secNow).map Value.string) * (diskP d S * R)))) (fun _ x _ => S.n - (intOf x).toNat)
  case atStart => exact ⟨0, Nat.zero_le _, rfl, Ext.refl _, Sat.nilRow H.out⟩
  case round =>
    obtain ⟨k, hk, rfl, HR⟩ := hrel
    by_cases hlt : k < S.n
    · go_wp2_with fail
      refine (read_any d S (k : Int) hq _ _ (HR.out.2.swap.cast (sep_assoc _ _ _))).mono ?_
      rintro e w2 ⟨rfl, hk2⟩
      rw [read_ok HF.out k hlt]
      simp only
      have H2 := Lib.hid (And.intro (HR.out.1.trans hk2.ext) (HR.out.2.kept hk2))
      have hsz : (((S.secNow k).size : Int) == 64) = true := by rw [secNow_size HO.out k hlt]; rfl
      have h3 := H2.out.2.alloc (.cells #[.string (S.secNow k)] 9)
      have H3 := Lib.hid (And.intro (H2.out.1.alloc (.cells #[.string (S.secNow k)] 9)) h3)
      have HN := Lib.hid (World.news_of_block (heap_alloc_new w2 (.cells #[.string (S.secNow k)] 9)))
      clear hk2 h3
      go_wp2_with (at_builtin; refine wpList_append_lies _ rfl (.tmp 28) (.tmp 30) 39 rfl 0 9 i0 (.string ⟨#[]⟩) 1 16 (by kernel_rfl) hi0 hz0 hz1 hz2 rfl (by decide) u6 k _ rfl H3.out.2.owns ⟨w2.heap.size, 0, none⟩ 1 1 [.string (S.secNow k)] rfl rfl HN.out (strs_one [S.secNow k]) (by decide) (by unfold maxLen; omega) (by omega) (Nat.zero_le _) _ rfl ?_)
      intro g cap w3 hown hgrow hat hlt3
      have hs4 := H3.out.2.appended hown hgrow (by rw [World.size_alloc]; exact hat)
      have H4 := Lib.hid (And.intro (H3.out.1.grown hgrow) hs4)
      clear hown hgrow hat hlt3 hs4
      go_wp2_with fail
      refine ⟨⟨k + 1, by omega, by go_num, H4.out.1, ?_⟩, by simp [intOf]; omega⟩
      have := H4.out.2
      rw [List.range_succ, List.map_append, List.map_append]
      simpa using this
    · have hkn : k = S.n := by omega
      have H2 := Lib.hid (show Ext w wr ∧ Sat wr (strRow u6 S.all * (diskP d S * R)) from ⟨HR.out.1, by
        have := HR.out.2
        unfold strRow DS.all
        rw [List.length_map, List.length_range, ← hkn]; exact this⟩)
      clear hkn
      go_wp2_with fail
      go_ret2
      exact ⟨_, rfl, H2.out⟩

theorem Sat.strCell {w : World} {g n cap : Nat} {l : List ByteArray} {R : HProp} (h : Sat w (strRow (.slice (some ⟨g, 0, none⟩) n cap) l * R)) (i : Nat) (t : ByteArray) (hi : l[i]? = some t) : w.cell? ⟨g, i, none⟩ = some (.string t) := by
  unfold strRow at h
  obtain ⟨ao, cap', hv, _, _, hh⟩ := h.rowForm
  obtain ⟨rfl, rfl, rfl⟩ : some ⟨g, 0, none⟩ = ao ∧ n = l.length ∧ cap = cap' := by simpa using hv
  exact h.rowCell (i := i) (by rw [List.getElem?_map, hi]; rfl)
theorem Sat.strForm {w : World} {v : Value} {l : List ByteArray} {R : HProp} (h : Sat w (strRow v l * R)) :
    ∃ ao cap, v = .slice ao l.length cap ∧ l.length ≤ 9223372036854775807 ∧ ∀ i t, l[i]? = some t → ∃ g, ao = some ⟨g, 0, none⟩ ∧ w.cell? ⟨g, i, none⟩ = some (.string t) := by
  have h0 := h
  unfold strRow at h
  obtain ⟨ao, cap, rfl, h1, h2, hh⟩ := h.rowForm
  unfold maxLen at h2
  refine ⟨ao, cap, rfl, by omega, fun i t hi => ?_⟩
  have hlt := (List.getElem?_eq_some_iff.1 hi).1
  obtain ⟨g, cap', rfl, _⟩ := (hh _ (Nat.le_refl _)).2 (by omega)
  exact ⟨g, rfl, h0.strCell i t hi⟩

set_option maxRecDepth 100000 in
set_option maxHeartbeats 800000 in
theorem same_any (u v : Value) (l m : List ByteArray) (R Q : HProp) (w : World) (h1 : Sat w (strRow u l * R)) (h2 : Sat w (strRow v m * Q)) :
    Calls Try.prog 26 #[u, v] w fun e w' => e = .returned (.bool (decide (l = m))) ∧ Kept w w' := by
  obtain ⟨ao, cap, rfl, hl, hc⟩ := h1.strForm
  obtain ⟨bo, cbp, rfl, hm, hd⟩ := h2.strForm
  have HC := Lib.hid hc
  have HD := Lib.hid hd
  clear hc hd h1 h2
  by_cases hlm : l.length = m.length
  · have hne : ((l.length : Int) != (m.length : Int)) = false := by simp [hlm]
    have HL := Lib.hid hlm
    clear hlm
    go_enter Try.func26, Try.ntmps26
    go_wp2_with fail
    go_loopw [5] (fun x wr => ∃ k : Nat, k ≤ l.length ∧ x = .int .i64 k ∧ Hid (l.take k = m.take k) ∧ Hid (Kept w wr)) (fun x _ => l.length - (intOf x).toNat)
    case atStart => exact ⟨0, Nat.zero_le _, rfl, rfl, Kept.refl _⟩
    case round =>
      obtain ⟨k, hk, rfl, HT, HK⟩ := hrel
      by_cases hlt : k < l.length
      · have hlt2 : k < m.length := by have := HL.out; omega
        obtain ⟨x, hx⟩ : ∃ x, l[k]? = some x := ⟨_, List.getElem?_eq_getElem hlt⟩
        obtain ⟨y, hy⟩ : ∃ y, m[k]? = some y := ⟨_, List.getElem?_eq_getElem hlt2⟩
        obtain ⟨g, rfl, c1⟩ := HC.out k x hx
        obtain ⟨g', rfl, c2⟩ := HD.out k y hy
        have d1 := HK.out.cell c1
        have d2 := HK.out.cell c2
        have HX := Lib.hid (And.intro hx hy)
        clear hx hy c1 c2
        by_cases hxy : x = y
        · have ht : (x.toList == y.toList) = true := by simp [hxy]
          have HXY := Lib.hid hxy
          clear hxy
          go_wp2_with fail
          (refine wp_region_still_tail 8 (by kernel_rfl) (by kernel_rfl) ?_; simp only [List.take_succ_cons, List.take_zero, List.drop_succ_cons, List.drop_zero]; change wpStill _ _ (World.drew _) _ _ _; (repeat (refine wpStill_step (fun K hK => ?_); go_simp; refine hK _ ?_; clear hK K)); refine wpStill_nil ?_; change wpList _ _ _ _ _ (World.drew _))
          go_wp2_with fail
          refine ⟨⟨k + 1, by omega, by go_num, ?_, HK.out.drew⟩, by simp [intOf]; omega⟩
          show _ = _
          rw [List.take_add_one, List.take_add_one, HX.out.1, HX.out.2, HT.out, HXY.out]
        · have ht : (x.toList == y.toList) = false := by
            rw [beq_eq_false_iff_ne]; intro h; apply hxy
            rw [Lib.toList_data, Lib.toList_data, Array.toList_inj] at h
            exact ByteArray.ext h
          have E : Hid (decide (l = m) = false) := Lib.hid (by
            rw [decide_eq_false_iff_not]; rintro rfl
            have := HX.out.1.symm.trans HX.out.2
            exact hxy (Option.some.inj this))
          clear hxy
          go_wp2_with fail
          (refine wp_region_still_tail 8 (by kernel_rfl) (by kernel_rfl) ?_; simp only [List.take_succ_cons, List.take_zero, List.drop_succ_cons, List.drop_zero]; change wpStill _ _ (World.drew _) _ _ _; (repeat (refine wpStill_step (fun K hK => ?_); go_simp; refine hK _ ?_; clear hK K)); refine wpStill_nil ?_; change wpList _ _ _ _ _ (World.drew _))
          go_wp2_with fail
          go_ret
          rw [E.out]
          exact ⟨rfl, HK.out.drew⟩
      · have E : Hid (decide (l = m) = true) := Lib.hid (by
          have h1 := HT.out
          rw [List.take_of_length_le (by omega), List.take_of_length_le (by have := HL.out; omega)] at h1
          simp [h1])
        go_wp2_with fail
        go_ret
        rw [E.out]
        exact ⟨rfl, HK.out⟩
  · have hne : ((l.length : Int) != (m.length : Int)) = true := by simp; omega
    have E : Hid (decide (l = m) = false) := Lib.hid (by rw [decide_eq_false_iff_not]; rintro rfl; exact hlm rfl)
    clear hlm
    go_enter Try.func26, Try.ntmps26
    go_wp2_with fail
    go_ret
    rw [E.out]
    exact ⟨rfl, Kept.refl _⟩
end Go.Proofs.Ytcjocajpnebecaa
