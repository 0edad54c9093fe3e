/-
  log's write, walked. Its condition: bodies that lie in memory.
-/
import Derived.Test.YtmemhoiepnlhfaaGreatDoorJE
namespace Go.Proofs.YtmemhoiepnlhfaaGreatDoor
open Go.RowKit
set_option maxRecDepth 100000

theorem each_q (S : DS) (ws : List (Nat × ByteArray)) (h : (eachR S ws).1 = 0) : (eachR S ws).2.q = [] := by
  unfold eachR at *
  by_cases h1 : (writes S ws).1 = 0
  · rw [if_pos h1] at h ⊢
    unfold DS.sync at *
    split at h
    · cases h
    · rename_i h2
      rw [if_neg h2]
      by_cases h3 : (writes S ws).2.count.1 = 0
      · rw [if_pos h3]; rfl
      · rw [if_neg h3] at h; exact absurd h h3
  · rw [if_neg h1] at h; exact absurd h h1
def andR (a : Int × DS) (f : DS → Int × DS) : Int × DS := if a.1 = 0 then f a.2 else a
def blanks (from' n : Nat) : List (Nat × ByteArray) := (List.range n).map fun i => (from' + i, zeroB)
def datas (from' gen : Nat) (bodies : List ByteArray) : List (Nat × ByteArray) := bodies.mapIdx fun i b => (from' + i, (putR (gen : Int) ((from' + i : Nat) : Int) b).1)
def writeR (S : DS) (from' gen : Nat) (bodies : List ByteArray) : Int × DS :=
  andR (eachR S (blanks from' bodies.length)) fun T => eachR T (datas from' gen bodies)
def places (from' n : Nat) : List Nat := (List.range n).map (from' + ·)
theorem blanks_fst (from' n : Nat) : (blanks from' n).map (·.1) = places from' n := by simp [blanks, places, Function.comp_def]
theorem datas_fst (from' gen : Nat) (bodies : List ByteArray) : (datas from' gen bodies).map (·.1) = places from' bodies.length := by
  apply List.ext_getElem?
  intro i
  simp only [datas, places, List.getElem?_map, List.getElem?_mapIdx]
  by_cases h : i < bodies.length
  · simp [h]
  · simp [h]
theorem places_snoc (from' j : Nat) : places from' (j + 1) = places from' j ++ [from' + j] := by simp [places, List.range_succ]
theorem places_len (from' j : Nat) : (places from' j).length = j := by simp [places]
theorem Tryz.infoInt : (Tryz.prog.info? 3).map (fun i => (i.zero, i.size, i.bytes)) = some (some (.int .i64 0), 1, 8) := by kernel_rfl
theorem Tryz.makeFn (fn : Fn) (first cap : Array Value) (w : World) : (Instr.makeFunc fn first cap).run Tryz.prog w = .ok (.func fn first cap) w := rfl

set_option maxHeartbeats 3200000 in
theorem write_log (l d from' gen : Nat) (vb : Option Addr) (c : Nat) (bodies : List ByteArray) (F : HProp) (hb : from' ≤ 100000 ∧ gen ≤ 1000000 ∧ bodies.length ≤ 10000)
    (hl : ∀ wx X, Sat wx (F * X) → wx.cell? ⟨l, 3, none⟩ = some (.pointer (some ⟨d, 0, none⟩)) ∧ l < wx.heap.size)
    (hbod : ∀ (i : Nat) x, bodies[i]? = some x → ∃ g o, vb = some ⟨g, o, none⟩ ∧ ∀ wx X, Sat wx (F * X) → wx.cell? ⟨g, o + i, none⟩ = some (.string x))
    (S : DS) (hq : S.q.length + bodies.length ≤ 100000) (R : HProp) (w : World) (h : Sat w (diskP d S * (F * R))) :
    Calls Tryz.prog 42 #[.pointer (some ⟨l, 0, none⟩), .int .i64 (from' : Int), .int .i64 (gen : Int), .slice vb bodies.length c] w fun r w' =>
      Ends (writeR S from' gen bodies).1 r ∧ Ext w w' ∧ Sat w' (diskP d (writeR S from' gen bodies).2 * (F * R)) := by
  obtain ⟨i0, hi0, hz0, hz1, hz2⟩ := info_parts Tryz.infoInt
  have hmf := Tryz.makeFn
  have HL := Lib.hid hl
  have HB := Lib.hid hbod
  obtain ⟨hb1, hb2, hb3⟩ := hb
  obtain ⟨n, hn⟩ : ∃ n, bodies.length = n := ⟨_, rfl⟩
  have HN := Lib.hid hn
  have hW : Hid (writeR S from' gen bodies = andR (eachR S (blanks from' n)) fun T => eachR T (datas from' gen bodies)) := Lib.hid (by unfold writeR; rw [hn])
  obtain ⟨E, hE⟩ : ∃ E, writeR S from' gen bodies = E := ⟨_, rfl⟩
  rw [hE] at hW ⊢
  rw [hn] at hb3 hq ⊢
  have H := Lib.hid (And.intro ((((Ext.refl w).alloc (.cells #[.int .i64 (from' : Int)] 3)).alloc (.cells #[.int .i64 (gen : Int)] 3)).alloc (.cells #[.slice vb n c] 22))
    (((h.allocNew (.cells #[.int .i64 (from' : Int)] 3)).allocNew (.cells #[.int .i64 (gen : Int)] 3)).allocNew (.cells #[.slice vb n c] 22)))
  simp only [World.size_alloc] at H
  clear hl hbod hn hE h
  go_enter Tryz.func42, Tryz.ntmps42
  go_wp2_with fail
  generalize w.heap.size = B at *
  obtain ⟨w0, hw0⟩ : ∃ w0, ((w.alloc (.cells #[.int .i64 (from' : Int)] 3)).alloc (.cells #[.int .i64 (gen : Int)] 3)).alloc (.cells #[.slice vb n c] 22) = w0 := ⟨_, rfl⟩
  rw [hw0] at H ⊢
  clear hw0
  obtain ⟨G, hG⟩ : ∃ G, pts (B + 1 + 1) (.cells #[.slice vb n c] 22) * (pts (B + 1) (.cells #[.int .i64 (gen : Int)] 3) * pts B (.cells #[.int .i64 (from' : Int)] 3)) = G := ⟨_, rfl⟩
  have HG : Hid (∀ wx X, Sat wx (G * X) → wx.cell? ⟨B + 1 + 1, 0, none⟩ = some (.slice vb n c) ∧ wx.cell? ⟨B + 1, 0, none⟩ = some (.int .i64 (gen : Int)) ∧ wx.cell? ⟨B, 0, none⟩ = some (.int .i64 (from' : Int))) := Lib.hid (by
    intro wx X hx
    rw [← hG] at hx
    refine ⟨?_, ?_, ?_⟩
    · rw [(hx.cast (show _ = pts (B + 1 + 1) (.cells #[.slice vb n c] 22) * _ by rw [sep_assoc])).cell]; rfl
    · rw [(hx.cast (show _ = pts (B + 1) (.cells #[.int .i64 (gen : Int)] 3) * (pts (B + 1 + 1) (.cells #[.slice vb n c] 22) * (pts B (.cells #[.int .i64 (from' : Int)] 3) * X)) by ac_rfl)).cell]; rfl
    · rw [(hx.cast (show _ = pts B (.cells #[.int .i64 (from' : Int)] 3) * (pts (B + 1 + 1) (.cells #[.slice vb n c] 22) * (pts (B + 1) (.cells #[.int .i64 (gen : Int)] 3) * X)) by ac_rfl)).cell]; rfl)
  have H0 := Lib.hid (And.intro H.out.1 (H.out.2.cast (show _ = G * (diskP d S * (F * R)) by rw [← hG]; ac_rfl)))
  clear H hG
  go_loopw [8, 12] (fun b i wr => ∃ j : Nat, j ≤ n ∧ i = .int .i64 j ∧ Hid (Ext w wr ∧ Sat wr (rowP 3 1 b j ((places from' j).map fun i : Nat => Value.int .i64 (i : Int)) * (G * (diskP d S * (F * R)))))) (fun _ i _ => n - (intOf i).toNat)
  case atStart => exact ⟨0, Nat.zero_le _, rfl, Lib.hid ⟨H0.out.1, Sat.nilRow H0.out.2⟩⟩
  case round =>
    obtain ⟨j, hj, rfl, HR⟩ := hrel
    by_cases hlt : j < n
    · have q0 : wr.cell? ⟨B, 0, none⟩ = some (.int .i64 (from' : Int)) := (HG.out wr _ (HR.out.2.cast (show _ = G * (rowP 3 1 u8 j ((places from' j).map fun i : Nat => Value.int .i64 (i : Int)) * (diskP d S * (F * R))) by ac_rfl))).2.2
      have hwr : IntKind.i64.wrap ((from' : Int) + (j : Int)) = (from' : Int) + (j : Int) := by rw [IntKind.wrap_i64]; omega
      have h3 := HR.out.2.alloc (.cells #[.int .i64 ((from' : Int) + (j : Int))] 3)
      have H3 := Lib.hid (And.intro (HR.out.1.alloc (.cells #[.int .i64 ((from' : Int) + (j : Int))] 3)) h3)
      have HN2 := Lib.hid (World.news_of_block (heap_alloc_new wr (.cells #[.int .i64 ((from' : Int) + (j : Int))] 3)))
      clear h3
      go_wp2_with (at_builtin; refine wpList_append_lies _ rfl (.tmp 15) (.tmp 19) 79 rfl 0 3 i0 (.int .i64 0) 1 8 (by kernel_rfl) hi0 hz0 hz1 hz2 rfl (by decide) u8 j _ rfl H3.out.2.owns ⟨wr.heap.size, 0, none⟩ 1 1 [.int .i64 ((from' : Int) + (j : Int))] rfl rfl HN2.out (by simp [Value.oneCell']) (by decide) (by unfold maxLen; omega) (by omega) (Nat.zero_le _) _ rfl ?_)
      intro g cap w3 hown hgrow hat hlt3
      have hs4 := H3.out.2.appended hown hgrow (by rw [World.size_alloc]; exact hat)
      have H4 := Lib.hid (And.intro (H3.out.1.grown hgrow) hs4)
      clear hown hgrow hat hlt3 hs4 q0
      go_wp2_with fail
      refine ⟨⟨j + 1, hlt, congrArg (Value.int .i64) (by omega), Lib.hid ⟨H4.out.1, ?_⟩⟩, by simp [intOf]; omega⟩
      have := H4.out.2
      rw [places_snoc, List.map_append]
      exact this
    · obtain rfl : j = n := by omega
      go_wp2_with fail
      have hrow : Sat wr (intRow u8 ((blanks from' j).map (·.1)) * (diskP d S * (F * (G * R)))) := HR.out.2.cast (by
        unfold intRow
        rw [blanks_fst, places_len]
        ac_rfl)
      have hn1 : (blanks from' j).length = j := by simp [blanks]
      refine (each_any l d 45 #[.pointer (some ⟨l, 0, none⟩)] #[] F (blanks from' j) (by rw [hn1]; omega) (enters_of Tryz.func45 (by kernel_rfl) rfl) HL.out (fun i p hp wx X _ => ?_) S (by rw [hn1]; exact hq) u8 (G * R) wr hrow).mono ?_
      · have hp2 : p.2 = zeroB := by
          simp only [blanks, List.getElem?_map, Option.map_eq_some_iff] at hp
          obtain ⟨_, _, rfl⟩ := hp
          rfl
        rw [hp2]
        exact blank_any _ _ _
      rintro r w1 ⟨hr, hx, hs⟩
      obtain ⟨E1, hE1⟩ : ∃ E1, eachR S (blanks from' j) = E1 := ⟨_, rfl⟩
      have hq1 := each_q S (blanks from' j)
      rw [hE1] at hW hr hs hq1
      have HH := Lib.hid (And.intro (HR.out.1.trans hx) hs)
      clear hrow hx hs HR hE1
      by_cases he : E1.1 = 0
      · unfold Ends at hr
        rw [if_pos he] at hr
        subst hr
        have hq2 := hq1 he
        have hW2 : Hid (E = eachR E1.2 (datas from' gen bodies)) := Lib.hid (by rw [hW.out, andR, if_pos he])
        have hn2 : (datas from' gen bodies).length = j := by simp [datas, HN.out]
        clear hq1 hW
        go_wp2_with fail
        refine (each_any l d 65 #[] #[.pointer (some ⟨B + 1, 0, none⟩), .pointer (some ⟨B, 0, none⟩), .pointer (some ⟨B + 1 + 1, 0, none⟩)] (F * G) (datas from' gen bodies) (by rw [hn2]; omega) (enters_of Tryz.func65 (by kernel_rfl) rfl) (fun wx X h => HL.out wx (G * X) (h.cast (by ac_rfl))) (fun i p hp wx X h => ?_) E1.2 (by rw [hn2, hq2]; simp; omega) u8 R w1 (HH.out.2.cast (by rw [blanks_fst, datas_fst, HN.out]; ac_rfl))).mono ?_
        · simp only [datas, List.getElem?_mapIdx, Option.map_eq_some_iff] at hp
          obtain ⟨x, hx, rfl⟩ := hp
          obtain ⟨g, o, rfl, hcell⟩ := HB.out i x hx
          have hij : i < j := by rw [← HN.out]; exact (List.getElem?_eq_some_iff.1 hx).1
          have hg := HG.out wx (F * X) (h.cast (by ac_rfl))
          exact write1_any (B + 1) B (B + 1 + 1) g o c j gen from' i x wx hij (by omega) hg.2.1 hg.2.2 hg.1 (hcell wx (G * X) (h.cast (by ac_rfl)))
        rintro r w2 ⟨hr, hx, hs⟩
        rw [← hW2.out] at hr hs
        have HZ := Lib.hid (And.intro (HH.out.1.trans hx) ((hs.cast (show _ = intRow u8 ((datas from' gen bodies).map (·.1)) * (G * (diskP d E.2 * (F * R))) by ac_rfl)).right.right))
        clear hx hs HH
        by_cases he2 : E.1 = 0
        · have hr2 := hr
          unfold Ends at hr2
          rw [if_pos he2] at hr2
          subst hr2
          go_wp2_with fail
          go_end0
          exact ⟨hr, HZ.out⟩
        · have hr2 := hr
          unfold Ends at hr2
          rw [if_neg he2] at hr2
          subst hr2
          go_wp2_with fail
          exact ⟨rfl, hr, HZ.out⟩
      · have hW2 : Hid (E = E1) := Lib.hid (by rw [hW.out, andR, if_neg he])
        have hr2 := hr
        unfold Ends at hr2
        rw [if_neg he] at hr2
        subst hr2
        have HZ := Lib.hid (And.intro HH.out.1 ((HH.out.2.cast (show _ = intRow u8 ((blanks from' j).map (·.1)) * (G * (diskP d E1.2 * (F * R))) by ac_rfl)).right.right))
        rw [← hW2.out] at hr HZ
        clear HH
        go_wp2_with fail
        exact ⟨rfl, by rw [hW2.out] at hr ⊢; exact hr, HZ.out⟩
end Go.Proofs.YtmemhoiepnlhfaaGreatDoor
