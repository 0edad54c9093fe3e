/-
  The helpers of the disk's laws, walked: fill, ok, do. Their condition: the operations read as a list; the receiver is a disk in memory; few pending writes.
-/
import Derived.Test.YtcjocajpnebecaaL1
namespace Go.Proofs.Ytcjocajpnebecaa
open Go.RowKit

set_option maxHeartbeats 400000 in
theorem fill_any (t : ByteArray) (h0 : 0 < t.size) (h100 : t.size ≤ 100) (w : World) : Calls Try.prog 27 #[.string t] w fun e w' => e = .returned (.string ⟨(full t.data.toList).toArray⟩) ∧ Kept w w' := by
  have E : AC.write ⟨0, 0, 0, t, false, 0⟩ = ⟨(full t.data.toList).toArray⟩ := by
    have : decide (t.size = 0) = false := by simp; intro h; rw [h] at h0; simp at h0
    unfold AC.write
    simp only [this]; rfl
  have HE := Lib.hid E
  clear E
  go_enter Try.func27, Try.ntmps27
  go_wp2_with fail
  refine (text_any ⟨0, 0, 0, t, false, 0⟩ h100 _).mono ?_
  rintro e w1 ⟨rfl, hk⟩
  go_wp2_with fail
  go_ret
  rw [HE.out]
  exact ⟨rfl, hk⟩

def okActs (l : List AC) : Bool := l.all (fun a => decide (a.text.size ≤ 100)) && decide (l.length ≤ 60)
theorem actsAt.kept {w w' : World} {v : Value} {l : List AC} (h : actsAt w v l) (hk : ∀ (k : Nat) (o : Obj), w.heap[k]? = some o → w'.heap[k]? = some o) : actsAt w' v l := by
  obtain ⟨ao, cap, rfl, hl, hc⟩ := h
  refine ⟨ao, cap, rfl, hl, fun i a hi => ?_⟩
  obtain ⟨hwf, b, off, rfl, hx⟩ := hc i a hi
  refine ⟨hwf, b, off, rfl, fun j x hj => ?_⟩
  have := hx j x hj
  have hlt := World.block_lt_of_cell? w _ this
  have h2 := hk b _ (Array.getElem?_eq_getElem hlt)
  rw [World.cell?_of_block (w := w) (by rw [h2, Array.getElem?_eq_getElem hlt])]; exact this

set_option maxHeartbeats 400000 in
theorem ok_any (v : Value) (l : List AC) (w : World) (h : actsAt w v l) : Calls Try.prog 11 #[v] w fun e w' => e = .returned (.bool (okActs l)) ∧ w = w' := by
  obtain ⟨ao, cap, rfl, hl, hc⟩ := h
  have HC := Lib.hid hc
  clear hc
  go_enter Try.func11, Try.ntmps11
  go_wp2_with fail
  go_loop [3] (fun x => ∃ k : Nat, k ≤ l.length ∧ x = .int .i64 k ∧ Hid ((l.take k).all (fun a => decide (a.text.size ≤ 100)) = true)) (fun x => l.length - (intOf x).toNat)
  case atStart => exact ⟨0, Nat.zero_le _, rfl, by simp [Hid]⟩
  case round =>
    obtain ⟨k, hk, rfl, HA⟩ := hrel
    by_cases hlt : k < l.length
    · obtain ⟨a, ha⟩ : ∃ a, l[k]? = some a := ⟨_, List.getElem?_eq_getElem hlt⟩
      obtain ⟨hwf, b, off, rfl, hx⟩ := HC.out k a ha
      have e3 : w.cell? ⟨b, off + k * 6 + 3, none⟩ = some (.string a.text) := hx 3 _ rfl
      have hsz := hwf.size
      have HA2 := Lib.hid ha
      clear hx hwf ha
      by_cases ht : a.text.size ≤ 100
      · go_wp2_with fail
        refine ⟨⟨k + 1, by omega, by go_num, ?_⟩, by simp [intOf]; omega⟩
        have h1 := HA.out
        show _ = true
        rw [List.take_add_one, HA2.out, List.all_append, h1]
        simp [ht]
      · have E : Hid (okActs l = false) := Lib.hid (by
          have : l.all (fun a => decide (a.text.size ≤ 100)) = false := by
            rw [List.all_eq_false]
            exact ⟨a, List.mem_of_getElem? HA2.out, by simpa using ht⟩
          simp [okActs, this])
        go_wp2_with fail
        go_ret
        rw [E.out]
        exact ⟨rfl, rfl⟩
    · have hkl : k = l.length := by omega
      have E : Hid (okActs l = decide (l.length ≤ 60)) := Lib.hid (by
        have h1 := HA.out
        rw [hkl, List.take_of_length_le (Nat.le_refl _)] at h1
        simp [okActs, h1])
      clear hkl
      go_wp2_with fail
      go_ret
      rw [E.out]
      refine ⟨?_, rfl⟩
      show Ending.returned (.bool (decide ((l.length : Int) ≤ 60))) = _
      congr 2
      rw [decide_eq_decide]; omega

set_option maxHeartbeats 400000 in
theorem fail_any (d : Nat) (S : DS) (x b : Int) (hq : S.q.length ≤ 1000000) (R : HProp) (w : World) (h : Sat w (diskP d S * R)) :
    Calls Try.prog 24 #[.pointer (some ⟨d, 0, none⟩), .int .i64 x, .int .i64 b] w fun e w' => e = .returned (.tuple #[]) ∧ Ext w w' ∧ Sat w' (diskP d (S.fail x b) * R) := by
  obtain ⟨hok, bs, be, qv, av, hs⟩ := h.disk
  cases hoff : S.off with
  | false => exact (fail_on d S x b bs be qv av hoff hq R w hok hs).mono fun e w' ⟨he, hx, h2⟩ => ⟨he, hx, Sat.mkDisk (hok.fail x b) h2⟩
  | true =>
    obtain ⟨c0, c1, c2, c3, c4, hd⟩ := hs.core
    rw [hoff] at c3
    have E : Hid (S.fail x b = S) := Lib.hid (by simp [DS.fail, hoff])
    have H := Lib.hid h
    clear hs h hok hoff
    go_enter Try.func24, Try.ntmps24
    go_wp2_with fail
    refine bodyPost_ret (results_none rfl _ _ _) rfl ⟨rfl, Ext.refl _, ?_⟩
    rw [E.out]; exact H.out

/-- What an operation gives and does. -/
def DS.act (S : DS) (a : AC) : (ByteArray × Int) × DS :=
  if a.kind = 0 then ((⟨#[]⟩, (S.write a.sector a.write).1), (S.write a.sector a.write).2)
  else if a.kind = 1 then (S.read a.sector, S)
  else if a.kind = 2 then ((⟨#[]⟩, S.sync.1), S.sync.2)
  else if a.kind = 3 then ((⟨#[]⟩, 0), S.fail a.sector a.bytes)
  else if a.kind = 4 then ((⟨#[]⟩, 0), S.start)
  else if a.kind = 5 then ((⟨#[]⟩, 0), S.armed a.after a.sector a.bytes)
  else if a.kind = 6 then ((⟨#[]⟩, 0), S.rot a.sector a.bytes a.after)
  else if a.kind = 7 then ((⟨#[]⟩, 0), S.stale a.sector)
  else ((⟨#[]⟩, 0), S)

theorem AC.kinds (a : AC) : a.kind = 0 ∨ a.kind = 1 ∨ a.kind = 2 ∨ a.kind = 3 ∨ a.kind = 4 ∨ a.kind = 5 ∨ a.kind = 6 ∨ a.kind = 7 ∨
    (a.kind ≠ 0 ∧ a.kind ≠ 1 ∧ a.kind ≠ 2 ∧ a.kind ≠ 3 ∧ a.kind ≠ 4 ∧ a.kind ≠ 5 ∧ a.kind ≠ 6 ∧ a.kind ≠ 7) := by omega

set_option maxRecDepth 100000 in
set_option maxHeartbeats 1600000 in
theorem do_any (d : Nat) (S : DS) (a : AC) (hwf : a.wf) (h100 : a.text.size ≤ 100) (hq : S.q.length < 1000000) (R : HProp) (w : World) (h : Sat w (diskP d S * R)) :
    Calls Try.prog 15 #[.pointer (some ⟨d, 0, none⟩), a.val] w fun e w' => e = .returned (.tuple #[.string (S.act a).1.1, .int .i64 (S.act a).1.2]) ∧ Ext w w' ∧ Sat w' (diskP d (S.act a).2 * R) := by
  obtain ⟨k, s, b, t, odd, af⟩ := a
  have haf : af ≤ 9223372036854775807 := hwf.after
  have HH := Lib.hid h
  have hq' : S.q.length ≤ 1000000 := by omega
  clear hwf
  have hbox := (h.allocNew (.cells #[.int .i64 k, .int .i64 s, .int .i64 b, .string t, .bool odd, .int .i64 af] 34)).cast (show _ = diskP d S * (R * pts w.heap.size (.cells #[.int .i64 k, .int .i64 s, .int .i64 b, .string t, .bool odd, .int .i64 af] 34)) by ac_rfl)
  have HB := Lib.hid hbox
  have hx0 : Ext w (w.alloc (.cells #[.int .i64 k, .int .i64 s, .int .i64 b, .string t, .bool odd, .int .i64 af] 34)) := (by repeat (first | with_reducible assumption | with_reducible exact Ext.refl _ | with_reducible refine Ext.alloc ?_ _ | with_reducible refine Ext.drew ?_ | with_reducible refine Ext.drewN _ ?_ | with_reducible refine Ext.setCell ?_ _ _))
  clear h hbox
  rcases AC.kinds ⟨k, s, b, t, odd, af⟩ with hk | hk | hk | hk | hk | hk | hk | hk | hk
  · simp only at hk
    subst hk
    have E : Hid (S.act ⟨0, s, b, t, odd, af⟩ = ((⟨#[]⟩, (S.write s (AC.write ⟨0, s, b, t, odd, af⟩)).1), (S.write s (AC.write ⟨0, s, b, t, odd, af⟩)).2)) := Lib.hid (by simp [DS.act])
    unfold AC.val AC.cells
    simp only
    go_enter Try.func15, Try.ntmps15
    go_wp2_with fail
    generalize w.heap.size = B at *
    generalize w.alloc _ = W1 at *
    have hall : ∀ wx, Sat wx (pts B (.cells #[.int .i64 0, .int .i64 s, .int .i64 b, .string t, .bool odd, .int .i64 af] 34)) → (wx.cell? ⟨B, 0, none⟩ = some (.int .i64 0) ∧ wx.cell? ⟨B, 1, none⟩ = some (.int .i64 s) ∧ wx.cell? ⟨B, 2, none⟩ = some (.int .i64 b) ∧ wx.cell? ⟨B, 3, none⟩ = some (.string t) ∧ wx.cell? ⟨B, 4, none⟩ = some (.bool odd) ∧ wx.cell? ⟨B, 5, none⟩ = some (.int .i64 af)) := by
      intro wx hx
      have hx' := hx.cast (sep_emp _).symm
      exact ⟨hx'.cell.trans rfl, hx'.cell.trans rfl, hx'.cell.trans rfl, hx'.cell.trans rfl, hx'.cell.trans rfl, hx'.cell.trans rfl⟩
    have HAll := Lib.hid hall
    have f0 := Lib.hid (hall _ HB.out.right.right.drew)
    clear hall
    go_region_held3 (fun wx => wx.cell? ⟨B, 0, none⟩ = some (.int .i64 0) ∧ wx.cell? ⟨B, 1, none⟩ = some (.int .i64 s) ∧ wx.cell? ⟨B, 2, none⟩ = some (.int .i64 b) ∧ wx.cell? ⟨B, 3, none⟩ = some (.string t) ∧ wx.cell? ⟨B, 4, none⟩ = some (.bool odd) ∧ wx.cell? ⟨B, 5, none⟩ = some (.int .i64 af))
      (first | exact f0.out | exact f2.out | exact f3.out)
      (first
        | (go_at_call 23; refine (text_any ⟨0, s, b, t, odd, af⟩ h100 _).mono ?_; rintro e w2 ⟨rfl, hk2⟩; have H2 := Lib.hid (And.intro (hx0.drew.trans hk2.ext) (HB.out.drew.kept hk2)); have f2 := Lib.hid (HAll.out _ H2.out.2.right.right); clear hk2)
        | (go_at_call 22; refine (write_any d S s (AC.write ⟨0, s, b, t, odd, af⟩) hq _ _ H2.out.2).mono ?_; rintro e w3 ⟨rfl, hx3, hs3⟩; have H3 := Lib.hid (And.intro (H2.out.1.trans hx3) hs3); have f3 := Lib.hid (HAll.out _ H3.out.2.right.right); clear hx3 hs3))
    all_goals
      go_wp2_with fail
      go_ret2
      rw [E.out]
      exact ⟨rfl, H3.out.1, H3.out.2.cast (sep_assoc _ _ _).symm |>.left⟩
  · simp only at hk
    subst hk
    have E : Hid (S.act ⟨1, s, b, t, odd, af⟩ = (S.read s, S)) := Lib.hid (by simp [DS.act])
    unfold AC.val AC.cells
    simp only
    go_enter Try.func15, Try.ntmps15
    go_wp2_with fail
    refine (read_any d S s hq' _ _ HB.out).mono ?_
    rintro e w2 ⟨rfl, hk2⟩
    have H2 := Lib.hid (And.intro (hx0.trans hk2.ext) (HB.out.kept hk2))
    clear hk2
    go_wp2_with fail
    go_ret2
    rw [E.out]
    exact ⟨rfl, H2.out.1, H2.out.2.cast (sep_assoc _ _ _).symm |>.left⟩
  · simp only at hk
    subst hk
    have E : Hid (S.act ⟨2, s, b, t, odd, af⟩ = ((⟨#[]⟩, S.sync.1), S.sync.2)) := Lib.hid (by simp [DS.act])
    unfold AC.val AC.cells
    simp only
    go_enter Try.func15, Try.ntmps15
    go_wp2_with fail
    refine (sync_any d S hq' _ _ HB.out).mono ?_
    rintro e w2 ⟨rfl, hx2, hs2⟩
    have H2 := Lib.hid (And.intro (hx0.trans hx2) hs2)
    clear hx2 hs2
    go_wp2_with fail
    go_ret2
    rw [E.out]
    exact ⟨rfl, H2.out.1, H2.out.2.cast (sep_assoc _ _ _).symm |>.left⟩
  · simp only at hk
    subst hk
    have E : Hid (S.act ⟨3, s, b, t, odd, af⟩ = ((⟨#[]⟩, 0), S.fail s b)) := Lib.hid (by simp [DS.act])
    unfold AC.val AC.cells
    simp only
    go_enter Try.func15, Try.ntmps15
    go_wp2_with fail
    refine (fail_any d S s b hq' _ _ HB.out).mono ?_
    rintro e w2 ⟨rfl, hx2, hs2⟩
    have H2 := Lib.hid (And.intro (hx0.trans hx2) hs2)
    clear hx2 hs2
    go_wp2_with fail
    go_ret2
    rw [E.out]
    exact ⟨rfl, H2.out.1, H2.out.2.cast (sep_assoc _ _ _).symm |>.left⟩
  · simp only at hk
    subst hk
    have E : Hid (S.act ⟨4, s, b, t, odd, af⟩ = ((⟨#[]⟩, 0), S.start)) := Lib.hid (by simp [DS.act])
    unfold AC.val AC.cells
    simp only
    go_enter Try.func15, Try.ntmps15
    go_wp2_with fail
    refine (start_any d S _ _ HB.out).mono ?_
    rintro e w2 ⟨rfl, hx2, hs2⟩
    have H2 := Lib.hid (And.intro (hx0.trans hx2) hs2)
    clear hx2 hs2
    go_wp2_with fail
    go_ret2
    rw [E.out]
    exact ⟨rfl, H2.out.1, H2.out.2.cast (sep_assoc _ _ _).symm |>.left⟩
  · simp only at hk
    subst hk
    have E : Hid (S.act ⟨5, s, b, t, odd, af⟩ = ((⟨#[]⟩, 0), S.armed af s b)) := Lib.hid (by simp [DS.act])
    unfold AC.val AC.cells
    simp only
    go_enter Try.func15, Try.ntmps15
    go_wp2_with fail
    refine (arm_any d S af s b haf _ _ HB.out).mono ?_
    rintro e w2 ⟨rfl, hx2, hs2⟩
    have H2 := Lib.hid (And.intro (hx0.trans hx2) hs2)
    clear hx2 hs2
    go_wp2_with fail
    go_ret2
    rw [E.out]
    exact ⟨rfl, H2.out.1, H2.out.2.cast (sep_assoc _ _ _).symm |>.left⟩
  · simp only at hk
    subst hk
    have E : Hid (S.act ⟨6, s, b, t, odd, af⟩ = ((⟨#[]⟩, 0), S.rot s b af)) := Lib.hid (by simp [DS.act])
    unfold AC.val AC.cells
    simp only
    go_enter Try.func15, Try.ntmps15
    go_wp2_with fail
    refine (rot_any d S s b af _ _ HB.out).mono ?_
    rintro e w2 ⟨rfl, hx2, hs2⟩
    have H2 := Lib.hid (And.intro (hx0.trans hx2) hs2)
    clear hx2 hs2
    go_wp2_with fail
    go_ret2
    rw [E.out]
    exact ⟨rfl, H2.out.1, H2.out.2.cast (sep_assoc _ _ _).symm |>.left⟩
  · simp only at hk
    subst hk
    have E : Hid (S.act ⟨7, s, b, t, odd, af⟩ = ((⟨#[]⟩, 0), S.stale s)) := Lib.hid (by simp [DS.act])
    unfold AC.val AC.cells
    simp only
    go_enter Try.func15, Try.ntmps15
    go_wp2_with fail
    refine (stale_any d S s _ _ HB.out).mono ?_
    rintro e w2 ⟨rfl, hx2, hs2⟩
    have H2 := Lib.hid (And.intro (hx0.trans hx2) hs2)
    clear hx2 hs2
    go_wp2_with fail
    go_ret2
    rw [E.out]
    exact ⟨rfl, H2.out.1, H2.out.2.cast (sep_assoc _ _ _).symm |>.left⟩
  · simp only at hk
    have E : Hid (S.act ⟨k, s, b, t, odd, af⟩ = ((⟨#[]⟩, 0), S)) := Lib.hid (by
      obtain ⟨h0, h1, h2, h3, h4, h5, h6, h7⟩ := hk
      simp [DS.act, h0, h1, h2, h3, h4, h5, h6, h7])
    obtain ⟨h0, h1, h2, h3, h4, h5, h6, h7⟩ := hk
    have g0 : (k == 0) = false := by simp [h0]
    have g1 : (k == 1) = false := by simp [h1]
    have g2 : (k == 2) = false := by simp [h2]
    have g3 : (k == 3) = false := by simp [h3]
    have g4 : (k == 4) = false := by simp [h4]
    have g5 : (k == 5) = false := by simp [h5]
    have g6 : (k == 6) = false := by simp [h6]
    have g7 : (k == 7) = false := by simp [h7]
    clear h0 h1 h2 h3 h4 h5 h6 h7
    unfold AC.val AC.cells
    simp only
    go_enter Try.func15, Try.ntmps15
    go_wp2_with fail
    go_ret2
    rw [E.out]
    exact ⟨rfl, hx0, HB.out.cast (sep_assoc _ _ _).symm |>.left⟩
end Go.Proofs.Ytcjocajpnebecaa
