/-
  log's must and each, walked. The condition of each: what its closure returns.
-/
import Derived.Test.YtmemhoiepnlhfaaGreatDoorK5
import Derived.Laws.ResultCell
import Derived.Laws.Rows
import Derived.Deep.DeepCutAuto
import Derived.Deep.RegionHeld2
namespace Go.Proofs.YtmemhoiepnlhfaaGreatDoor
open Go.RowKit
set_option maxRecDepth 100000

/-- How a function ends that panics with an error of the disk. -/
def Ends (e : Int) (r : Ending) : Prop := if e = 0 then r = .returned (.tuple #[]) else r = .panicked [{ v := .iface 27 (.int .i64 e), recovered := false }]
theorem ends_ok {e : Int} (h : e = 0) : Ends e (.returned (.tuple #[])) := by unfold Ends; rw [if_pos h]
theorem ends_no {e : Int} (h : e ≠ 0) : Ends e (.panicked [{ v := .iface 27 (.int .i64 e), recovered := false }]) := by unfold Ends; rw [if_neg h]
/-- A code that panics with an error of the disk, in a world of which X holds. -/
def Dies (e : Int) (X : World → Prop) : Exit → Act → World → Prop
  | .panic c, a, w' => a.defers = [] ∧ c = [{ v := .iface 27 (.int .i64 e), recovered := false }] ∧ X w'
  | _, _, _ => False
theorem must_ok (w : World) : Calls Tryz.prog 66 #[.int .i64 0] w fun r w' => r = .returned (.tuple #[]) ∧ w' = w := by
  go_enter Tryz.func66, Tryz.ntmps66
  go_wp2_with fail
  go_end0
  exact ⟨rfl, rfl⟩
theorem must_no (e : Int) (he : e ≠ 0) (w : World) : Calls Tryz.prog 66 #[.int .i64 e] w fun r w' => r = .panicked [{ v := .iface 27 (.int .i64 e), recovered := false }] ∧ w' = w := by
  have he' : (e == 0) = false := by rw [beq_eq_false_iff_ne]; exact he
  go_enter Tryz.func66, Tryz.ntmps66
  go_wp2_with fail
  exact ⟨rfl, rfl, rfl⟩

/-- The same, with a way that nobody goes: for a region whose last operation dies. -/
theorem must_either (e : Int) (he : e ≠ 0) (w : World) : Calls Tryz.prog 66 #[.int .i64 e] w fun r w' => (r = .returned (.tuple #[]) ∧ w' = w ∧ Hid False) ∨ (r = .panicked [{ v := .iface 27 (.int .i64 e), recovered := false }] ∧ w' = w) :=
  (must_no e he w).mono fun _ _ h => .inr h

def writes (S : DS) : List (Nat × ByteArray) → Int × DS
  | [] => (0, S)
  | p :: r => if (S.write p.1 p.2).1 = 0 then writes (S.write p.1 p.2).2 r else S.write p.1 p.2
def eachR (S : DS) (ws : List (Nat × ByteArray)) : Int × DS := if (writes S ws).1 = 0 then (writes S ws).2.sync else writes S ws
theorem count_q (S : DS) : S.count.2.q.length ≤ S.q.length := by
  unfold DS.count DS.fail DS.dead
  split
  · simp
  · split
    · simp
    · split
      · simp
      · simp
theorem write_q (S : DS) (s : Int) (t : ByteArray) : (S.write s t).2.q.length ≤ S.q.length + 1 := by
  unfold DS.write
  split
  · simp
  · split
    · have := count_q { S with q := S.q ++ [(s.toNat, t)] }
      simpa using this
    · simp
def intRow (v : Value) (l : List Nat) : HProp := rowP 3 1 v l.length (l.map fun i : Nat => Value.int .i64 (i : Int))
theorem Sat.intCell {w : World} {g n cap : Nat} {l : List Nat} {R : HProp} (h : Sat w (intRow (.slice (some ⟨g, 0, none⟩) n cap) l * R)) (i : Nat) (x : Nat) (hi : l[i]? = some x) : w.cell? ⟨g, i, none⟩ = some (.int .i64 (x : Int)) := by
  unfold intRow at h
  obtain ⟨rfl, _⟩ : n = l.length ∧ True := by
    obtain ⟨_, ⟨h0, _⟩ | ⟨g', cap', cur, hv, _⟩⟩ := h.row
    · cases h0
    · exact ⟨by simpa using (by simpa using hv : g = g' ∧ n = l.length ∧ cap = cap').2.1, trivial⟩
  exact h.rowCell (by rw [List.getElem?_map, hi]; rfl)
theorem Sat.intForm {w : World} {v : Value} {l : List Nat} {R : HProp} (h : Sat w (intRow v l * R)) : (v = .slice none 0 0 ∧ l = []) ∨ ∃ g cap, v = .slice (some ⟨g, 0, none⟩) l.length cap := by
  unfold intRow at h
  obtain ⟨hl, ⟨h0, h1, _⟩ | ⟨g', cap', cur, hv, _⟩⟩ := h.row
  · exact .inl ⟨h0, List.eq_nil_of_length_eq_zero h1⟩
  · exact .inr ⟨_, _, hv⟩

set_option maxHeartbeats 3200000 in
theorem each_any (l d g : Nat) (first cap : Array Value) (F : HProp) (ws : List (Nat × ByteArray)) (hn : ws.length ≤ 100000)
    (eg : ∀ args w, (callFunc g args).run Tryz.prog w = .ok (.enter g args) w)
    (hl : ∀ wx X, Sat wx (F * X) → wx.cell? ⟨l, 3, none⟩ = some (.pointer (some ⟨d, 0, none⟩)) ∧ l < wx.heap.size)
    (ht : ∀ (i : Nat) p, ws[i]? = some p → ∀ wx X, Sat wx (F * X) → Calls Tryz.prog g (first.push (.int .i64 (i : Int)) ++ cap) wx fun e w' => e = .returned (.string p.2) ∧ Kept wx w')
    (S : DS) (hq : S.q.length + ws.length ≤ 100000) (v : Value) (R : HProp) (w : World) (h : Sat w (intRow v (ws.map (·.1)) * (diskP d S * (F * R)))) :
    Calls Tryz.prog 44 #[.pointer (some ⟨l, 0, none⟩), v, .func (.func g) first cap] w fun r w' =>
      Ends (eachR S ws).1 r ∧ Ext w w' ∧ Sat w' (intRow v (ws.map (·.1)) * (diskP d (eachR S ws).2 * (F * R))) := by
  have HL := Lib.hid hl
  have HT := Lib.hid ht
  have HF := Lib.hid h.intForm
  have H := Lib.hid (And.intro (Ext.refl w) h)
  obtain ⟨n, hn'⟩ : ∃ n, ws.length = n := ⟨_, rfl⟩
  have HN := Lib.hid hn'
  have hE : Hid (eachR S ws = if (writes S ws).1 = 0 then (writes S ws).2.sync else writes S ws) := Lib.hid rfl
  obtain ⟨E, hE'⟩ : ∃ E, eachR S ws = E := ⟨_, rfl⟩
  rw [hE'] at hE ⊢
  rw [hn'] at hn hq
  clear hl ht h hE' hn'
  have hv : ∃ b c, v = .slice b n c := by
    rcases HF.out with ⟨rfl, h2⟩ | ⟨g', c', rfl⟩
    · have : n = 0 := by rw [← HN.out]; have := congrArg List.length h2; simpa using this
      exact ⟨none, 0, by rw [this]⟩
    · exact ⟨_, _, by rw [List.length_map, HN.out]⟩
  obtain ⟨vb, vc, rfl⟩ := hv
  go_enter Tryz.func44, Tryz.ntmps44
  go_wp2_with fail
  go_loopw [10] (fun i wr => ∃ (j : Nat) (T : DS), j ≤ n ∧ i = .int .i64 j ∧ Hid (writes S ws = writes T (ws.drop j) ∧ T.q.length ≤ S.q.length + j ∧ Ext w wr ∧ Sat wr (intRow (.slice vb n vc) (ws.map (·.1)) * (diskP d T * (F * R))))) (fun i _ => n - (intOf i).toNat)
  case atStart => exact ⟨0, S, Nat.zero_le _, rfl, Lib.hid ⟨rfl, by omega, H.out⟩⟩
  case round =>
    obtain ⟨j, T, hj, rfl, HR⟩ := hrel
    by_cases hlt : j < n
    · obtain ⟨p, hp⟩ : ∃ p, ws[j]? = some p := ⟨_, List.getElem?_eq_getElem (by rw [HN.out]; exact hlt)⟩
      obtain ⟨g', rfl⟩ : ∃ g', vb = some ⟨g', 0, none⟩ := by
        rcases HF.out with ⟨_, h2⟩ | ⟨g', c', h2⟩
        · have := congrArg List.length h2
          rw [List.length_map, HN.out, List.length_nil] at this
          omega
        · simp only [Value.slice.injEq] at h2
          exact ⟨g', h2.1⟩
      clear HF
      have hcell : wr.cell? ⟨g', j, none⟩ = some (.int .i64 (p.1 : Int)) := HR.out.2.2.2.intCell j p.1 (by rw [List.getElem?_map, hp]; rfl)
      have hF0 : Sat wr (F * (intRow (.slice (some ⟨g', 0, none⟩) n vc) (ws.map (·.1)) * (diskP d T * R))) := HR.out.2.2.2.cast (by ac_rfl)
      have hF1 := Lib.hid (show Sat wr.drew _ from hF0)
      have f0 : Hid (wr.drew.cell? ⟨l, 3, none⟩ = some (.pointer (some ⟨d, 0, none⟩))) := Lib.hid (HL.out wr _ hF0).1
      have lt0 := (HL.out wr _ hF0).2
      have HTj := Lib.hid (fun wx X h => HT.out j p hp wx X h)
      have hqT : T.q.length < 1000000 := by have := HR.out.2.1; omega
      have hstep : Hid (writes T (ws.drop j) = if (T.write p.1 p.2).1 = 0 then writes (T.write p.1 p.2).2 (ws.drop (j + 1)) else T.write p.1 p.2) := Lib.hid (by
        rw [List.drop_eq_getElem_cons (by rw [HN.out]; exact hlt)]
        have := (List.getElem?_eq_some_iff.1 hp).2
        rw [this]; rfl)
      have HX := Lib.hid HR.out.2.2.1
      have HQ := Lib.hid HR.out.2.1
      have HW := Lib.hid HR.out.1
      clear hp hF0 HR HT
      by_cases he : (T.write p.1 p.2).1 = 0
      · go_wp2_with fail
        go_region_held3 (fun wx => wx.cell? ⟨l, 3, none⟩ = some (.pointer (some ⟨d, 0, none⟩)))
          (first | exact f0.out | exact f1.out | exact f2.out)
          (first
            | (go_at_call 13; refine (write_any d T (p.1 : Int) p.2 hqT _ _ hF2.out.2).mono ?_; rintro r w2 ⟨rfl, hx, hs⟩; have hF3 := Lib.hid (And.intro (hF2.out.1.trans hx) (hs.cast (show _ = F * (intRow (.slice (some ⟨g', 0, none⟩) n vc) (ws.map (·.1)) * (diskP d (T.write p.1 p.2).2 * R)) by ac_rfl))); have f2 := Lib.hid (HL.out _ _ hF3.out.2).1; clear hx hs; rw [he])
            | (go_at_call 66; refine (must_ok _).mono ?_; rintro r w3 ⟨rfl, rfl⟩)
            | (refine (HTj.out _ _ hF1.out).mono ?_; rintro r w1 ⟨rfl, hk⟩; have hF2 := Lib.hid (And.intro (HX.out.drew.trans hk.ext) ((hF1.out.kept hk).cast (show _ = diskP d T * (F * (intRow (.slice (some ⟨g', 0, none⟩) n vc) (ws.map (·.1)) * R)) by ac_rfl))); have f1 := Lib.hid (hk.cell f0.out); clear hk HTj))
        clear f0 f1 f2 hF1 hF2
        go_wp2_with fail
        refine ⟨⟨j + 1, _, hlt, congrArg (Value.int .i64) (by omega), Lib.hid ⟨by rw [HW.out, hstep.out, if_pos he], ?_, hF3.out.1, hF3.out.2.cast (show _ = intRow (.slice (some ⟨g', 0, none⟩) n vc) (ws.map (·.1)) * (diskP d (T.write p.1 p.2).2 * (F * R)) by ac_rfl)⟩⟩, ?_⟩
        · have := write_q T p.1 p.2
          have := HQ.out
          omega
        · show n - ((j : Int) + 1).toNat < n - (j : Int).toNat
          omega
      · have hE2 : Hid (E = T.write p.1 p.2) := Lib.hid (by rw [hE.out, HW.out, hstep.out, if_neg he, if_neg he])
        go_wp2_with fail
        refine Code.wp_mono (Q := Dies (T.write p.1 p.2).1 (fun w' => Ext w w' ∧ Sat w' (intRow (.slice (some ⟨g', 0, none⟩) n vc) (ws.map (·.1)) * (diskP d E.2 * (F * R))))) (fun e a w' h => ?_) ?_
        · cases e with
          | panic c =>
            obtain ⟨hd, rfl, hx⟩ := h
            exact ⟨hd, by rw [hE2.out]; exact ends_no he, hx⟩
          | _ => exact (h : False).elim
        go_region_held2 (fun wx => wx.cell? ⟨l, 3, none⟩ = some (.pointer (some ⟨d, 0, none⟩)))
          (first | exact f0.out | exact f1.out | exact f2.out)
          (first
            | (go_at_call 13; refine (write_any d T (p.1 : Int) p.2 hqT _ _ hF2.out.2).mono ?_; rintro r w2 ⟨rfl, hx, hs⟩; have hF3 := Lib.hid (And.intro (hF2.out.1.trans hx) (hs.cast (show _ = F * (intRow (.slice (some ⟨g', 0, none⟩) n vc) (ws.map (·.1)) * (diskP d (T.write p.1 p.2).2 * R)) by ac_rfl))); have f2 := Lib.hid (HL.out _ _ hF3.out.2).1; clear hx hs)
            | (go_at_call 66; refine (must_either _ he _).mono ?_; rintro r w3 (⟨rfl, rfl, hno⟩ | ⟨rfl, rfl⟩); rotate_left; (exact ⟨rfl, rfl, hF3.out.1, by rw [hE2.out]; exact (hF3.out.2.cast (show _ = intRow (.slice (some ⟨g', 0, none⟩) n vc) (ws.map (·.1)) * (diskP d (T.write p.1 p.2).2 * (F * R)) by ac_rfl))⟩))
            | (refine (HTj.out _ _ hF1.out).mono ?_; rintro r w1 ⟨rfl, hk⟩; have hF2 := Lib.hid (And.intro (HX.out.drew.trans hk.ext) ((hF1.out.kept hk).cast (show _ = diskP d T * (F * (intRow (.slice (some ⟨g', 0, none⟩) n vc) (ws.map (·.1)) * R)) by ac_rfl))); have f1 := Lib.hid (hk.cell f0.out); clear hk HTj))
        exact hno.out.elim
    · have hF0 : Sat wr (F * (intRow (.slice vb n vc) (ws.map (·.1)) * (diskP d T * R))) := HR.out.2.2.2.cast (by ac_rfl)
      have f0 := (HL.out wr _ hF0).1
      have lt0 := (HL.out wr _ hF0).2
      have hF1 := Lib.hid (And.intro HR.out.2.2.1 (HR.out.2.2.2.cast (show _ = diskP d T * (F * (intRow (.slice vb n vc) (ws.map (·.1)) * R)) by ac_rfl)))
      have hqT : T.q.length ≤ 1000000 := by have := HR.out.2.1; omega
      have hw0 : Hid (writes S ws = (0, T)) := Lib.hid (by rw [HR.out.1, List.drop_of_length_le (by rw [HN.out]; omega)]; rfl)
      have hE2 : Hid (E = T.sync) := Lib.hid (by rw [hE.out, hw0.out]; rfl)
      clear hF0 HR hE hw0
      go_wp2_with fail
      refine (sync_any d T hqT _ _ hF1.out.2).mono ?_
      rintro r w2 ⟨rfl, hx, hs⟩
      have HZ : Hid (Ext w w2 ∧ Sat w2 (intRow (.slice vb n vc) (ws.map (·.1)) * (diskP d E.2 * (F * R)))) := Lib.hid ⟨hF1.out.1.trans hx, by
        rw [hE2.out]
        exact (hs.cast (show _ = intRow (.slice vb n vc) (ws.map (·.1)) * (diskP d T.sync.2 * (F * R)) by ac_rfl))⟩
      clear hF1 hx hs f0
      rw [← hE2.out]
      by_cases he : E.1 = 0
      · rw [he]
        go_wp2_with fail
        refine (must_ok _).mono ?_
        rintro r w3 ⟨rfl, rfl⟩
        go_wp2_with fail
        go_end0
        exact ⟨ends_ok he, HZ.out⟩
      · go_wp2_with fail
        refine (must_no _ he _).mono ?_
        rintro r w3 ⟨rfl, rfl⟩
        go_wp2_with fail
        exact ⟨rfl, ends_no he, HZ.out⟩
end Go.Proofs.YtmemhoiepnlhfaaGreatDoor
