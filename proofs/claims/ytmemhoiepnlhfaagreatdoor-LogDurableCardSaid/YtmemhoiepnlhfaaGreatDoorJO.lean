/-
  Rewrite's closure, walked. Its condition: what it has captured lies in memory.
-/
import Derived.Test.YtmemhoiepnlhfaaGreatDoorJN
namespace Go.Proofs.YtmemhoiepnlhfaaGreatDoor
open Go.RowKit
set_option maxRecDepth 100000

theorem clone_recs (vb : Option Addr) (c : Nat) (recs : List ByteArray) (hl : recs.length ≤ 100000) (X : HProp) (w : World) (h : Sat w X) (hr : RecsIn w vb recs) :
    Calls Tryz.prog 37 #[.slice vb recs.length c] w fun r w' => ∃ v', r = .returned v' ∧ Kept w w' ∧ Sat w' (strRow v' recs * X) := by
  cases vb with
  | none =>
    have hn : recs = [] := by
      cases recs with
      | nil => rfl
      | cons x r =>
        obtain ⟨g, o, h1, _⟩ := hr 0 x rfl
        cases h1
    subst hn
    refine (Tryz.slices_Clone_string_nil 0 c w).mono ?_
    rintro r w' ⟨rfl, rfl⟩
    exact ⟨_, rfl, Kept.refl _, Sat.nilRow h⟩
  | some a =>
    cases hrec : recs with
    | nil =>
      refine (Tryz.slices_Clone_string_zero a c w).mono ?_
      rintro r w' ⟨v', rfl, ho, _, hb⟩
      exact ⟨v', rfl, Kept.of_below hb, Sat.of_owned h hb ho⟩
    | cons x r =>
      rw [← hrec]
      obtain ⟨g, o, h1, _⟩ := hr 0 x (by rw [hrec]; rfl)
      simp only [Option.some.injEq] at h1
      subst h1
      refine (Tryz.slices_Clone_string g o recs.length c recs w (Nat.le_refl _) (by omega) (fun j hj => ?_)).mono ?_
      · obtain ⟨g', o', h1, h2⟩ := hr j (recs.getD j ByteArray.empty) (by rw [List.getD_eq_getElem?_getD, List.getElem?_eq_getElem hj]; rfl)
        simp only [Option.some.injEq, Addr.mk.injEq] at h1
        obtain ⟨rfl, rfl, _⟩ := h1
        exact h2
      · rintro r w' ⟨v', rfl, ho, _, hb⟩
        rw [List.take_length] at ho
        exact ⟨v', rfl, Kept.of_below hb, Sat.of_owned h hb ho⟩

def restUp (f m j : Nat) : List Nat := (List.range j).filter fun s => decide (2 ≤ s) && (decide (s < f) || decide (f + m ≤ s))
theorem restUp_two (f m : Nat) : restUp f m 2 = [] := by
  unfold restUp
  simp [List.range_succ]
theorem restUp_yes {f m j : Nat} (h2 : 2 ≤ j) (h : j < f ∨ f + m ≤ j) : restUp f m (j + 1) = restUp f m j ++ [j] := by
  unfold restUp
  rw [List.range_succ, List.filter_append]
  congr 1
  simp [h2, h]
theorem restUp_no {f m j : Nat} (h : ¬ (j < f ∨ f + m ≤ j)) : restUp f m (j + 1) = restUp f m j := by
  unfold restUp
  rw [List.range_succ, List.filter_append]
  have : (decide (2 ≤ j) && (decide (j < f) || decide (f + m ≤ j))) = false := by
    simp only [not_or] at h
    simp [h.1, h.2]
  simp [this]
theorem restUp_len (f m j : Nat) : (restUp f m j).length ≤ j := by
  unfold restUp
  have := List.length_filter_le (fun s => decide (2 ≤ s) && (decide (s < f) || decide (f + m ≤ s))) (List.range j)
  simpa using this
def restW (f m n : Nat) : List (Nat × ByteArray) := (restUp f m n).map fun i => (i, zeroB)
theorem restW_fst (f m n : Nat) : (restW f m n).map (·.1) = restUp f m n := by simp [restW, Function.comp_def]
def rewriteBody (S : DS) (a n : Nat) (s : St) (parts : List ByteArray) : Int × DS :=
  andR (writeR S (startN n (s.generation + 1)) (s.generation + 1) parts) fun T =>
  andR (commitR T a ⟨s.number + 1, s.generation + 1, parts.length⟩) fun T =>
  andR (eachR T (restW (startN n (s.generation + 1)) parts.length n)) fun T =>
  andR (eachR T (restW (startN n (s.generation + 1)) parts.length n)) fun T =>
  andR (headR T 0 ⟨s.number + 1, s.generation + 1, parts.length⟩) fun T =>
  headR T 1 ⟨s.number + 1, s.generation + 1, parts.length⟩
/-- What Rewrite's closure has captured. -/
def rewCap (l bl bp br : Nat) (pv rv : Value) (parts : List ByteArray) : HProp :=
  pts bl (.cells #[.pointer (some ⟨l, 0, none⟩)] 29) * (pts bp (.cells #[pv] 22) * (pts br (.cells #[rv] 22) * strRow pv parts))
theorem Sat.rewCap {w : World} {l bl bp br : Nat} {pv rv : Value} {parts : List ByteArray} {R : HProp} (h : Sat w (rewCap l bl bp br pv rv parts * R)) :
    w.cell? ⟨bl, 0, none⟩ = some (.pointer (some ⟨l, 0, none⟩)) ∧ w.cell? ⟨bp, 0, none⟩ = some pv ∧ w.cell? ⟨br, 0, none⟩ = some rv ∧ bl < w.heap.size ∧ bp < w.heap.size ∧ br < w.heap.size ∧ Sat w (strRow pv parts * R) := by
  unfold Proofs.YtmemhoiepnlhfaaGreatDoor.rewCap at h
  have h1 := h.cast (show _ = pts bl (.cells #[.pointer (some ⟨l, 0, none⟩)] 29) * (pts bp (.cells #[pv] 22) * (pts br (.cells #[rv] 22) * (strRow pv parts * R))) by ac_rfl)
  have h2 := h1.right
  have h3 := h2.right
  exact ⟨by rw [h1.cell]; rfl, by rw [h2.cell]; rfl, by rw [h3.cell]; rfl, h1.lt, h2.lt, h3.lt, h3.right⟩
theorem commit_q (S : DS) (a : Nat) (s : St) (h : (commitR S a s).1 = 0) : (commitR S a s).2.q = [] := by
  unfold commitR andR at *
  split at h
  · rename_i h1
    rw [if_pos h1]
    exact each_q _ _ h
  · contradiction

theorem rewrite_fin {w : World} {l d n : Nat} {s : St} {lv V : Value} {recs list : List ByteArray} {D : DS} {W : World} {R G C Y : HProp}
    (h : Sat w (pts l (.cells ((logCells s d n 0 lv false).setIfInBounds 6 V) 69) * (C * (strRow V recs * (diskP d D * (old W * Y)))))) (hY : strRow lv list * (G * R) = Y) :
    Sat w (diskP d D * (pts l (.cells (logCells s d n 0 V false) 69) * (strRow V recs * (old W * (G * R))))) := by
  have e1 : (logCells s d n 0 lv false).setIfInBounds 6 V = logCells s d n 0 V false := rfl
  rw [e1, ← hY] at h
  exact (h.cast (show _ = C * (strRow lv list * (diskP d D * (pts l (.cells (logCells s d n 0 V false) 69) * (strRow V recs * (old W * (G * R)))))) by ac_rfl)).right.right
theorem each_blank (l d : Nat) (LC : HProp) (hLC : ∀ wx X, Sat wx (LC * X) → wx.cell? ⟨l, 3, none⟩ = some (.pointer (some ⟨d, 0, none⟩)) ∧ l < wx.heap.size) (f m n : Nat) (hn : n ≤ 4000) (S : DS) (hq : S.q.length ≤ 80000) (v : Value) (R : HProp) (w : World)
    (h : Sat w (intRow v (restUp f m n) * (diskP d S * (LC * R)))) :
    Calls Tryz.prog 44 #[.pointer (some ⟨l, 0, none⟩), v, .func (.func 45) #[.pointer (some ⟨l, 0, none⟩)] #[]] w fun r w' =>
      Ends (eachR S (restW f m n)).1 r ∧ Ext w w' ∧ Sat w' (intRow v (restUp f m n) * (diskP d (eachR S (restW f m n)).2 * (LC * R))) := by
  have hlen : (restW f m n).length ≤ 4000 := by
    unfold restW
    rw [List.length_map]
    have := restUp_len f m n
    omega
  have := each_any l d 45 #[.pointer (some ⟨l, 0, none⟩)] #[] LC (restW f m n) (by omega) (enters_of Tryz.func45 (by kernel_rfl) rfl) hLC (fun i p hp wx X _ => by
    have hp2 : p.2 = zeroB := by
      simp only [restW, List.getElem?_map, Option.map_eq_some_iff] at hp
      obtain ⟨_, _, rfl⟩ := hp
      rfl
    rw [hp2]
    exact blank_any _ _ _) S (by omega) v R w (by rw [restW_fst]; exact h)
  rw [restW_fst] at this
  exact this

set_option maxHeartbeats 6400000 in
theorem rewrite1_log (W : World) (hE : Env W) (l d n a bl bp br rc : Nat) (rb : Option Addr) (s : St) (lv pv : Value) (list parts recs : List ByteArray) (hs : (⟨s.number + 1, s.generation + 1, parts.length⟩ : St).ok) (ha : a ≤ 1) (hn : 2 ≤ n ∧ n ≤ 4000)
    (hll : recs.length ≤ 100000) (G : HProp) (hG : ∀ wx X, Sat wx (old W * (G * X)) → RecsIn wx rb recs) (S : DS) (hq : S.q.length ≤ 80000) (R : HProp) (w : World)
    (h : Sat w (diskP d S * (pts l (.cells (logCells s d n a lv false) 69) * (rewCap l bl bp br pv (.slice rb recs.length rc) parts * (strRow lv list * (old W * (G * R))))))) :
    Calls Tryz.prog 41 #[.pointer (some ⟨bl, 0, none⟩), .pointer (some ⟨bp, 0, none⟩), .pointer (some ⟨br, 0, none⟩)] w fun r w' =>
      Ends (rewriteBody S a n s parts).1 r ∧ Ext w w' ∧
      ((rewriteBody S a n s parts).1 = 0 → ∃ lv', Sat w' (diskP d (rewriteBody S a n s parts).2 * (pts l (.cells (logCells ⟨s.number + 1, s.generation + 1, parts.length⟩ d n 0 lv' false) 69) * (strRow lv' recs * (old W * (G * R)))))) ∧
      ((rewriteBody S a n s parts).1 ≠ 0 → ∃ s' a', Sat w' (diskP d (rewriteBody S a n s parts).2 * (pts l (.cells (logCells s' d n a' lv false) 69) * (strRow lv list * (old W * (G * R)))))) := by
  obtain ⟨num, g, ln⟩ := s
  dsimp only at *
  have hb : num < 1000000000 ∧ g < 1000000 ∧ parts.length < 10000 := ⟨by have := hs.1; dsimp only at this; omega, by have := hs.2.1; dsimp only at this; omega, hs.2.2⟩
  obtain ⟨hb1, hb2, hb3⟩ := hb
  have hst : startN n (g + 1) ≤ 8000 := by
    unfold startN halfN
    have hm : (g + 1) % 2 = 0 ∨ (g + 1) % 2 = 1 := by omega
    rcases hm with hm | hm <;> rw [hm] <;> omega
  obtain ⟨s', hs'⟩ : ∃ s' : St, (⟨num + 1, g + 1, parts.length⟩ : St) = s' := ⟨_, rfl⟩
  obtain ⟨E, hE'⟩ : ∃ E, rewriteBody S a n ⟨num, g, ln⟩ parts = E := ⟨_, rfl⟩
  have hEE : Hid (E = andR (writeR S (startN n (g + 1)) (g + 1) parts) fun T => andR (commitR T a s') fun T => andR (eachR T (restW (startN n (g + 1)) parts.length n)) fun T => andR (eachR T (restW (startN n (g + 1)) parts.length n)) fun T => andR (headR T 0 s') fun T => headR T 1 s') := Lib.hid (by rw [← hE', ← hs']; rfl)
  rw [hE', hs']
  have HSt := Lib.hid (fun wx h => lstart_any l n (g + 1) hn (by omega) wx h)
  obtain ⟨st, hst'⟩ : ∃ st, startN n (g + 1) = st := ⟨_, rfl⟩
  rw [hst'] at HSt hst hEE
  obtain ⟨vb, vc, rfl, hvb⟩ := (h.cast (show _ = rewCap l bl bp br pv (.slice rb recs.length rc) parts * (diskP d S * (pts l (.cells (logCells ⟨num, g, ln⟩ d n a lv false) 69) * (strRow lv list * (old W * (G * R))))) by ac_rfl)).rewCap.2.2.2.2.2.2.strForm
  obtain ⟨C, hC⟩ : ∃ C, rewCap l bl bp br (.slice vb parts.length vc) (.slice rb recs.length rc) parts = C := ⟨_, rfl⟩
  have HC : Hid (∀ wx X, Sat wx (C * X) → wx.cell? ⟨bl, 0, none⟩ = some (.pointer (some ⟨l, 0, none⟩)) ∧ wx.cell? ⟨bp, 0, none⟩ = some (.slice vb parts.length vc) ∧ wx.cell? ⟨br, 0, none⟩ = some (.slice rb recs.length rc) ∧ bl < wx.heap.size ∧ bp < wx.heap.size ∧ br < wx.heap.size ∧ Sat wx (strRow (.slice vb parts.length vc) parts * X)) := Lib.hid (by
    intro wx X hx
    rw [← hC] at hx
    exact hx.rewCap)
  have HB : Hid (∀ (i : Nat) x, parts[i]? = some x → ∃ b o, vb = some ⟨b, o, none⟩ ∧ ∀ wx X, Sat wx ((pts l (.cells (logCells ⟨num, g, ln⟩ d n a lv false) 69) * C) * X) → wx.cell? ⟨b, o + i, none⟩ = some (.string x)) := Lib.hid (by
    intro i x hi
    obtain ⟨g', rfl⟩ := hvb i x hi
    refine ⟨g', 0, rfl, fun wx X hx => ?_⟩
    rw [← hC] at hx
    exact (hx.cast (show _ = rewCap l bl bp br (.slice (some ⟨g', 0, none⟩) parts.length vc) (.slice rb recs.length rc) parts * (pts l (.cells (logCells ⟨num, g, ln⟩ d n a lv false) 69) * X) by ac_rfl)).rewCap.2.2.2.2.2.2.strCell i x hi)
  rw [hC] at h
  obtain ⟨Y, hY⟩ : ∃ Y, strRow lv list * (G * R) = Y := ⟨_, rfl⟩
  have HY := Lib.hid hY
  have h0 := h.cast (show _ = diskP d S * ((pts l (.cells (logCells ⟨num, g, ln⟩ d n a lv false) 69) * C) * (old W * Y)) by rw [← hY]; ac_rfl)
  have H := Lib.hid (And.intro (Ext.refl w) h0)
  have hl0 := (h0.cast (show _ = pts l (.cells (logCells ⟨num, g, ln⟩ d n a lv false) 69) * (diskP d S * (C * (old W * Y))) by ac_rfl)).log
  have hc0 := HC.out w _ (h0.cast (show _ = C * (diskP d S * (pts l (.cells (logCells ⟨num, g, ln⟩ d n a lv false) 69) * (old W * Y))) by ac_rfl))
  have HPW := Lib.hid (fun wx hx => write_log l d st (g + 1) vb vc parts (pts l (.cells (logCells ⟨num, g, ln⟩ d n a lv false) 69) * C) (by omega) (fun wy X h => by
      have := (h.cast (show _ = pts l (.cells (logCells ⟨num, g, ln⟩ d n a lv false) 69) * (C * X) by ac_rfl)).log
      exact ⟨this.2.2.2.1, this.2.2.2.2.2.2.2.2⟩) HB.out S (by omega) (old W * Y) wx hx)
  have hqq := write_q0 S st (g + 1) parts
  obtain ⟨E1, hE1⟩ : ∃ E1, writeR S st (g + 1) parts = E1 := ⟨_, rfl⟩
  rw [hE1] at HPW hEE hqq
  have q0 := hc0.1
  have q1 := hc0.2.1
  have q2 := hl0.2.1
  have q4 := hl0.2.2.2.2.1
  have lt0 := hl0.2.2.2.2.2.2.2.2
  have HE := Lib.hid hE
  have HG := Lib.hid hG
  have HS' := Lib.hid hs'
  rw [hs'] at hs
  have e1 : ((g + 1 : Nat) : Int) = (g : Int) + 1 := by omega
  rw [e1] at HPW HSt
  have HPC : Hid (∀ wx, E1.1 = 0 → Sat wx (diskP d E1.2 * ((pts l (.cells (logCells ⟨num, g, ln⟩ d n a lv false) 69) * C) * (old W * Y))) → Calls Tryz.prog 43 #[.pointer (some ⟨l, 0, none⟩), .int .i64 ((g : Int) + 1), .int .i64 (parts.length : Int)] wx fun r w' =>
      Ends (commitR E1.2 a s').1 r ∧ Ext wx w' ∧ ∃ a', ((commitR E1.2 a s').1 = 0 → a' = 0) ∧ Sat w' (diskP d (commitR E1.2 a s').2 * (pts l (.cells (logCells s' d n a' lv false) 69) * (C * (old W * Y))))) := Lib.hid (by
    intro wx he hx
    have := commit_log W hE l d n a (g + 1) parts.length ⟨num, g, ln⟩ lv false (by dsimp only; rw [hs']; exact hs) ha E1.2 (by rw [hqq he]; simp) (C * Y) wx (hx.cast (by ac_rfl))
    dsimp only at this
    rw [hs', e1] at this
    refine this.mono ?_
    rintro r w' ⟨h1, h2, a', h3, h4⟩
    exact ⟨h1, h2, a', h3, h4.cast (by ac_rfl)⟩)
  have HDead : Hid (∀ wx sx ax D, Sat wx (diskP d D * (pts l (.cells (logCells sx d n ax lv false) 69) * (C * (old W * Y)))) → Sat wx (diskP d D * (pts l (.cells (logCells sx d n ax lv false) 69) * (strRow lv list * (old W * (G * R)))))) := Lib.hid (by
    intro wx sx ax D hx
    rw [← hY] at hx
    exact (hx.cast (show _ = C * (diskP d D * (pts l (.cells (logCells sx d n ax lv false) 69) * (strRow lv list * (old W * (G * R))))) by ac_rfl)).right)
  have hqc := commit_q E1.2 a s'
  have hq3 := fun D : DS => each_q D (restW st parts.length n)
  have hmf := Tryz.makeFn
  clear e1 hqq
  clear hE' hst' h h0 hC hY hE1 hl0 hc0 HB hE hG hs'
  go_enter Tryz.func41, Tryz.ntmps41
  go_wp2_with fail
  refine (HSt.out _ q4).mono ?_
  rintro r w1 ⟨rfl, rfl⟩
  go_wp2_with fail
  refine (HPW.out _ H.out.2).mono ?_
  rintro r w2 ⟨hr, hx, hs2⟩
  have H2 := Lib.hid (And.intro (H.out.1.trans hx) hs2)
  clear hx hs2 H HPW HSt q0 q1 q2 q4 lt0
  by_cases he1 : E1.1 = 0
  case neg =>
    have hE0 : Hid (E = E1) := Lib.hid (by rw [hEE.out, andR, if_neg he1])
    have hr2 := ends_dead hr he1
    subst hr2
    go_wp2_with fail
    exact ⟨rfl, by rw [hE0.out]; exact hr, H2.out.1, fun h => absurd (by rw [← hE0.out]; exact h) he1, fun _ => ⟨_, _, by rw [hE0.out]; exact HDead.out _ _ _ _ (H2.out.2.cast (by ac_rfl))⟩⟩
  case pos =>
  have hr2 := ends_zero hr he1
  subst hr2
  have hc0 := HC.out w2 _ (H2.out.2.cast (show _ = C * (diskP d E1.2 * (pts l (.cells (logCells ⟨num, g, ln⟩ d n a lv false) 69) * (old W * Y))) by ac_rfl))
  have q0 := hc0.1
  have q1 := hc0.2.1
  clear hc0 hr
  go_wp2_with fail
  refine (HPC.out _ he1 H2.out.2).mono ?_
  rintro r w3 ⟨hr, hx, a', ha', hs3⟩
  have H3 := Lib.hid (And.intro (H2.out.1.trans hx) hs3)
  clear hx hs3 H2 HPC q0 q1
  have hEE1 : Hid (E = andR (commitR E1.2 a s') fun T => andR (eachR T (restW st parts.length n)) fun T => andR (eachR T (restW st parts.length n)) fun T => andR (headR T 0 s') fun T => headR T 1 s') := Lib.hid (by rw [hEE.out, andR, if_pos he1])
  obtain ⟨E2, hE2⟩ : ∃ E2, commitR E1.2 a s' = E2 := ⟨_, rfl⟩
  rw [hE2] at hEE1 hr ha' H3 hqc
  clear hE2 hEE
  by_cases he2 : E2.1 = 0
  case neg =>
    have hE0 : Hid (E = E2) := Lib.hid (by rw [hEE1.out, andR, if_neg he2])
    have hr2 := ends_dead hr he2
    subst hr2
    go_wp2_with fail
    exact ⟨rfl, by rw [hE0.out]; exact hr, H3.out.1, fun h => absurd (by rw [← hE0.out]; exact h) he2, fun _ => ⟨_, _, by rw [hE0.out]; exact HDead.out _ _ _ _ H3.out.2⟩⟩
  case pos =>
  have hr2 := ends_zero hr he2
  subst hr2
  obtain rfl := ha' he2
  have hq2 := hqc he2
  have hEE2 : Hid (E = andR (eachR E2.2 (restW st parts.length n)) fun T => andR (eachR T (restW st parts.length n)) fun T => andR (headR T 0 s') fun T => headR T 1 s') := Lib.hid (by rw [hEE1.out, andR, if_pos he2])
  clear hr ha' hqc hEE1
  have HQ : Hid (∀ wx X, Sat wx (pts l (.cells (logCells s' d n 0 lv false) 69) * (C * X)) → wx.cell? ⟨bl, 0, none⟩ = some (.pointer (some ⟨l, 0, none⟩)) ∧ wx.cell? ⟨bp, 0, none⟩ = some (.slice vb parts.length vc) ∧ wx.cell? ⟨l, 4, none⟩ = some (.int .i64 (n : Int)) ∧ l < wx.heap.size) := Lib.hid (by
    intro wx X h
    have h1 := h.log
    have h2 := HC.out wx _ h.comm3
    exact ⟨h2.1, h2.2.1, h1.2.2.2.2.1, h1.2.2.2.2.2.2.2.2⟩)
  have hm : parts.length ≤ 10000 := by omega
  obtain ⟨m, hm'⟩ : ∃ m, parts.length = m := ⟨_, rfl⟩
  rw [hm'] at hm hEE2 HQ
  have HM := Lib.hid hm'
  obtain ⟨Z, hZ⟩ : ∃ Z, old W * Y = Z := ⟨_, rfl⟩
  have HZ := Lib.hid hZ
  have H4 := Lib.hid (And.intro H3.out.1 (H3.out.2.cast (show _ = pts l (.cells (logCells s' d n 0 lv false) 69) * (C * (diskP d E2.2 * Z)) by rw [← hZ]; ac_rfl)))
  clear hZ H3
  obtain ⟨i0, hi0, hz0, hz1, hz2⟩ := info_parts Tryz.infoInt
  clear hm'
  go_wp2_with fail
  go_loopw [5, 6] (fun b i wr => ∃ j : Nat, 2 ≤ j ∧ j ≤ n ∧ i = .int .i64 j ∧ Hid (Ext w1 wr ∧ Sat wr (rowP 3 1 b (restUp st m j).length ((restUp st m j).map fun i : Nat => Value.int .i64 (i : Int)) * (pts l (.cells (logCells s' d n 0 lv false) 69) * (C * (diskP d E2.2 * Z)))))) (fun _ i _ => n - (intOf i).toNat)
  case atStart => exact ⟨2, Nat.le_refl _, by omega, rfl, Lib.hid ⟨H4.out.1, by rw [restUp_two]; exact Sat.nilRow H4.out.2⟩⟩
  case round =>
    obtain ⟨j, hj2, hj, rfl, HR⟩ := hrel
    obtain ⟨q0, q1, q2, t0⟩ := HQ.out wr _ (HR.out.2.cast (show _ = pts l (.cells (logCells s' d n 0 lv false) 69) * (C * (rowP 3 1 u5 (restUp st m j).length ((restUp st m j).map fun i : Nat => Value.int .i64 (i : Int)) * (diskP d E2.2 * Z))) by ac_rfl))
    by_cases hlt : j < n
    · by_cases hp : j < st ∨ st + m ≤ j
      · have hlen := restUp_len st m j
        have h3 := HR.out.2.alloc (.cells #[.int .i64 (j : Int)] 3)
        have H3 := Lib.hid (And.intro (HR.out.1.alloc (.cells #[.int .i64 (j : Int)] 3)) h3)
        have HN2 := Lib.hid (World.news_of_block (heap_alloc_new wr (.cells #[.int .i64 (j : Int)] 3)))
        have hwr : IntKind.i64.wrap ((st : Int) + (m : Int)) = (st : Int) + (m : Int) := by rw [IntKind.wrap_i64]; omega
        have hnx := restUp_yes hj2 hp
        clear h3
        by_cases hp1 : j < st
        all_goals first | (have hp2 : (st : Int) + (m : Int) ≤ (j : Int) := by omega) | skip
        all_goals
          go_wp2_with (at_builtin; refine wpList_append_lies _ rfl (.tmp 45) (.tmp 47) 79 rfl 0 3 i0 (.int .i64 0) 1 8 (by kernel_rfl) hi0 hz0 hz1 hz2 rfl (by decide) u5 (restUp st m j).length _ rfl H3.out.2.owns ⟨wr.heap.size, 0, none⟩ 1 1 [.int .i64 (j : Int)] rfl rfl HN2.out (by simp [Value.oneCell']) (by decide) (by unfold maxLen; omega) (by omega) (Nat.zero_le _) _ rfl ?_)
          intro g' cap w4 hown hgrow hat hlt3
          have hs4 := H3.out.2.appended hown hgrow (by rw [World.size_alloc]; exact hat)
          have H4 := Lib.hid (And.intro (H3.out.1.grown hgrow) hs4)
          clear hown hgrow hat hlt3 hs4 q0 q1 q2 t0
          go_wp2_with fail
          refine ⟨⟨j + 1, by omega, hlt, congrArg (Value.int .i64) (by omega), Lib.hid ⟨H4.out.1, ?_⟩⟩, by simp [intOf]; omega⟩
          have := H4.out.2
          rw [hnx, List.map_append, List.length_append]
          exact this
      · have hnx := restUp_no hp
        have hwr : IntKind.i64.wrap ((st : Int) + (m : Int)) = (st : Int) + (m : Int) := by rw [IntKind.wrap_i64]; omega
        have hp1 : ¬ (j : Int) < (st : Int) := by omega
        have hp2 : ¬ (st : Int) + (m : Int) ≤ (j : Int) := by omega
        go_wp2_with fail
        refine ⟨⟨j + 1, by omega, hlt, congrArg (Value.int .i64) (by omega), Lib.hid ⟨HR.out.1, ?_⟩⟩, by simp [intOf]; omega⟩
        rw [hnx]
        exact HR.out.2
    · obtain rfl : j = n := by omega
      have HLC : Hid (∀ wx X, Sat wx (pts l (.cells (logCells s' d j 0 lv false) 69) * X) → wx.cell? ⟨l, 3, none⟩ = some (.pointer (some ⟨d, 0, none⟩)) ∧ l < wx.heap.size) := Lib.hid (fun wx X h => ⟨h.log.2.2.2.1, h.lt⟩)
      have HR1 := Lib.hid (And.intro HR.out.1 (HR.out.2.cast (show _ = intRow u5 (restUp st m j) * (diskP d E2.2 * (pts l (.cells (logCells s' d j 0 lv false) 69) * (C * Z))) by unfold intRow; ac_rfl)))
      have HP1 := Lib.hid (fun wx h => each_blank l d _ HLC.out st m j hn.2 E2.2 (by rw [hq2]; simp) u5 (C * Z) wx h)
      have hq4 := hq3 E2.2
      rw [HM.out] at hq3 hq4
      have HQ3 := Lib.hid hq3
      clear HR H4 hq2 hq3 hi0 hz0 hz1 hz2
      go_wp2_with fail
      refine (HP1.out _ HR1.out.2).mono ?_
      rintro r w4 ⟨hr, hx, hs4⟩
      have H4 := Lib.hid (And.intro (HR1.out.1.trans hx) hs4)
      clear hx hs4 HR1 HP1 q0 q1 q2 t0
      obtain ⟨E3, hE3⟩ : ∃ E3, eachR E2.2 (restW st m j) = E3 := ⟨_, rfl⟩
      rw [hE3] at hEE2 hr H4 hq4
      clear hE3
      by_cases he3 : E3.1 = 0
      case neg =>
        have hE0 : Hid (E = E3) := Lib.hid (by rw [hEE2.out, andR, if_neg he3])
        have hr2 := ends_dead hr he3
        subst hr2
        go_wp2_with fail
        exact ⟨rfl, by rw [hE0.out]; exact hr, H4.out.1, fun h => absurd (by rw [← hE0.out]; exact h) he3, fun _ => ⟨_, _, by rw [hE0.out]; exact HDead.out _ _ _ _ (H4.out.2.right.cast (by rw [← HZ.out]))⟩⟩
      case pos =>
      have hr2 := ends_zero hr he3
      subst hr2
      have hEE3 : Hid (E = andR (eachR E3.2 (restW st m j)) fun T => andR (headR T 0 s') fun T => headR T 1 s') := Lib.hid (by rw [hEE2.out, andR, if_pos he3])
      have hq5 := hq4 he3
      obtain ⟨q0, q1, q2, t0⟩ := HQ.out w4 _ (H4.out.2.cast (show _ = pts l (.cells (logCells s' d j 0 lv false) 69) * (C * (intRow u5 (restUp st m j) * (diskP d E3.2 * Z))) by ac_rfl))
      have HP1 := Lib.hid (fun wx h => each_blank l d _ HLC.out st m j hn.2 E3.2 (by rw [hq5]; simp) u5 (C * Z) wx h)
      clear hr hEE2 hq4 hq5
      go_wp2_with fail
      refine (HP1.out _ H4.out.2).mono ?_
      rintro r w5 ⟨hr, hx, hs5⟩
      have H5 := Lib.hid (And.intro (H4.out.1.trans hx) hs5)
      have hq6 := HQ3.out E3.2
      clear hx hs5 H4 HP1 q0 q1 q2 t0
      obtain ⟨E4, hE4⟩ : ∃ E4, eachR E3.2 (restW st m j) = E4 := ⟨_, rfl⟩
      rw [hE4] at hEE3 hr H5 hq6
      clear hE4
      by_cases he4 : E4.1 = 0
      case neg =>
        have hE0 : Hid (E = E4) := Lib.hid (by rw [hEE3.out, andR, if_neg he4])
        have hr2 := ends_dead hr he4
        subst hr2
        go_wp2_with fail
        exact ⟨rfl, by rw [hE0.out]; exact hr, H5.out.1, fun h => absurd (by rw [← hE0.out]; exact h) he4, fun _ => ⟨_, _, by rw [hE0.out]; exact HDead.out _ _ _ _ (H5.out.2.right.cast (by rw [← HZ.out]))⟩⟩
      case pos =>
      have hr2 := ends_zero hr he4
      subst hr2
      have hEE4 : Hid (E = andR (headR E4.2 0 s') fun T => headR T 1 s') := Lib.hid (by rw [hEE3.out, andR, if_pos he4])
      have hq7 := hq6 he4
      obtain ⟨q0, q1, q2, t0⟩ := HQ.out w5 _ (H5.out.2.cast (show _ = pts l (.cells (logCells s' d j 0 lv false) 69) * (C * (intRow u5 (restUp st m j) * (diskP d E4.2 * Z))) by ac_rfl))
      have HP1 := Lib.hid (fun wx h => head_log W HE.out l d 0 j 0 s' lv false hs (by omega) E4.2 (by rw [hq7]; simp) (C * Y) wx h)
      have H6 := Lib.hid (And.intro H5.out.1 (H5.out.2.right.cast (show _ = diskP d E4.2 * (pts l (.cells (logCells s' d j 0 lv false) 69) * (old W * (C * Y))) by rw [← HZ.out]; ac_rfl)))
      clear hr hEE3 hq6 hq7 H5
      go_wp2_with fail
      refine (HP1.out _ H6.out.2).mono ?_
      rintro r w6 ⟨hr, hx, hs6⟩
      have H7 := Lib.hid (And.intro (H6.out.1.trans hx) hs6)
      have hq8 := each_q E4.2 [(0, strOf (headL 0 s'))]
      clear hx hs6 H6 HP1 q0 q1 q2 t0
      obtain ⟨E5, hE5⟩ : ∃ E5, headR E4.2 0 s' = E5 := ⟨_, rfl⟩
      have hE5' : eachR E4.2 [(0, strOf (headL 0 s'))] = E5 := hE5
      rw [hE5] at hEE4 hr H7
      rw [hE5'] at hq8
      clear hE5 hE5'
      by_cases he5 : E5.1 = 0
      case neg =>
        have hE0 : Hid (E = E5) := Lib.hid (by rw [hEE4.out, andR, if_neg he5])
        have hr2 := ends_dead hr he5
        subst hr2
        go_wp2_with fail
        exact ⟨rfl, by rw [hE0.out]; exact hr, H7.out.1, fun h => absurd (by rw [← hE0.out]; exact h) he5, fun _ => ⟨_, _, by rw [hE0.out]; exact HDead.out _ _ _ _ (H7.out.2.cast (by ac_rfl))⟩⟩
      case pos =>
      have hr2 := ends_zero hr he5
      subst hr2
      have hEE5 : Hid (E = headR E5.2 1 s') := Lib.hid (by rw [hEE4.out, andR, if_pos he5])
      have hq9 := hq8 he5
      obtain ⟨q0, q1, q2, t0⟩ := HQ.out w6 _ (H7.out.2.cast (show _ = pts l (.cells (logCells s' d j 0 lv false) 69) * (C * (diskP d E5.2 * (old W * Y))) by ac_rfl))
      have HP1 := Lib.hid (fun wx h => head_log W HE.out l d 1 j 0 s' lv false hs (by omega) E5.2 (by rw [hq9]; simp) (C * Y) wx h)
      clear hr hEE4 hq8 hq9
      go_wp2_with fail
      refine (HP1.out _ H7.out.2).mono ?_
      rintro r w7 ⟨hr, hx, hs7⟩
      rw [← hEE5.out] at hr hs7
      have H8 := Lib.hid (And.intro (H7.out.1.trans hx) hs7)
      clear hx hs7 H7 HP1 q0 q1 q2 t0 hEE5
      by_cases he6 : E.1 = 0
      case neg =>
        have hr2 := ends_dead hr he6
        subst hr2
        go_wp2_with fail
        exact ⟨rfl, hr, H8.out.1, fun h => absurd h he6, fun _ => ⟨_, _, HDead.out _ _ _ _ (H8.out.2.cast (by ac_rfl))⟩⟩
      case pos =>
      have hr2 := ends_zero hr he6
      subst hr2
      have HX : Hid (∀ wx X, Sat wx (pts l (.cells (logCells s' d j 0 lv false) 69) * (C * X)) → wx.cell? ⟨bl, 0, none⟩ = some (.pointer (some ⟨l, 0, none⟩)) ∧ wx.cell? ⟨br, 0, none⟩ = some (.slice rb recs.length rc) ∧ wx.cell? ⟨l, 6, none⟩ = some lv ∧ wx.frozen? ⟨l, 6, none⟩ = false ∧ l < wx.heap.size ∧ bl < wx.heap.size ∧ br < wx.heap.size) := Lib.hid (by
        intro wx X h
        have h1 := h.log
        have h2 := HC.out wx _ h.comm3
        exact ⟨h2.1, h2.2.2.1, h1.2.2.2.2.2.2.1, h.free 6, h.lt, h2.2.2.2.1, h2.2.2.2.2.2.1⟩)
      have HA := Lib.hid (H8.out.2.drew.cast (show _ = pts l (.cells (logCells s' d j 0 lv false) 69) * (C * (diskP d E.2 * (old W * Y))) by ac_rfl))
      obtain ⟨p0, p1, p2, p3, p4, p5, p6⟩ := HX.out w7 _ (H8.out.2.cast (show _ = pts l (.cells (logCells s' d j 0 lv false) 69) * (C * (diskP d E.2 * (old W * Y))) by ac_rfl))
      have hrec : RecsIn w7.drew rb recs := HG.out _ (diskP d E.2 * (pts l (.cells (logCells s' d j 0 lv false) 69) * (C * (strRow lv list * R)))) (H8.out.2.drew.cast (by rw [← HY.out]; ac_rfl))
      have HCl := Lib.hid (clone_recs rb rc recs hll _ w7.drew HA.out hrec)
      clear hrec
      go_wp2_with fail
      go_region_law (first
        | (go_simp; go_at_call 37; refine HCl.out.mono ?_; rintro r w8 ⟨v', rfl, hk8, hs8⟩; obtain ⟨vb', vc', rfl, _⟩ := hs8.strForm;
           have hl8 := hs8.cast (show _ = pts l (.cells (logCells s' d j 0 lv false) 69) * (C * (strRow (.slice vb' recs.length vc') recs * (diskP d E.2 * (old W * Y)))) by ac_rfl);
           clear p0 p1 p2 p3 p4 p5 p6; obtain ⟨p0, p1, p2, p3, p4, p5, p6⟩ := HX.out w8 _ hl8;
           have H9 := Lib.hid (And.intro ((H8.out.1.drew.trans hk8.ext).setCell ⟨l, 6, none⟩ (.slice vb' recs.length vc')) (hl8.setCell (i := 6) (.slice vb' recs.length vc')));
           clear HA HCl hk8 hs8 hl8; go_simp))
      all_goals
        clear p0 p1 p2 p3 p4 p5 p6
        go_wp2_with fail
        go_end0
        exact ⟨hr, H9.out.1, fun _ => ⟨_, rewrite_fin H9.out.2 HY.out⟩, fun h => absurd he6 h⟩
end Go.Proofs.YtmemhoiepnlhfaaGreatDoor
