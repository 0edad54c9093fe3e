/-
  log's Append, walked: a log as an assertion; what Append does as a plain function. Its condition: a log that is in order.
-/
import Derived.Test.YtmemhoiepnlhfaaGreatDoorJM
import Derived.Test.YtmemhoiepnlhfaaGreatDoorJI
namespace Go.Proofs.YtmemhoiepnlhfaaGreatDoor
open Go.RowKit
set_option maxRecDepth 100000

/-- What a log holds. -/
structure LS where
  n : Nat
  s : St
  a : Nat
  list : List ByteArray
  br : Bool
structure LS.ok (L : LS) : Prop where
  s : L.s.ok
  a : L.a ≤ 1
  n : 6 ≤ L.n ∧ L.n ≤ 4000
  len : L.list.length ≤ L.s.length
  half : L.s.length ≤ halfN L.n
def splitB (r : ByteArray) : List ByteArray := (partsL r.data.toList).map strOf
def logF (l d : Nat) (L : LS) (lv : Value) : HProp := pts l (.cells (logCells L.s d L.n L.a lv L.br) 69) * strRow lv L.list
def logP (l d : Nat) (L : LS) : HProp := hex (logF l d L)
theorem Sat.logOpen {w : World} {l d : Nat} {L : LS} {A R : HProp} (h : Sat w (A * (logP l d L * R))) :
    ∃ lb lc, Sat w (A * (pts l (.cells (logCells L.s d L.n L.a (.slice lb L.list.length lc) L.br) 69) * (strRow (.slice lb L.list.length lc) L.list * R))) := by
  obtain ⟨lv, h1⟩ := Sat.hex (f := logF l d L) (h.cast (show _ = logP l d L * (A * R) by ac_rfl))
  unfold logF at h1
  obtain ⟨lb, lc, rfl, _⟩ := (h1.cast (show _ = strRow lv L.list * (pts l (.cells (logCells L.s d L.n L.a lv L.br) 69) * (A * R)) by ac_rfl)).strForm
  exact ⟨lb, lc, h1.cast (by ac_rfl)⟩
theorem Sat.logClose {w : World} {l d : Nat} {L : LS} {A R : HProp} {lv : Value} (h : Sat w (A * (pts l (.cells (logCells L.s d L.n L.a lv L.br) 69) * (strRow lv L.list * R)))) : Sat w (A * (logP l d L * R)) := by
  have h1 : Sat w (logF l d L lv * (A * R)) := h.cast (by unfold logF; ac_rfl)
  have h2 : Sat w (logP l d L * (A * R)) := Sat.of_hex (f := logF l d L) lv h1
  exact h2.cast (by ac_rfl)

def appendL (S : DS) (L : LS) (rec : ByteArray) : Int × DS × LS :=
  if L.br then (12, S, L) else if isLong rec then (3, S, L) else
  if halfN L.n < L.s.length + (splitB rec).length ∨ L.s.number = 999999999 then (18, S, L) else
  if (appendBody S L.a L.n L.s (splitB rec)).1 = 0 then (0, (appendBody S L.a L.n L.s (splitB rec)).2, { L with s := ⟨L.s.number + 1, L.s.generation, L.s.length + (splitB rec).length⟩, a := 0, list := L.list ++ [rec] })
  else ((appendBody S L.a L.n L.s (splitB rec)).1, (appendBody S L.a L.n L.s (splitB rec)).2, { L with br := true })

theorem half_small (n : Nat) (h : n ≤ 4000) : halfN n ≤ 1999 := by unfold halfN; omega

set_option maxHeartbeats 6400000 in
theorem append_log (W : World) (hE : Env W) (l d : Nat) (L : LS) (hL : L.ok) (rec : ByteArray) (S : DS) (hq : S.q.length ≤ 80000) (R : HProp) (w : World)
    (h : Sat w (diskP d S * (logP l d L * (old W * R)))) :
    Calls Tryz.prog 25 #[.pointer (some ⟨l, 0, none⟩), .string rec] w fun r w' => r = .returned (.int .i64 (appendL S L rec).1) ∧ Ext w w' ∧
      Sat w' (diskP d (appendL S L rec).2.1 * (logP l d (appendL S L rec).2.2 * (old W * R))) := by
  obtain ⟨lb, lc, h⟩ := h.logOpen
  obtain ⟨n, s, a, list, br⟩ := L
  obtain ⟨k1, k2, k3, k4, k5⟩ := hL
  dsimp only at *
  have k6 := half_small n k3.2
  have hmf := Tryz.makeFn
  have hs0 := ((h.allocNew (.cells #[.pointer (some ⟨l, 0, none⟩)] 29)).allocNew (.cells #[.string rec] 9)).allocNew (.cells #[.string rec] 9)
  have hx0 := (((Ext.refl w).alloc (.cells #[.pointer (some ⟨l, 0, none⟩)] 29)).alloc (.cells #[.string rec] 9)).alloc (.cells #[.string rec] 9)
  simp only [World.size_alloc] at hs0
  have H := Lib.hid (And.intro hx0 (hs0.cast (show _ = (pts (w.heap.size + 1 + 1) (.cells #[.string rec] 9)) * (pts w.heap.size (.cells #[.pointer (some ⟨l, 0, none⟩)] 29) * (pts (w.heap.size + 1) (.cells #[.string rec] 9) * (diskP d S * (pts l (.cells (logCells s d n a (.slice lb list.length lc) br) 69) * (strRow (.slice lb list.length lc) list * (old W * R)))))) by ac_rfl)))
  have c7 : (((w.alloc (.cells #[.pointer (some ⟨l, 0, none⟩)] 29)).alloc (.cells #[.string rec] 9)).alloc (.cells #[.string rec] 9)).cell? ⟨l, 7, none⟩ = some (.bool br) :=
    (H.out.2.cast (show _ = pts l (.cells (logCells s d n a (.slice lb list.length lc) br) 69) * ((pts (w.heap.size + 1 + 1) (.cells #[.string rec] 9)) * (pts w.heap.size (.cells #[.pointer (some ⟨l, 0, none⟩)] 29) * (pts (w.heap.size + 1) (.cells #[.string rec] 9) * (diskP d S * (strRow (.slice lb list.length lc) list * (old W * R)))))) by ac_rfl)).log.2.2.2.2.2.2.2.1
  have HCk := Lib.hid (check_any l br (some ⟨w.heap.size + 1 + 1, 0, none⟩) 1 [rec] (by simp) _ (fun i x hi => by
    have hi0 : i = 0 := by
      have := (List.getElem?_eq_some_iff.1 hi).1
      simp at this; omega
    subst hi0
    simp at hi
    subst hi
    exact ⟨_, _, rfl, by rw [H.out.2.cell]; rfl⟩) c7)
  have hck : checkR br [rec] = if br then 12 else if isLong rec then 3 else 0 := by unfold checkR; simp
  rw [hck] at HCk
  clear hs0 hx0 h c7 hck
  have hlog : ∀ b, Sat (((w.alloc (.cells #[.pointer (some ⟨l, 0, none⟩)] 29)).alloc (.cells #[.string rec] 9)).alloc (.cells #[.string rec] 9)) (pts (w.heap.size + 1 + 1) (.cells #[.string rec] 9) * (pts w.heap.size (.cells #[.pointer (some ⟨l, 0, none⟩)] 29) * (pts (w.heap.size + 1) (.cells #[.string rec] 9) * (diskP d S * (pts l (.cells (logCells s d n a (.slice lb list.length lc) b) 69) * (strRow (.slice lb list.length lc) list * (old W * R))))))) → Sat (((w.alloc (.cells #[.pointer (some ⟨l, 0, none⟩)] 29)).alloc (.cells #[.string rec] 9)).alloc (.cells #[.string rec] 9)) (diskP d S * (logP l d ⟨n, s, a, list, b⟩ * (old W * R))) :=
    fun b h => Sat.logClose (L := ⟨n, s, a, list, b⟩) h.right.right.right
  have HLog := Lib.hid hlog
  clear hlog
  generalize hw3 : ((w.alloc (.cells #[.pointer (some ⟨l, 0, none⟩)] 29)).alloc (.cells #[.string rec] 9)).alloc (.cells #[.string rec] 9) = w3 at H HCk HLog
  have HW3 := Lib.hid hw3
  clear hw3
  cases br with
  | true =>
    have hZ : appendL S ⟨n, s, a, list, true⟩ rec = (12, S, ⟨n, s, a, list, true⟩) := rfl
    rw [hZ]
    have e12 : (if True then (12 : Int) else if isLong rec = true then 3 else 0) = 12 := if_pos trivial
    go_enter Tryz.func25, Tryz.ntmps25
    go_wp2_with fail
    rw [HW3.out]
    refine HCk.out.mono ?_
    rintro r w1 ⟨rfl, rfl⟩
    go_wp2_with fail
    go_ret
    exact ⟨rfl, H.out.1, HLog.out _ H.out.2⟩
  | false =>
    obtain ⟨b, hb⟩ : ∃ b, isLong rec = b := ⟨_, rfl⟩
    cases b with
    | true =>
      have hZ : appendL S ⟨n, s, a, list, false⟩ rec = (3, S, ⟨n, s, a, list, false⟩) := by unfold appendL; simp [hb]
      rw [hZ]
      rw [hb] at HCk
      go_enter Tryz.func25, Tryz.ntmps25
      go_wp2_with fail
      rw [HW3.out]
      refine HCk.out.mono ?_
      rintro r w1 ⟨rfl, rfl⟩
      go_wp2_with fail
      go_ret
      exact ⟨rfl, H.out.1, HLog.out _ H.out.2⟩
    | false =>
      have hrs : rec.size ≤ 2000 := by
        unfold isLong at hb
        have := of_decide_eq_false hb
        omega
      rw [hb] at HCk
      have q0 : w3.cell? ⟨w.heap.size, 0, none⟩ = some (.pointer (some ⟨l, 0, none⟩)) := by rw [H.out.2.right.cell]; rfl
      have q1 : w3.cell? ⟨w.heap.size + 1, 0, none⟩ = some (.string rec) := by rw [H.out.2.right.right.cell]; rfl
      have hE3 : Env w3 := env_old hE (H.out.2.cast (show _ = old W * (pts (w.heap.size + 1 + 1) (.cells #[.string rec] 9) * (pts w.heap.size (.cells #[.pointer (some ⟨l, 0, none⟩)] 29) * (pts (w.heap.size + 1) (.cells #[.string rec] 9) * (diskP d S * (pts l (.cells (logCells s d n a (.slice lb list.length lc) false) 69) * (strRow (.slice lb list.length lc) list * R)))))) by ac_rfl))
      have HSp := Lib.hid (split_any rec (by omega) w3 hE3)
      have HZ0 : Hid (appendL S ⟨n, s, a, list, false⟩ rec = if halfN n < s.length + (splitB rec).length ∨ s.number = 999999999 then (18, S, ⟨n, s, a, list, false⟩) else
        if (appendBody S a n s (splitB rec)).1 = 0 then (0, (appendBody S a n s (splitB rec)).2, ⟨n, ⟨s.number + 1, s.generation, s.length + (splitB rec).length⟩, 0, list ++ [rec], false⟩)
        else ((appendBody S a n s (splitB rec)).1, (appendBody S a n s (splitB rec)).2, ⟨n, s, a, list, true⟩)) := Lib.hid (by unfold appendL; simp [hb])
      have hpl : (splitB rec).length ≤ 1000 := by
        unfold splitB
        rw [List.length_map]
        have h1 := chunkF_count (textOf rec.data.toList).length (textOf rec.data.toList)
        have h2 : (textOf rec.data.toList).length ≤ 2100 := by
          unfold textOf
          rw [List.length_append, List.length_cons, size_len]
          have := dec_len rec.size (by omega)
          omega
        unfold partsL
        omega
      obtain ⟨Z, hZ⟩ : ∃ Z, appendL S ⟨n, s, a, list, false⟩ rec = Z := ⟨_, rfl⟩
      rw [hZ] at HZ0 ⊢
      have hS : ((partsL rec.data.toList).map strOf) = splitB rec := rfl
      have hSl : (partsL rec.data.toList).length = (splitB rec).length := by rw [← hS, List.length_map]
      rw [hS, hSl] at HSp
      generalize splitB rec = parts at *
      clear hS hSl hZ hb hE3
      go_enter Tryz.func25, Tryz.ntmps25
      go_wp2_with fail
      rw [HW3.out]
      refine HCk.out.mono ?_
      rintro r w1 ⟨rfl, rfl⟩
      go_wp2_with fail
      refine HSp.out.mono ?_
      rintro r w4 ⟨pv, rfl, ho, hb⟩
      have hs4 : Sat w4 (strRow pv parts * _) := Sat.of_owned H.out.2 hb ho
      have H4 := Lib.hid (And.intro (H.out.1.trans (Kept.of_below hb).ext) hs4)
      clear hs4 ho hb HCk HSp q0 q1
      have hs5 := H4.out.2.allocNew (.cells #[pv] 22)
      have hx5 := H4.out.1.alloc (.cells #[pv] 22)
      obtain ⟨vb, vc, rfl, _⟩ := H4.out.2.strForm
      generalize hB5 : w4.heap.size = B5 at hs5
      have hcap : Sat (w4.alloc (.cells #[.slice vb parts.length vc] 22)) (diskP d S * (pts l (.cells (logCells s d n a (.slice lb list.length lc) false) 69) * ((appCap l w.heap.size B5 (w.heap.size + 1) (.slice vb parts.length vc) rec parts * (strRow (.slice lb list.length lc) list * old W)) * (R * pts (w.heap.size + 1 + 1) (.cells #[.string rec] 9))))) := hs5.cast (by unfold appCap; ac_rfl)
      have H5 := Lib.hid (And.intro hx5 hcap)
      have HB5 := Lib.hid hB5
      have hcc := (hcap.cast (show _ = appCap l w.heap.size B5 (w.heap.size + 1) (.slice vb parts.length vc) rec parts * (diskP d S * (pts l (.cells (logCells s d n a (.slice lb list.length lc) false) 69) * ((strRow (.slice lb list.length lc) list * old W) * (R * pts (w.heap.size + 1 + 1) (.cells #[.string rec] 9))))) by ac_rfl)).appCap
      have hlc := (hcap.cast (show _ = pts l (.cells (logCells s d n a (.slice lb list.length lc) false) 69) * (diskP d S * ((appCap l w.heap.size B5 (w.heap.size + 1) (.slice vb parts.length vc) rec parts * (strRow (.slice lb list.length lc) list * old W)) * (R * pts (w.heap.size + 1 + 1) (.cells #[.string rec] 9)))) by ac_rfl)).log
      have q0 := hcc.1
      have q1 := hcc.2.1
      have q2 := hlc.2.2.1
      have t0 := hlc.2.2.2.2.2.2.2.2
      have t1 := hcc.2.2.2.1
      have t2 := hcc.2.2.2.2.1
      clear hs5 hx5 hcap hcc hlc hB5 H4 HLog H
      go_wp2_with fail
      rw [HB5.out]
      generalize w4.alloc _ = w5 at *
      (refine wp_region_still_tail 9 (by kernel_rfl) (by kernel_rfl) ?_; simp only [List.take_succ_cons, List.take_zero, List.drop_succ_cons, List.drop_zero]; change wpStill _ _ (World.drew _) _ _ _; (repeat (refine wpStill_step (fun K hK => ?_); go_simp; refine hK _ ?_; clear hK K)); refine wpStill_nil ?_; change wpList _ _ _ _ _ (World.drew _))
      go_wp2_with fail
      clear q0 q1 q2 t0 t1 t2
      have H6 := Lib.hid (And.intro H5.out.1.drew H5.out.2.drew)
      clear H5
      by_cases hfull : halfN n < s.length + parts.length ∨ s.number = 999999999
      · have hZ : Hid (Z = (18, S, ⟨n, s, a, list, false⟩)) := Lib.hid (by rw [HZ0.out, if_pos hfull])
        refine (attempt_full l d n a parts.length s.length s (.slice lb list.length lc) _ (by omega) (by omega) hfull _ _ (H6.out.2.cast (show _ = pts l (.cells (logCells s d n a (.slice lb list.length lc) false) 69) * (diskP d S * ((appCap l w.heap.size B5 (w.heap.size + 1) (.slice vb parts.length vc) rec parts * (strRow (.slice lb list.length lc) list * old W)) * (R * pts (w.heap.size + 1 + 1) (.cells #[.string rec] 9)))) by ac_rfl))).mono ?_
        rintro r w6 ⟨rfl, hk⟩
        have H7 := Lib.hid (And.intro (H6.out.1.trans hk.ext) ((H6.out.2.kept hk).cast (show _ = appCap l w.heap.size B5 (w.heap.size + 1) (.slice vb parts.length vc) rec parts * (pts (w.heap.size + 1 + 1) (.cells #[.string rec] 9) * (diskP d S * (pts l (.cells (logCells s d n a (.slice lb list.length lc) false) 69) * (strRow (.slice lb list.length lc) list * (old W * R))))) by ac_rfl)).right.right)
        clear hk H6
        go_wp2_with fail
        go_ret
        rw [hZ.out]
        exact ⟨rfl, H7.out.1, Sat.logClose (L := ⟨n, s, a, list, false⟩) H7.out.2⟩
      · have hZ : Hid (Z = if (appendBody S a n s parts).1 = 0 then (0, (appendBody S a n s parts).2, ⟨n, ⟨s.number + 1, s.generation, s.length + parts.length⟩, 0, list ++ [rec], false⟩) else ((appendBody S a n s parts).1, (appendBody S a n s parts).2, ⟨n, s, a, list, true⟩)) := Lib.hid (by rw [HZ0.out, if_neg hfull])
        have h8 : s.length + parts.length ≤ halfN n := by omega
        have h9 : s.number ≠ 999999999 := fun h => hfull (.inr h)
        have hs' : (⟨s.number + 1, s.generation, s.length + parts.length⟩ : St).ok := by
          obtain ⟨m1, m2, m3⟩ := k1
          refine ⟨?_, m2, ?_⟩
          · dsimp only; omega
          · dsimp only; omega
        have HPA := Lib.hid (fun wx X h => append1_log W hE l d n a w.heap.size B5 (w.heap.size + 1) s (.slice lb list.length lc) (.slice vb parts.length vc) false list parts rec hs' k2 (by omega) (by omega) S hq X wx h)
        obtain ⟨E, hE'⟩ : ∃ E, appendBody S a n s parts = E := ⟨_, rfl⟩
        rw [hE'] at hZ HPA
        clear hE' HZ0 hfull
        refine (attempt_run l d n a parts.length s.length 50 _ s lb list.length lc (by omega) (by omega) h8 h9 (enters_of Tryz.func50 (by kernel_rfl) rfl) S E
          (appCap l w.heap.size B5 (w.heap.size + 1) (.slice vb parts.length vc) rec parts * (strRow (.slice lb list.length lc) list * old W)) (strRow (.slice lb list.length lc) list * old W)
          (fun v => diskP d E.2 * (pts l (.cells (logCells ⟨s.number + 1, s.generation, s.length + parts.length⟩ d n 0 v false) 69) * (strRow v (list ++ [rec]) * old W)))
          (fun wx X h => ?_) (R * pts (w.heap.size + 1 + 1) (.cells #[.string rec] 9)) _ H6.out.2).mono ?_
        · refine (HPA.out wx X (h.cast (by ac_rfl))).mono ?_
          rintro r w6 ⟨hr, hx, hok, hno⟩
          refine ⟨hr, hx, fun he => ?_, fun he => ?_⟩
          · obtain ⟨v, hv⟩ := hok he
            exact ⟨v, hv.cast (by ac_rfl)⟩
          · obtain ⟨s', a', hv⟩ := hno he
            exact ⟨s', a', hv.cast (by ac_rfl)⟩
        rintro r w6 ⟨rfl, hx, hok, hno⟩
        have HX := Lib.hid (H6.out.1.trans hx)
        clear hx H6 HPA
        have HFin : Hid (Z.1 = E.1 ∧ Sat w6 (diskP d Z.2.1 * (logP l d Z.2.2 * (old W * R)))) := Lib.hid (by
          rw [hZ.out]
          by_cases he : E.1 = 0
          · rw [if_pos he]
            obtain ⟨v, hv⟩ := hok he
            have h1 := (hv.cast (show _ = pts (w.heap.size + 1 + 1) (.cells #[.string rec] 9) * (diskP d E.2 * (pts l (.cells (logCells ⟨s.number + 1, s.generation, s.length + parts.length⟩ d n 0 v false) 69) * (strRow v (list ++ [rec]) * (old W * R)))) by ac_rfl)).right
            exact ⟨he.symm, Sat.logClose (L := ⟨n, ⟨s.number + 1, s.generation, s.length + parts.length⟩, 0, list ++ [rec], false⟩) h1⟩
          · rw [if_neg he]
            have h1 := ((hno he).cast (show _ = pts (w.heap.size + 1 + 1) (.cells #[.string rec] 9) * (diskP d E.2 * (pts l (.cells (logCells s d n a (.slice lb list.length lc) true) 69) * (strRow (.slice lb list.length lc) list * (old W * R)))) by ac_rfl)).right
            exact ⟨rfl, Sat.logClose (L := ⟨n, s, a, list, true⟩) h1⟩)
        clear hok hno
        go_wp2_with fail
        go_ret
        exact ⟨by rw [HFin.out.1]; rfl, HX.out, HFin.out.2⟩
end Go.Proofs.YtmemhoiepnlhfaaGreatDoor
