/-
  log's Rewrite, walked. Its condition: a log that is in order, records that lie in memory.
-/
import Derived.Test.YtmemhoiepnlhfaaGreatDoorJO
namespace Go.Proofs.YtmemhoiepnlhfaaGreatDoor
open Go.RowKit
set_option maxRecDepth 100000

def partsOf (recs : List ByteArray) : List ByteArray := recs.flatMap splitB
def rewriteL (S : DS) (L : LS) (recs : List ByteArray) : Int × DS × LS :=
  if L.br then (12, S, L) else if recs.any isLong then (3, S, L) else if L.s.generation = 999999 then (18, S, L) else
  if halfN L.n < 0 + (partsOf recs).length ∨ L.s.number = 999999999 then (18, S, L) else
  if (rewriteBody S L.a L.n L.s (partsOf recs)).1 = 0 then (0, (rewriteBody S L.a L.n L.s (partsOf recs)).2, { L with s := ⟨L.s.number + 1, L.s.generation + 1, (partsOf recs).length⟩, a := 0, list := recs })
  else ((rewriteBody S L.a L.n L.s (partsOf recs)).1, (rewriteBody S L.a L.n L.s (partsOf recs)).2, { L with br := true })
theorem split_len (rec : ByteArray) (h : rec.size ≤ 2000) : (splitB rec).length ≤ 1000 := by
  unfold splitB
  rw [List.length_map]
  have h1 := chunkF_count (textOf rec.data.toList).length (textOf rec.data.toList)
  have h2 : (textOf rec.data.toList).length ≤ 2100 := by
    unfold textOf
    rw [List.length_append, List.length_cons, size_len]
    have := dec_len rec.size (by omega)
    omega
  unfold partsL
  omega
theorem split_pos (rec : ByteArray) : 0 < (splitB rec).length := by
  unfold splitB
  rw [List.length_map]
  exact parts_pos _
theorem parts_len_le : ∀ (recs : List ByteArray), (∀ r ∈ recs, r.size ≤ 2000) → (partsOf recs).length ≤ 1000 * recs.length
  | [], _ => by simp [partsOf]
  | r :: t, h => by
    have h1 := parts_len_le t (fun x hx => h x (List.mem_cons_of_mem _ hx))
    have h2 := split_len r (h r (List.mem_cons_self ..))
    have e : partsOf (r :: t) = splitB r ++ partsOf t := rfl
    rw [e, List.length_append, List.length_cons]
    omega
theorem parts_len_ge : ∀ (recs : List ByteArray), recs.length ≤ (partsOf recs).length
  | [] => by simp
  | r :: t => by
    have h1 := parts_len_ge t
    have h2 := split_pos r
    have e : partsOf (r :: t) = splitB r ++ partsOf t := rfl
    rw [e, List.length_append, List.length_cons]
    omega
theorem parts_take_succ (recs : List ByteArray) (j : Nat) (x : ByteArray) (h : recs[j]? = some x) : partsOf (recs.take (j + 1)) = partsOf (recs.take j) ++ splitB x := by
  unfold partsOf
  rw [List.take_add_one, h, List.flatMap_append]
  simp

theorem Sat.comm3c {w : World} {A B C X : HProp} (h : Sat w (A * (B * (C * X)))) : Sat w (C * (A * (B * X))) := h.cast (by ac_rfl)
set_option maxHeartbeats 6400000 in
theorem rewrite_log (W : World) (hE : Env W) (l d rc : Nat) (rb : Option Addr) (L : LS) (hL : L.ok) (recs : List ByteArray) (hll : recs.length ≤ 1000) (G : HProp) (hG : ∀ wx X, Sat wx (old W * (G * X)) → RecsIn wx rb recs) (S : DS) (hq : S.q.length ≤ 80000) (R : HProp) (w : World)
    (h : Sat w (diskP d S * (logP l d L * (old W * (G * R))))) :
    Calls Tryz.prog 15 #[.pointer (some ⟨l, 0, none⟩), .slice rb recs.length rc] w fun r w' => r = .returned (.int .i64 (rewriteL S L recs).1) ∧ Ext w w' ∧
      Sat w' (diskP d (rewriteL S L recs).2.1 * (logP l d (rewriteL S L recs).2.2 * (old W * (G * R)))) := by
  obtain ⟨lb, lc, h⟩ := h.logOpen
  obtain ⟨n, s, a, list, br⟩ := L
  obtain ⟨k1, k2, k3, k4, k5⟩ := hL
  dsimp only at *
  have k6 := half_small n k3.2
  have hmf := Tryz.makeFn
  have hs0 := (h.allocNew (.cells #[.pointer (some ⟨l, 0, none⟩)] 29)).allocNew (.cells #[.slice rb recs.length rc] 22)
  have hx0 := ((Ext.refl w).alloc (.cells #[.pointer (some ⟨l, 0, none⟩)] 29)).alloc (.cells #[.slice rb recs.length rc] 22)
  simp only [World.size_alloc] at hs0
  have H := Lib.hid (And.intro hx0 (hs0.cast (show _ = pts w.heap.size (.cells #[.pointer (some ⟨l, 0, none⟩)] 29) * (pts (w.heap.size + 1) (.cells #[.slice rb recs.length rc] 22) * (diskP d S * (pts l (.cells (logCells s d n a (.slice lb list.length lc) br) 69) * (strRow (.slice lb list.length lc) list * (old W * (G * R)))))) by ac_rfl)))
  have hc7 := (H.out.2.cast (show _ = pts l (.cells (logCells s d n a (.slice lb list.length lc) br) 69) * (pts w.heap.size (.cells #[.pointer (some ⟨l, 0, none⟩)] 29) * (pts (w.heap.size + 1) (.cells #[.slice rb recs.length rc] 22) * (diskP d S * (strRow (.slice lb list.length lc) list * (old W * (G * R)))))) by ac_rfl)).log.2.2.2.2.2.2.2.1
  have HCk := Lib.hid (check_any l br rb rc recs (by omega) _ (hG _ _ (H.out.2.cast (show _ = old W * (G * (pts w.heap.size (.cells #[.pointer (some ⟨l, 0, none⟩)] 29) * (pts (w.heap.size + 1) (.cells #[.slice rb recs.length rc] 22) * (diskP d S * (pts l (.cells (logCells s d n a (.slice lb list.length lc) br) 69) * (strRow (.slice lb list.length lc) list * R)))))) by ac_rfl))) hc7)
  have hck : checkR br recs = if br then 12 else if recs.any isLong then 3 else 0 := by unfold checkR; simp
  rw [hck] at HCk
  have HLog := Lib.hid (fun b (h : Sat ((w.alloc (.cells #[.pointer (some ⟨l, 0, none⟩)] 29)).alloc (.cells #[.slice rb recs.length rc] 22)) (pts w.heap.size (.cells #[.pointer (some ⟨l, 0, none⟩)] 29) * (pts (w.heap.size + 1) (.cells #[.slice rb recs.length rc] 22) * (diskP d S * (pts l (.cells (logCells s d n a (.slice lb list.length lc) b) 69) * (strRow (.slice lb list.length lc) list * (old W * (G * R)))))))) => Sat.logClose (L := ⟨n, s, a, list, b⟩) h.right.right)
  clear hs0 hx0 h hc7 hck
  generalize hw3 : (w.alloc (.cells #[.pointer (some ⟨l, 0, none⟩)] 29)).alloc (.cells #[.slice rb recs.length rc] 22) = w3 at H HCk HLog
  have HW3 := Lib.hid hw3
  clear hw3
  cases br with
  | true =>
    have hZ : rewriteL S ⟨n, s, a, list, true⟩ recs = (12, S, ⟨n, s, a, list, true⟩) := rfl
    rw [hZ]
    go_enter Tryz.func15, Tryz.ntmps15
    go_wp2_with fail
    rw [HW3.out]
    refine HCk.out.mono ?_
    rintro r w1 ⟨rfl, rfl⟩
    go_wp2_with fail
    go_ret
    exact ⟨rfl, H.out.1, HLog.out _ H.out.2⟩
  | false =>
    obtain ⟨b, hb⟩ : ∃ b, recs.any isLong = b := ⟨_, rfl⟩
    cases b with
    | true =>
      have hZ : rewriteL S ⟨n, s, a, list, false⟩ recs = (3, S, ⟨n, s, a, list, false⟩) := by
        unfold rewriteL
        rw [if_neg Bool.false_ne_true, if_pos hb]
      rw [hZ]
      rw [hb] at HCk
      clear hb
      go_enter Tryz.func15, Tryz.ntmps15
      go_wp2_with fail
      rw [HW3.out]
      refine HCk.out.mono ?_
      rintro r w1 ⟨rfl, rfl⟩
      go_wp2_with fail
      go_ret
      exact ⟨rfl, H.out.1, HLog.out _ H.out.2⟩
    | false =>
      have hrs : ∀ r ∈ recs, r.size ≤ 2000 := by
        intro r hr
        rw [List.any_eq_false] at hb
        have := hb r hr
        unfold isLong at this
        simpa using this
      have HRS := Lib.hid hrs
      have HZ0 : Hid (rewriteL S ⟨n, s, a, list, false⟩ recs = if s.generation = 999999 then (18, S, ⟨n, s, a, list, false⟩) else if halfN n < 0 + (partsOf recs).length ∨ s.number = 999999999 then (18, S, ⟨n, s, a, list, false⟩) else
        if (rewriteBody S a n s (partsOf recs)).1 = 0 then (0, (rewriteBody S a n s (partsOf recs)).2, ⟨n, ⟨s.number + 1, s.generation + 1, (partsOf recs).length⟩, 0, recs, false⟩)
        else ((rewriteBody S a n s (partsOf recs)).1, (rewriteBody S a n s (partsOf recs)).2, ⟨n, s, a, list, true⟩)) := Lib.hid (by unfold rewriteL; rw [if_neg Bool.false_ne_true, if_neg (by rw [hb]; exact Bool.false_ne_true)])
      rw [hb] at HCk
      obtain ⟨Z, hZ⟩ : ∃ Z, rewriteL S ⟨n, s, a, list, false⟩ recs = Z := ⟨_, rfl⟩
      rw [hZ] at HZ0 ⊢
      have HG := Lib.hid hG
      have HE := Lib.hid hE
      obtain ⟨m, hm'⟩ : ∃ m, recs.length = m := ⟨_, rfl⟩
      have HM := Lib.hid hm'
      rw [hm'] at hll H HLog HW3 HCk ⊢
      clear hb hZ hrs hG hE hm'
      go_enter Tryz.func15, Tryz.ntmps15
      go_wp2_with fail
      rw [HW3.out]
      refine HCk.out.mono ?_
      rintro r w1 ⟨rfl, rfl⟩
      have q0 : w1.cell? ⟨w.heap.size + 1, 0, none⟩ = some (.slice rb m rc) := by rw [H.out.2.right.cell]; rfl
      have t0 := H.out.2.right.lt
      have hs2 := H.out.2.allocNew (.cells #[.slice none 0 0] 22)
      have hs3 : Sat (w1.alloc (.cells #[.slice none 0 0] 22)) (strRow (.slice none 0 0) [] * _) := Sat.nilRow hs2
      have H3 := Lib.hid (And.intro (H.out.1.alloc (.cells #[.slice none 0 0] 22)) hs3)
      clear hs2 hs3 HCk
      go_wp2_with fail
      have hBl : ∃ Bl, w.heap.size = Bl := ⟨_, rfl⟩
      obtain ⟨Bl, hBl⟩ := hBl
      rw [hBl] at H3
      generalize w1.alloc (.cells #[.slice none 0 0] 22) = w2 at H3 ⊢
      generalize w1.heap.size = Bp at H3 ⊢
      rw [hBl]
      obtain ⟨i0, hi0, hz0, hz1, hz2⟩ := info_parts Tryz.infoString
      obtain ⟨X, hX⟩ : ∃ X, pts Bl (.cells #[.pointer (some ⟨l, 0, none⟩)] 29) * (pts (Bl + 1) (.cells #[.slice rb m rc] 22) * (diskP d S * (pts l (.cells (logCells s d n a (.slice lb list.length lc) false) 69) * (strRow (.slice lb list.length lc) list * (old W * (G * R)))))) = X := ⟨_, rfl⟩
      rw [hX] at H3
      have HXe : Hid (∀ wx Y, Sat wx (Y * X) → Env wx ∧ RecsIn wx rb recs) := Lib.hid (by
        intro wx Y h
        rw [← hX] at h
        have h1 := h.cast (show _ = old W * (G * (Y * (pts Bl (.cells #[.pointer (some ⟨l, 0, none⟩)] 29) * (pts (Bl + 1) (.cells #[.slice rb m rc] 22) * (diskP d S * (pts l (.cells (logCells s d n a (.slice lb list.length lc) false) 69) * (strRow (.slice lb list.length lc) list * R))))))) by ac_rfl)
        exact ⟨env_old HE.out h1, HG.out _ _ h1⟩)
      have HX := Lib.hid hX
      clear hX q0 t0 H HW3 HLog hBl
      go_loopw [17] (fun i wr => ∃ (j : Nat) (pv : Value), j ≤ m ∧ i = .int .i64 j ∧ Hid (Ext w wr ∧ Sat wr (strRow pv (partsOf (recs.take j)) * (pts Bp (.cells #[pv] 22) * X)))) (fun i _ => m - (intOf i).toNat)
      case atStart => exact ⟨0, _, Nat.zero_le _, rfl, Lib.hid H3.out⟩
      case round =>
        obtain ⟨j, pv, hj, rfl, HR⟩ := hrel
        by_cases hlt : j < m
        · obtain ⟨x, hx⟩ : ∃ x, recs[j]? = some x := ⟨_, List.getElem?_eq_getElem (by rw [HM.out]; exact hlt)⟩
          have hxs := HRS.out x (List.mem_of_getElem? hx)
          obtain ⟨hEw, hrw⟩ := HXe.out wr _ (HR.out.2.cast (show _ = (strRow pv (partsOf (recs.take j)) * pts Bp (.cells #[pv] 22)) * X by ac_rfl))
          obtain ⟨g', o', hrb, hxc⟩ := hrw j x hx
          have hl1 := parts_len_le (recs.take j) (fun r hr => HRS.out r (List.mem_of_mem_take hr))
          have hl2 : (recs.take j).length ≤ j := by rw [List.length_take]; omega
          have hnext := Lib.hid (parts_take_succ recs j x hx)
          have hsl := split_len x hxs
          have hsp := split_pos x
          have p0 : wr.cell? ⟨Bp, 0, none⟩ = some pv := by rw [HR.out.2.right.cell]; rfl
          have pt := HR.out.2.right.lt
          have HSp := Lib.hid (split_any x (by omega) wr.drew (hEw.kept ((Kept.refl _).drew)))
          have hSe : ((partsL x.data.toList).map strOf) = splitB x := rfl
          have hSl : (partsL x.data.toList).length = (splitB x).length := by rw [← hSe, List.length_map]
          rw [hSe, hSl] at HSp
          have HRd := Lib.hid (And.intro HR.out.1.drew HR.out.2.drew)
          obtain ⟨P, hP⟩ : ∃ P, partsOf (recs.take j) = P := ⟨_, rfl⟩
          rw [hP] at HRd hl1 hnext
          have hll : P.length ≤ 1000000 := by omega
          generalize splitB x = Q at *
          subst hrb
          clear hrw hx hSe hSl hP HR hEw hl1 hl2
          go_wp2_with fail
          go_region_law (first
            | (go_simp; go_at_call 39; refine HSp.out.mono ?_; rintro r w5 ⟨sv, rfl, ho, hb⟩;
               have hs5 : Sat w5 (strRow sv Q * _) := Sat.of_owned HRd.out.2 hb ho;
               obtain ⟨g2, c2, rfl, _, _⟩ := hs5.owns.form (by omega);
               have hk5 := Kept.of_below hb; have H5 := Lib.hid (And.intro (HRd.out.1.trans hk5.ext) hs5.comm3);
               have HN := Lib.hid (fun (i : Nat) (u : Value) (hi : (Q.map Value.string)[i]? = some u) => (show w5.cell? ((⟨g2, 0, none⟩ : Addr).add i) = some u by rw [Addr.add_lit, Nat.zero_add]; exact hs5.rowCell hi));
               clear p0 pt; have p0 : w5.cell? ⟨Bp, 0, none⟩ = some pv := by { rw [H5.out.2.right.right.cell]; rfl }; have pt := H5.out.2.right.right.lt;
               clear hs5 ho hb hk5 HSp HRd; go_simp)
            | (refine step_append_lies _ rfl (.tmp 21) (.tmp 23) 22 rfl 0 9 i0 (.string ⟨#[]⟩) 1 16 (by kernel_rfl) hi0 hz0 hz1 hz2 rfl (by decide) pv P.length (P.map Value.string) rfl H5.out.2.owns ⟨g2, 0, none⟩ Q.length c2 (Q.map Value.string) rfl (by simp) HN.out (strs_one Q) hsp (by unfold maxLen; omega) (by omega) (Nat.zero_le _) _ rfl ?_; intro gg cap w6 hown hgrow hat hlt6; have hs6 := H5.out.2.appended hown hgrow hat;
               clear p0 pt; have p0 : w6.cell? ⟨Bp, 0, none⟩ = some pv := by { rw [hs6.right.right.cell]; rfl }; have pt := hs6.right.right.lt; have pz := hs6.right.right.free 0;
               have H6 := Lib.hid (And.intro ((H5.out.1.grown hgrow).setCell ⟨Bp, 0, none⟩ (.slice (some ⟨gg, 0, none⟩) (P.length + Q.length) cap)) ((hs6.comm3c).setCell (i := 0) (.slice (some ⟨gg, 0, none⟩) (P.length + Q.length) cap)));
               clear hown hgrow hat hlt6 hs6 H5 HN))
          all_goals
            clear p0 pt pz
            go_wp2_with fail
            refine ⟨⟨j + 1, .slice (some ⟨gg, 0, none⟩) (P.length + Q.length) cap, hlt, congrArg (Value.int .i64) (by omega), Lib.hid ⟨H6.out.1, ?_⟩⟩, ?_⟩
            · rw [hnext.out]
              unfold strRow
              rw [List.length_append, List.map_append]
              exact (H6.out.2.cast (show _ = strRow _ Q * (rowP 9 1 (.slice (some ⟨gg, 0, none⟩) (P.length + Q.length) cap) (P.length + Q.length) (P.map Value.string ++ Q.map Value.string) * (pts Bp (.cells #[.slice (some ⟨gg, 0, none⟩) (P.length + Q.length) cap] 22) * X)) by ac_rfl)).right
            · show m - ((j : Int) + 1).toNat < m - (j : Int).toNat
              omega
        · have HR2 : Hid (Ext w wr ∧ Sat wr (strRow pv (partsOf recs) * (pts Bp (.cells #[pv] 22) * X))) := Lib.hid (by
            have := HR.out
            rwa [List.take_of_length_le (by rw [HM.out]; omega)] at this)
          obtain ⟨P, hP⟩ : ∃ P, partsOf recs = P := ⟨_, rfl⟩
          rw [hP] at HR2 HZ0
          have hP1 : P.length ≤ 1000000 := by
            have := parts_len_le recs HRS.out
            rw [hP, HM.out] at this
            omega
          have hP2 : m ≤ P.length := by
            have := parts_len_ge recs
            rw [hP, HM.out] at this
            exact this
          obtain ⟨vb, vc, rfl, _⟩ := HR2.out.2.strForm
          have hc0 : Sat wr (diskP d S * (pts l (.cells (logCells s d n a (.slice lb list.length lc) false) 69) * ((rewCap l Bl Bp (Bl + 1) (.slice vb P.length vc) (.slice rb m rc) P * (strRow (.slice lb list.length lc) list * (old W * G))) * R))) := HR2.out.2.cast (by rw [← HX.out]; unfold rewCap; ac_rfl)
          have hcc := (hc0.cast (show _ = rewCap l Bl Bp (Bl + 1) (.slice vb P.length vc) (.slice rb m rc) P * (diskP d S * (pts l (.cells (logCells s d n a (.slice lb list.length lc) false) 69) * ((strRow (.slice lb list.length lc) list * (old W * G)) * R))) by ac_rfl)).rewCap
          have hlc := (hc0.cast (show _ = pts l (.cells (logCells s d n a (.slice lb list.length lc) false) 69) * (diskP d S * ((rewCap l Bl Bp (Bl + 1) (.slice vb P.length vc) (.slice rb m rc) P * (strRow (.slice lb list.length lc) list * (old W * G))) * R)) by ac_rfl)).log
          have q0 := hcc.1
          have q1 := hcc.2.1
          have q2 := hlc.2.1
          have t0 := hlc.2.2.2.2.2.2.2.2
          have t1 := hcc.2.2.2.1
          have t2 := hcc.2.2.2.2.1
          have H5 := Lib.hid (And.intro HR2.out.1 hc0)
          clear HR HR2 hc0 hcc hlc H3 HXe HX hP
          by_cases hg : s.generation = 999999
          · have hg' : ((s.generation : Int) == 999999) = true := by rw [beq_iff_eq]; omega
            have hZ : Hid (Z = (18, S, ⟨n, s, a, list, false⟩)) := Lib.hid (by rw [HZ0.out, if_pos hg])
            go_wp2_with fail
            go_ret
            rw [hZ.out]
            exact ⟨rfl, H5.out.1, Sat.logClose (L := ⟨n, s, a, list, false⟩) (H5.out.2.cast (show _ = rewCap l Bl Bp (Bl + 1) (.slice vb P.length vc) (.slice rb m rc) P * (diskP d S * (pts l (.cells (logCells s d n a (.slice lb list.length lc) false) 69) * (strRow (.slice lb list.length lc) list * (old W * (G * R))))) by ac_rfl)).right⟩
          · have hg' : ((s.generation : Int) == 999999) = false := by rw [beq_eq_false_iff_ne]; omega
            have hZ1 : Hid (Z = if halfN n < 0 + P.length ∨ s.number = 999999999 then (18, S, ⟨n, s, a, list, false⟩) else
              if (rewriteBody S a n s P).1 = 0 then (0, (rewriteBody S a n s P).2, ⟨n, ⟨s.number + 1, s.generation + 1, P.length⟩, 0, recs, false⟩) else ((rewriteBody S a n s P).1, (rewriteBody S a n s P).2, ⟨n, s, a, list, true⟩)) := Lib.hid (by rw [HZ0.out, if_neg hg])
            clear HZ0
            go_wp2_with fail
            clear q0 q1 q2 t0 t1 t2 hg'
            by_cases hfull : halfN n < 0 + P.length ∨ s.number = 999999999
            · have hZ : Hid (Z = (18, S, ⟨n, s, a, list, false⟩)) := Lib.hid (by rw [hZ1.out, if_pos hfull])
              refine (attempt_full l d n a P.length 0 s (.slice lb list.length lc) _ (by omega) (by omega) hfull _ _ (H5.out.2.cast (show _ = pts l (.cells (logCells s d n a (.slice lb list.length lc) false) 69) * (diskP d S * ((rewCap l Bl Bp (Bl + 1) (.slice vb P.length vc) (.slice rb m rc) P * (strRow (.slice lb list.length lc) list * (old W * G))) * R)) by ac_rfl))).mono ?_
              rintro r w6 ⟨rfl, hk⟩
              have H7 := Lib.hid (And.intro (H5.out.1.trans hk.ext) ((H5.out.2.kept hk).cast (show _ = rewCap l Bl Bp (Bl + 1) (.slice vb P.length vc) (.slice rb m rc) P * (diskP d S * (pts l (.cells (logCells s d n a (.slice lb list.length lc) false) 69) * (strRow (.slice lb list.length lc) list * (old W * (G * R))))) by ac_rfl)).right)
              clear hk H5
              go_wp2_with fail
              go_ret
              rw [hZ.out]
              exact ⟨rfl, H7.out.1, Sat.logClose (L := ⟨n, s, a, list, false⟩) H7.out.2⟩
            · have hZ : Hid (Z = if (rewriteBody S a n s P).1 = 0 then (0, (rewriteBody S a n s P).2, ⟨n, ⟨s.number + 1, s.generation + 1, P.length⟩, 0, recs, false⟩) else ((rewriteBody S a n s P).1, (rewriteBody S a n s P).2, ⟨n, s, a, list, true⟩)) := Lib.hid (by rw [hZ1.out, if_neg hfull])
              have h8 : 0 + P.length ≤ halfN n := by omega
              have h9 : s.number ≠ 999999999 := fun h => hfull (.inr h)
              have hs' : (⟨s.number + 1, s.generation + 1, P.length⟩ : St).ok := by
                obtain ⟨m1, m2, m3⟩ := k1
                refine ⟨?_, ?_, ?_⟩
                · dsimp only; omega
                · dsimp only; omega
                · dsimp only; omega
              have HPA := Lib.hid (fun wx X h => rewrite1_log W HE.out l d n a Bl Bp (Bl + 1) rc rb s (.slice lb list.length lc) (.slice vb P.length vc) list P recs hs' k2 (by omega) (by rw [HM.out]; omega) G HG.out S hq X wx h)
              rw [HM.out] at HPA
              obtain ⟨E, hE'⟩ : ∃ E, rewriteBody S a n s P = E := ⟨_, rfl⟩
              rw [hE'] at hZ HPA
              clear hE' hZ1 hfull
              refine (attempt_run l d n a P.length 0 41 _ s lb list.length lc (by omega) (by omega) h8 h9 (enters_of Tryz.func41 (by kernel_rfl) rfl) S E
                (rewCap l Bl Bp (Bl + 1) (.slice vb P.length vc) (.slice rb m rc) P * (strRow (.slice lb list.length lc) list * (old W * G))) (strRow (.slice lb list.length lc) list * (old W * G))
                (fun v => diskP d E.2 * (pts l (.cells (logCells ⟨s.number + 1, s.generation + 1, P.length⟩ d n 0 v false) 69) * (strRow v recs * (old W * G))))
                (fun wx X h => ?_) R _ H5.out.2).mono ?_
              · refine (HPA.out wx X (h.cast (by ac_rfl))).mono ?_
                rintro r w6 ⟨hr, hx, hok, hno⟩
                refine ⟨hr, hx, fun he => ?_, fun he => ?_⟩
                · obtain ⟨v, hv⟩ := hok he
                  exact ⟨v, hv.cast (by ac_rfl)⟩
                · obtain ⟨s', a', hv⟩ := hno he
                  exact ⟨s', a', hv.cast (by ac_rfl)⟩
              rintro r w6 ⟨rfl, hx, hok, hno⟩
              have HX := Lib.hid (H5.out.1.trans hx)
              clear hx H5 HPA
              have HFin : Hid (Z.1 = E.1 ∧ Sat w6 (diskP d Z.2.1 * (logP l d Z.2.2 * (old W * (G * R))))) := Lib.hid (by
                rw [hZ.out]
                by_cases he : E.1 = 0
                · rw [if_pos he]
                  obtain ⟨v, hv⟩ := hok he
                  have h1 := hv.cast (show _ = diskP d E.2 * (pts l (.cells (logCells ⟨s.number + 1, s.generation + 1, P.length⟩ d n 0 v false) 69) * (strRow v recs * (old W * (G * R)))) by ac_rfl)
                  exact ⟨he.symm, Sat.logClose (L := ⟨n, ⟨s.number + 1, s.generation + 1, P.length⟩, 0, recs, false⟩) h1⟩
                · rw [if_neg he]
                  have h1 := (hno he).cast (show _ = diskP d E.2 * (pts l (.cells (logCells s d n a (.slice lb list.length lc) true) 69) * (strRow (.slice lb list.length lc) list * (old W * (G * R)))) by ac_rfl)
                  exact ⟨rfl, Sat.logClose (L := ⟨n, s, a, list, true⟩) h1⟩)
              clear hok hno
              go_wp2_with fail
              go_ret
              exact ⟨by rw [HFin.out.1]; rfl, HX.out, HFin.out.2⟩
end Go.Proofs.YtmemhoiepnlhfaaGreatDoor
