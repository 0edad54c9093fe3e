/-
  DiskReads, walked: it answers true, whatever the operations; all memory that was there is as it was. Its condition: the arguments read as data.
-/
import Derived.Test.YtcjocajpnebecaaD7
namespace Go.Proofs.Ytcjocajpnebecaa
open Go.RowKit

theorem fail_off {S : DS} (h : S.off = false) {x b : Int} : (S.fail x b).off = true := by
  unfold DS.fail; rw [h]; rfl
theorem start_count (S : DS) : S.start.count = (0, S.start) := rfl
/-- A write on a disk that is on and not armed. -/
theorem write_start (S : DS) (hoff : S.off = false) (harm : S.arm = none) (s : Int) (t : ByteArray) :
    S.write s t = if S.valid s && decide (t.size = 64) then (0, { S with q := S.q ++ [(s.toNat, t)] }) else (1, S) := by
  simp [DS.write, hoff, DS.count, harm]
theorem secNow_push (S : DS) (i j : Nat) (t : ByteArray) : DS.secNow { S with q := S.q ++ [(i, t)] } j = if i = j then t else S.secNow j := by
  unfold DS.secNow
  simp only [lastOf_snoc]
  split <;> rfl
theorem all_push (S : DS) (i : Nat) (t : ByteArray) : DS.all { S with q := S.q ++ [(i, t)] } = S.all.set i t := by
  unfold DS.all
  apply List.ext_getElem?
  intro j
  simp only [List.getElem?_map, List.getElem?_set, List.length_map, List.length_range]
  by_cases hj : j < S.n
  · rw [List.getElem?_range hj]
    simp only [Option.map_some, secNow_push]
    by_cases hij : i = j
    · subst hij; simp [hj]
    · simp [hij]
  · have h0 : (List.range S.n)[j]? = none := List.getElem?_eq_none (by simp; omega)
    rw [h0]
    by_cases hij : i = j
    · subst hij; simp [hj]
    · simp [hij]

theorem Sat.strSet {w : World} {g n c i : Nat} {l : List ByteArray} {R : HProp} (h : Sat w (strRow (.slice (some ⟨g, 0, none⟩) n c) l * R)) (t : ByteArray) :
    Sat (w.setCell ⟨g, i, none⟩ (.string t)) (strRow (.slice (some ⟨g, 0, none⟩) n c) (l.set i t) * R) := by
  unfold strRow at h ⊢
  obtain ⟨hl, ⟨h0, _⟩ | ⟨g', c', cur, hv, h1, h2, h3, h4, hs⟩⟩ := h.row
  · cases h0
  · obtain ⟨rfl, rfl, rfl⟩ : g = g' ∧ n = l.length ∧ c = c' := by simpa using hv
    have := hs.setCell (i := i) (.string t)
    rw [List.length_set]
    refine Sat.mkRow (by simp) h1 h2 (by simpa using h3) ?_ this
    rw [List.map_set, ← h4, Array.toList_setIfInBounds, List.take_set]
theorem Sat.strFree {w : World} {g n c : Nat} {l : List ByteArray} {R : HProp} (h : Sat w (strRow (.slice (some ⟨g, 0, none⟩) n c) l * R)) (i : Nat) : w.frozen? ⟨g, i, none⟩ = false ∧ g < w.heap.size := by
  unfold strRow at h
  obtain ⟨hl, ⟨h0, _⟩ | ⟨g', c', cur, hv, h1, h2, h3, h4, hs⟩⟩ := h.row
  · cases h0
  · obtain ⟨rfl, rfl, rfl⟩ : g = g' ∧ n = l.length ∧ c = c' := by simpa using hv
    exact ⟨hs.free i, hs.lt⟩
theorem Sat.act6 {w : World} {B : Nat} {k s b : Int} {t : ByteArray} {o : Bool} {f : Int} {R : HProp} (h : Sat w (pts B (.cells #[.int .i64 k, .int .i64 s, .int .i64 b, .string t, .bool o, .int .i64 f] 34) * R)) :
    w.cell? ⟨B, 0, none⟩ = some (.int .i64 k) ∧ w.cell? ⟨B, 1, none⟩ = some (.int .i64 s) ∧ w.cell? ⟨B, 2, none⟩ = some (.int .i64 b) ∧ w.cell? ⟨B, 3, none⟩ = some (.string t) ∧ w.cell? ⟨B, 4, none⟩ = some (.bool o) ∧ w.cell? ⟨B, 5, none⟩ = some (.int .i64 f) :=
  ⟨h.cell.trans rfl, h.cell.trans rfl, h.cell.trans rfl, h.cell.trans rfl, h.cell.trans rfl, h.cell.trans rfl⟩

theorem Sat.strCell0 {w : World} {g n c : Nat} {l : List ByteArray} {R : HProp} (h : Sat w (strRow (.slice (some ⟨g, 0, none⟩) n c) l * R)) (i : Nat) (hi : i < l.length) : w.cell? ⟨g, i, none⟩ = some (.string l[i]) := by
  obtain ⟨ao, cap, hv, _, hc⟩ := h.strForm
  obtain ⟨g', hg, hx⟩ := hc i _ (List.getElem?_eq_getElem hi)
  cases hv; cases hg; exact hx

set_option maxRecDepth 100000 in
set_option maxHeartbeats 8000000 in
theorem diskReads_walk (r : Nat) (hr : r < 256) (lv : Value) (l : List AC) (x : AC) (hxw : x.wf) (w : World) (hl : actsAt w lv l) :
    Calls Try.prog 6 #[.int .u8 (r : Int), lv, x.val] w fun e w' => e = .returned (.bool true) ∧ Kept w w' := by
  have HL := Lib.hid hl
  obtain ⟨ao, cap, rfl, hlen, _⟩ := hl
  have hxx := x
  obtain ⟨xk, xs, xb, xt, xo, xa⟩ := x
  have HXW := Lib.hid hxw
  clear hxx hxw
  unfold AC.val AC.cells
  simp only
  have HBX := Lib.hid ((Sat.start w).allocNew (.cells #[.int .i64 xk, .int .i64 xs, .int .i64 xb, .string xt, .bool xo, .int .i64 xa] 34))
  have hx0 : Ext w (w.alloc (.cells #[.int .i64 xk, .int .i64 xs, .int .i64 xb, .string xt, .bool xo, .int .i64 xa] 34)) := (by repeat (first | with_reducible assumption | with_reducible exact Ext.refl _ | with_reducible refine Ext.alloc ?_ _ | with_reducible refine Ext.drew ?_ | with_reducible refine Ext.drewN _ ?_ | with_reducible refine Ext.setCell ?_ _ _))
  cases hok : okActs l with
  | false =>
    go_enter Try.func6, Try.ntmps6
    go_wp2_with fail
    refine (head_any _).mono ?_
    rintro e w1 ⟨rfl, hk1⟩
    go_wp2_with fail
    refine (ok_any _ l _ ((HL.out.kept ((Kept.refl w).alloc _).keep).kept hk1.keep)).mono ?_
    rintro e w2 ⟨rfl, rfl⟩
    rw [hok]
    go_wp2_with fail
    go_ret
    exact ⟨rfl, ((Kept.refl w).alloc _).trans hk1⟩
  | true =>
    obtain ⟨h60, h100⟩ := okActs_len hok
    have H100 := Lib.hid h100
    have HOK := Lib.hid hok
    clear h100 hok
    obtain ⟨n, hn⟩ : ∃ n, n = 1 + r % 12 := ⟨_, rfl⟩
    have hn1 : 1 ≤ n := by omega
    have hn2 : n ≤ 4000 := by omega
    have HN := Lib.hid hn
    clear hn
    go_enter Try.func6, Try.ntmps6
    go_wp2_with fail
    refine (head_any _).mono ?_
    rintro e w1 ⟨rfl, hk1⟩
    have H := Lib.hid (And.intro (hx0.trans hk1.ext) (HBX.out.kept hk1))
    generalize w.heap.size = B at *
    have hB1 := H.out.2.lt
    have e0 : w1.cell? ⟨B, 0, none⟩ = some (.int .i64 xk) := H.out.2.cell.trans rfl
    have e1 : w1.cell? ⟨B, 1, none⟩ = some (.int .i64 xs) := H.out.2.cell.trans rfl
    have e2 : w1.cell? ⟨B, 2, none⟩ = some (.int .i64 xb) := H.out.2.cell.trans rfl
    have e3 : w1.cell? ⟨B, 3, none⟩ = some (.string xt) := H.out.2.cell.trans rfl
    have e4 : w1.cell? ⟨B, 4, none⟩ = some (.bool xo) := H.out.2.cell.trans rfl
    have e5 : w1.cell? ⟨B, 5, none⟩ = some (.int .i64 xa) := H.out.2.cell.trans rfl
    go_wp2_with fail
    refine (ok_any _ l _ (H.out.2.acts HL.out)).mono ?_
    rintro e w2 ⟨rfl, rfl⟩
    rw [HOK.out]
    clear hk1 HBX hx0
    go_wp2_with fail
    have hone : actsAt (w1.alloc (.cells #[.int .i64 xk, .int .i64 xs, .int .i64 xb, .string xt, .bool xo, .int .i64 xa] 34)) (.slice (some ⟨w1.heap.size, 0, none⟩) 1 1) [⟨xk, xs, xb, xt, xo, xa⟩] := by
      refine ⟨some ⟨w1.heap.size, 0, none⟩, 1, rfl, by simp, fun i a hi => ?_⟩
      obtain ⟨rfl, rfl⟩ : i = 0 ∧ a = ⟨xk, xs, xb, xt, xo, xa⟩ := by
        cases i with
        | zero => simpa [eq_comm] using hi
        | succ i => simp at hi
      refine ⟨HXW.out, w1.heap.size, 0, rfl, fun j x hj => ?_⟩
      have h1 := ((Sat.start w1).allocNew (.cells #[.int .i64 xk, .int .i64 xs, .int .i64 xb, .string xt, .bool xo, .int .i64 xa] 34))
      rw [Nat.zero_mul, Nat.zero_add, h1.cell]; exact hj
    have HONE := Lib.hid hone
    clear hone
    refine (ok_any _ [⟨xk, xs, xb, xt, xo, xa⟩] _ HONE.out).mono ?_
    rintro e w2 ⟨rfl, rfl⟩
    clear HONE
    have H' := Lib.hid (And.intro (H.out.1.alloc (.cells #[.int .i64 xk, .int .i64 xs, .int .i64 xb, .string xt, .bool xo, .int .i64 xa] 34)) (H.out.2.alloc (.cells #[.int .i64 xk, .int .i64 xs, .int .i64 xb, .string xt, .bool xo, .int .i64 xa] 34)))
    clear H e0 e1 e2 e3 e4 e5 hB1; have H := H'; clear H'
    generalize w1.alloc _ = w2 at *
    by_cases hx100 : xt.size ≤ 100
    · have hb : okActs [⟨xk, xs, xb, xt, xo, xa⟩] = true := by simp [okActs, hx100]
      rw [hb]
      clear hb
      go_wp2_with fail
      refine (size_any r hr _).mono ?_
      rintro e wx ⟨rfl, rfl⟩
      rw [← HN.out]
      go_wp2_with fail
      refine (new_yes n hn1 hn2 _ _ H.out.2).mono ?_
      rintro e wx ⟨d, rfl, hxx, hsx⟩
      have H' := Lib.hid (And.intro (H.out.1.trans hxx) (show Sat wx (diskP d ((DS.fresh n).run (l.take 0)) * (pts B (.cells #[.int .i64 xk, .int .i64 xs, .int .i64 xb, .string xt, .bool xo, .int .i64 xa] 34) * old w)) from hsx))
      clear hxx hsx H; have H := H'; clear H'
      go_wp2_with fail
      go_loopw [10] (fun x wr => ∃ k : Nat, k ≤ l.length ∧ x = .int .i64 k ∧ Hid (Ext w wr ∧ Sat wr (diskP d ((DS.fresh n).run (l.take k)) * (pts B (.cells #[.int .i64 xk, .int .i64 xs, .int .i64 xb, .string xt, .bool xo, .int .i64 xa] 34) * old w)))) (fun x _ => l.length - (intOf x).toNat)
      case atStart => exact ⟨0, Nat.zero_le _, rfl, H.out⟩
      case round =>
        obtain ⟨k, hk, rfl, HR⟩ := hrel
        clear H
        have HG := Lib.hid (goes_run (DS.fresh n) (l.take k) (fun a ha => HL.out.wfs a (List.mem_of_mem_take ha)))
        have hq : ((DS.fresh n).run (l.take k)).q.length ≤ 1000 := by
          have := HG.out.q
          rw [List.length_take] at this
          have h2 : (DS.fresh n).q.length = 0 := rfl
          omega
        by_cases hlt : k < l.length
        · obtain ⟨a, b, off, ha, hwf, rfl, hx⟩ := ((HR.out.2.cast (show _ = (diskP d ((DS.fresh n).run (l.take k)) * pts B (.cells #[.int .i64 xk, .int .i64 xs, .int .i64 xb, .string xt, .bool xo, .int .i64 xa] 34)) * old w by ac_rfl)).acts HL.out).get hlt rfl
          have e0 : wr.cell? ⟨b, off + k * 6, none⟩ = some (.int .i64 a.kind) := hx 0 _ rfl
          have e1 : wr.cell? ⟨b, off + k * 6 + 1, none⟩ = some (.int .i64 a.sector) := hx 1 _ rfl
          have e2 : wr.cell? ⟨b, off + k * 6 + 2, none⟩ = some (.int .i64 a.bytes) := hx 2 _ rfl
          have e3 : wr.cell? ⟨b, off + k * 6 + 3, none⟩ = some (.string a.text) := hx 3 _ rfl
          have e4 : wr.cell? ⟨b, off + k * 6 + 4, none⟩ = some (.bool a.odd) := hx 4 _ rfl
          have e5 : wr.cell? ⟨b, off + k * 6 + 5, none⟩ = some (.int .i64 a.after) := hx 5 _ rfl
          have HA := Lib.hid (And.intro ha (And.intro hwf (H100.out a (List.mem_of_getElem? ha))))
          clear hx ha hwf
          go_wp2_with fail
          refine (do_any d _ a HA.out.2.1 HA.out.2.2 (by omega) _ _ HR.out.2).mono ?_
          rintro e w4 ⟨rfl, hx4, hs4⟩
          have H4 := Lib.hid (And.intro (HR.out.1.trans hx4) hs4)
          clear hx4 hs4 e0 e1 e2 e3 e4 e5
          go_wp2_with fail
          refine ⟨⟨k + 1, by omega, by go_num, ?_⟩, by simp [intOf]; omega⟩
          have := H4.out
          rw [← run_snoc] at this
          rw [List.take_add_one, HA.out.1]; exact this
        · have hkl : k = l.length := by omega
          rw [hkl, List.take_of_length_le (Nat.le_refl _)] at HR HG
          have hSn : ((DS.fresh n).run l).n = n := HG.out.n
          have hSo : ((DS.fresh n).run l).ok := HG.out.ok (DS.fresh_ok n hn1 hn2)
          have hSq : ((DS.fresh n).run l).q.length ≤ 60 := by
            have h1 := HG.out.q
            have h2 : (DS.fresh n).q.length = 0 := rfl
            omega
          clear hkl hq HG
          generalize (DS.fresh n).run l = S at *
          have HSN := Lib.hid hSn
          have HSO := Lib.hid hSo
          have H := HR
          clear hSn hSo HR
          go_wp2_with fail
          refine (start_any d S _ _ H.out.2).mono ?_
          rintro e wx ⟨rfl, hxx, hsx⟩
          have H' := Lib.hid (And.intro (H.out.1.trans hxx) (hsx.cast (show _ = diskP d S.start * (pts B (.cells #[.int .i64 xk, .int .i64 xs, .int .i64 xb, .string xt, .bool xo, .int .i64 xa] 34) * old w) by ac_rfl)))
          clear hxx hsx H; have H := H'; clear H'
          go_wp2_with fail
          have hTo : S.start.ok := HSO.out.start
          have hTn : S.start.n = n := HSN.out
          have hTf : S.start.off = false := rfl
          have hTa : S.start.arm = none := rfl
          have hTq : S.start.q.length ≤ 60 := hSq
          clear hSq HSO HSN
          generalize S.start = T at *
          have HTO := Lib.hid hTo
          have HTF := Lib.hid hTf
          have HTA := Lib.hid hTa
          subst hTn
          clear hTo hTf hTa
          refine (contents_any d T HTF.out (by omega) _ _ H.out.2).mono ?_
          rintro e wx ⟨va, rfl, hxx, hsx⟩
          have H' := Lib.hid (And.intro (H.out.1.trans hxx) (hsx.cast (show _ = diskP d T * (strRow va T.all * (pts B (.cells #[.int .i64 xk, .int .i64 xs, .int .i64 xb, .string xt, .bool xo, .int .i64 xa] 34) * old w)) by ac_rfl)))
          clear hxx hsx H; have H := H'; clear H'
          go_wp2_with fail
          by_cases hsuc : (T.valid xs && decide ((AC.write ⟨xk, xs, xb, xt, xo, xa⟩).size = 64)) = true
          · have hst := write_start T HTF.out HTA.out xs (AC.write ⟨xk, xs, xb, xt, xo, xa⟩)
            rw [if_pos hsuc] at hst
            obtain ⟨hv, h64⟩ := Bool.and_eq_true_iff.1 hsuc
            obtain ⟨hv1, hv2⟩ := (valid_iff T xs).1 hv
            have h64' := of_decide_eq_true h64
            have E := Lib.hid hst
            have H64 := Lib.hid h64'
            clear hst hsuc hv h64 h64'
            have f0 := Lib.hid ((H.out.2.cast (show _ = pts B (.cells #[.int .i64 xk, .int .i64 xs, .int .i64 xb, .string xt, .bool xo, .int .i64 xa] 34) * (diskP d T * (strRow va T.all * old w)) by ac_rfl)).drew.act6)
            go_region_held3 (fun wx => wx.cell? ⟨B, 0, none⟩ = some (.int .i64 xk) ∧ wx.cell? ⟨B, 1, none⟩ = some (.int .i64 xs) ∧ wx.cell? ⟨B, 2, none⟩ = some (.int .i64 xb) ∧ wx.cell? ⟨B, 3, none⟩ = some (.string xt) ∧ wx.cell? ⟨B, 4, none⟩ = some (.bool xo) ∧ wx.cell? ⟨B, 5, none⟩ = some (.int .i64 xa))
              (first | exact f0.out | exact f2.out | exact f3.out)
              (first
                | (go_at_call 23; refine (text_any ⟨xk, xs, xb, xt, xo, xa⟩ hx100 _).mono ?_; rintro e w2 ⟨rfl, hk2⟩; have H2 := Lib.hid (And.intro (H.out.1.drew.trans hk2.ext) (H.out.2.drew.kept hk2)); have f2 := Lib.hid ((H2.out.2.cast (show _ = pts B (.cells #[.int .i64 xk, .int .i64 xs, .int .i64 xb, .string xt, .bool xo, .int .i64 xa] 34) * (diskP d T * (strRow va T.all * old w)) by ac_rfl)).act6); clear hk2)
                | (go_at_call 22; have hwr := write_any d T xs (AC.write ⟨xk, xs, xb, xt, xo, xa⟩) (by omega) _ _ H2.out.2; rw [E.out] at hwr; refine hwr.mono ?_; rintro e w3 ⟨rfl, hx3, hs3⟩; have H3 := Lib.hid (And.intro (H2.out.1.trans hx3) hs3); have f3 := Lib.hid ((H3.out.2.cast (show _ = pts B (.cells #[.int .i64 xk, .int .i64 xs, .int .i64 xb, .string xt, .bool xo, .int .i64 xa] 34) * (diskP d { T with q := T.q ++ [(xs.toNat, AC.write ⟨xk, xs, xb, xt, xo, xa⟩)] } * (strRow va T.all * old w)) by ac_rfl)).act6); clear hx3 hs3 hwr))
            clear f0 f2 H H2
            have H := H3
            clear H3
            obtain ⟨b0, b1, b2, b3, b4, b5⟩ := f3.out
            clear f3
            go_wp2_with fail
            obtain ⟨ga, ca, rfl⟩ : ∃ g c, va = .slice (some ⟨g, 0, none⟩) T.n c := by
              obtain ⟨ao, cap, rfl, _, hc⟩ := (H.out.2.cast (show _ = strRow va T.all * (diskP d { T with q := T.q ++ [(xs.toNat, AC.write ⟨xk, xs, xb, xt, xo, xa⟩)] } * (pts B (.cells #[.int .i64 xk, .int .i64 xs, .int .i64 xb, .string xt, .bool xo, .int .i64 xa] 34) * old w)) by ac_rfl)).strForm
              obtain ⟨g, rfl, _⟩ := hc 0 _ (List.getElem?_eq_getElem (by simp [DS.all]; omega))
              exact ⟨g, cap, by simp [DS.all]⟩
            have hok2 : (DS.ok { T with q := T.q ++ [(xs.toNat, AC.write ⟨xk, xs, xb, xt, xo, xa⟩)] }) := HTO.out.push _ _ (by omega) H64.out
            have hall2 : DS.all { T with q := T.q ++ [(xs.toNat, AC.write ⟨xk, xs, xb, xt, xo, xa⟩)] } = T.all.set xs.toNat (AC.write ⟨xk, xs, xb, xt, xo, xa⟩) := all_push T _ _
            have hq2 : (DS.q { T with q := T.q ++ [(xs.toNat, AC.write ⟨xk, xs, xb, xt, xo, xa⟩)] }).length ≤ 1000000 := by simp; omega
            have hqU : (DS.q { T with q := T.q ++ [(xs.toNat, AC.write ⟨xk, xs, xb, xt, xo, xa⟩)] }).length < 1000000 := by simp; omega
            have hf2 : (DS.off { T with q := T.q ++ [(xs.toNat, AC.write ⟨xk, xs, xb, xt, xo, xa⟩)] }) = false := HTF.out
            have hn2' : (DS.n { T with q := T.q ++ [(xs.toNat, AC.write ⟨xk, xs, xb, xt, xo, xa⟩)] }) = T.n := rfl
            have hT2 := (⟨_, rfl⟩ : ∃ U : DS, U = ({ T with q := T.q ++ [(xs.toNat, AC.write ⟨xk, xs, xb, xt, xo, xa⟩)] } : DS))
            obtain ⟨U, hT2⟩ := hT2
            rw [← hT2] at H hok2 hall2 hq2 hqU hf2 hn2'
            have HU := Lib.hid (And.intro hok2 (And.intro hall2 (And.intro hf2 hn2')))
            clear hok2 hall2 hf2 hn2' hT2 E H64
            have hc1 := fun R wz hz => contents_any d U HU.out.2.2.1 hq2 R wz hz
            rw [HU.out.2.2.2] at hc1
            have HC1 := Lib.hid hc1
            clear hc1
            refine (HC1.out _ _ H.out.2).mono ?_
            rintro e wx ⟨vb, rfl, hxx, hsx⟩
            have H' := Lib.hid (And.intro (H.out.1.trans hxx) (hsx.cast (show _ = diskP d U * (strRow vb U.all * (strRow (.slice (some ⟨ga, 0, none⟩) T.n ca) T.all * (pts B (.cells #[.int .i64 xk, .int .i64 xs, .int .i64 xb, .string xt, .bool xo, .int .i64 xa] 34) * old w))) by ac_rfl)))
            clear hxx hsx H; have H := H'; clear H'
            go_wp2_with fail
            refine (HC1.out _ _ H.out.2).mono ?_
            rintro e wx ⟨vc, rfl, hxx, hsx⟩
            have H' := Lib.hid (And.intro (H.out.1.trans hxx) (hsx.cast (show _ = strRow vb U.all * (strRow vc U.all * (diskP d U * (strRow (.slice (some ⟨ga, 0, none⟩) T.n ca) T.all * (pts B (.cells #[.int .i64 xk, .int .i64 xs, .int .i64 xb, .string xt, .bool xo, .int .i64 xa] 34) * old w)))) by ac_rfl)))
            clear hxx hsx H; have H := H'; clear H'
            go_wp2_with fail
            clear HC1
            have hsame := same_any vb vc U.all U.all _ _ _ H.out.2 (H.out.2.cast (show _ = strRow vc U.all * (strRow vb U.all * (diskP d U * (strRow (.slice (some ⟨ga, 0, none⟩) T.n ca) T.all * (pts B (.cells #[.int .i64 xk, .int .i64 xs, .int .i64 xb, .string xt, .bool xo, .int .i64 xa] 34) * old w)))) by ac_rfl))
            rw [decide_eq_true rfl] at hsame
            have HSAME := Lib.hid hsame
            clear hsame
            refine (HSAME.out).mono ?_
            rintro e wx ⟨rfl, hkx⟩
            have H' := Lib.hid (And.intro (H.out.1.trans hkx.ext) (H.out.2.kept hkx))
            clear hkx H; have H := H'; clear H'
            obtain ⟨b0, b1, b2, b3, b4, b5⟩ := (H.out.2.cast (show _ = pts B (.cells #[.int .i64 xk, .int .i64 xs, .int .i64 xb, .string xt, .bool xo, .int .i64 xa] 34) * (strRow vb U.all * (strRow vc U.all * (diskP d U * (strRow (.slice (some ⟨ga, 0, none⟩) T.n ca) T.all * old w)))) by ac_rfl)).act6
            go_wp2_with fail
            clear b0 b1 b2 b3 b4 b5
            have f0 := Lib.hid ((H.out.2.cast (show _ = pts B (.cells #[.int .i64 xk, .int .i64 xs, .int .i64 xb, .string xt, .bool xo, .int .i64 xa] 34) * (strRow vb U.all * (strRow vc U.all * (diskP d U * (strRow (.slice (some ⟨ga, 0, none⟩) T.n ca) T.all * old w)))) by ac_rfl)).drew.act6)
            go_region_held3 (fun wx => wx.cell? ⟨B, 0, none⟩ = some (.int .i64 xk) ∧ wx.cell? ⟨B, 1, none⟩ = some (.int .i64 xs) ∧ wx.cell? ⟨B, 2, none⟩ = some (.int .i64 xb) ∧ wx.cell? ⟨B, 3, none⟩ = some (.string xt) ∧ wx.cell? ⟨B, 4, none⟩ = some (.bool xo) ∧ wx.cell? ⟨B, 5, none⟩ = some (.int .i64 xa))
              (first | exact f0.out | exact f2.out | exact f3.out)
              (first
                | (go_at_call 23; refine (text_any ⟨xk, xs, xb, xt, xo, xa⟩ hx100 _).mono ?_; rintro e w2 ⟨rfl, hk2⟩; have H2 := Lib.hid (And.intro (H.out.1.drew.trans hk2.ext) (H.out.2.drew.kept hk2)); have f2 := Lib.hid ((H2.out.2.cast (show _ = pts B (.cells #[.int .i64 xk, .int .i64 xs, .int .i64 xb, .string xt, .bool xo, .int .i64 xa] 34) * (strRow vb U.all * (strRow vc U.all * (diskP d U * (strRow (.slice (some ⟨ga, 0, none⟩) T.n ca) T.all * old w)))) by ac_rfl)).act6); clear hk2; have s2 := (H2.out.2.cast (show _ = strRow (.slice (some ⟨ga, 0, none⟩) T.n ca) T.all * (pts B (.cells #[.int .i64 xk, .int .i64 xs, .int .i64 xb, .string xt, .bool xo, .int .i64 xa] 34) * (strRow vb U.all * (strRow vc U.all * (diskP d U * old w)))) by ac_rfl)); obtain ⟨c1, c2⟩ := s2.strFree xs.toNat; have c3 := s2.strCell0 xs.toNat (by simp [DS.all]; omega); have s3 := s2.strSet (i := xs.toNat) (AC.write ⟨xk, xs, xb, xt, xo, xa⟩); have f3 := Lib.hid ((s3.cast (show _ = pts B (.cells #[.int .i64 xk, .int .i64 xs, .int .i64 xb, .string xt, .bool xo, .int .i64 xa] 34) * (strRow (.slice (some ⟨ga, 0, none⟩) T.n ca) (T.all.set xs.toNat (AC.write ⟨xk, xs, xb, xt, xo, xa⟩)) * (strRow vb U.all * (strRow vc U.all * (diskP d U * old w)))) by ac_rfl)).act6)))
            have H' := Lib.hid (And.intro (H2.out.1.setCell ⟨ga, xs.toNat, none⟩ (.string (AC.write ⟨xk, xs, xb, xt, xo, xa⟩))) s3)
            clear f0 f2 f3 H H2 s2 s3 c1 c2 c3; have H := H'; clear H'
            have hall := HU.out.2.1
            rw [← hall] at H
            clear hall
            generalize w2.setCell ⟨ga, xs.toNat, none⟩ (.string (AC.write ⟨xk, xs, xb, xt, xo, xa⟩)) = w4 at *
            go_wp2_with fail
            have hsame := same_any _ vb U.all U.all _ _ _ H.out.2 (H.out.2.cast (show _ = strRow vb U.all * (strRow (.slice (some ⟨ga, 0, none⟩) T.n ca) U.all * (pts B (.cells #[.int .i64 xk, .int .i64 xs, .int .i64 xb, .string xt, .bool xo, .int .i64 xa] 34) * (strRow vc U.all * (diskP d U * old w)))) by ac_rfl))
            rw [decide_eq_true rfl] at hsame
            have HSAME := Lib.hid hsame
            clear hsame
            refine (HSAME.out).mono ?_
            rintro e wx ⟨rfl, hkx⟩
            have H' := Lib.hid (And.intro (H.out.1.trans hkx.ext) (H.out.2.kept hkx))
            clear hkx H; have H := H'; clear H'
            go_wp2_with fail
            clear HSAME
            have H' := Lib.hid (And.intro H.out.1 (H.out.2.cast (show _ = diskP d U * (pts B (.cells #[.int .i64 xk, .int .i64 xs, .int .i64 xb, .string xt, .bool xo, .int .i64 xa] 34) * (strRow (.slice (some ⟨ga, 0, none⟩) T.n ca) U.all * (strRow vb U.all * (strRow vc U.all * old w)))) by ac_rfl)))
            clear H; have H := H'; clear H'
            refine (fail_any d U 0 0 hq2 _ _ H.out.2).mono ?_
            rintro e wx ⟨rfl, hxx, hsx⟩
            have H' := Lib.hid (And.intro (H.out.1.trans hxx) (hsx.cast (show _ = diskP d (U.fail 0 0) * (pts B (.cells #[.int .i64 xk, .int .i64 xs, .int .i64 xb, .string xt, .bool xo, .int .i64 xa] 34) * (strRow (.slice (some ⟨ga, 0, none⟩) T.n ca) U.all * (strRow vb U.all * (strRow vc U.all * old w)))) by ac_rfl)))
            clear hxx hsx H; have H := H'; clear H'
            go_wp2_with fail
            have hVo : (U.fail 0 0).off = true := fail_off HU.out.2.2.1
            have hVq : (U.fail 0 0).q.length < 1000000 := Nat.lt_of_le_of_lt (goes_fail U 0 0).q hqU
            clear hq2 hqU HU
            generalize U.fail 0 0 = V at *
            have hw0 : V.write 0 fA = (19, V) := by simp [DS.write, hVo]
            have hr0 : V.read 0 = (⟨#[]⟩, 19) := by simp [DS.read, hVo]
            have HV := Lib.hid (And.intro hw0 hr0)
            clear hVo hw0 hr0
            refine (fill_A _).mono ?_
            rintro e wx ⟨rfl, hkx⟩
            have H' := Lib.hid (And.intro (H.out.1.trans hkx.ext) (H.out.2.kept hkx))
            clear hkx H; have H := H'; clear H'
            go_wp2_with fail
            refine (write_any d V 0 fA hVq _ _ H.out.2).mono ?_
            rintro e wx ⟨rfl, hxx, hsx⟩
            have H' := Lib.hid (And.intro (H.out.1.trans hxx) (hsx.cast (show _ = diskP d (V.write 0 fA).2 * (pts B (.cells #[.int .i64 xk, .int .i64 xs, .int .i64 xb, .string xt, .bool xo, .int .i64 xa] 34) * (strRow (.slice (some ⟨ga, 0, none⟩) T.n ca) U.all * (strRow vb U.all * (strRow vc U.all * old w)))) by ac_rfl)))
            clear hxx hsx H; have H := H'; clear H'
            rw [HV.out.1] at H ⊢
            go_wp2_with fail
            refine (read_any d V 0 (by omega) _ _ H.out.2).mono ?_
            rintro e wx ⟨rfl, hkx⟩
            have H' := Lib.hid (And.intro (H.out.1.trans hkx.ext) (H.out.2.kept hkx))
            clear hkx H; have H := H'; clear H'
            rw [HV.out.2]
            go_wp2_with fail
            go_ret
            exact ⟨rfl, Kept.of_old (P := diskP d V * (pts B (.cells #[.int .i64 xk, .int .i64 xs, .int .i64 xb, .string xt, .bool xo, .int .i64 xa] 34) * (strRow (.slice (some ⟨ga, 0, none⟩) T.n ca) U.all * (strRow vb U.all * strRow vc U.all)))) H.out.1 (H.out.2.cast (by ac_rfl))⟩
          · have hst := write_start T HTF.out HTA.out xs (AC.write ⟨xk, xs, xb, xt, xo, xa⟩)
            rw [if_neg hsuc] at hst
            have E := Lib.hid hst
            clear hst
            have f0 := Lib.hid ((H.out.2.cast (show _ = pts B (.cells #[.int .i64 xk, .int .i64 xs, .int .i64 xb, .string xt, .bool xo, .int .i64 xa] 34) * (diskP d T * (strRow va T.all * old w)) by ac_rfl)).drew.act6)
            go_region_held3 (fun wx => wx.cell? ⟨B, 0, none⟩ = some (.int .i64 xk) ∧ wx.cell? ⟨B, 1, none⟩ = some (.int .i64 xs) ∧ wx.cell? ⟨B, 2, none⟩ = some (.int .i64 xb) ∧ wx.cell? ⟨B, 3, none⟩ = some (.string xt) ∧ wx.cell? ⟨B, 4, none⟩ = some (.bool xo) ∧ wx.cell? ⟨B, 5, none⟩ = some (.int .i64 xa))
              (first | exact f0.out | exact f2.out | exact f3.out)
              (first
                | (go_at_call 23; refine (text_any ⟨xk, xs, xb, xt, xo, xa⟩ hx100 _).mono ?_; rintro e w2 ⟨rfl, hk2⟩; have H2 := Lib.hid (And.intro (H.out.1.drew.trans hk2.ext) (H.out.2.drew.kept hk2)); have f2 := Lib.hid ((H2.out.2.cast (show _ = pts B (.cells #[.int .i64 xk, .int .i64 xs, .int .i64 xb, .string xt, .bool xo, .int .i64 xa] 34) * (diskP d T * (strRow va T.all * old w)) by ac_rfl)).act6); clear hk2)
                | (go_at_call 22; have hwr := write_any d T xs (AC.write ⟨xk, xs, xb, xt, xo, xa⟩) (by omega) _ _ H2.out.2; rw [E.out] at hwr; refine hwr.mono ?_; rintro e w3 ⟨rfl, hx3, hs3⟩; have H3 := Lib.hid (And.intro (H2.out.1.trans hx3) hs3); have f3 := Lib.hid ((H3.out.2.cast (show _ = pts B (.cells #[.int .i64 xk, .int .i64 xs, .int .i64 xb, .string xt, .bool xo, .int .i64 xa] 34) * (diskP d T * (strRow va T.all * old w)) by ac_rfl)).act6); clear hx3 hs3 hwr))
            clear f0 f2 H H2
            have H := H3
            clear H3
            obtain ⟨b0, b1, b2, b3, b4, b5⟩ := f3.out
            clear f3
            go_wp2_with fail
            have HC1 := Lib.hid (fun R wz hz => contents_any d T HTF.out (by omega) R wz hz)
            refine (HC1.out _ _ H.out.2).mono ?_
            rintro e wx ⟨vb, rfl, hxx, hsx⟩
            have H' := Lib.hid (And.intro (H.out.1.trans hxx) (hsx.cast (show _ = diskP d T * (strRow vb T.all * (strRow va T.all * (pts B (.cells #[.int .i64 xk, .int .i64 xs, .int .i64 xb, .string xt, .bool xo, .int .i64 xa] 34) * old w))) by ac_rfl)))
            clear hxx hsx H; have H := H'; clear H'
            go_wp2_with fail
            refine (HC1.out _ _ H.out.2).mono ?_
            rintro e wx ⟨vc, rfl, hxx, hsx⟩
            have H' := Lib.hid (And.intro (H.out.1.trans hxx) (hsx.cast (show _ = strRow vb T.all * (strRow vc T.all * (diskP d T * (strRow va T.all * (pts B (.cells #[.int .i64 xk, .int .i64 xs, .int .i64 xb, .string xt, .bool xo, .int .i64 xa] 34) * old w)))) by ac_rfl)))
            clear hxx hsx H; have H := H'; clear H'
            go_wp2_with fail
            clear HC1
            have hsame := same_any vb vc T.all T.all _ _ _ (H.out.2.cast (show _ = strRow vb T.all * (strRow vc T.all * (strRow va T.all * (diskP d T * (pts B (.cells #[.int .i64 xk, .int .i64 xs, .int .i64 xb, .string xt, .bool xo, .int .i64 xa] 34) * old w)))) by ac_rfl)) (H.out.2.cast (show _ = strRow vc T.all * (strRow vb T.all * (strRow va T.all * (diskP d T * (pts B (.cells #[.int .i64 xk, .int .i64 xs, .int .i64 xb, .string xt, .bool xo, .int .i64 xa] 34) * old w)))) by ac_rfl))
            rw [decide_eq_true rfl] at hsame
            have HSAME := Lib.hid hsame
            clear hsame
            refine (HSAME.out).mono ?_
            rintro e wx ⟨rfl, hkx⟩
            have H' := Lib.hid (And.intro (H.out.1.trans hkx.ext) (H.out.2.kept hkx))
            clear hkx H; have H := H'; clear H'
            go_wp2_with fail
            clear HSAME
            have hsame := same_any va vb T.all T.all _ _ _ (H.out.2.cast (show _ = strRow va T.all * (strRow vb T.all * (strRow vc T.all * (diskP d T * (pts B (.cells #[.int .i64 xk, .int .i64 xs, .int .i64 xb, .string xt, .bool xo, .int .i64 xa] 34) * old w)))) by ac_rfl)) (H.out.2.cast (show _ = strRow vb T.all * (strRow va T.all * (strRow vc T.all * (diskP d T * (pts B (.cells #[.int .i64 xk, .int .i64 xs, .int .i64 xb, .string xt, .bool xo, .int .i64 xa] 34) * old w)))) by ac_rfl))
            rw [decide_eq_true rfl] at hsame
            have HSAME := Lib.hid hsame
            clear hsame
            refine (HSAME.out).mono ?_
            rintro e wx ⟨rfl, hkx⟩
            have H' := Lib.hid (And.intro (H.out.1.trans hkx.ext) (H.out.2.kept hkx))
            clear hkx H; have H := H'; clear H'
            obtain ⟨b0, b1, b2, b3, b4, b5⟩ := (H.out.2.cast (show _ = pts B (.cells #[.int .i64 xk, .int .i64 xs, .int .i64 xb, .string xt, .bool xo, .int .i64 xa] 34) * (strRow va T.all * (strRow vb T.all * (strRow vc T.all * (diskP d T * old w)))) by ac_rfl)).act6
            by_cases hs0 : xs < 0
            · go_wp2_with fail
              go_ret
              exact ⟨rfl, Kept.of_old (P := pts B (.cells #[.int .i64 xk, .int .i64 xs, .int .i64 xb, .string xt, .bool xo, .int .i64 xa] 34) * (strRow va T.all * (strRow vb T.all * (strRow vc T.all * diskP d T)))) H.out.1 (H.out.2.cast (by ac_rfl))⟩
            · by_cases hs1 : (T.n : Int) ≤ xs
              · go_wp2_with fail
                go_ret
                exact ⟨rfl, Kept.of_old (P := pts B (.cells #[.int .i64 xk, .int .i64 xs, .int .i64 xb, .string xt, .bool xo, .int .i64 xa] 34) * (strRow va T.all * (strRow vb T.all * (strRow vc T.all * diskP d T)))) H.out.1 (H.out.2.cast (by ac_rfl))⟩
              · have h64 : (AC.write ⟨xk, xs, xb, xt, xo, xa⟩).size ≠ 64 := fun h => hsuc (by rw [(valid_iff T xs).2 ⟨by omega, by omega⟩, h]; rfl)
                clear hsuc
                go_wp2_with fail
                refine (text_any ⟨xk, xs, xb, xt, xo, xa⟩ hx100 _).mono ?_
                rintro e wx ⟨rfl, hkx⟩
                have H' := Lib.hid (And.intro (H.out.1.trans hkx.ext) (H.out.2.kept hkx))
                clear hkx H; have H := H'; clear H'
                go_wp2_with fail
                go_ret
                refine ⟨?_, Kept.of_old (P := pts B (.cells #[.int .i64 xk, .int .i64 xs, .int .i64 xb, .string xt, .bool xo, .int .i64 xa] 34) * (strRow va T.all * (strRow vb T.all * (strRow vc T.all * diskP d T)))) H.out.1 (H.out.2.cast (by ac_rfl))⟩
                have h65 : ((AC.write ⟨xk, xs, xb, xt, xo, xa⟩).size : Int) ≠ 64 := fun h => h64 (by exact_mod_cast h)
                simp [h65]
    · have hb : okActs [⟨xk, xs, xb, xt, xo, xa⟩] = false := by simp [okActs]; omega
      rw [hb]
      clear hb
      go_wp2_with fail
      go_ret
      exact ⟨rfl, Kept.of_old H.out.1 H.out.2⟩
end Go.Proofs.Ytcjocajpnebecaa
