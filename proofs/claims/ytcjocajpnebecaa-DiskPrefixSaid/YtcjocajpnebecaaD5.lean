/-
  DiskPrefix, walked: it answers true, whatever the operations; all memory that was there is as it was. Its condition: the arguments read as data.
-/
import Derived.Test.YtcjocajpnebecaaPf
import Derived.Test.YtcjocajpnebecaaD6
import Derived.Deep.QuietTactic
import Derived.BigQuiet
import Derived.Deep.DeepCutAuto
namespace Go.Proofs.Ytcjocajpnebecaa
open Go.RowKit

theorem slice_lo (s : ByteArray) (y : Nat) (h : y ≤ s.size) (w : World) : (Instr.slice 9 (.string s) none (some (.int .i64 (y : Int))) none).run Try.prog w = .ok (.string (s.extract 0 y)) w := by
  simp [Instr.slice, Instr.sliceBounds, Instr.sliceBound, asIntOf, run_underlying Try.underlying9]
  omega
theorem slice_hi (s : ByteArray) (y n : Nat) (hn : s.size = n) (h : y ≤ n) (w : World) : (Instr.slice 9 (.string s) (some (.int .i64 (y : Int))) none none).run Try.prog w = .ok (.string (s.extract y n)) w := by
  subst hn
  simp [Instr.slice, Instr.sliceBounds, Instr.sliceBound, asIntOf, run_underlying Try.underlying9]
  omega
theorem ba_splice (t u : ByteArray) (y : Nat) (hu : u.size = 64) : (⟨(t.data.toList.take y ++ u.data.toList.drop y).toArray⟩ : ByteArray) = t.extract 0 y ++ u.extract y 64 := by
  apply ByteArray.ext
  rw [← Array.toList_inj, ByteArray.data_append, Array.toList_append, Lib.extract_data, Lib.extract_data]
  simp only [List.drop_zero, Nat.sub_zero]
  rw [List.take_of_length_le (l := u.data.toList.drop y)]
  have : u.data.toList.length = 64 := by rw [← hu]; rfl
  rw [List.length_drop]; omega
/-- No write is next. -/
def nope : AC := ⟨0, -1, 0, ⟨#[]⟩, false, 0⟩
/-- c is the write behind the first x, if there is one. -/
def nextIs (n : Nat) (q : List (Nat × ByteArray)) (x : Nat) (c : AC) : Prop :=
  (q.length ≤ x ∧ c = nope) ∨ (x < q.length ∧ q[x]? = some (c.sector.toNat, c.write) ∧ 0 ≤ c.sector ∧ c.sector < (n : Int) ∧ c.text.size ≤ 100)
theorem Sat.act6c {w : World} {B : Nat} {c : AC} {R : HProp} (h : Sat w (pts B (.cells c.cells 34) * R)) :
    w.cell? ⟨B, 0, none⟩ = some (.int .i64 c.kind) ∧ w.cell? ⟨B, 1, none⟩ = some (.int .i64 c.sector) ∧ w.cell? ⟨B, 2, none⟩ = some (.int .i64 c.bytes) ∧ w.cell? ⟨B, 3, none⟩ = some (.string c.text) ∧ w.cell? ⟨B, 4, none⟩ = some (.bool c.odd) ∧ w.cell? ⟨B, 5, none⟩ = some (.int .i64 c.after) :=
  ⟨h.cell.trans rfl, h.cell.trans rfl, h.cell.trans rfl, h.cell.trans rfl, h.cell.trans rfl, h.cell.trans rfl⟩

set_option maxRecDepth 100000 in
set_option maxHeartbeats 8000000 in
theorem diskPrefix_walk (r : Nat) (hr : r < 256) (lv : Value) (l : List AC) (mv : Value) (m : List AC) (fi : Nat) (hfi : fi < 256) (tz : Nat) (hto : tz < 256) (w : World) (hl : actsAt w lv l) (hm : actsAt w mv m) :
    Calls Try.prog 5 #[.int .u8 (r : Int), lv, mv, .int .u8 (fi : Int), .int .u8 (tz : Int)] w fun e w' => e = .returned (.bool true) ∧ Kept w w' := by
  have HL := Lib.hid hl
  have hlv := hl
  obtain ⟨ao, cap, rfl, hlen, _⟩ := hl
  have HM := Lib.hid hm
  obtain ⟨bo, cbp, rfl, hlen2, _⟩ := hm
  cases hok0 : okActs l with
  | false =>
    go_enter Try.func5, Try.ntmps5
    go_wp2_with fail
    refine (head_any _).mono ?_
    rintro e w1 ⟨rfl, hk1⟩
    go_wp2_with fail
    refine (ok_any _ l _ (HL.out.kept hk1.keep)).mono ?_
    rintro e w2 ⟨rfl, rfl⟩
    rw [hok0]
    go_wp2_with fail
    go_ret
    exact ⟨rfl, hk1⟩
  | true =>
    obtain ⟨h600, h1000⟩ := okActs_len hok0
    have H1000 := Lib.hid h1000
    have HOK0 := Lib.hid hok0
    clear h1000 hok0
    cases hok1 : okActs m with
    | false =>
      go_enter Try.func5, Try.ntmps5
      go_wp2_with fail
      refine (head_any _).mono ?_
      rintro e w1 ⟨rfl, hk1⟩
      go_wp2_with fail
      refine (ok_any _ l _ (HL.out.kept hk1.keep)).mono ?_
      rintro e w2 ⟨rfl, rfl⟩
      rw [HOK0.out]
      go_wp2_with fail
      refine (ok_any _ m _ (HM.out.kept hk1.keep)).mono ?_
      rintro e w2 ⟨rfl, rfl⟩
      rw [hok1]
      go_wp2_with fail
      go_ret
      exact ⟨rfl, hk1⟩
    | true =>
      obtain ⟨h601, h1001⟩ := okActs_len hok1
      have H1001 := Lib.hid h1001
      have HOK1 := Lib.hid hok1
      clear h1001 hok1
      obtain ⟨n, hn⟩ : ∃ n, n = 1 + r % 12 := ⟨_, rfl⟩
      have hn1 : 1 ≤ n := by omega
      have hn2 : n ≤ 4000 := by omega
      have hn12 : n ≤ 12 := by omega
      have HN := Lib.hid hn
      clear hn
      go_enter Try.func5, Try.ntmps5
      go_wp2_with fail
      refine (head_any _).mono ?_
      rintro e w1 ⟨rfl, hk1⟩
      have H1 := Lib.hid (And.intro hk1.ext ((Sat.start w).kept hk1))
      go_wp2_with fail
      refine (ok_any _ l _ (HL.out.kept hk1.keep)).mono ?_
      rintro e w2 ⟨rfl, rfl⟩
      rw [HOK0.out]
      go_wp2_with fail
      refine (ok_any _ m _ (HM.out.kept hk1.keep)).mono ?_
      rintro e w2 ⟨rfl, rfl⟩
      rw [HOK1.out]
      clear hk1
      go_wp2_with fail
      refine (size_any r hr _).mono ?_
      rintro e w2 ⟨rfl, rfl⟩
      rw [← HN.out]
      obtain ⟨x, hx⟩ : ∃ x, x = fi % 61 := ⟨_, rfl⟩
      obtain ⟨y, hy⟩ : ∃ y, y = tz % 33 := ⟨_, rfl⟩
      have hx60 : x ≤ 60 := by omega
      have hy32 : y ≤ 32 := by omega
      have HXY := Lib.hid (And.intro hx hy)
      obtain ⟨T0, hT0⟩ : ∃ T0, T0 = ((DS.fresh n).run l).start.flush := ⟨_, rfl⟩
      have HT1 := Lib.hid (show ∀ n', n' = n → T0 = ((DS.fresh n').run l).start.flush from fun n' h => by rw [h]; exact hT0)
      have HT0 := Lib.hid hT0
      clear hT0
      clear hx hy
      go_wp2_with fail
      have ex : ((fi : Int) % 61) = (x : Int) := by rw [HXY.out.1]; omega
      have ey : ((tz : Int) % 33) = (y : Int) := by rw [HXY.out.2]; omega
      rw [ex, ey]
      clear ex ey
      refine (new_yes n hn1 hn2 _ _ H1.out.2).mono ?_
      rintro e w2 ⟨d, rfl, hx2, hs2⟩
      have H := Lib.hid (And.intro (H1.out.1.trans hx2) (hs2.cast (show _ = diskP d ((DS.fresh n).run (l.take 0)) * old w by ac_rfl)))
      clear hx2 hs2 H1
      go_wp2_with fail
      go_loopw [16] (fun x wr => ∃ k : Nat, k ≤ l.length ∧ x = .int .i64 k ∧ Hid (Ext w wr ∧ Sat wr (diskP d ((DS.fresh n).run (l.take k)) * old w))) (fun x _ => l.length - (intOf x).toNat)
      case atStart => exact ⟨0, Nat.zero_le _, rfl, H.out⟩
      case round =>
        obtain ⟨k, hk, rfl, HR⟩ := hrel
        clear H
        have HG := Lib.hid (goes_run (DS.fresh n) (l.take k) (fun a ha => HL.out.wfs a (List.mem_of_mem_take ha)))
        have hq : ((DS.fresh n).run (l.take k)).q.length ≤ 1000 := by
          have := HG.out.q
          rw [List.length_take] at this
          have h2 : (DS.fresh n).q.length = 0 := rfl
          omega
        by_cases hlt : k < l.length
        · obtain ⟨a, b, off, ha, hwf, rfl, hx⟩ := ((HR.out.2.cast (show _ = diskP d ((DS.fresh n).run (l.take k)) * old w by ac_rfl)).acts HL.out).get hlt rfl
          have e0 : wr.cell? ⟨b, off + k * 6, none⟩ = some (.int .i64 a.kind) := hx 0 _ rfl
          have e1 : wr.cell? ⟨b, off + k * 6 + 1, none⟩ = some (.int .i64 a.sector) := hx 1 _ rfl
          have e2 : wr.cell? ⟨b, off + k * 6 + 2, none⟩ = some (.int .i64 a.bytes) := hx 2 _ rfl
          have e3 : wr.cell? ⟨b, off + k * 6 + 3, none⟩ = some (.string a.text) := hx 3 _ rfl
          have e4 : wr.cell? ⟨b, off + k * 6 + 4, none⟩ = some (.bool a.odd) := hx 4 _ rfl
          have e5 : wr.cell? ⟨b, off + k * 6 + 5, none⟩ = some (.int .i64 a.after) := hx 5 _ rfl
          have HA := Lib.hid (And.intro ha (And.intro hwf (H1000.out a (List.mem_of_getElem? ha))))
          clear hx ha hwf
          go_wp2_with fail
          refine (do_any d _ a HA.out.2.1 HA.out.2.2 (by omega) _ _ HR.out.2).mono ?_
          rintro e w4 ⟨rfl, hx4, hs4⟩
          have H4 := Lib.hid (And.intro (HR.out.1.trans hx4) hs4)
          clear hx4 hs4 e0 e1 e2 e3 e4 e5
          go_wp2_with fail
          refine ⟨⟨k + 1, by omega, by go_num, ?_⟩, by simp [intOf]; omega⟩
          have := H4.out
          rw [← run_snoc] at this
          rw [List.take_add_one, HA.out.1]; exact this
        · have hkl : k = l.length := by omega
          rw [hkl, List.take_of_length_le (Nat.le_refl _)] at HR HG
          have hSn : ((DS.fresh n).run l).n = n := HG.out.n
          have hSo : ((DS.fresh n).run l).ok := HG.out.ok (DS.fresh_ok n hn1 hn2)
          have hSq : ((DS.fresh n).run l).q.length ≤ 60 := by
            have h1 := HG.out.q
            have h2 : (DS.fresh n).q.length = 0 := rfl
            omega
          clear hkl hq HG
          generalize (DS.fresh n).run l = S at *
          have HSN := Lib.hid hSn
          have HSO := Lib.hid hSo
          have H := HR
          clear hSn hSo HR
          go_wp2_with fail
          refine (start_any d S _ _ H.out.2).mono ?_
          rintro e wx ⟨rfl, hxx, hsx⟩
          have H' := Lib.hid (And.intro (H.out.1.trans hxx) (hsx.cast (show _ = diskP d S.start * old w by ac_rfl)))
          clear hxx hsx H; have H := H'; clear H'
          go_wp2_with fail
          refine (sync_any d S.start (by simp [DS.start]; omega) _ _ H.out.2).mono ?_
          rintro e wx ⟨rfl, hxx, hsx⟩
          have H' := Lib.hid (And.intro (H.out.1.trans hxx) (hsx.cast (show _ = diskP d S.start.sync.2 * old w by ac_rfl)))
          clear hxx hsx H; have H := H'; clear H'
          obtain ⟨hsy, hcalm⟩ := calm_of S HSO.out
          rw [hsy] at H ⊢
          simp only at H
          have hTn : S.start.flush.n = n := (goes_flush S.start).n.trans HSN.out
          clear hsy hSq HSO HSN
          generalize S.start.flush = T at *
          have HT := Lib.hid hcalm
          clear hcalm
          subst hTn
          have H' := Lib.hid (And.intro H.out.1 (show Sat _ (diskP d (T.with (pend T.n (m.take 0))) * old w) from by
            rw [show T.with (pend T.n (m.take 0)) = T from by have := HT.out.q; cases T; simp_all [DS.with, pend]]; exact H.out.2))
          clear H; have H := H'; clear H'
          go_wp2_with fail
          have H' := Lib.hid (And.intro (H.out.1.alloc (.cells nope.cells 34)) ((H.out.2.allocNew (.cells nope.cells 34)).cast (show _ = diskP d (T.with (pend T.n (m.take 0))) * (pts _ (.cells nope.cells 34) * old w) by ac_rfl)))
          clear H; have H := H'; clear H'
          generalize wx.heap.size = g at *
          go_loopw [17, 19] (fun u z wr => ∃ (k : Nat) (c : AC), k ≤ m.length ∧ z = .int .i64 k ∧ u = .int .i64 ((pend T.n (m.take k)).length : Int) ∧ Hid (nextIs T.n (pend T.n (m.take k)) x c) ∧ Hid (Ext w wr ∧ Sat wr (diskP d (T.with (pend T.n (m.take k))) * (pts g (.cells c.cells 34) * old w)))) (fun _ z _ => m.length - (intOf z).toNat)
          case atStart => exact ⟨0, nope, Nat.zero_le _, rfl, rfl, .inl ⟨Nat.zero_le _, rfl⟩, H.out⟩
          case round =>
            obtain ⟨j, c, hj, rfl, rfl, HC, HR⟩ := hrel
            clear H
            have hq : (pend T.n (m.take j)).length ≤ 60 := Nat.le_trans (pend_len _ _) (by rw [List.length_take]; omega)
            by_cases hlt : j < m.length
            · obtain ⟨a, b, off, ha, hwf, rfl, _⟩ := ((HR.out.2.cast (show _ = (diskP d (T.with (pend T.n (m.take j))) * pts g (.cells c.cells 34)) * old w by ac_rfl)).acts HM.out).get hlt rfl
              have hsn := pend_snoc T.n (m.take j) a
              have htk : m.take (j + 1) = m.take j ++ [a] := by rw [List.take_add_one, ha]; rfl
              rw [← htk] at hsn
              clear htk
              have hww := with_write HT.out (pend T.n (m.take j)) a
              have h100a := H1001.out a (List.mem_of_getElem? ha)
              have HA := Lib.hid ha
              have HS := Lib.hid (And.intro hsn hww)
              clear ha hwf hsn hww
              generalize pend T.n (m.take j) = q at *
              go_wp2_with fail
              have f0 := Lib.hid (((HR.out.2.drew.cast (show _ = (diskP d (T.with q) * pts g (.cells c.cells 34)) * old w by ac_rfl)).acts HM.out).six HA.out rfl)
              by_cases hg : good T.n a = true
              · have hww := HS.out.2
                rw [if_pos hg] at hww
                have hsn := HS.out.1
                rw [if_pos hg] at hsn
                have E := Lib.hid (And.intro hww hsn)
                have HGD := Lib.hid ((good_iff T.n a).1 hg)
                clear hww hsn hg HS
                go_region_held3 (fun wx => wx.cell? ⟨b, off + j * 6, none⟩ = some (.int .i64 a.kind) ∧ wx.cell? ⟨b, off + j * 6 + 1, none⟩ = some (.int .i64 a.sector) ∧ wx.cell? ⟨b, off + j * 6 + 2, none⟩ = some (.int .i64 a.bytes) ∧ wx.cell? ⟨b, off + j * 6 + 3, none⟩ = some (.string a.text) ∧ wx.cell? ⟨b, off + j * 6 + 4, none⟩ = some (.bool a.odd) ∧ wx.cell? ⟨b, off + j * 6 + 5, none⟩ = some (.int .i64 a.after))
                  (first | exact f0.out | exact f2.out | exact f3.out)
                  (first
                    | (go_at_call 23; refine (text_any a h100a _).mono ?_; rintro e w2 ⟨rfl, hk2⟩; have H2 := Lib.hid (And.intro (HR.out.1.drew.trans hk2.ext) (HR.out.2.drew.kept hk2)); have f2 := Lib.hid (((H2.out.2.cast (show _ = (diskP d (T.with q) * pts g (.cells c.cells 34)) * old w by ac_rfl)).acts HM.out).six HA.out rfl); clear hk2)
                    | (go_at_call 22; have hwr := write_any d (T.with q) a.sector a.write (by show q.length < _; omega) _ _ H2.out.2; rw [E.out.1] at hwr; refine hwr.mono ?_; rintro e w3 ⟨rfl, hx3, hs3⟩; have H3 := Lib.hid (And.intro (H2.out.1.trans hx3) hs3); have f3 := Lib.hid (((H3.out.2.cast (show _ = (diskP d (T.with (q ++ [(a.sector.toNat, a.write)])) * pts g (.cells c.cells 34)) * old w by ac_rfl)).acts HM.out).six HA.out rfl); clear hx3 hs3 hwr))
                clear f0 f2 H2
                by_cases hqx : q.length = x
                · obtain ⟨b0, b1, b2, b3, b4, b5⟩ := f3.out
                  have hcc := (H3.out.2.cast (show _ = pts g (.cells c.cells 34) * (diskP d (T.with (q ++ [(a.sector.toNat, a.write)])) * old w) by ac_rfl))
                  obtain ⟨c0, c1, c2, c3, c4, c5⟩ := hcc.act6c
                  have fz := fun i => hcc.free i
                  have hglt := hcc.lt
                  have HCC := Lib.hid hcc
                  clear hcc
                  go_wp2_with fail
                  have s6 := (((((HCC.out.setCell (i := 0) (.int .i64 a.kind)).setCell (i := 1) (.int .i64 a.sector)).setCell (i := 2) (.int .i64 a.bytes)).setCell (i := 3) (.string a.text)).setCell (i := 4) (.bool a.odd)).setCell (i := 5) (.int .i64 a.after)
                  refine ⟨⟨j + 1, a, by omega, by go_num, ?_, ?_, ?_⟩, by simp [intOf]; omega⟩
                  · rw [E.out.2, List.length_append]; go_num
                  · rw [E.out.2]
                    have hg := HGD.out
                    exact .inr ⟨by simp; omega, by rw [List.getElem?_append_right (by omega), hqx, Nat.sub_self]; rfl, hg.1.1, hg.1.2, h100a⟩
                  · rw [E.out.2]
                    exact ⟨((((((H3.out.1.setCell _ _).setCell _ _).setCell _ _).setCell _ _).setCell _ _).setCell _ _), s6.cast (show _ = diskP d (T.with (q ++ [(a.sector.toNat, a.write)])) * (pts g (.cells a.cells 34) * old w) by (show pts g (.cells a.cells 34) * _ = _; ac_rfl))⟩
                · clear f3
                  go_wp2_with fail
                  refine ⟨⟨j + 1, c, by omega, by go_num, ?_, ?_, ?_⟩, by simp [intOf]; omega⟩
                  · rw [E.out.2, List.length_append]; go_num
                  · rw [E.out.2]
                    rcases HC.out with ⟨h1, h2⟩ | ⟨h1, h2, h3⟩
                    · exact .inl ⟨by simp; omega, h2⟩
                    · exact .inr ⟨by simp; omega, by rw [List.getElem?_append_left h1]; exact h2, h3⟩
                  · rw [E.out.2]; exact H3.out
              · have hww := HS.out.2
                rw [if_neg hg] at hww
                have hsn := HS.out.1
                rw [if_neg hg] at hsn
                have E := Lib.hid (And.intro hww hsn)
                clear hww hsn hg HS
                go_region_held3 (fun wx => wx.cell? ⟨b, off + j * 6, none⟩ = some (.int .i64 a.kind) ∧ wx.cell? ⟨b, off + j * 6 + 1, none⟩ = some (.int .i64 a.sector) ∧ wx.cell? ⟨b, off + j * 6 + 2, none⟩ = some (.int .i64 a.bytes) ∧ wx.cell? ⟨b, off + j * 6 + 3, none⟩ = some (.string a.text) ∧ wx.cell? ⟨b, off + j * 6 + 4, none⟩ = some (.bool a.odd) ∧ wx.cell? ⟨b, off + j * 6 + 5, none⟩ = some (.int .i64 a.after))
                  (first | exact f0.out | exact f2.out | exact f3.out)
                  (first
                    | (go_at_call 23; refine (text_any a h100a _).mono ?_; rintro e w2 ⟨rfl, hk2⟩; have H2 := Lib.hid (And.intro (HR.out.1.drew.trans hk2.ext) (HR.out.2.drew.kept hk2)); have f2 := Lib.hid (((H2.out.2.cast (show _ = (diskP d (T.with q) * pts g (.cells c.cells 34)) * old w by ac_rfl)).acts HM.out).six HA.out rfl); clear hk2)
                    | (go_at_call 22; have hwr := write_any d (T.with q) a.sector a.write (by show q.length < _; omega) _ _ H2.out.2; rw [E.out.1] at hwr; refine hwr.mono ?_; rintro e w3 ⟨rfl, hx3, hs3⟩; have H3 := Lib.hid (And.intro (H2.out.1.trans hx3) hs3); have f3 := Lib.hid (((H3.out.2.cast (show _ = (diskP d (T.with q) * pts g (.cells c.cells 34)) * old w by ac_rfl)).acts HM.out).six HA.out rfl); clear hx3 hs3 hwr))
                clear f0 f2 H2
                go_wp2_with fail
                refine ⟨⟨j + 1, c, by omega, by go_num, ?_, ?_, ?_⟩, by simp [intOf]; omega⟩
                · rw [E.out.2]
                · rw [E.out.2]; exact HC
                · rw [E.out.2]; exact H3.out
            · have hjm : j = m.length := by omega
              rw [hjm, List.take_of_length_le (Nat.le_refl _)] at HR hq HC
              clear hjm
              have e0 := HT0.out
              have hqo := pend_ok T.n m
              have hV0 : ∃ V, V = T.with ((pend T.n m).take x) := ⟨_, rfl⟩
              obtain ⟨V, hV⟩ := hV0
              have HPX := Lib.hid (fun R0 w0 hx h => prefix_any T.n hn1 hn2 _ l _ m x R0 w w0 HL.out HM.out HOK0.out HOK1.out T V (e0.symm.trans (HT1.out T.n rfl)) hV hx h)
              clear e0
              generalize pend T.n m = q at *
              have hVn : V.n = T.n := by rw [hV]; rfl
              have hVok : V.ok := by rw [hV]; exact with_ok HT.out _ (fun p hp => hqo p (List.mem_of_mem_take hp))
              have hlaw := fun i hi => prefix_law HT.out q hqo x y (by omega) i hi
              rw [← hV] at hlaw
              have HV := Lib.hid (And.intro hVn hVok)
              have HLAW := Lib.hid hlaw
              have HQ := Lib.hid hqo
              clear hqo hV hVn hVok hlaw
              have H := HR
              clear HR
              go_wp2_with fail
              refine (fail_any d (T.with q) x y (by show q.length ≤ _; omega) _ _ H.out.2).mono ?_
              rintro e wx ⟨rfl, hxx, hsx⟩
              have H' := Lib.hid (And.intro (H.out.1.trans hxx) (hsx.cast (show _ = diskP d ((T.with q).fail x y) * (pts g (.cells c.cells 34) * old w) by ac_rfl)))
              clear hxx hsx H; have H := H'; clear H'
              go_wp2_with fail
              refine (start_any d _ _ _ H.out.2).mono ?_
              rintro e wx ⟨rfl, hxx, hsx⟩
              have H' := Lib.hid (And.intro (H.out.1.trans hxx) (hsx.cast (show _ = diskP d ((T.with q).fail x y).start * (pts g (.cells c.cells 34) * old w) by ac_rfl)))
              clear hxx hsx H; have H := H'; clear H'
              go_wp2_with fail
              have hUn : ((T.with q).fail x y).start.n = T.n := fail_n _ _ _
              have hUq : ((T.with q).fail x y).start.q.length ≤ 1000000 := Nat.le_trans (goes_fail (T.with q) x y).q (by show q.length + 0 ≤ _; omega)
              have hUo : ((T.with q).fail x y).start.off = false := rfl
              generalize ((T.with q).fail x y).start = U at *
              have hc := contents_any d U hUo hUq _ _ H.out.2
              rw [hUn] at hc
              have HUn := Lib.hid hUn
              clear hUn hUo hUq
              refine (hc).mono ?_
              rintro e wx ⟨vb, rfl, hxx, hsx⟩
              have H' := Lib.hid (And.intro (H.out.1.trans hxx) (hsx.cast (show _ = (strRow vb U.all * (diskP d U * pts g (.cells c.cells 34))) * old w by ac_rfl)))
              clear hxx hsx H; have H := H'; clear H'
              go_wp2_with fail
              clear hc
              refine (HPX.out _ _ H.out.1 H.out.2).mono ?_
              rintro e wx ⟨vc, d2, rfl, hxx, hsx⟩
              have H' := Lib.hid (And.intro hxx (hsx.cast (show _ = pts g (.cells c.cells 34) * (strRow vc V.all * (strRow vb U.all * (diskP d2 V * (diskP d U * old w)))) by ac_rfl)))
              clear hxx hsx H; have H := H'; clear H'
              have hcs : c.sector < (T.n : Int) := by
                rcases HC.out with ⟨_, h2⟩ | ⟨_, _, _, h, _⟩
                · rw [h2]; simp [nope]; omega
                · exact h
              obtain ⟨c0, c1, c2, c3, c4, c5⟩ := H.out.2.act6c
              by_cases hc0 : c.sector < 0
              · have he : U.all = V.all := all_ext (HUn.out.trans HV.out.1.symm) fun i hi => by
                  have h1 := HLAW.out i (by rw [← HUn.out]; exact hi)
                  rcases HC.out with ⟨h2, _⟩ | ⟨_, _, h2, _, _⟩
                  · rw [List.getElem?_eq_none h2] at h1; exact h1
                  · omega
                have HE := Lib.hid he
                clear he
                go_wp2_with fail
                clear c0 c1 c2 c3 c4 c5
                refine (same_any vb vc U.all V.all _ _ _ (H.out.2.cast (show _ = strRow vb U.all * (pts g (.cells c.cells 34) * (strRow vc V.all * (diskP d2 V * (diskP d U * old w)))) by ac_rfl)) (H.out.2.cast (show _ = strRow vc V.all * (pts g (.cells c.cells 34) * (strRow vb U.all * (diskP d2 V * (diskP d U * old w)))) by ac_rfl))).mono ?_
                rintro e wx ⟨rfl, hkx⟩
                have H' := Lib.hid (And.intro (H.out.1.trans hkx.ext) (H.out.2.kept hkx))
                clear hkx H; have H := H'; clear H'
                rw [decide_eq_true HE.out]
                go_wp2_with fail
                go_ret
                exact ⟨rfl, Kept.of_old (P := pts g (.cells c.cells 34) * (strRow vc V.all * (strRow vb U.all * (diskP d2 V * diskP d U)))) H.out.1 (H.out.2.cast (by ac_rfl))⟩
              · obtain ⟨hnx, hnq, _, _, hc100⟩ := HC.out.resolve_left (fun h => hc0 (by rw [h.2]; decide))
                have hsz : c.write.size = 64 := (HQ.out _ (List.mem_of_getElem? hnq)).2
                obtain ⟨gw, cw, rfl⟩ : ∃ g c, vc = .slice (some ⟨g, 0, none⟩) T.n c := by
                  obtain ⟨ao, cap, rfl, _, hc⟩ := (H.out.2.cast (show _ = strRow vc V.all * (pts g (.cells c.cells 34) * (strRow vb U.all * (diskP d2 V * (diskP d U * old w)))) by ac_rfl)).strForm
                  obtain ⟨g, rfl, _⟩ := hc 0 _ (all_get V 0 (by rw [HV.out.1]; omega))
                  rw [all_len, HV.out.1]
                  exact ⟨g, cap, rfl⟩
                have hvs : (V.secNow c.sector.toNat).size = 64 := secNow_size HV.out.2 _ (by rw [HV.out.1]; omega)
                have HNQ := Lib.hid hnq
                clear hnq
                go_upto_region 30 with fail
                clear c0 c1 c2 c3 c4 c5
                go_cut [] (fun wx => Hid (Ext w wx ∧ Sat wx (pts g (.cells c.cells 34) * (strRow (.slice (some ⟨gw, 0, none⟩) T.n cw) (V.all.set c.sector.toNat (c.write.extract 0 y ++ (V.secNow c.sector.toNat).extract y 64)) * (strRow vb U.all * (diskP d2 V * (diskP d U * old w)))))))
                case first =>
                  obtain ⟨c0, c1, c2, c3, c4, c5⟩ := H.out.2.drew.act6c
                  have y0 := (H.out.2.drew.cast (show _ = strRow (.slice (some ⟨gw, 0, none⟩) T.n cw) V.all * (pts g (.cells c.cells 34) * (strRow vb U.all * (diskP d2 V * (diskP d U * old w)))) by ac_rfl)).strCell c.sector.toNat _ (all_get V _ (by rw [HV.out.1]; omega))
                  have hsl1 := fun wx => slice_lo c.write y (by omega) wx
                  have hsl2 := fun wx => slice_hi (V.secNow c.sector.toNat) y 64 hvs (by omega) wx
                  go_region_with (go_at_call 23; refine (text_any c hc100 _).mono ?_; rintro e w2 ⟨rfl, hk2⟩; have H2 := Lib.hid (And.intro (H.out.1.drew.trans hk2.ext) (H.out.2.drew.kept hk2)); clear hk2; obtain ⟨i0, i1, i2, i3, i4, i5⟩ := H2.out.2.act6c; have s2 := (H2.out.2.cast (show _ = strRow (.slice (some ⟨gw, 0, none⟩) T.n cw) V.all * (pts g (.cells c.cells 34) * (strRow vb U.all * (diskP d2 V * (diskP d U * old w)))) by ac_rfl)); obtain ⟨z1, z2⟩ := s2.strFree c.sector.toNat; have z3 := s2.strCell c.sector.toNat _ (all_get V _ (by rw [HV.out.1]; omega)); have S2 := Lib.hid s2; clear s2)
                  all_goals (go_wp2_with fail; go_meet; exact Lib.hid (And.intro (H2.out.1.setCell _ _) ((S2.out.strSet (i := c.sector.toNat) (c.write.extract 0 y ++ (V.secNow c.sector.toNat).extract y 64)).cast (show _ = pts g (.cells c.cells 34) * (strRow (.slice (some ⟨gw, 0, none⟩) T.n cw) (V.all.set c.sector.toNat (c.write.extract 0 y ++ (V.secNow c.sector.toNat).extract y 64)) * (strRow vb U.all * (diskP d2 V * (diskP d U * old w)))) by ac_rfl))))
                case rest =>
                  have H := hcut
                  clear hcut
                  have he : U.all = V.all.set c.sector.toNat (c.write.extract 0 y ++ (V.secNow c.sector.toNat).extract y 64) := by
                    have hx := HNQ.out
                    apply List.ext_getElem?
                    intro i
                    rw [List.getElem?_set]
                    by_cases hi : i < T.n
                    · have h1 := HLAW.out i hi
                      rw [hx] at h1
                      simp only at h1
                      rw [all_get U i (by rw [HUn.out]; exact hi), h1]
                      by_cases hsi : c.sector.toNat = i
                      · rw [if_pos hsi, if_pos hsi, if_pos (by rw [all_len, HV.out.1]; omega), hsi, ba_splice c.write (V.secNow i) y (by rw [← hsi]; exact hvs)]
                      · rw [if_neg hsi, if_neg hsi, all_get V i (by rw [HV.out.1]; exact hi)]
                    · rw [List.getElem?_eq_none (by rw [all_len, HUn.out]; omega), if_neg (by omega), List.getElem?_eq_none (by rw [all_len, HV.out.1]; omega)]
                  have HE := Lib.hid he
                  clear he
                  go_wp2_with fail
                  refine (same_any vb (.slice (some ⟨gw, 0, none⟩) T.n cw) U.all _ _ _ _ (H.out.2.cast (show _ = strRow vb U.all * (pts g (.cells c.cells 34) * (strRow (.slice (some ⟨gw, 0, none⟩) T.n cw) (V.all.set c.sector.toNat (c.write.extract 0 y ++ (V.secNow c.sector.toNat).extract y 64)) * (diskP d2 V * (diskP d U * old w)))) by ac_rfl)) (H.out.2.cast (show _ = strRow (.slice (some ⟨gw, 0, none⟩) T.n cw) (V.all.set c.sector.toNat (c.write.extract 0 y ++ (V.secNow c.sector.toNat).extract y 64)) * (pts g (.cells c.cells 34) * (strRow vb U.all * (diskP d2 V * (diskP d U * old w)))) by ac_rfl))).mono ?_
                  rintro e wx ⟨rfl, hkx⟩
                  have H' := Lib.hid (And.intro (H.out.1.trans hkx.ext) (H.out.2.kept hkx))
                  clear hkx H; have H := H'; clear H'
                  rw [decide_eq_true HE.out]
                  go_wp2_with fail
                  go_ret
                  exact ⟨rfl, Kept.of_old (P := pts g (.cells c.cells 34) * (strRow (.slice (some ⟨gw, 0, none⟩) T.n cw) (V.all.set c.sector.toNat (c.write.extract 0 y ++ (V.secNow c.sector.toNat).extract y 64)) * (strRow vb U.all * (diskP d2 V * diskP d U)))) H.out.1 (H.out.2.cast (by ac_rfl))⟩
end Go.Proofs.Ytcjocajpnebecaa
