/-
  DiskStable, walked: it answers true, whatever the operations; all memory that was there is as it was. Its condition: the arguments read as data.
-/
import Derived.Test.YtcjocajpnebecaaP3
import Derived.Deep.QuietTactic
import Derived.BigQuiet
namespace Go.Proofs.Ytcjocajpnebecaa
open Go.RowKit

set_option maxRecDepth 100000 in
set_option maxHeartbeats 8000000 in
theorem diskStable_walk (r : Nat) (hr : r < 256) (lv : Value) (l : List AC) (mv : Value) (m : List AC) (writes bytes : Int) (w : World) (hl : actsAt w lv l) (hm : actsAt w mv m) :
    Calls Try.prog 4 #[.int .u8 (r : Int), lv, mv, .int .i64 writes, .int .i64 bytes] w fun e w' => e = .returned (.bool true) ∧ Kept w w' := by
  have HL := Lib.hid hl
  obtain ⟨ao, cap, rfl, hlen, _⟩ := hl
  have HM := Lib.hid hm
  obtain ⟨bo, cbp, rfl, hlen2, _⟩ := hm
  cases hok0 : okActs l with
  | false =>
    go_enter Try.func4, Try.ntmps4
    go_wp2_with fail
    refine (head_any _).mono ?_
    rintro e w1 ⟨rfl, hk1⟩
    go_wp2_with fail
    refine (ok_any _ l _ (HL.out.kept hk1.keep)).mono ?_
    rintro e w2 ⟨rfl, rfl⟩
    rw [hok0]
    go_wp2_with fail
    go_ret
    exact ⟨rfl, hk1⟩
  | true =>
    obtain ⟨h600, h1000⟩ := okActs_len hok0
    have H1000 := Lib.hid h1000
    have HOK0 := Lib.hid hok0
    clear h1000 hok0
    cases hok1 : okActs m with
    | false =>
      go_enter Try.func4, Try.ntmps4
      go_wp2_with fail
      refine (head_any _).mono ?_
      rintro e w1 ⟨rfl, hk1⟩
      go_wp2_with fail
      refine (ok_any _ l _ (HL.out.kept hk1.keep)).mono ?_
      rintro e w2 ⟨rfl, rfl⟩
      rw [HOK0.out]
      go_wp2_with fail
      refine (ok_any _ m _ (HM.out.kept hk1.keep)).mono ?_
      rintro e w2 ⟨rfl, rfl⟩
      rw [hok1]
      go_wp2_with fail
      go_ret
      exact ⟨rfl, hk1⟩
    | true =>
      obtain ⟨h601, h1001⟩ := okActs_len hok1
      have H1001 := Lib.hid h1001
      have HOK1 := Lib.hid hok1
      clear h1001 hok1
      obtain ⟨n, hn⟩ : ∃ n, n = 1 + r % 12 := ⟨_, rfl⟩
      have hn1 : 1 ≤ n := by omega
      have hn2 : n ≤ 4000 := by omega
      have hn12 : n ≤ 12 := by omega
      have HN := Lib.hid hn
      clear hn
      go_enter Try.func4, Try.ntmps4
      go_wp2_with fail
      refine (head_any _).mono ?_
      rintro e w1 ⟨rfl, hk1⟩
      have H1 := Lib.hid (And.intro hk1.ext ((Sat.start w).kept hk1))
      go_wp2_with fail
      refine (ok_any _ l _ (HL.out.kept hk1.keep)).mono ?_
      rintro e w2 ⟨rfl, rfl⟩
      rw [HOK0.out]
      go_wp2_with fail
      refine (ok_any _ m _ (HM.out.kept hk1.keep)).mono ?_
      rintro e w2 ⟨rfl, rfl⟩
      rw [HOK1.out]
      clear hk1
      go_wp2_with fail
      refine (size_any r hr _).mono ?_
      rintro e w2 ⟨rfl, rfl⟩
      rw [← HN.out]
      go_wp2_with fail
      refine (new_yes n hn1 hn2 _ _ H1.out.2).mono ?_
      rintro e w2 ⟨d, rfl, hx2, hs2⟩
      have H := Lib.hid (And.intro (H1.out.1.trans hx2) (hs2.cast (show _ = diskP d ((DS.fresh n).run (l.take 0)) * old w by ac_rfl)))
      clear hx2 hs2 H1
      go_wp2_with fail
      go_loopw [14] (fun x wr => ∃ k : Nat, k ≤ l.length ∧ x = .int .i64 k ∧ Hid (Ext w wr ∧ Sat wr (diskP d ((DS.fresh n).run (l.take k)) * old w))) (fun x _ => l.length - (intOf x).toNat)
      case atStart => exact ⟨0, Nat.zero_le _, rfl, H.out⟩
      case round =>
        obtain ⟨k, hk, rfl, HR⟩ := hrel
        clear H
        have HG := Lib.hid (goes_run (DS.fresh n) (l.take k) (fun a ha => HL.out.wfs a (List.mem_of_mem_take ha)))
        have hq : ((DS.fresh n).run (l.take k)).q.length ≤ 1000 := by
          have := HG.out.q
          rw [List.length_take] at this
          have h2 : (DS.fresh n).q.length = 0 := rfl
          omega
        by_cases hlt : k < l.length
        · obtain ⟨a, b, off, ha, hwf, rfl, hx⟩ := ((HR.out.2.cast (show _ = diskP d ((DS.fresh n).run (l.take k)) * old w by ac_rfl)).acts HL.out).get hlt rfl
          have e0 : wr.cell? ⟨b, off + k * 6, none⟩ = some (.int .i64 a.kind) := hx 0 _ rfl
          have e1 : wr.cell? ⟨b, off + k * 6 + 1, none⟩ = some (.int .i64 a.sector) := hx 1 _ rfl
          have e2 : wr.cell? ⟨b, off + k * 6 + 2, none⟩ = some (.int .i64 a.bytes) := hx 2 _ rfl
          have e3 : wr.cell? ⟨b, off + k * 6 + 3, none⟩ = some (.string a.text) := hx 3 _ rfl
          have e4 : wr.cell? ⟨b, off + k * 6 + 4, none⟩ = some (.bool a.odd) := hx 4 _ rfl
          have e5 : wr.cell? ⟨b, off + k * 6 + 5, none⟩ = some (.int .i64 a.after) := hx 5 _ rfl
          have HA := Lib.hid (And.intro ha (And.intro hwf (H1000.out a (List.mem_of_getElem? ha))))
          clear hx ha hwf
          go_wp2_with fail
          refine (do_any d _ a HA.out.2.1 HA.out.2.2 (by omega) _ _ HR.out.2).mono ?_
          rintro e w4 ⟨rfl, hx4, hs4⟩
          have H4 := Lib.hid (And.intro (HR.out.1.trans hx4) hs4)
          clear hx4 hs4 e0 e1 e2 e3 e4 e5
          go_wp2_with fail
          refine ⟨⟨k + 1, by omega, by go_num, ?_⟩, by simp [intOf]; omega⟩
          have := H4.out
          rw [← run_snoc] at this
          rw [List.take_add_one, HA.out.1]; exact this
        · have hkl : k = l.length := by omega
          rw [hkl, List.take_of_length_le (Nat.le_refl _)] at HR HG
          have hSn : ((DS.fresh n).run l).n = n := HG.out.n
          have hSo : ((DS.fresh n).run l).ok := HG.out.ok (DS.fresh_ok n hn1 hn2)
          have hSq : ((DS.fresh n).run l).q.length ≤ 60 := by
            have h1 := HG.out.q
            have h2 : (DS.fresh n).q.length = 0 := rfl
            omega
          clear hkl hq HG
          generalize (DS.fresh n).run l = S at *
          have HSN := Lib.hid hSn
          have HSO := Lib.hid hSo
          have H := HR
          clear hSn hSo HR
          go_wp2_with fail
          refine (start_any d S _ _ H.out.2).mono ?_
          rintro e wx ⟨rfl, hxx, hsx⟩
          have H' := Lib.hid (And.intro (H.out.1.trans hxx) (hsx.cast (show _ = diskP d S.start * old w by ac_rfl)))
          clear hxx hsx H; have H := H'; clear H'
          go_wp2_with fail
          refine (sync_any d S.start (by simp [DS.start]; omega) _ _ H.out.2).mono ?_
          rintro e wx ⟨rfl, hxx, hsx⟩
          have H' := Lib.hid (And.intro (H.out.1.trans hxx) (hsx.cast (show _ = diskP d S.start.sync.2 * old w by ac_rfl)))
          clear hxx hsx H; have H := H'; clear H'
          obtain ⟨hsy, hcalm⟩ := calm_of S HSO.out
          rw [hsy] at H ⊢
          simp only at H
          have hTn : S.start.flush.n = n := (goes_flush S.start).n.trans HSN.out
          clear hsy hSq HSO HSN
          generalize S.start.flush = T at *
          have HT := Lib.hid hcalm
          clear hcalm
          subst hTn
          go_wp2_with fail
          refine (contents_any d T HT.out.off (by rw [HT.out.q]; simp) _ _ H.out.2).mono ?_
          rintro e wx ⟨va, rfl, hxx, hsx⟩
          have H' := Lib.hid (And.intro (H.out.1.trans hxx) (hsx.cast (show _ = diskP d T * (strRow va T.all * old w) by ac_rfl)))
          clear hxx hsx H; have H := H'; clear H'
          have hmk := fun wx => make_marks T.n hn2 wx
          go_wp2_with fail
          have H' := Lib.hid (And.intro (H.out.1.alloc (.cells (marks T.n []) 4)) ((H.out.2.allocNew (.cells (marks T.n []) 4)).cast (show _ = diskP d (T.with (pend T.n (m.take 0))) * (strRow va T.all * (pts _ (.cells (marks T.n (pend T.n (m.take 0))) 4) * old w)) by rw [show T.with (pend T.n (m.take 0)) = T from by have := HT.out.q; cases T; simp_all [DS.with, pend]]; ac_rfl)))
          clear H hmk; have H := H'; clear H'
          generalize wx.heap.size = g at *
          go_loopw [18] (fun x wr => ∃ k : Nat, k ≤ m.length ∧ x = .int .i64 k ∧ Hid (Ext w wr ∧ Sat wr (diskP d (T.with (pend T.n (m.take k))) * (strRow va T.all * (pts g (.cells (marks T.n (pend T.n (m.take k))) 4) * old w))))) (fun x _ => m.length - (intOf x).toNat)
          case atStart => exact ⟨0, Nat.zero_le _, rfl, H.out⟩
          case round =>
            obtain ⟨j, hj, rfl, HR⟩ := hrel
            clear H
            have hq : (pend T.n (m.take j)).length ≤ 60 := Nat.le_trans (pend_len _ _) (by rw [List.length_take]; omega)
            have hqo := pend_ok T.n (m.take j)
            have HQ := Lib.hid hqo
            clear hqo
            by_cases hlt : j < m.length
            · obtain ⟨a, b, off, ha, hwf, rfl, _⟩ := ((HR.out.2.cast (show _ = (diskP d (T.with (pend T.n (m.take j))) * (strRow va T.all * pts g (.cells (marks T.n (pend T.n (m.take j))) 4))) * old w by ac_rfl)).acts HM.out).get hlt rfl
              have hsn := pend_snoc T.n (m.take j) a
              have htk : m.take (j + 1) = m.take j ++ [a] := by rw [List.take_add_one, ha]; rfl
              rw [← htk] at hsn
              clear htk
              have hww := with_write HT.out (pend T.n (m.take j)) a
              have h100a := H1001.out a (List.mem_of_getElem? ha)
              have HA := Lib.hid ha
              have HS := Lib.hid (And.intro hsn hww)
              clear ha hwf hsn hww
              generalize pend T.n (m.take j) = q at *
              obtain ⟨b0, b1, b2, b3, b4, b5⟩ := ((HR.out.2.cast (show _ = (diskP d (T.with q) * (strRow va T.all * pts g (.cells (marks T.n q) 4))) * old w by ac_rfl)).acts HM.out).six HA.out rfl
              go_wp2_with fail
              clear b0 b1 b2 b3 b4 b5
              have f0 := Lib.hid (((HR.out.2.drew.cast (show _ = (diskP d (T.with q) * (strRow va T.all * pts g (.cells (marks T.n q) 4))) * old w by ac_rfl)).acts HM.out).six HA.out rfl)
              by_cases hg : good T.n a = true
              · have hww := HS.out.2
                rw [if_pos hg] at hww
                have hsn := HS.out.1
                rw [if_pos hg] at hsn
                have E := Lib.hid (And.intro hww hsn)
                obtain ⟨⟨hg1, hg2⟩, _⟩ := (good_iff T.n a).1 hg
                clear hww hsn hg HS
                go_region_held3 (fun wx => wx.cell? ⟨b, off + j * 6, none⟩ = some (.int .i64 a.kind) ∧ wx.cell? ⟨b, off + j * 6 + 1, none⟩ = some (.int .i64 a.sector) ∧ wx.cell? ⟨b, off + j * 6 + 2, none⟩ = some (.int .i64 a.bytes) ∧ wx.cell? ⟨b, off + j * 6 + 3, none⟩ = some (.string a.text) ∧ wx.cell? ⟨b, off + j * 6 + 4, none⟩ = some (.bool a.odd) ∧ wx.cell? ⟨b, off + j * 6 + 5, none⟩ = some (.int .i64 a.after))
                  (first | exact f0.out | exact f2.out | exact f3.out)
                  (first
                    | (go_at_call 23; refine (text_any a h100a _).mono ?_; rintro e w2 ⟨rfl, hk2⟩; have H2 := Lib.hid (And.intro (HR.out.1.drew.trans hk2.ext) (HR.out.2.drew.kept hk2)); have f2 := Lib.hid (((H2.out.2.cast (show _ = (diskP d (T.with q) * (strRow va T.all * pts g (.cells (marks T.n q) 4))) * old w by ac_rfl)).acts HM.out).six HA.out rfl); clear hk2)
                    | (go_at_call 22; have hwr := write_any d (T.with q) a.sector a.write (by show q.length < _; omega) _ _ H2.out.2; rw [E.out.1] at hwr; refine hwr.mono ?_; rintro e w3 ⟨rfl, hx3, hs3⟩; have H3 := Lib.hid (And.intro (H2.out.1.trans hx3) hs3); have f3 := Lib.hid (((H3.out.2.cast (show _ = (diskP d (T.with (q ++ [(a.sector.toNat, a.write)])) * (strRow va T.all * pts g (.cells (marks T.n q) 4))) * old w by ac_rfl)).acts HM.out).six HA.out rfl); clear hx3 hs3 hwr))
                clear f0 f2 H2
                have hmk := H3.out.2.cast (show _ = pts g (.cells (marks T.n q) 4) * (diskP d (T.with (q ++ [(a.sector.toNat, a.write)])) * (strRow va T.all * old w)) by ac_rfl)
                have c1 : w3.cell? ⟨g, a.sector.toNat, none⟩ = some (.bool (q.any fun p => p.1 == a.sector.toNat)) := hmk.cell.trans (marks_get T.n q _ (by omega))
                have c2 : w3.frozen? ⟨g, a.sector.toNat, none⟩ = false := hmk.free _
                have c3 := hmk.lt
                have c4 := hmk.setCell (i := a.sector.toNat) (.bool true)
                rw [marks_set T.n q _ a.write] at c4
                have H4 := Lib.hid (And.intro (H3.out.1.setCell ⟨g, a.sector.toNat, none⟩ (.bool true)) (c4.cast (show _ = diskP d (T.with (q ++ [(a.sector.toNat, a.write)])) * (strRow va T.all * (pts g (.cells (marks T.n (q ++ [(a.sector.toNat, a.write)])) 4) * old w)) by ac_rfl)))
                clear hmk c4
                obtain ⟨b0, b1, b2, b3, b4, b5⟩ := f3.out
                go_wp2_with fail
                refine ⟨⟨j + 1, by omega, by go_num, ?_⟩, by simp [intOf]; omega⟩
                rw [E.out.2]; exact H4.out
              · have hww := HS.out.2
                rw [if_neg hg] at hww
                have hsn := HS.out.1
                rw [if_neg hg] at hsn
                have E := Lib.hid (And.intro hww hsn)
                clear hww hsn hg HS
                go_region_held3 (fun wx => wx.cell? ⟨b, off + j * 6, none⟩ = some (.int .i64 a.kind) ∧ wx.cell? ⟨b, off + j * 6 + 1, none⟩ = some (.int .i64 a.sector) ∧ wx.cell? ⟨b, off + j * 6 + 2, none⟩ = some (.int .i64 a.bytes) ∧ wx.cell? ⟨b, off + j * 6 + 3, none⟩ = some (.string a.text) ∧ wx.cell? ⟨b, off + j * 6 + 4, none⟩ = some (.bool a.odd) ∧ wx.cell? ⟨b, off + j * 6 + 5, none⟩ = some (.int .i64 a.after))
                  (first | exact f0.out | exact f2.out | exact f3.out)
                  (first
                    | (go_at_call 23; refine (text_any a h100a _).mono ?_; rintro e w2 ⟨rfl, hk2⟩; have H2 := Lib.hid (And.intro (HR.out.1.drew.trans hk2.ext) (HR.out.2.drew.kept hk2)); have f2 := Lib.hid (((H2.out.2.cast (show _ = (diskP d (T.with q) * (strRow va T.all * pts g (.cells (marks T.n q) 4))) * old w by ac_rfl)).acts HM.out).six HA.out rfl); clear hk2)
                    | (go_at_call 22; have hwr := write_any d (T.with q) a.sector a.write (by show q.length < _; omega) _ _ H2.out.2; rw [E.out.1] at hwr; refine hwr.mono ?_; rintro e w3 ⟨rfl, hx3, hs3⟩; have H3 := Lib.hid (And.intro (H2.out.1.trans hx3) hs3); have f3 := Lib.hid (((H3.out.2.cast (show _ = (diskP d (T.with q) * (strRow va T.all * pts g (.cells (marks T.n q) 4))) * old w by ac_rfl)).acts HM.out).six HA.out rfl); clear hx3 hs3 hwr))
                clear f0 f2 H2
                go_wp2_with fail
                refine ⟨⟨j + 1, by omega, by go_num, ?_⟩, by simp [intOf]; omega⟩
                rw [E.out.2]; exact H3.out
            · have hjm : j = m.length := by omega
              rw [hjm, List.take_of_length_le (Nat.le_refl _)] at HR HQ hq
              clear hjm
              generalize pend T.n m = q at *
              have H := HR
              clear HR
              go_wp2_with fail
              refine (fail_any d (T.with q) writes bytes (by show q.length ≤ _; omega) _ _ H.out.2).mono ?_
              rintro e wx ⟨rfl, hxx, hsx⟩
              have H' := Lib.hid (And.intro (H.out.1.trans hxx) (hsx.cast (show _ = diskP d ((T.with q).fail writes bytes) * (strRow va T.all * (pts g (.cells (marks T.n q) 4) * old w)) by ac_rfl)))
              clear hxx hsx H; have H := H'; clear H'
              go_wp2_with fail
              refine (start_any d _ _ _ H.out.2).mono ?_
              rintro e wx ⟨rfl, hxx, hsx⟩
              have H' := Lib.hid (And.intro (H.out.1.trans hxx) (hsx.cast (show _ = diskP d ((T.with q).fail writes bytes).start * (strRow va T.all * (pts g (.cells (marks T.n q) 4) * old w)) by ac_rfl)))
              clear hxx hsx H; have H := H'; clear H'
              go_wp2_with fail
              have hlaw := fun i hi hn => stable_law HT.out q HQ.out writes bytes i hi hn
              have hUn : ((T.with q).fail writes bytes).start.n = T.n := fail_n _ _ _
              have hUq : ((T.with q).fail writes bytes).start.q.length ≤ 1000000 := Nat.le_trans (goes_fail (T.with q) writes bytes).q (by show q.length + 0 ≤ _; omega)
              have hUo : ((T.with q).fail writes bytes).start.off = false := rfl
              have HLAW := Lib.hid hlaw
              clear hlaw
              generalize ((T.with q).fail writes bytes).start = U at *
              have hc := contents_any d U hUo hUq _ _ H.out.2
              rw [hUn] at hc
              have HUn := Lib.hid hUn
              clear hUn hUo hUq
              refine (hc).mono ?_
              rintro e wx ⟨vb, rfl, hxx, hsx⟩
              have H' := Lib.hid (And.intro (H.out.1.trans hxx) (hsx.cast (show _ = strRow vb U.all * (strRow va T.all * (pts g (.cells (marks T.n q) 4) * (diskP d U * old w))) by ac_rfl)))
              clear hxx hsx H; have H := H'; clear H'
              go_wp2_with fail
              clear hc
              go_loopw [22] (fun x wr => ∃ k : Nat, k ≤ T.n ∧ x = .int .i64 k ∧ Hid (Ext w wr ∧ Sat wr (strRow vb U.all * (strRow va T.all * (pts g (.cells (marks T.n q) 4) * (diskP d U * old w)))))) (fun x _ => T.n - (intOf x).toNat)
              case atStart => exact ⟨0, Nat.zero_le _, rfl, H.out⟩
              case round =>
                obtain ⟨i, hi, rfl, HR⟩ := hrel
                clear H
                have H := HR
                clear HR
                by_cases hlt : i < T.n
                · have c0 := (H.out.2.cast (show _ = pts g (.cells (marks T.n q) 4) * (strRow va T.all * (strRow vb U.all * (diskP d U * old w))) by ac_rfl)).cell.trans (marks_get T.n q i hlt)
                  have hva := (H.out.2.cast (show _ = strRow va T.all * (pts g (.cells (marks T.n q) 4) * (strRow vb U.all * (diskP d U * old w))) by ac_rfl)).strForm
                  have hvb := H.out.2.strForm
                  obtain ⟨xa, ca, hxa, _, hca⟩ := hva
                  obtain ⟨xb, cb, hxb, _, hcb⟩ := hvb
                  rw [all_len] at hxa hxb
                  rw [HUn.out] at hxb
                  subst hxa hxb
                  obtain ⟨ga, rfl, c1⟩ := hca i _ (all_get T i hlt)
                  obtain ⟨gb, rfl, c2⟩ := hcb i _ (all_get U i (by rw [HUn.out]; exact hlt))
                  by_cases hb : (q.any fun p => p.1 == i) = true
                  · rw [hb] at c0
                    clear hb hca hcb
                    go_wp2_with fail
                    go_quiet (fail)
                    go_wp2_with fail
                    exact ⟨⟨i + 1, by omega, by go_num, H.out.1.drewN _, H.out.2.kept ((Kept.refl _).drewN _)⟩, by simp [intOf]; omega⟩
                  · have hs := HLAW.out i hlt (fun p hp h => hb (List.any_eq_true.2 ⟨p, hp, by simp [h]⟩))
                    rw [Bool.not_eq_true] at hb
                    rw [hb] at c0
                    rw [hs] at c2
                    clear hb hca hcb hs
                    have hz : ((T.secNow i).toList == (T.secNow i).toList) = true := by simp
                    go_wp2_with fail
                    go_quiet (fail)
                    go_wp2_with fail
                    exact ⟨⟨i + 1, by omega, by go_num, H.out.1.drewN _, H.out.2.kept ((Kept.refl _).drewN _)⟩, by simp [intOf]; omega⟩
                · go_wp2_with fail
                  go_ret
                  exact ⟨rfl, Kept.of_old (P := strRow vb U.all * (strRow va T.all * (pts g (.cells (marks T.n q) 4) * diskP d U))) H.out.1 (H.out.2.cast (by ac_rfl))⟩
end Go.Proofs.Ytcjocajpnebecaa
