/-
  prefix, walked: the disk on which the first of the writes were made. Its condition: the operations read as data.
-/
import Derived.Test.YtcjocajpnebecaaP3
namespace Go.Proofs.Ytcjocajpnebecaa
open Go.RowKit

theorem pend_append (n : Nat) (l m : List AC) : pend n (l ++ m) = pend n l ++ pend n m := by
  unfold pend; rw [List.filter_append, List.map_append]
theorem pend_take_eq (n : Nat) (m : List AC) (i x : Nat) (h : (pend n (m.take i)).length = x) : (pend n m).take x = pend n (m.take i) := by
  have e : pend n m = pend n (m.take i) ++ pend n (m.drop i) := by rw [← pend_append, List.take_append_drop]
  rw [e, ← h, List.take_left']; rfl

set_option maxRecDepth 100000 in
set_option maxHeartbeats 4000000 in
theorem prefix_any (n : Nat) (hn1 : 1 ≤ n) (hn2 : n ≤ 4000) (lv : Value) (l : List AC) (mv : Value) (m : List AC) (x : Nat) (R0 : HProp) (w w0 : World) (hl : actsAt w lv l) (hm : actsAt w mv m) (hol : okActs l = true) (hom : okActs m = true)
    (T0 V : DS) (hT0 : T0 = ((DS.fresh n).run l).start.flush) (hV0 : V = T0.with ((pend n m).take x)) (hx0 : Ext w w0) (h : Sat w0 (R0 * old w)) :
    Calls Try.prog 25 #[.int .i64 (n : Int), lv, mv, .int .i64 (x : Int)] w0 fun e w' => ∃ v d, e = .returned (.tuple #[v, .bool true]) ∧ Ext w w' ∧
      Sat w' (strRow v V.all * (diskP d V * (R0 * old w))) := by
  have H0 := Lib.hid (And.intro hx0 h)
  have HTV := Lib.hid (And.intro hT0 hV0)
  clear hx0 h hT0 hV0
  have HL := Lib.hid hl
  obtain ⟨ao, cap, rfl, hlen, _⟩ := hl
  have HM := Lib.hid hm
  obtain ⟨bo, cbp, rfl, hlen2, _⟩ := hm
  obtain ⟨h600, h1000⟩ := okActs_len hol
  obtain ⟨h601, h1001⟩ := okActs_len hom
  have H1000 := Lib.hid h1000
  have H1001 := Lib.hid h1001
  clear h1000 h1001 hol hom
  have hx60 : ∀ k : Nat, k ≤ m.length → k ≤ 60 := fun k hk => by omega
  go_enter Try.func25, Try.ntmps25
  go_wp2_with fail
  refine (new_yes n hn1 hn2 _ _ H0.out.2).mono ?_
  rintro e w2 ⟨d, rfl, hx2, hs2⟩
  have H := Lib.hid (And.intro (H0.out.1.trans hx2) (hs2.cast (show _ = diskP d ((DS.fresh n).run (l.take 0)) * (R0 * old w) by ac_rfl)))
  clear hx2 hs2 H0
  go_wp2_with fail
  go_loopw [11] (fun x wr => ∃ k : Nat, k ≤ l.length ∧ x = .int .i64 k ∧ Hid (Ext w wr ∧ Sat wr (diskP d ((DS.fresh n).run (l.take k)) * (R0 * old w)))) (fun x _ => l.length - (intOf x).toNat)
  case atStart => exact ⟨0, Nat.zero_le _, rfl, H.out⟩
  case round =>
    obtain ⟨k, hk, rfl, HR⟩ := hrel
    clear H
    have HG := Lib.hid (goes_run (DS.fresh n) (l.take k) (fun a ha => HL.out.wfs a (List.mem_of_mem_take ha)))
    have hq : ((DS.fresh n).run (l.take k)).q.length ≤ 1000 := by
      have := HG.out.q
      rw [List.length_take] at this
      have h2 : (DS.fresh n).q.length = 0 := rfl
      omega
    by_cases hlt : k < l.length
    · obtain ⟨a, b, off, ha, hwf, rfl, hx⟩ := ((HR.out.2.cast (show _ = (diskP d ((DS.fresh n).run (l.take k)) * R0) * old w by ac_rfl)).acts HL.out).get hlt rfl
      have e0 : wr.cell? ⟨b, off + k * 6, none⟩ = some (.int .i64 a.kind) := hx 0 _ rfl
      have e1 : wr.cell? ⟨b, off + k * 6 + 1, none⟩ = some (.int .i64 a.sector) := hx 1 _ rfl
      have e2 : wr.cell? ⟨b, off + k * 6 + 2, none⟩ = some (.int .i64 a.bytes) := hx 2 _ rfl
      have e3 : wr.cell? ⟨b, off + k * 6 + 3, none⟩ = some (.string a.text) := hx 3 _ rfl
      have e4 : wr.cell? ⟨b, off + k * 6 + 4, none⟩ = some (.bool a.odd) := hx 4 _ rfl
      have e5 : wr.cell? ⟨b, off + k * 6 + 5, none⟩ = some (.int .i64 a.after) := hx 5 _ rfl
      have HA := Lib.hid (And.intro ha (And.intro hwf (H1000.out a (List.mem_of_getElem? ha))))
      clear hx ha hwf
      go_wp2_with fail
      refine (do_any d _ a HA.out.2.1 HA.out.2.2 (by omega) _ _ HR.out.2).mono ?_
      rintro e w4 ⟨rfl, hx4, hs4⟩
      have H4 := Lib.hid (And.intro (HR.out.1.trans hx4) hs4)
      clear hx4 hs4 e0 e1 e2 e3 e4 e5
      go_wp2_with fail
      refine ⟨⟨k + 1, by omega, by go_num, ?_⟩, by simp [intOf]; omega⟩
      have := H4.out
      rw [← run_snoc] at this
      rw [List.take_add_one, HA.out.1]; exact this
    · have hkl : k = l.length := by omega
      rw [hkl, List.take_of_length_le (Nat.le_refl _)] at HR HG
      have hSn : ((DS.fresh n).run l).n = n := HG.out.n
      have hSo : ((DS.fresh n).run l).ok := HG.out.ok (DS.fresh_ok n hn1 hn2)
      have hSq : ((DS.fresh n).run l).q.length ≤ 60 := by
        have h1 := HG.out.q
        have h2 : (DS.fresh n).q.length = 0 := rfl
        omega
      clear hkl hq HG
      generalize (DS.fresh n).run l = S at *
      have HSN := Lib.hid hSn
      have HSO := Lib.hid hSo
      have H := HR
      clear hSn hSo HR
      go_wp2_with fail
      refine (start_any d S _ _ H.out.2).mono ?_
      rintro e wx ⟨rfl, hxx, hsx⟩
      have H' := Lib.hid (And.intro (H.out.1.trans hxx) (hsx.cast (show _ = diskP d S.start * (R0 * old w) by ac_rfl)))
      clear hxx hsx H; have H := H'; clear H'
      go_wp2_with fail
      refine (sync_any d S.start (by simp [DS.start]; omega) _ _ H.out.2).mono ?_
      rintro e wx ⟨rfl, hxx, hsx⟩
      have H' := Lib.hid (And.intro (H.out.1.trans hxx) (hsx.cast (show _ = diskP d S.start.sync.2 * (R0 * old w) by ac_rfl)))
      clear hxx hsx H; have H := H'; clear H'
      obtain ⟨hsy, hcalm⟩ := calm_of S HSO.out
      rw [hsy] at H ⊢
      simp only at H
      have hTn : S.start.flush.n = n := (goes_flush S.start).n.trans HSN.out
      clear hsy hSq HSO HSN
      generalize S.start.flush = T at *
      have HT := Lib.hid hcalm
      clear hcalm
      subst hTn
      have H' := Lib.hid (And.intro H.out.1 (show Sat _ (diskP d (T.with (pend T.n (m.take 0))) * (R0 * old w)) from by
        rw [show T.with (pend T.n (m.take 0)) = T from by have := HT.out.q; cases T; simp_all [DS.with, pend]]; exact H.out.2))
      clear H; have H := H'; clear H'
      go_wp2_with fail
      go_loopw [12, 13] (fun y z wr => ∃ k : Nat, k ≤ m.length ∧ z = .int .i64 k ∧ y = .int .i64 ((pend T.n (m.take k)).length : Int) ∧ (pend T.n (m.take k)).length ≤ x ∧ Hid (Ext w wr ∧ Sat wr (diskP d (T.with (pend T.n (m.take k))) * (R0 * old w)))) (fun _ z _ => m.length - (intOf z).toNat)
      case atStart => exact ⟨0, Nat.zero_le _, rfl, rfl, Nat.zero_le _, H.out⟩
      case round =>
        obtain ⟨j, hj, rfl, rfl, hqx, HR⟩ := hrel
        clear H
        have hq : (pend T.n (m.take j)).length ≤ 60 := Nat.le_trans (pend_len _ _) (by rw [List.length_take]; omega)
        by_cases hlt : j < m.length
        · by_cases hdone : (pend T.n (m.take j)).length < x
          · obtain ⟨a, b, off, ha, hwf, rfl, _⟩ := ((HR.out.2.cast (show _ = (diskP d (T.with (pend T.n (m.take j))) * R0) * old w by ac_rfl)).acts HM.out).get hlt rfl
            have hsn := pend_snoc T.n (m.take j) a
            have htk : m.take (j + 1) = m.take j ++ [a] := by rw [List.take_add_one, ha]; rfl
            rw [← htk] at hsn
            clear htk
            have hww := with_write HT.out (pend T.n (m.take j)) a
            have h100a := H1001.out a (List.mem_of_getElem? ha)
            have HA := Lib.hid ha
            have HS := Lib.hid (And.intro hsn hww)
            clear ha hwf hsn hww
            generalize pend T.n (m.take j) = q at *
            go_wp2_with fail
            have f0 := Lib.hid (((HR.out.2.drew.cast (show _ = (diskP d (T.with q) * R0) * old w by ac_rfl)).acts HM.out).six HA.out rfl)
            by_cases hg : good T.n a = true
            · have hww := HS.out.2
              rw [if_pos hg] at hww
              have hsn := HS.out.1
              rw [if_pos hg] at hsn
              have E := Lib.hid (And.intro hww hsn)
              clear hww hsn hg HS
              go_region_held3 (fun wx => wx.cell? ⟨b, off + j * 6, none⟩ = some (.int .i64 a.kind) ∧ wx.cell? ⟨b, off + j * 6 + 1, none⟩ = some (.int .i64 a.sector) ∧ wx.cell? ⟨b, off + j * 6 + 2, none⟩ = some (.int .i64 a.bytes) ∧ wx.cell? ⟨b, off + j * 6 + 3, none⟩ = some (.string a.text) ∧ wx.cell? ⟨b, off + j * 6 + 4, none⟩ = some (.bool a.odd) ∧ wx.cell? ⟨b, off + j * 6 + 5, none⟩ = some (.int .i64 a.after))
                (first | exact f0.out | exact f2.out | exact f3.out)
                (first
                  | (go_at_call 23; refine (text_any a h100a _).mono ?_; rintro e w2 ⟨rfl, hk2⟩; have H2 := Lib.hid (And.intro (HR.out.1.drew.trans hk2.ext) (HR.out.2.drew.kept hk2)); have f2 := Lib.hid (((H2.out.2.cast (show _ = (diskP d (T.with q) * R0) * old w by ac_rfl)).acts HM.out).six HA.out rfl); clear hk2)
                  | (go_at_call 22; have hwr := write_any d (T.with q) a.sector a.write (by show q.length < _; omega) _ _ H2.out.2; rw [E.out.1] at hwr; refine hwr.mono ?_; rintro e w3 ⟨rfl, hx3, hs3⟩; have H3 := Lib.hid (And.intro (H2.out.1.trans hx3) hs3); have f3 := Lib.hid (((H3.out.2.cast (show _ = (diskP d (T.with (q ++ [(a.sector.toNat, a.write)])) * R0) * old w by ac_rfl)).acts HM.out).six HA.out rfl); clear hx3 hs3 hwr))
              clear f0 f2 H2
              go_wp2_with fail
              refine ⟨⟨j + 1, by omega, by go_num, ?_, ?_, ?_⟩, by simp [intOf]; omega⟩
              · rw [E.out.2, List.length_append]; go_num
              · rw [E.out.2, List.length_append]; simp; omega
              · rw [E.out.2]; exact H3.out
            · have hww := HS.out.2
              rw [if_neg hg] at hww
              have hsn := HS.out.1
              rw [if_neg hg] at hsn
              have E := Lib.hid (And.intro hww hsn)
              clear hww hsn hg HS
              go_region_held3 (fun wx => wx.cell? ⟨b, off + j * 6, none⟩ = some (.int .i64 a.kind) ∧ wx.cell? ⟨b, off + j * 6 + 1, none⟩ = some (.int .i64 a.sector) ∧ wx.cell? ⟨b, off + j * 6 + 2, none⟩ = some (.int .i64 a.bytes) ∧ wx.cell? ⟨b, off + j * 6 + 3, none⟩ = some (.string a.text) ∧ wx.cell? ⟨b, off + j * 6 + 4, none⟩ = some (.bool a.odd) ∧ wx.cell? ⟨b, off + j * 6 + 5, none⟩ = some (.int .i64 a.after))
                (first | exact f0.out | exact f2.out | exact f3.out)
                (first
                  | (go_at_call 23; refine (text_any a h100a _).mono ?_; rintro e w2 ⟨rfl, hk2⟩; have H2 := Lib.hid (And.intro (HR.out.1.drew.trans hk2.ext) (HR.out.2.drew.kept hk2)); have f2 := Lib.hid (((H2.out.2.cast (show _ = (diskP d (T.with q) * R0) * old w by ac_rfl)).acts HM.out).six HA.out rfl); clear hk2)
                  | (go_at_call 22; have hwr := write_any d (T.with q) a.sector a.write (by show q.length < _; omega) _ _ H2.out.2; rw [E.out.1] at hwr; refine hwr.mono ?_; rintro e w3 ⟨rfl, hx3, hs3⟩; have H3 := Lib.hid (And.intro (H2.out.1.trans hx3) hs3); have f3 := Lib.hid (((H3.out.2.cast (show _ = (diskP d (T.with q) * R0) * old w by ac_rfl)).acts HM.out).six HA.out rfl); clear hx3 hs3 hwr))
              clear f0 f2 H2
              go_wp2_with fail
              refine ⟨⟨j + 1, by omega, by go_num, ?_, ?_, ?_⟩, by simp [intOf]; omega⟩
              · rw [E.out.2]
              · rw [E.out.2]; exact hqx
              · rw [E.out.2]; exact H3.out
          · have hV : (pend T.n m).take x = pend T.n (m.take j) := pend_take_eq T.n m j x (by omega)
            have H := HR
            clear HR
            have HV := Lib.hid hV
            clear hV
            generalize pend T.n (m.take j) = q at *
            go_wp2_with fail
            have hc := contents_any d (T.with q) HT.out.off (by show q.length ≤ _; omega) _ _ H.out.2
            refine hc.mono ?_
            rintro e wx ⟨va, rfl, hxx, hsx⟩
            have H' := Lib.hid (And.intro (H.out.1.trans hxx) hsx)
            clear hxx hsx H hc; have H := H'; clear H'
            go_wp2_with fail
            go_ret2
            exact ⟨va, d, rfl, H.out.1, by rw [HTV.out.2, HTV.out.1, HV.out]; exact H.out.2⟩
        · have hjm : j = m.length := by omega
          rw [hjm, List.take_of_length_le (Nat.le_refl _)] at HR hq hqx
          have hV : (pend T.n m).take x = pend T.n m := List.take_of_length_le (by omega)
          have HV := Lib.hid hV
          clear hjm hV
          generalize pend T.n m = q at *
          have H := HR
          clear HR
          go_wp2_with fail
          have hc := contents_any d (T.with q) HT.out.off (by show q.length ≤ _; omega) _ _ H.out.2
          refine hc.mono ?_
          rintro e wx ⟨va, rfl, hxx, hsx⟩
          have H' := Lib.hid (And.intro (H.out.1.trans hxx) hsx)
          clear hxx hsx H hc; have H := H'; clear H'
          go_wp2_with fail
          go_ret2
          exact ⟨va, d, rfl, H.out.1, by rw [HTV.out.2, HTV.out.1, HV.out]; exact H.out.2⟩
end Go.Proofs.Ytcjocajpnebecaa
