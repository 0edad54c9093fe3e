/-
  DiskMatchesReference, walked: it answers true, whatever the operations; all memory that was there is as it was. Its condition: the arguments read as data.
-/
import Derived.Test.YtcjocajpnebecaaR9
namespace Go.Proofs.Ytcjocajpnebecaa
open Go.RowKit

set_option maxRecDepth 100000 in
set_option maxHeartbeats 8000000 in
theorem diskMatchesReference_walk (r : Nat) (hr : r < 256) (s : Int) (lv : Value) (l : List AC) (w : World) (hl : actsAt w lv l) :
    Calls Try.prog 3 #[.int .u8 (r : Int), .int .i64 s, lv] w fun e w' => e = .returned (.bool true) ∧ Kept w w' := by
  have HL := Lib.hid hl
  obtain ⟨ao, cap, rfl, hlen, _⟩ := hl
  cases hok0 : okActs l with
  | false =>
    go_enter Try.func3, Try.ntmps3
    go_wp2_with fail
    refine (head_any _).mono ?_
    rintro e w1 ⟨rfl, hk1⟩
    go_wp2_with fail
    refine (ok_any _ l _ (HL.out.kept hk1.keep)).mono ?_
    rintro e w2 ⟨rfl, rfl⟩
    rw [hok0]
    go_wp2_with fail
    go_ret
    exact ⟨rfl, hk1⟩
  | true =>
    obtain ⟨h600, h1000⟩ := okActs_len hok0
    have H1000 := Lib.hid h1000
    have HOK0 := Lib.hid hok0
    clear h1000 hok0
    obtain ⟨n, hn⟩ : ∃ n, n = 1 + r % 12 := ⟨_, rfl⟩
    have hn1 : 1 ≤ n := by omega
    have hn2 : n ≤ 4000 := by omega
    have hn12 : n ≤ 12 := by omega
    have HN := Lib.hid hn
    clear hn
    go_enter Try.func3, Try.ntmps3
    go_wp2_with fail
    refine (head_any _).mono ?_
    rintro e w1 ⟨rfl, hk1⟩
    have H1 := Lib.hid (And.intro hk1.ext ((Sat.start w).kept hk1))
    go_wp2_with fail
    refine (ok_any _ l _ (HL.out.kept hk1.keep)).mono ?_
    rintro e w2 ⟨rfl, rfl⟩
    rw [HOK0.out]
    clear hk1
    go_upto_region 4 with fail
    go_cut [34] (fun v wx => v = .bool false ∧ Hid (Ext w wx ∧ Sat wx (old w)))
    case first =>
      by_cases g0 : s < 1
      · go_wp2_with fail
        refine (new_no s (.inl g0) _).mono ?_
        rintro e wx ⟨rfl, rfl⟩
        go_wp2_with fail
        go_meet
        exact ⟨rfl, H1.out⟩
      · by_cases g1 : 4000 < s
        · go_wp2_with fail
          refine (new_no s (.inr g1) _).mono ?_
          rintro e wx ⟨rfl, rfl⟩
          go_wp2_with fail
          go_meet
          exact ⟨rfl, H1.out⟩
        · obtain ⟨c, rfl⟩ : ∃ c : Nat, s = (c : Int) := ⟨s.toNat, by omega⟩
          go_wp2_with fail
          refine (new_yes c (by omega) (by omega) _ _ H1.out.2).mono ?_
          rintro e wx ⟨q, rfl, hxx, hsx⟩
          have H2 := Lib.hid (And.intro (H1.out.1.trans hxx) hsx)
          clear hxx hsx
          go_wp2_with fail
          go_meet
          refine ⟨?_, H2.out.1, H2.out.2.right⟩
          have e1 : decide ((c : Int) < 1) = false := by simpa using g0
          have e2 : decide ((4000 : Int) < (c : Int)) = false := by simpa using g1
          rw [e1, e2]; rfl
    case rest =>
      obtain ⟨rfl, H⟩ := hcut
      clear H1
      go_wp2_with fail
      refine (size_any r hr _).mono ?_
      rintro e wx ⟨rfl, rfl⟩
      rw [← HN.out]
      go_wp2_with fail
      refine (new_yes n hn1 hn2 _ _ H.out.2).mono ?_
      rintro e wx ⟨d, rfl, hxx, hsx⟩
      have H2 := Lib.hid (And.intro (H.out.1.trans hxx) hsx)
      clear hxx hsx H
      go_wp2_with fail
      refine (size_any r hr _).mono ?_
      rintro e wx ⟨rfl, rfl⟩
      rw [← HN.out]
      go_wp2_with fail
      refine (rnew_yes n hn1 hn2 _ _ H2.out.2).mono ?_
      rintro e wx ⟨m, rfl, hxx, hsx⟩
      have H := Lib.hid (And.intro (H2.out.1.trans hxx) (hsx.cast (show _ = diskP d (DS.fresh n) * (refP m (DS.fresh n) * old w) by ac_rfl)))
      clear hxx hsx H2
      go_wp2_with fail
      go_loopw [10] (fun x wr => ∃ k : Nat, k ≤ l.length ∧ x = .int .i64 k ∧ Hid (Ext w wr ∧ Sat wr (diskP d ((DS.fresh n).run (l.take k)) * (refP m ((DS.fresh n).run (l.take k)) * old w)))) (fun x _ => l.length - (intOf x).toNat)
      case atStart => exact ⟨0, Nat.zero_le _, rfl, H.out⟩
      case round =>
        obtain ⟨k, hk, rfl, HR⟩ := hrel
        clear H
        have HG := Lib.hid (goes_run (DS.fresh n) (l.take k) (fun a ha => HL.out.wfs a (List.mem_of_mem_take ha)))
        have hq : ((DS.fresh n).run (l.take k)).q.length ≤ 1000 := by
          have := HG.out.q
          rw [List.length_take] at this
          have h2 : (DS.fresh n).q.length = 0 := rfl
          omega
        by_cases hlt : k < l.length
        · obtain ⟨a, b, off, ha, hwf, rfl, _⟩ := ((HR.out.2.cast (show _ = (diskP d ((DS.fresh n).run (l.take k)) * refP m ((DS.fresh n).run (l.take k))) * old w by ac_rfl)).acts HL.out).get hlt rfl
          have HA := Lib.hid (And.intro ha (And.intro hwf (H1000.out a (List.mem_of_getElem? ha))))
          clear ha hwf
          obtain ⟨e0, e1, e2, e3, e4, e5⟩ := ((HR.out.2.cast (show _ = (diskP d ((DS.fresh n).run (l.take k)) * refP m ((DS.fresh n).run (l.take k))) * old w by ac_rfl)).acts HL.out).six HA.out.1 rfl
          go_wp2_with fail
          refine (do_any d _ a HA.out.2.1 HA.out.2.2 (by omega) _ _ HR.out.2).mono ?_
          rintro e w4 ⟨rfl, hx4, hs4⟩
          have H4 := Lib.hid (And.intro (HR.out.1.trans hx4) (hs4.cast (show _ = refP m ((DS.fresh n).run (l.take k)) * (diskP d (((DS.fresh n).run (l.take k)).act a).2 * old w) by ac_rfl)))
          clear hx4 hs4 e0 e1 e2 e3 e4 e5
          obtain ⟨e0, e1, e2, e3, e4, e5⟩ := ((H4.out.2.cast (show _ = (refP m ((DS.fresh n).run (l.take k)) * diskP d (((DS.fresh n).run (l.take k)).act a).2) * old w by ac_rfl)).acts HL.out).six HA.out.1 rfl
          go_wp2_with fail
          refine (want_any m _ a HA.out.2.1 HA.out.2.2 (by omega) _ _ H4.out.2).mono ?_
          rintro e w5 ⟨rfl, hx5, hs5⟩
          have H5 := Lib.hid (And.intro (H4.out.1.trans hx5) (hs5.cast (show _ = diskP d (((DS.fresh n).run (l.take k)).act a).2 * (refP m (((DS.fresh n).run (l.take k)).act a).2 * old w) by ac_rfl)))
          clear hx5 hs5 e0 e1 e2 e3 e4 e5
          rw [← run_snoc] at H5
          rw [show l.take k ++ [a] = l.take (k + 1) by rw [List.take_add_one, HA.out.1]; rfl] at H5
          generalize (((DS.fresh n).run (l.take k)).act a).1 = y at *
          have ht : (y.1.toList == y.1.toList) = true := by simp
          have ht2 : (y.2 != y.2) = false := by simp
          go_wp2_with fail
          exact ⟨⟨k + 1, by omega, by go_num, H5.out⟩, by simp [intOf]; omega⟩
        · have hkl : k = l.length := by omega
          rw [hkl, List.take_of_length_le (Nat.le_refl _)] at HR HG
          have hSn : ((DS.fresh n).run l).n = n := HG.out.n
          have hSq : ((DS.fresh n).run l).q.length ≤ 60 := by
            have h1 := HG.out.q
            have h2 : (DS.fresh n).q.length = 0 := rfl
            omega
          clear hkl hq HG
          generalize (DS.fresh n).run l = S at *
          have H := HR
          clear HR hSn
          go_wp2_with fail
          go_loopw [15] (fun x wr => ∃ k : Nat, k ≤ n ∧ x = .int .i64 k ∧ Hid (Ext w wr ∧ Sat wr (diskP d S * (refP m S * old w)))) (fun x _ => n - (intOf x).toNat)
          case atStart => exact ⟨0, Nat.zero_le _, rfl, H.out⟩
          case round =>
            obtain ⟨j, hj, rfl, HR⟩ := hrel
            clear H
            have H := HR
            clear HR
            go_wp2_with fail
            refine (size_any r hr _).mono ?_
            rintro e wx ⟨rfl, rfl⟩
            rw [← HN.out]
            by_cases hlt2 : j < n
            · go_wp2_with fail
              refine (read_any d S (j : Int) (by omega) _ _ H.out.2).mono ?_
              rintro e wx ⟨rfl, hkx⟩
              have H' := Lib.hid (And.intro (H.out.1.trans hkx.ext) ((H.out.2.kept hkx).cast (show _ = refP m S * (diskP d S * old w) by ac_rfl)))
              clear hkx H; have H := H'; clear H'
              go_wp2_with fail
              refine (rread_any m S (j : Int) (by omega) _ _ H.out.2).mono ?_
              rintro e wx ⟨rfl, hkx⟩
              have H' := Lib.hid (And.intro (H.out.1.trans hkx.ext) ((H.out.2.kept hkx).cast (show _ = diskP d S * (refP m S * old w) by ac_rfl)))
              clear hkx H; have H := H'; clear H'
              generalize S.read (j : Int) = y at *
              have ht : (y.1.toList == y.1.toList) = true := by simp
              have ht2 : (y.2 != y.2) = false := by simp
              go_wp2_with fail
              exact ⟨⟨j + 1, by omega, by go_num, H.out⟩, by simp [intOf]; omega⟩
            · go_wp2_with fail
              go_ret
              exact ⟨rfl, Kept.of_old (P := diskP d S * refP m S) H.out.1 (H.out.2.cast (by ac_rfl))⟩
end Go.Proofs.Ytcjocajpnebecaa
