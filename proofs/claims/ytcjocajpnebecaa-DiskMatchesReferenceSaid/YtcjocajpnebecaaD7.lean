/-
  DiskAll, walked: it answers true, whatever the operations; all memory that was there is as it was. Its condition: the arguments read as data.
-/
import Derived.Test.YtcjocajpnebecaaP1
import Derived.Test.YtcjocajpnebecaaH1
namespace Go.Proofs.Ytcjocajpnebecaa
open Go.RowKit

theorem okActs_len {l : List AC} (h : okActs l = true) : l.length ≤ 60 ∧ ∀ a ∈ l, a.text.size ≤ 100 := by
  simp only [okActs, Bool.and_eq_true, List.all_eq_true, decide_eq_true_eq] at h
  exact ⟨h.2, h.1⟩
/-- What the memory says of operation k. -/
theorem actsAt.get {w : World} {v : Value} {l : List AC} (h : actsAt w v l) {k : Nat} (hk : k < l.length) {ao : Option Addr} {cap : Nat} (hv : v = .slice ao l.length cap) :
    ∃ a b off, l[k]? = some a ∧ a.wf ∧ ao = some ⟨b, off, none⟩ ∧ ∀ (j : Nat) (x : Value), a.cells[j]? = some x → w.cell? ⟨b, off + k * 6 + j, none⟩ = some x := by
  obtain ⟨ao', cap', rfl, _, hc⟩ := h
  obtain ⟨rfl, rfl⟩ : ao' = ao ∧ cap' = cap := by simpa using hv
  obtain ⟨hwf, b, off, h1, h2⟩ := hc k _ (List.getElem?_eq_getElem hk)
  exact ⟨_, b, off, List.getElem?_eq_getElem hk, hwf, h1, h2⟩
theorem actsAt.wfs {w : World} {v : Value} {l : List AC} (h : actsAt w v l) : ∀ a ∈ l, a.wf := by
  obtain ⟨_, _, _, _, hc⟩ := h
  intro a ha
  obtain ⟨i, hi⟩ := List.getElem?_of_mem ha
  exact (hc i a hi).1
theorem Sat.acts {W w : World} {v : Value} {l : List AC} {P : HProp} (h : Sat w (P * old W)) (ha : actsAt W v l) : actsAt w v l :=
  ha.kept fun k o hk => by rw [h.swap.oldBlock (Array.getElem?_eq_some_iff.1 hk).1]; exact hk

set_option maxRecDepth 100000 in
set_option maxHeartbeats 4000000 in
theorem diskAll_walk (r : Nat) (hr : r < 256) (lv : Value) (l : List AC) (bytes more : Int) (w : World) (hl : actsAt w lv l) :
    Calls Try.prog 7 #[.int .u8 (r : Int), lv, .int .i64 bytes, .int .i64 more] w fun e w' => e = .returned (.bool true) ∧ Kept w w' := by
  have HL := Lib.hid hl
  obtain ⟨ao, cap, rfl, hlen, _⟩ := hl
  cases hok : okActs l with
  | false =>
    go_enter Try.func7, Try.ntmps7
    go_wp2_with fail
    refine (head_any _).mono ?_
    rintro e w1 ⟨rfl, hk1⟩
    go_wp2_with fail
    refine (ok_any _ l _ (HL.out.kept hk1.keep)).mono ?_
    rintro e w2 ⟨rfl, rfl⟩
    rw [hok]
    go_wp2_with fail
    go_ret
    exact ⟨rfl, hk1⟩
  | true =>
    obtain ⟨h60, h100⟩ := okActs_len hok
    have H100 := Lib.hid h100
    have HOK := Lib.hid hok
    clear h100 hok
    obtain ⟨n, hn⟩ : ∃ n, n = 1 + r % 12 := ⟨_, rfl⟩
    have hn1 : 1 ≤ n := by omega
    have hn2 : n ≤ 4000 := by omega
    have HN := Lib.hid hn
    clear hn
    go_enter Try.func7, Try.ntmps7
    go_wp2_with fail
    refine (head_any _).mono ?_
    rintro e w1 ⟨rfl, hk1⟩
    have H1 := Lib.hid (And.intro hk1.ext ((Sat.start w).kept hk1))
    go_wp2_with fail
    refine (ok_any _ l _ (HL.out.kept hk1.keep)).mono ?_
    rintro e w2 ⟨rfl, rfl⟩
    rw [HOK.out]
    clear hk1
    go_wp2_with fail
    refine (size_any r hr _).mono ?_
    rintro e w2 ⟨rfl, rfl⟩
    rw [← HN.out]
    go_wp2_with fail
    refine (new_yes n hn1 hn2 _ _ H1.out.2).mono ?_
    rintro e w2 ⟨da, rfl, hx2, hs2⟩
    have H2 := Lib.hid (And.intro (H1.out.1.trans hx2) hs2)
    clear hx2 hs2 H1
    go_wp2_with fail
    refine (new_yes n hn1 hn2 _ _ H2.out.2).mono ?_
    rintro e w3 ⟨db, rfl, hx2, hs2⟩
    have H3 := Lib.hid (And.intro (H2.out.1.trans hx2) (hs2.cast (show _ = diskP da (DS.fresh n) * (diskP db (DS.fresh n) * old w) by ac_rfl)))
    clear hx2 hs2 H2
    go_wp2_with fail
    go_loopw [13] (fun x wr => ∃ k : Nat, k ≤ l.length ∧ x = .int .i64 k ∧ Hid (Ext w wr ∧ Sat wr (diskP da ((DS.fresh n).run (l.take k)) * (diskP db ((DS.fresh n).run (l.take k)) * old w)))) (fun x _ => l.length - (intOf x).toNat)
    case atStart => exact ⟨0, Nat.zero_le _, rfl, H3.out⟩
    case round =>
      obtain ⟨k, hk, rfl, HR⟩ := hrel
      clear H3
      have HG := Lib.hid (goes_run (DS.fresh n) (l.take k) (fun a ha => HL.out.wfs a (List.mem_of_mem_take ha)))
      have hq : ((DS.fresh n).run (l.take k)).q.length ≤ 1000 := by
        have := HG.out.q
        rw [List.length_take] at this
        have h2 : (DS.fresh n).q.length = 0 := rfl
        omega
      by_cases hlt : k < l.length
      · obtain ⟨a, b, off, ha, hwf, rfl, hx⟩ := ((HR.out.2.cast (show _ = (diskP da ((DS.fresh n).run (l.take k)) * diskP db ((DS.fresh n).run (l.take k))) * old w by ac_rfl)).acts HL.out).get hlt rfl
        have e0 : wr.cell? ⟨b, off + k * 6, none⟩ = some (.int .i64 a.kind) := hx 0 _ rfl
        have e1 : wr.cell? ⟨b, off + k * 6 + 1, none⟩ = some (.int .i64 a.sector) := hx 1 _ rfl
        have e2 : wr.cell? ⟨b, off + k * 6 + 2, none⟩ = some (.int .i64 a.bytes) := hx 2 _ rfl
        have e3 : wr.cell? ⟨b, off + k * 6 + 3, none⟩ = some (.string a.text) := hx 3 _ rfl
        have e4 : wr.cell? ⟨b, off + k * 6 + 4, none⟩ = some (.bool a.odd) := hx 4 _ rfl
        have e5 : wr.cell? ⟨b, off + k * 6 + 5, none⟩ = some (.int .i64 a.after) := hx 5 _ rfl
        have HA := Lib.hid (And.intro ha (And.intro hwf (H100.out a (List.mem_of_getElem? ha))))
        have HX := Lib.hid hx
        clear hx ha hwf
        go_wp2_with fail
        refine (do_any da _ a HA.out.2.1 HA.out.2.2 (by omega) _ _ HR.out.2).mono ?_
        rintro e w4 ⟨rfl, hx4, hs4⟩
        have H4 := Lib.hid (And.intro (HR.out.1.trans hx4) (hs4.cast (show _ = diskP db ((DS.fresh n).run (l.take k)) * (diskP da (((DS.fresh n).run (l.take k)).act a).2 * old w) by ac_rfl)))
        clear hx4 hs4 e0 e1 e2 e3 e4 e5
        obtain ⟨a', b', off', ha', hwf', hao, hx'⟩ := ((H4.out.2.cast (show _ = (diskP db ((DS.fresh n).run (l.take k)) * diskP da (((DS.fresh n).run (l.take k)).act a).2) * old w by ac_rfl)).acts HL.out).get hlt rfl
        obtain rfl : a = a' := Option.some.inj (HA.out.1.symm.trans ha')
        obtain ⟨rfl, rfl⟩ : b = b' ∧ off = off' := by simpa using hao
        have e0 : w4.cell? ⟨b, off + k * 6, none⟩ = some (.int .i64 a.kind) := hx' 0 _ rfl
        have e1 : w4.cell? ⟨b, off + k * 6 + 1, none⟩ = some (.int .i64 a.sector) := hx' 1 _ rfl
        have e2 : w4.cell? ⟨b, off + k * 6 + 2, none⟩ = some (.int .i64 a.bytes) := hx' 2 _ rfl
        have e3 : w4.cell? ⟨b, off + k * 6 + 3, none⟩ = some (.string a.text) := hx' 3 _ rfl
        have e4 : w4.cell? ⟨b, off + k * 6 + 4, none⟩ = some (.bool a.odd) := hx' 4 _ rfl
        have e5 : w4.cell? ⟨b, off + k * 6 + 5, none⟩ = some (.int .i64 a.after) := hx' 5 _ rfl
        clear hx' ha' hwf' hao
        go_wp2_with fail
        refine (do_any db _ a HA.out.2.1 HA.out.2.2 (by omega) _ _ H4.out.2).mono ?_
        rintro e w5 ⟨rfl, hx5, hs5⟩
        have H5 := Lib.hid (And.intro (H4.out.1.trans hx5) (hs5.cast (show _ = diskP da (((DS.fresh n).run (l.take k)).act a).2 * (diskP db (((DS.fresh n).run (l.take k)).act a).2 * old w) by ac_rfl)))
        clear hx5 hs5 e0 e1 e2 e3 e4 e5
        go_wp2_with fail
        refine ⟨⟨k + 1, by omega, by go_num, ?_⟩, by simp [intOf]; omega⟩
        have := H5.out
        rw [← run_snoc] at this
        rw [List.take_add_one, HA.out.1]; exact this
      · -- behind the loop
        have hkl : k = l.length := by omega
        rw [hkl, List.take_of_length_le (Nat.le_refl _)] at HR HG
        have hSn : ((DS.fresh n).run l).n = n := HG.out.n
        have hSq : ((DS.fresh n).run l).q.length ≤ 60 := by
          have h1 := HG.out.q
          have h2 : (DS.fresh n).q.length = 0 := rfl
          omega
        clear hkl hq HG
        generalize (DS.fresh n).run l = S at *
        have HSN := Lib.hid hSn
        have H := HR
        have hlaw := all_law S hSq bytes more
        have HLAW := Lib.hid hlaw
        clear hlaw hSn HR
        have z1 : ∀ T : DS, T.q = [] → T.q.length ≤ 1000000 := fun T h => by rw [h]; simp
        go_wp2_with fail
        refine (start_any da S _ _ H.out.2).mono ?_
        rintro e wx ⟨rfl, hxx, hsx⟩
        have H' := Lib.hid (And.intro (H.out.1.trans hxx) (hsx.cast (show _ = diskP db S * (diskP da S.start * old w) by ac_rfl)))
        clear hxx hsx H; have H := H'; clear H'
        go_wp2_with fail
        refine (start_any db S _ _ H.out.2).mono ?_
        rintro e wx ⟨rfl, hxx, hsx⟩
        have H' := Lib.hid (And.intro (H.out.1.trans hxx) (hsx.cast (show _ = diskP da S.start * (diskP db S.start * old w) by ac_rfl)))
        clear hxx hsx H; have H := H'; clear H'
        go_wp2_with fail
        refine (fail_any da S.start 60 bytes (by simp [DS.start]; omega) _ _ H.out.2).mono ?_
        rintro e wx ⟨rfl, hxx, hsx⟩
        have H' := Lib.hid (And.intro (H.out.1.trans hxx) (hsx.cast (show _ = diskP da (S.start.fail 60 bytes) * (diskP db S.start * old w) by ac_rfl)))
        clear hxx hsx H; have H := H'; clear H'
        go_wp2_with fail
        refine (fail_any da (S.start.fail 60 bytes) more bytes (Nat.le_trans (goes_fail S.start 60 bytes).q (by simp [DS.start]; omega)) _ _ H.out.2).mono ?_
        rintro e wx ⟨rfl, hxx, hsx⟩
        have H' := Lib.hid (And.intro (H.out.1.trans hxx) (hsx.cast (show _ = diskP db S.start * (diskP da ((S.start.fail 60 bytes).fail more bytes) * old w) by ac_rfl)))
        clear hxx hsx H; have H := H'; clear H'
        go_wp2_with fail
        refine (sync_any db S.start (by simp [DS.start]; omega) _ _ H.out.2).mono ?_
        rintro e wx ⟨rfl, hxx, hsx⟩
        have H' := Lib.hid (And.intro (H.out.1.trans hxx) (hsx.cast (show _ = diskP db S.start.sync.2 * (diskP da ((S.start.fail 60 bytes).fail more bytes) * old w) by ac_rfl)))
        clear hxx hsx H; have H := H'; clear H'
        rw [HLAW.out.2]
        go_wp2_with fail
        refine (fail_any db S.start.sync.2 0 bytes (Nat.le_trans (goes_sync S.start).q (by simp [DS.start]; omega)) _ _ H.out.2).mono ?_
        rintro e wx ⟨rfl, hxx, hsx⟩
        have H' := Lib.hid (And.intro (H.out.1.trans hxx) (hsx.cast (show _ = diskP da ((S.start.fail 60 bytes).fail more bytes) * (diskP db (S.start.sync.2.fail 0 bytes) * old w) by ac_rfl)))
        clear hxx hsx H; have H := H'; clear H'
        go_wp2_with fail
        refine (start_any da _ _ _ H.out.2).mono ?_
        rintro e wx ⟨rfl, hxx, hsx⟩
        have H' := Lib.hid (And.intro (H.out.1.trans hxx) (hsx.cast (show _ = diskP db (S.start.sync.2.fail 0 bytes) * (diskP da ((S.start.fail 60 bytes).fail more bytes).start * old w) by ac_rfl)))
        clear hxx hsx H; have H := H'; clear H'
        go_wp2_with fail
        refine (start_any db _ _ _ H.out.2).mono ?_
        rintro e wx ⟨rfl, hxx, hsx⟩
        have H' := Lib.hid (And.intro (H.out.1.trans hxx) (hsx.cast (show _ = diskP da ((S.start.fail 60 bytes).fail more bytes).start * (diskP db (S.start.sync.2.fail 0 bytes).start * old w) by ac_rfl)))
        clear hxx hsx H; have H := H'; clear H'
        go_wp2_with fail
        refine (start_any da _ _ _ H.out.2).mono ?_
        rintro e wx ⟨rfl, hxx, hsx⟩
        have H' := Lib.hid (And.intro (H.out.1.trans hxx) (hsx.cast (show _ = diskP da ((S.start.fail 60 bytes).fail more bytes).start.start * (diskP db (S.start.sync.2.fail 0 bytes).start * old w) by ac_rfl)))
        clear hxx hsx H; have H := H'; clear H'
        go_wp2_with fail
        have hA : ((S.start.fail 60 bytes).fail more bytes).start.start.n = n := by
          show ((S.start.fail 60 bytes).fail more bytes).n = n
          rw [(goes_fail _ _ _).n, (goes_fail _ _ _).n]; exact HSN.out
        have hB : (S.start.sync.2.fail 0 bytes).start.n = n := by
          show (S.start.sync.2.fail 0 bytes).n = n
          rw [(goes_fail _ _ _).n, (goes_sync _).n]; exact HSN.out
        have qA : ((S.start.fail 60 bytes).fail more bytes).start.start.q.length ≤ 1000000 := Nat.le_trans ((goes_fail (S.start.fail 60 bytes) more bytes).q) (Nat.le_trans (goes_fail S.start 60 bytes).q (by simp [DS.start]; omega))
        have qB : (S.start.sync.2.fail 0 bytes).start.q.length ≤ 1000000 := Nat.le_trans ((goes_fail S.start.sync.2 0 bytes).q) (Nat.le_trans (goes_sync S.start).q (by simp [DS.start]; omega))
        have HE := Lib.hid HLAW.out.1
        have oA : ((S.start.fail 60 bytes).fail more bytes).start.start.off = false := rfl
        have oB : (S.start.sync.2.fail 0 bytes).start.off = false := rfl
        clear HLAW z1
        generalize ((S.start.fail 60 bytes).fail more bytes).start.start = A at *
        generalize (S.start.sync.2.fail 0 bytes).start = B at *
        have OA := Lib.hid oA
        have OB := Lib.hid oB
        have HB := Lib.hid hB
        subst hA
        clear oA oB hB
        refine (contents_any da A OA.out qA _ _ H.out.2).mono ?_
        rintro e wx ⟨va, rfl, hxx, hsx⟩
        have H' := Lib.hid (And.intro (H.out.1.trans hxx) (hsx.cast (show _ = diskP db B * (strRow va A.all * (diskP da A * old w)) by ac_rfl)))
        clear hxx hsx H; have H := H'; clear H'
        go_wp2_with fail
        have hcb := contents_any db B OB.out qB _ _ H.out.2
        rw [HB.out] at hcb
        refine (hcb).mono ?_
        rintro e wx ⟨vb, rfl, hxx, hsx⟩
        have H' := Lib.hid (And.intro (H.out.1.trans hxx) (hsx.cast (show _ = strRow va A.all * (strRow vb B.all * (diskP da A * (diskP db B * old w))) by ac_rfl)))
        clear hxx hsx H; have H := H'; clear H'
        go_wp2_with fail
        clear hcb
        refine (same_any va vb A.all B.all _ _ _ H.out.2 (H.out.2.cast (show _ = strRow vb B.all * (strRow va A.all * (diskP da A * (diskP db B * old w))) by ac_rfl))).mono ?_
        rintro e wx ⟨rfl, hkx⟩
        have H' := Lib.hid (And.intro (H.out.1.trans hkx.ext) (H.out.2.kept hkx))
        clear hkx H; have H := H'; clear H'
        have ht : decide (A.all = B.all) = true := by rw [HE.out]; simp
        rw [ht]
        clear ht
        go_wp2_with fail
        go_ret
        exact ⟨rfl, Kept.of_old (P := strRow va A.all * (strRow vb B.all * (diskP da A * diskP db B))) H.out.1 (H.out.2.cast (by ac_rfl))⟩
end Go.Proofs.Ytcjocajpnebecaa
