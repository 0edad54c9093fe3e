/-
  DiskArmed, walked: it answers true, whatever the operations; all memory that was there is as it was. Its condition: the arguments read as data.
-/
import Derived.Test.YtcjocajpnebecaaP3
import Derived.Test.YtcjocajpnebecaaD6
import Derived.Deep.QuietTactic
import Derived.BigQuiet
namespace Go.Proofs.Ytcjocajpnebecaa
open Go.RowKit

theorem settle_arm (S : DS) (x : Option (Int × Int × Int)) (l : List (Nat × ByteArray)) : ({ S with arm := x } : DS).settle l = { S.settle l with arm := x } := by
  unfold DS.settle
  induction l generalizing S with
  | nil => rfl
  | cons p l ih => exact ih (S.set p.1 p.2.data.toList)
theorem torn_arm (S : DS) (x : Option (Int × Int × Int)) (p : Option (Nat × ByteArray)) (b : Int) : ({ S with arm := x } : DS).torn p b = { S.torn p b with arm := x } := by
  unfold DS.torn
  cases p with
  | none => rfl
  | some p =>
    by_cases h : 0 < cut b 64
    · simp only [h, if_true]; rfl
    · simp only [h, if_false]
theorem fail_arm (S : DS) (x : Option (Int × Int × Int)) (w b : Int) (hoff : S.off = false) : ({ S with arm := x } : DS).fail w b = S.fail w b := by
  have h : ¬ S.off = true := by simp [hoff]
  show (if S.off = true then _ else _) = if S.off = true then _ else _
  rw [if_neg h, if_neg h, settle_arm S x, torn_arm _ x]; rfl
theorem flush_arm (S : DS) (x : Option (Int × Int × Int)) : ({ S with arm := x } : DS).flush = { S.flush with arm := x } := by
  unfold DS.flush; rw [settle_arm]
/-- How many calls are left. -/
def less (x : Int) : Int := if 0 < x then x - 1 else x
def armOf (x w b : Int) : Option (Int × Int × Int) := if 0 ≤ x then some (x, w, b) else none
theorem armed_eq (B : DS) (hoff : B.off = false) (x w b : Int) : B.armed x w b = { B with arm := armOf x w b } := by
  unfold DS.armed armOf
  rw [hoff]
  by_cases h : 0 ≤ x
  · simp only [h, if_true, Bool.false_eq_true, if_false]
  · simp only [h, if_false, Bool.false_eq_true]
theorem armed_count (B : DS) (hoff : B.off = false) (x w b : Int) : ({ B with arm := armOf x w b } : DS).count = if x = 0 then (19, B.fail w b) else (0, { B with arm := armOf (less x) w b }) := by
  rcases Int.lt_trichotomy x 0 with h | h | h
  · have e1 : armOf x w b = none := if_neg (by omega)
    have e2 : less x = x := if_neg (by omega)
    rw [e2, e1, if_neg (by omega)]; rfl
  · subst h
    have e1 : armOf 0 w b = some (0, w, b) := rfl
    rw [e1, if_pos rfl, ← fail_arm B (some (0, w, b)) w b hoff]; rfl
  · have e1 : armOf x w b = some (x, w, b) := if_pos (by omega)
    have e2 : less x = x - 1 := if_pos h
    have e3 : armOf (x - 1) w b = some (x - 1, w, b) := if_pos (by omega)
    rw [e2, e1, e3, if_neg (by omega)]
    show (if 0 < x then _ else _) = _
    rw [if_pos h]
theorem armed_sync (B : DS) (hoff : B.off = false) (left w b : Int) :
    (B.armed left w b).sync = if left = 0 then (19, B.fail w b) else (0, B.flush.armed (less left) w b) := by
  have ho : B.flush.off = false := by simp [DS.flush, (settle_n _ _).2.2.1, hoff]
  rw [armed_eq _ hoff, armed_eq _ ho]
  show (if B.off = true then _ else if ({ B with arm := armOf left w b } : DS).count.1 = 0 then _ else _) = _
  rw [if_neg (by simp [hoff]), armed_count _ hoff]
  by_cases h0 : left = 0
  · simp [h0]
  · simp [h0, flush_arm]
theorem armed_write (B : DS) (hoff : B.off = false) (left w b : Int) (s : Int) (t : ByteArray) (hg : (B.valid s && decide (t.size = 64)) = true) :
    (B.armed left w b).write s t = if left = 0 then (19, ({ B with q := B.q ++ [(s.toNat, t)] } : DS).fail w b) else (0, ({ B with q := B.q ++ [(s.toNat, t)] } : DS).armed (less left) w b) := by
  have ho : ({ B with q := B.q ++ [(s.toNat, t)] } : DS).off = false := hoff
  rw [armed_eq _ hoff, armed_eq _ ho]
  show (if B.off = true then _ else if (B.valid s && decide (t.size = 64)) = true then _ else _) = _
  rw [if_neg (by simp [hoff]), if_pos hg]
  exact armed_count { B with q := B.q ++ [(s.toNat, t)] } ho left w b
theorem armed_bad (B : DS) (hoff : B.off = false) (left w b : Int) (s : Int) (t : ByteArray) (hg : ¬ (B.valid s && decide (t.size = 64)) = true) :
    (B.armed left w b).write s t = (1, B.armed left w b) := by
  rw [armed_eq _ hoff]
  show (if B.off = true then _ else if (B.valid s && decide (t.size = 64)) = true then _ else _) = _
  rw [if_neg (by simp [hoff]), if_neg hg]
theorem plain_sync (B : DS) (hoff : B.off = false) (harm : B.arm = none) : B.sync = (0, B.flush) := by simp [DS.sync, DS.count, hoff, harm]
theorem armed_n (B : DS) (a w b : Int) : (B.armed a w b).n = B.n ∧ (B.armed a w b).q = B.q ∧ (B.armed a w b).st = B.st := by
  unfold DS.armed; split
  · exact ⟨rfl, rfl, rfl⟩
  · split <;> exact ⟨rfl, rfl, rfl⟩

set_option maxRecDepth 100000 in
set_option maxHeartbeats 8000000 in
theorem diskArmed_walk (r : Nat) (hr : r < 256) (lv : Value) (l : List AC) (mv : Value) (m : List AC) (after : Int) (hafter : after ≤ 9223372036854775807) (writes bytes : Int) (w : World) (hl : actsAt w lv l) (hm : actsAt w mv m) :
    Calls Try.prog 8 #[.int .u8 (r : Int), lv, mv, .int .i64 after, .int .i64 writes, .int .i64 bytes] w fun e w' => e = .returned (.bool true) ∧ Kept w w' := by
  have HL := Lib.hid hl
  obtain ⟨ao, cap, rfl, hlen, _⟩ := hl
  have HM := Lib.hid hm
  obtain ⟨bo, cbp, rfl, hlen2, _⟩ := hm
  cases hok0 : okActs l with
  | false =>
    go_enter Try.func8, Try.ntmps8
    go_wp2_with fail
    refine (head_any _).mono ?_
    rintro e w1 ⟨rfl, hk1⟩
    go_wp2_with fail
    refine (ok_any _ l _ (HL.out.kept hk1.keep)).mono ?_
    rintro e w2 ⟨rfl, rfl⟩
    rw [hok0]
    go_wp2_with fail
    go_ret
    exact ⟨rfl, hk1⟩
  | true =>
    obtain ⟨h600, h1000⟩ := okActs_len hok0
    have H1000 := Lib.hid h1000
    have HOK0 := Lib.hid hok0
    clear h1000 hok0
    cases hok1 : okActs m with
    | false =>
      go_enter Try.func8, Try.ntmps8
      go_wp2_with fail
      refine (head_any _).mono ?_
      rintro e w1 ⟨rfl, hk1⟩
      go_wp2_with fail
      refine (ok_any _ l _ (HL.out.kept hk1.keep)).mono ?_
      rintro e w2 ⟨rfl, rfl⟩
      rw [HOK0.out]
      go_wp2_with fail
      refine (ok_any _ m _ (HM.out.kept hk1.keep)).mono ?_
      rintro e w2 ⟨rfl, rfl⟩
      rw [hok1]
      go_wp2_with fail
      go_ret
      exact ⟨rfl, hk1⟩
    | true =>
      obtain ⟨h601, h1001⟩ := okActs_len hok1
      have H1001 := Lib.hid h1001
      have HOK1 := Lib.hid hok1
      clear h1001 hok1
      obtain ⟨n, hn⟩ : ∃ n, n = 1 + r % 12 := ⟨_, rfl⟩
      have hn1 : 1 ≤ n := by omega
      have hn2 : n ≤ 4000 := by omega
      have hn12 : n ≤ 12 := by omega
      have HN := Lib.hid hn
      clear hn
      go_enter Try.func8, Try.ntmps8
      go_wp2_with fail
      refine (head_any _).mono ?_
      rintro e w1 ⟨rfl, hk1⟩
      have H1 := Lib.hid (And.intro hk1.ext ((Sat.start w).kept hk1))
      go_wp2_with fail
      refine (ok_any _ l _ (HL.out.kept hk1.keep)).mono ?_
      rintro e w2 ⟨rfl, rfl⟩
      rw [HOK0.out]
      go_wp2_with fail
      refine (ok_any _ m _ (HM.out.kept hk1.keep)).mono ?_
      rintro e w2 ⟨rfl, rfl⟩
      rw [HOK1.out]
      clear hk1
      go_wp2_with fail
      refine (size_any r hr _).mono ?_
      rintro e w2 ⟨rfl, rfl⟩
      rw [← HN.out]
      go_wp2_with fail
      refine (new_yes n hn1 hn2 _ _ H1.out.2).mono ?_
      rintro e w2 ⟨da, rfl, hx2, hs2⟩
      have H2 := Lib.hid (And.intro (H1.out.1.trans hx2) (hs2.cast (show _ = diskP da (DS.fresh n) * old w by ac_rfl)))
      clear hx2 hs2 H1
      go_wp2_with fail
      refine (new_yes n hn1 hn2 _ _ H2.out.2).mono ?_
      rintro e w2 ⟨db, rfl, hx2, hs2⟩
      have H := Lib.hid (And.intro (H2.out.1.trans hx2) (hs2.cast (show _ = diskP da (DS.fresh n) * (diskP db (DS.fresh n) * old w) by ac_rfl)))
      clear hx2 hs2 H2
      go_wp2_with fail
      go_loopw [17] (fun x wr => ∃ k : Nat, k ≤ l.length ∧ x = .int .i64 k ∧ Hid (Ext w wr ∧ Sat wr (diskP da ((DS.fresh n).run (l.take k)) * (diskP db ((DS.fresh n).run (l.take k)) * old w)))) (fun x _ => l.length - (intOf x).toNat)
      case atStart => exact ⟨0, Nat.zero_le _, rfl, H.out⟩
      case round =>
        obtain ⟨k, hk, rfl, HR⟩ := hrel
        clear H
        have HG := Lib.hid (goes_run (DS.fresh n) (l.take k) (fun a ha => HL.out.wfs a (List.mem_of_mem_take ha)))
        have hq : ((DS.fresh n).run (l.take k)).q.length ≤ 1000 := by
          have := HG.out.q
          rw [List.length_take] at this
          have h2 : (DS.fresh n).q.length = 0 := rfl
          omega
        by_cases hlt : k < l.length
        · obtain ⟨a, b, off, ha, hwf, rfl, _⟩ := ((HR.out.2.cast (show _ = (diskP da ((DS.fresh n).run (l.take k)) * diskP db ((DS.fresh n).run (l.take k))) * old w by ac_rfl)).acts HL.out).get hlt rfl
          have HA := Lib.hid (And.intro ha (And.intro hwf (H1000.out a (List.mem_of_getElem? ha))))
          clear ha hwf
          obtain ⟨e0, e1, e2, e3, e4, e5⟩ := ((HR.out.2.cast (show _ = (diskP da ((DS.fresh n).run (l.take k)) * diskP db ((DS.fresh n).run (l.take k))) * old w by ac_rfl)).acts HL.out).six HA.out.1 rfl
          go_wp2_with fail
          refine (do_any da _ a HA.out.2.1 HA.out.2.2 (by omega) _ _ HR.out.2).mono ?_
          rintro e w4 ⟨rfl, hx4, hs4⟩
          have H4 := Lib.hid (And.intro (HR.out.1.trans hx4) (hs4.cast (show _ = diskP db ((DS.fresh n).run (l.take k)) * (diskP da (((DS.fresh n).run (l.take k)).act a).2 * old w) by ac_rfl)))
          clear hx4 hs4 e0 e1 e2 e3 e4 e5
          obtain ⟨e0, e1, e2, e3, e4, e5⟩ := ((H4.out.2.cast (show _ = (diskP db ((DS.fresh n).run (l.take k)) * diskP da (((DS.fresh n).run (l.take k)).act a).2) * old w by ac_rfl)).acts HL.out).six HA.out.1 rfl
          go_wp2_with fail
          refine (do_any db _ a HA.out.2.1 HA.out.2.2 (by omega) _ _ H4.out.2).mono ?_
          rintro e w5 ⟨rfl, hx5, hs5⟩
          have H5 := Lib.hid (And.intro (H4.out.1.trans hx5) (hs5.cast (show _ = diskP da (((DS.fresh n).run (l.take k)).act a).2 * (diskP db (((DS.fresh n).run (l.take k)).act a).2 * old w) by ac_rfl)))
          clear hx5 hs5 e0 e1 e2 e3 e4 e5
          go_wp2_with fail
          refine ⟨⟨k + 1, by omega, by go_num, ?_⟩, by simp [intOf]; omega⟩
          have := H5.out
          rw [← run_snoc] at this
          rw [List.take_add_one, HA.out.1]; exact this
        · have hkl : k = l.length := by omega
          rw [hkl, List.take_of_length_le (Nat.le_refl _)] at HR HG
          have hSn : ((DS.fresh n).run l).n = n := HG.out.n
          have hSq : ((DS.fresh n).run l).q.length ≤ 60 := by
            have h1 := HG.out.q
            have h2 : (DS.fresh n).q.length = 0 := rfl
            omega
          clear hkl hq HG
          generalize (DS.fresh n).run l = S at *
          have H := HR
          clear HR
          go_wp2_with fail
          refine (start_any da S _ _ H.out.2).mono ?_
          rintro e wx ⟨rfl, hxx, hsx⟩
          have H' := Lib.hid (And.intro (H.out.1.trans hxx) (hsx.cast (show _ = diskP db S * (diskP da S.start * old w) by ac_rfl)))
          clear hxx hsx H; have H := H'; clear H'
          go_wp2_with fail
          refine (start_any db S _ _ H.out.2).mono ?_
          rintro e wx ⟨rfl, hxx, hsx⟩
          have H' := Lib.hid (And.intro (H.out.1.trans hxx) (hsx.cast (show _ = diskP da S.start * (diskP db S.start * old w) by ac_rfl)))
          clear hxx hsx H; have H := H'; clear H'
          go_wp2_with fail
          have hTn : S.start.n = n := hSn
          have hTq : S.start.q.length ≤ 60 := hSq
          have hTo : S.start.off = false := rfl
          have hTa : S.start.arm = none := rfl
          clear hSn hSq
          generalize S.start = T at *
          subst hTn
          refine (arm_any da T after writes bytes hafter _ _ H.out.2).mono ?_
          rintro e wx ⟨rfl, hxx, hsx⟩
          have H' := Lib.hid (And.intro (H.out.1.trans hxx) (hsx.cast (show _ = diskP da (T.armed after writes bytes) * (diskP db T * old w) by ac_rfl)))
          clear hxx hsx H; have H := H'; clear H'
          go_wp2_with fail
          have HT := Lib.hid (And.intro hTo hTa)
          clear hTo hTa
          generalize hN : T.n = N at *
          have HNN := Lib.hid hN
          clear hN
          go_loopw [18, 19] (fun u z wr => ∃ (k : Nat) (left : Int) (B : DS), k ≤ m.length ∧ z = .int .i64 k ∧ u = .int .i64 left ∧ left ≤ after ∧ (after < 0 → left = after) ∧ (0 ≤ after → 0 ≤ left) ∧ B.q.length ≤ 60 + k ∧ Hid (B.off = false ∧ B.arm = none ∧ B.n = N) ∧ Hid (Ext w wr ∧ Sat wr (diskP da (B.armed left writes bytes) * (diskP db B * old w)))) (fun _ z _ => m.length - (intOf z).toNat)
          case atStart => exact ⟨0, after, T, Nat.zero_le _, rfl, rfl, Int.le_refl _, fun _ => rfl, fun h => h, by omega, ⟨HT.out.1, HT.out.2, HNN.out⟩, H.out⟩
          case round =>
            obtain ⟨j, left, B, hj, rfl, rfl, hla, hlneg, hlpos, hBq, HB, HR⟩ := hrel
            clear H
            by_cases hlt : j < m.length
            · obtain ⟨a, b, off, ha, hwf, rfl, _⟩ := ((HR.out.2.cast (show _ = (diskP da (B.armed left writes bytes) * diskP db B) * old w by ac_rfl)).acts HM.out).get hlt rfl
              have h100a := H1001.out a (List.mem_of_getElem? ha)
              have HA := Lib.hid ha
              clear ha hwf
              obtain ⟨e0, e1, e2, e3, e4, e5⟩ := ((HR.out.2.cast (show _ = (diskP da (B.armed left writes bytes) * diskP db B) * old w by ac_rfl)).acts HM.out).six HA.out rfl
              by_cases hk2 : a.kind = 2
              · rw [hk2] at e0
                clear hk2
                have hbs := plain_sync B HB.out.1 HB.out.2.1
                have has := armed_sync B HB.out.1 left writes bytes
                rcases Int.lt_trichotomy left 0 with h0 | h0 | h0
                · have H := HR
                  clear HR
                  have hls : less left = left := by unfold less; rw [if_neg (by omega)]
                  rw [if_neg (by omega), hls] at has
                  have hlf : (left == 0) = false := by simp; omega
                  have EB := Lib.hid (And.intro has hbs)
                  clear has hbs hls
                  have H' := Lib.hid (And.intro H.out.1 (H.out.2.cast (show _ = diskP db B * (diskP da (B.armed left writes bytes) * old w) by ac_rfl)))
                  clear H; have H := H'; clear H'
                  go_wp2_with fail
                  clear e0 e1 e2 e3 e4 e5
                  have hsy := sync_any db B (by omega) _ _ H.out.2
                  rw [EB.out.2] at hsy
                  refine hsy.mono ?_
                  rintro e wx ⟨rfl, hxx, hsx⟩
                  have H' := Lib.hid (And.intro (H.out.1.trans hxx) (hsx.cast (show _ = diskP da (B.armed left writes bytes) * (diskP db B.flush * old w) by ac_rfl)))
                  clear hxx hsx hsy H; have H := H'; clear H'
                  go_wp2_with fail
                  have hsy := sync_any da (B.armed left writes bytes) (by rw [(armed_n _ _ _ _).2.1]; omega) _ _ H.out.2
                  rw [EB.out.1] at hsy
                  refine hsy.mono ?_
                  rintro e wx ⟨rfl, hxx, hsx⟩
                  have H' := Lib.hid (And.intro (H.out.1.trans hxx) hsx)
                  clear hxx hsx hsy EB H; have H := H'; clear H'
                  go_wp2_with fail
                  refine ⟨⟨j + 1, left, B.flush, by omega, by go_num, by first | rfl | go_num, by omega, by omega, by omega, by simp [DS.flush], ?_, H.out⟩, by simp [intOf]; omega⟩
                  exact ⟨by simp [DS.flush, (settle_n _ _).2.2.1, HB.out.1], by simp [DS.flush, (settle_n _ _).2.2.2, HB.out.2.1], (goes_flush B).n.trans HB.out.2.2⟩
                · subst h0
                  have H := HR
                  clear HR
                  rw [if_pos rfl] at has
                  have EB := Lib.hid has
                  clear has hbs
                  have H' := Lib.hid (And.intro H.out.1 (H.out.2.cast (show _ = diskP db B * (diskP da (B.armed 0 writes bytes) * old w) by ac_rfl)))
                  clear H; have H := H'; clear H'
                  go_wp2_with fail
                  clear e0 e1 e2 e3 e4 e5
                  refine (fail_any db B writes bytes (by omega) _ _ H.out.2).mono ?_
                  rintro e wx ⟨rfl, hxx, hsx⟩
                  have H' := Lib.hid (And.intro (H.out.1.trans hxx) (hsx.cast (show _ = diskP da (B.armed 0 writes bytes) * (diskP db (B.fail writes bytes) * old w) by ac_rfl)))
                  clear hxx hsx H; have H := H'; clear H'
                  go_wp2_with fail
                  have hsy := sync_any da (B.armed 0 writes bytes) (by rw [(armed_n _ _ _ _).2.1]; omega) _ _ H.out.2
                  rw [EB.out] at hsy
                  refine hsy.mono ?_
                  rintro e wx ⟨rfl, hxx, hsx⟩
                  have H' := Lib.hid (And.intro (H.out.1.trans hxx) hsx)
                  clear hxx hsx hsy EB H; have H := H'; clear H'
                  have hXn : (B.fail writes bytes).start.n = N := (fail_n _ _ _).trans HB.out.2.2
                  have hAq : (B.fail writes bytes).start.q.length ≤ 1000000 := Nat.le_trans (goes_fail _ writes bytes).q (by simp; omega)
                  have hBq2 := hAq
                  have HFIN := Lib.hid (And.intro (rfl : (B.fail writes bytes).start.all = (B.fail writes bytes).start.all) (And.intro hXn hXn))
                  clear hXn
                  have hneg : ¬ after < 0 := by omega
                  clear hlneg hlpos
                  go_wp2_with fail
                  refine (start_any da (B.fail writes bytes) _ _ H.out.2).mono ?_
                  rintro e wx ⟨rfl, hxx, hsx⟩
                  have H' := Lib.hid (And.intro (H.out.1.trans hxx) (hsx.cast (show _ = diskP db (B.fail writes bytes) * (diskP da (B.fail writes bytes).start * old w) by ac_rfl)))
                  clear hxx hsx H; have H := H'; clear H'
                  go_wp2_with fail
                  refine (start_any db (B.fail writes bytes) _ _ H.out.2).mono ?_
                  rintro e wx ⟨rfl, hxx, hsx⟩
                  have H' := Lib.hid (And.intro (H.out.1.trans hxx) (hsx.cast (show _ = diskP da (B.fail writes bytes).start * (diskP db (B.fail writes bytes).start * old w) by ac_rfl)))
                  clear hxx hsx H; have H := H'; clear H'
                  go_wp2_with fail
                  have oA : (B.fail writes bytes).start.off = false := rfl
                  have oB : (B.fail writes bytes).start.off = false := rfl
                  have hca := fun R wz hz => contents_any da (B.fail writes bytes).start oA hAq R wz hz
                  have hcb := fun R wz hz => contents_any db (B.fail writes bytes).start oB hBq2 R wz hz
                  rw [HFIN.out.2.1] at hca
                  rw [HFIN.out.2.2] at hcb
                  have HCA := Lib.hid hca
                  have HCB := Lib.hid hcb
                  clear oA oB hca hcb hAq hBq2
                  refine (HCA.out _ _ H.out.2).mono ?_
                  rintro e wx ⟨va, rfl, hxx, hsx⟩
                  have H' := Lib.hid (And.intro (H.out.1.trans hxx) (hsx.cast (show _ = diskP db (B.fail writes bytes).start * (strRow va (B.fail writes bytes).start.all * (diskP da (B.fail writes bytes).start * old w)) by ac_rfl)))
                  clear hxx hsx H; have H := H'; clear H'
                  go_wp2_with fail
                  refine (HCB.out _ _ H.out.2).mono ?_
                  rintro e wx ⟨vb, rfl, hxx, hsx⟩
                  have H' := Lib.hid (And.intro (H.out.1.trans hxx) (hsx.cast (show _ = strRow va (B.fail writes bytes).start.all * (strRow vb (B.fail writes bytes).start.all * (diskP da (B.fail writes bytes).start * (diskP db (B.fail writes bytes).start * old w))) by ac_rfl)))
                  clear hxx hsx H; have H := H'; clear H'
                  go_wp2_with fail
                  clear HCA HCB
                  refine (same_any va vb (B.fail writes bytes).start.all (B.fail writes bytes).start.all _ _ _ H.out.2 (H.out.2.cast (show _ = strRow vb (B.fail writes bytes).start.all * (strRow va (B.fail writes bytes).start.all * (diskP da (B.fail writes bytes).start * (diskP db (B.fail writes bytes).start * old w))) by ac_rfl))).mono ?_
                  rintro e wx ⟨rfl, hkx⟩
                  have H' := Lib.hid (And.intro (H.out.1.trans hkx.ext) (H.out.2.kept hkx))
                  clear hkx H; have H := H'; clear H'
                  rw [show decide ((B.fail writes bytes).start.all = (B.fail writes bytes).start.all) = true from by simp]
                  go_wp2_with fail
                  go_ret
                  exact ⟨rfl, Kept.of_old (P := strRow va (B.fail writes bytes).start.all * (strRow vb (B.fail writes bytes).start.all * (diskP da (B.fail writes bytes).start * diskP db (B.fail writes bytes).start))) H.out.1 (H.out.2.cast (by ac_rfl))⟩
                · have H := HR
                  clear HR
                  have hls : less left = (left - 1) := by unfold less; rw [if_pos (by omega)]
                  rw [if_neg (by omega), hls] at has
                  have hlf : (left == 0) = false := by simp; omega
                  have EB := Lib.hid (And.intro has hbs)
                  clear has hbs hls
                  have H' := Lib.hid (And.intro H.out.1 (H.out.2.cast (show _ = diskP db B * (diskP da (B.armed left writes bytes) * old w) by ac_rfl)))
                  clear H; have H := H'; clear H'
                  go_wp2_with fail
                  clear e0 e1 e2 e3 e4 e5
                  have hsy := sync_any db B (by omega) _ _ H.out.2
                  rw [EB.out.2] at hsy
                  refine hsy.mono ?_
                  rintro e wx ⟨rfl, hxx, hsx⟩
                  have H' := Lib.hid (And.intro (H.out.1.trans hxx) (hsx.cast (show _ = diskP da (B.armed left writes bytes) * (diskP db B.flush * old w) by ac_rfl)))
                  clear hxx hsx hsy H; have H := H'; clear H'
                  go_wp2_with fail
                  have hsy := sync_any da (B.armed left writes bytes) (by rw [(armed_n _ _ _ _).2.1]; omega) _ _ H.out.2
                  rw [EB.out.1] at hsy
                  refine hsy.mono ?_
                  rintro e wx ⟨rfl, hxx, hsx⟩
                  have H' := Lib.hid (And.intro (H.out.1.trans hxx) hsx)
                  clear hxx hsx hsy EB H; have H := H'; clear H'
                  go_wp2_with fail
                  refine ⟨⟨j + 1, (left - 1), B.flush, by omega, by go_num, by first | rfl | go_num, by omega, by omega, by omega, by simp [DS.flush], ?_, H.out⟩, by simp [intOf]; omega⟩
                  exact ⟨by simp [DS.flush, (settle_n _ _).2.2.1, HB.out.1], by simp [DS.flush, (settle_n _ _).2.2.2, HB.out.2.1], (goes_flush B).n.trans HB.out.2.2⟩
              · have hkf : (a.kind == 2) = false := by simpa using hk2
                clear hk2
                by_cases hg : (B.valid a.sector && decide (a.write.size = 64)) = true
                · have hbw := write_start B HB.out.1 HB.out.2.1 a.sector a.write
                  rw [if_pos hg] at hbw
                  have haw := armed_write B HB.out.1 left writes bytes a.sector a.write hg
                  clear hg
                  rcases Int.lt_trichotomy left 0 with h0 | h0 | h0
                  · have H := HR
                    clear HR
                    have hls : less left = left := by unfold less; rw [if_neg (by omega)]
                    rw [if_neg (by omega), hls] at haw
                    clear hls
                    have hlf : (left == 0) = false := by simp; omega
                    have EB := Lib.hid (And.intro haw hbw)
                    clear haw hbw
                    have H' := Lib.hid (And.intro H.out.1 (H.out.2.cast (show _ = diskP db B * (diskP da (B.armed left writes bytes) * old w) by ac_rfl)))
                    clear H; have H := H'; clear H'
                    go_wp2_with fail
                    clear e0 e1 e2 e3 e4 e5
                    have f0 := Lib.hid (((H.out.2.drew.cast (show _ = (diskP db B * diskP da (B.armed left writes bytes)) * old w by ac_rfl)).acts HM.out).six HA.out rfl)
                    go_region_held3 (fun wx => wx.cell? ⟨b, off + j * 6, none⟩ = some (.int .i64 a.kind) ∧ wx.cell? ⟨b, off + j * 6 + 1, none⟩ = some (.int .i64 a.sector) ∧ wx.cell? ⟨b, off + j * 6 + 2, none⟩ = some (.int .i64 a.bytes) ∧ wx.cell? ⟨b, off + j * 6 + 3, none⟩ = some (.string a.text) ∧ wx.cell? ⟨b, off + j * 6 + 4, none⟩ = some (.bool a.odd) ∧ wx.cell? ⟨b, off + j * 6 + 5, none⟩ = some (.int .i64 a.after))
                      (first | exact f0.out | exact f2.out | exact f3.out)
                      (first
                        | (go_at_call 23; refine (text_any a h100a _).mono ?_; rintro e w2 ⟨rfl, hk2⟩; have H2 := Lib.hid (And.intro (H.out.1.drew.trans hk2.ext) (H.out.2.drew.kept hk2)); have f2 := Lib.hid (((H2.out.2.cast (show _ = (diskP db B * diskP da (B.armed left writes bytes)) * old w by ac_rfl)).acts HM.out).six HA.out rfl); clear hk2)
                        | (go_at_call 22; have hwr := write_any db B a.sector a.write (by omega) _ _ H2.out.2; rw [EB.out.2] at hwr; refine hwr.mono ?_; rintro e w3 ⟨rfl, hx3, hs3⟩; have H3 := Lib.hid (And.intro (H2.out.1.trans hx3) hs3); have f3 := Lib.hid (((H3.out.2.cast (show _ = (diskP db ({ B with q := B.q ++ [(a.sector.toNat, a.write)] } : DS) * diskP da (B.armed left writes bytes)) * old w by ac_rfl)).acts HM.out).six HA.out rfl); clear hx3 hs3 hwr))
                    clear f0 f2 f3 H2 H
                    have H := H3
                    clear H3
                    have H' := Lib.hid (And.intro H.out.1 (H.out.2.cast (show _ = diskP da (B.armed left writes bytes) * (diskP db ({ B with q := B.q ++ [(a.sector.toNat, a.write)] } : DS) * old w) by ac_rfl)))
                    clear H; have H := H'; clear H'
                    go_wp2_with fail
                    have f0 := Lib.hid (((H.out.2.drew.cast (show _ = (diskP da (B.armed left writes bytes) * diskP db ({ B with q := B.q ++ [(a.sector.toNat, a.write)] } : DS)) * old w by ac_rfl)).acts HM.out).six HA.out rfl)
                    go_region_held3 (fun wx => wx.cell? ⟨b, off + j * 6, none⟩ = some (.int .i64 a.kind) ∧ wx.cell? ⟨b, off + j * 6 + 1, none⟩ = some (.int .i64 a.sector) ∧ wx.cell? ⟨b, off + j * 6 + 2, none⟩ = some (.int .i64 a.bytes) ∧ wx.cell? ⟨b, off + j * 6 + 3, none⟩ = some (.string a.text) ∧ wx.cell? ⟨b, off + j * 6 + 4, none⟩ = some (.bool a.odd) ∧ wx.cell? ⟨b, off + j * 6 + 5, none⟩ = some (.int .i64 a.after))
                      (first | exact f0.out | exact f2.out | exact f3.out)
                      (first
                        | (go_at_call 23; refine (text_any a h100a _).mono ?_; rintro e w2 ⟨rfl, hk2⟩; have H2 := Lib.hid (And.intro (H.out.1.drew.trans hk2.ext) (H.out.2.drew.kept hk2)); have f2 := Lib.hid (((H2.out.2.cast (show _ = (diskP da (B.armed left writes bytes) * diskP db ({ B with q := B.q ++ [(a.sector.toNat, a.write)] } : DS)) * old w by ac_rfl)).acts HM.out).six HA.out rfl); clear hk2)
                        | (go_at_call 22; have hwr := write_any da (B.armed left writes bytes) a.sector a.write (by rw [(armed_n _ _ _ _).2.1]; omega) _ _ H2.out.2; rw [EB.out.1] at hwr; refine hwr.mono ?_; rintro e w3 ⟨rfl, hx3, hs3⟩; have H3 := Lib.hid (And.intro (H2.out.1.trans hx3) hs3); have f3 := Lib.hid (((H3.out.2.cast (show _ = (diskP da (({ B with q := B.q ++ [(a.sector.toNat, a.write)] } : DS).armed left writes bytes) * diskP db ({ B with q := B.q ++ [(a.sector.toNat, a.write)] } : DS)) * old w by ac_rfl)).acts HM.out).six HA.out rfl); clear hx3 hs3 hwr))
                    clear f0 f2 f3 H2 H
                    have H := H3
                    clear H3
                    clear EB
                    go_wp2_with fail
                    refine ⟨⟨j + 1, left, ({ B with q := B.q ++ [(a.sector.toNat, a.write)] } : DS), by omega, by go_num, by first | rfl | go_num, by omega, by omega, by omega, by simp; omega, ⟨HB.out.1, HB.out.2.1, HB.out.2.2⟩, H.out⟩, by simp [intOf]; omega⟩
                  · subst h0
                    have H := HR
                    clear HR
                    rw [if_pos rfl] at haw
                    have EB := Lib.hid (And.intro haw hbw)
                    clear haw hbw
                    have H' := Lib.hid (And.intro H.out.1 (H.out.2.cast (show _ = diskP db B * (diskP da (B.armed 0 writes bytes) * old w) by ac_rfl)))
                    clear H; have H := H'; clear H'
                    go_wp2_with fail
                    clear e0 e1 e2 e3 e4 e5
                    have f0 := Lib.hid (((H.out.2.drew.cast (show _ = (diskP db B * diskP da (B.armed 0 writes bytes)) * old w by ac_rfl)).acts HM.out).six HA.out rfl)
                    go_region_held3 (fun wx => wx.cell? ⟨b, off + j * 6, none⟩ = some (.int .i64 a.kind) ∧ wx.cell? ⟨b, off + j * 6 + 1, none⟩ = some (.int .i64 a.sector) ∧ wx.cell? ⟨b, off + j * 6 + 2, none⟩ = some (.int .i64 a.bytes) ∧ wx.cell? ⟨b, off + j * 6 + 3, none⟩ = some (.string a.text) ∧ wx.cell? ⟨b, off + j * 6 + 4, none⟩ = some (.bool a.odd) ∧ wx.cell? ⟨b, off + j * 6 + 5, none⟩ = some (.int .i64 a.after))
                      (first | exact f0.out | exact f2.out | exact f3.out)
                      (first
                        | (go_at_call 23; refine (text_any a h100a _).mono ?_; rintro e w2 ⟨rfl, hk2⟩; have H2 := Lib.hid (And.intro (H.out.1.drew.trans hk2.ext) (H.out.2.drew.kept hk2)); have f2 := Lib.hid (((H2.out.2.cast (show _ = (diskP db B * diskP da (B.armed 0 writes bytes)) * old w by ac_rfl)).acts HM.out).six HA.out rfl); clear hk2)
                        | (go_at_call 22; have hwr := write_any db B a.sector a.write (by omega) _ _ H2.out.2; rw [EB.out.2] at hwr; refine hwr.mono ?_; rintro e w3 ⟨rfl, hx3, hs3⟩; have H3 := Lib.hid (And.intro (H2.out.1.trans hx3) hs3); have f3 := Lib.hid (((H3.out.2.cast (show _ = (diskP db ({ B with q := B.q ++ [(a.sector.toNat, a.write)] } : DS) * diskP da (B.armed 0 writes bytes)) * old w by ac_rfl)).acts HM.out).six HA.out rfl); clear hx3 hs3 hwr))
                    clear f0 f2 f3 H2 H
                    have H := H3
                    clear H3
                    go_wp2_with fail
                    refine (fail_any db ({ B with q := B.q ++ [(a.sector.toNat, a.write)] } : DS) writes bytes (by simp; omega) _ _ H.out.2).mono ?_
                    rintro e wx ⟨rfl, hxx, hsx⟩
                    have H' := Lib.hid (And.intro (H.out.1.trans hxx) (hsx.cast (show _ = diskP da (B.armed 0 writes bytes) * (diskP db (({ B with q := B.q ++ [(a.sector.toNat, a.write)] } : DS).fail writes bytes) * old w) by ac_rfl)))
                    clear hxx hsx H; have H := H'; clear H'
                    go_wp2_with fail
                    have f0 := Lib.hid (((H.out.2.drew.cast (show _ = (diskP da (B.armed 0 writes bytes) * diskP db (({ B with q := B.q ++ [(a.sector.toNat, a.write)] } : DS).fail writes bytes)) * old w by ac_rfl)).acts HM.out).six HA.out rfl)
                    go_region_held3 (fun wx => wx.cell? ⟨b, off + j * 6, none⟩ = some (.int .i64 a.kind) ∧ wx.cell? ⟨b, off + j * 6 + 1, none⟩ = some (.int .i64 a.sector) ∧ wx.cell? ⟨b, off + j * 6 + 2, none⟩ = some (.int .i64 a.bytes) ∧ wx.cell? ⟨b, off + j * 6 + 3, none⟩ = some (.string a.text) ∧ wx.cell? ⟨b, off + j * 6 + 4, none⟩ = some (.bool a.odd) ∧ wx.cell? ⟨b, off + j * 6 + 5, none⟩ = some (.int .i64 a.after))
                      (first | exact f0.out | exact f2.out | exact f3.out)
                      (first
                        | (go_at_call 23; refine (text_any a h100a _).mono ?_; rintro e w2 ⟨rfl, hk2⟩; have H2 := Lib.hid (And.intro (H.out.1.drew.trans hk2.ext) (H.out.2.drew.kept hk2)); have f2 := Lib.hid (((H2.out.2.cast (show _ = (diskP da (B.armed 0 writes bytes) * diskP db (({ B with q := B.q ++ [(a.sector.toNat, a.write)] } : DS).fail writes bytes)) * old w by ac_rfl)).acts HM.out).six HA.out rfl); clear hk2)
                        | (go_at_call 22; have hwr := write_any da (B.armed 0 writes bytes) a.sector a.write (by rw [(armed_n _ _ _ _).2.1]; omega) _ _ H2.out.2; rw [EB.out.1] at hwr; refine hwr.mono ?_; rintro e w3 ⟨rfl, hx3, hs3⟩; have H3 := Lib.hid (And.intro (H2.out.1.trans hx3) hs3); have f3 := Lib.hid (((H3.out.2.cast (show _ = (diskP da (({ B with q := B.q ++ [(a.sector.toNat, a.write)] } : DS).fail writes bytes) * diskP db (({ B with q := B.q ++ [(a.sector.toNat, a.write)] } : DS).fail writes bytes)) * old w by ac_rfl)).acts HM.out).six HA.out rfl); clear hx3 hs3 hwr))
                    clear f0 f2 f3 H2 H
                    have H := H3
                    clear H3
                    clear EB
                    have hXn : (({ B with q := B.q ++ [(a.sector.toNat, a.write)] } : DS).fail writes bytes).start.n = N := (fail_n _ _ _).trans HB.out.2.2
                    have hAq : (({ B with q := B.q ++ [(a.sector.toNat, a.write)] } : DS).fail writes bytes).start.q.length ≤ 1000000 := Nat.le_trans (goes_fail _ writes bytes).q (by simp; omega)
                    have hBq2 := hAq
                    have HFIN := Lib.hid (And.intro (rfl : (({ B with q := B.q ++ [(a.sector.toNat, a.write)] } : DS).fail writes bytes).start.all = (({ B with q := B.q ++ [(a.sector.toNat, a.write)] } : DS).fail writes bytes).start.all) (And.intro hXn hXn))
                    clear hXn
                    have hneg : ¬ after < 0 := by omega
                    clear hlneg hlpos
                    go_wp2_with fail
                    refine (start_any da (({ B with q := B.q ++ [(a.sector.toNat, a.write)] } : DS).fail writes bytes) _ _ H.out.2).mono ?_
                    rintro e wx ⟨rfl, hxx, hsx⟩
                    have H' := Lib.hid (And.intro (H.out.1.trans hxx) (hsx.cast (show _ = diskP db (({ B with q := B.q ++ [(a.sector.toNat, a.write)] } : DS).fail writes bytes) * (diskP da (({ B with q := B.q ++ [(a.sector.toNat, a.write)] } : DS).fail writes bytes).start * old w) by ac_rfl)))
                    clear hxx hsx H; have H := H'; clear H'
                    go_wp2_with fail
                    refine (start_any db (({ B with q := B.q ++ [(a.sector.toNat, a.write)] } : DS).fail writes bytes) _ _ H.out.2).mono ?_
                    rintro e wx ⟨rfl, hxx, hsx⟩
                    have H' := Lib.hid (And.intro (H.out.1.trans hxx) (hsx.cast (show _ = diskP da (({ B with q := B.q ++ [(a.sector.toNat, a.write)] } : DS).fail writes bytes).start * (diskP db (({ B with q := B.q ++ [(a.sector.toNat, a.write)] } : DS).fail writes bytes).start * old w) by ac_rfl)))
                    clear hxx hsx H; have H := H'; clear H'
                    go_wp2_with fail
                    have oA : (({ B with q := B.q ++ [(a.sector.toNat, a.write)] } : DS).fail writes bytes).start.off = false := rfl
                    have oB : (({ B with q := B.q ++ [(a.sector.toNat, a.write)] } : DS).fail writes bytes).start.off = false := rfl
                    have hca := fun R wz hz => contents_any da (({ B with q := B.q ++ [(a.sector.toNat, a.write)] } : DS).fail writes bytes).start oA hAq R wz hz
                    have hcb := fun R wz hz => contents_any db (({ B with q := B.q ++ [(a.sector.toNat, a.write)] } : DS).fail writes bytes).start oB hBq2 R wz hz
                    rw [HFIN.out.2.1] at hca
                    rw [HFIN.out.2.2] at hcb
                    have HCA := Lib.hid hca
                    have HCB := Lib.hid hcb
                    clear oA oB hca hcb hAq hBq2
                    refine (HCA.out _ _ H.out.2).mono ?_
                    rintro e wx ⟨va, rfl, hxx, hsx⟩
                    have H' := Lib.hid (And.intro (H.out.1.trans hxx) (hsx.cast (show _ = diskP db (({ B with q := B.q ++ [(a.sector.toNat, a.write)] } : DS).fail writes bytes).start * (strRow va (({ B with q := B.q ++ [(a.sector.toNat, a.write)] } : DS).fail writes bytes).start.all * (diskP da (({ B with q := B.q ++ [(a.sector.toNat, a.write)] } : DS).fail writes bytes).start * old w)) by ac_rfl)))
                    clear hxx hsx H; have H := H'; clear H'
                    go_wp2_with fail
                    refine (HCB.out _ _ H.out.2).mono ?_
                    rintro e wx ⟨vb, rfl, hxx, hsx⟩
                    have H' := Lib.hid (And.intro (H.out.1.trans hxx) (hsx.cast (show _ = strRow va (({ B with q := B.q ++ [(a.sector.toNat, a.write)] } : DS).fail writes bytes).start.all * (strRow vb (({ B with q := B.q ++ [(a.sector.toNat, a.write)] } : DS).fail writes bytes).start.all * (diskP da (({ B with q := B.q ++ [(a.sector.toNat, a.write)] } : DS).fail writes bytes).start * (diskP db (({ B with q := B.q ++ [(a.sector.toNat, a.write)] } : DS).fail writes bytes).start * old w))) by ac_rfl)))
                    clear hxx hsx H; have H := H'; clear H'
                    go_wp2_with fail
                    clear HCA HCB
                    refine (same_any va vb (({ B with q := B.q ++ [(a.sector.toNat, a.write)] } : DS).fail writes bytes).start.all (({ B with q := B.q ++ [(a.sector.toNat, a.write)] } : DS).fail writes bytes).start.all _ _ _ H.out.2 (H.out.2.cast (show _ = strRow vb (({ B with q := B.q ++ [(a.sector.toNat, a.write)] } : DS).fail writes bytes).start.all * (strRow va (({ B with q := B.q ++ [(a.sector.toNat, a.write)] } : DS).fail writes bytes).start.all * (diskP da (({ B with q := B.q ++ [(a.sector.toNat, a.write)] } : DS).fail writes bytes).start * (diskP db (({ B with q := B.q ++ [(a.sector.toNat, a.write)] } : DS).fail writes bytes).start * old w))) by ac_rfl))).mono ?_
                    rintro e wx ⟨rfl, hkx⟩
                    have H' := Lib.hid (And.intro (H.out.1.trans hkx.ext) (H.out.2.kept hkx))
                    clear hkx H; have H := H'; clear H'
                    rw [show decide ((({ B with q := B.q ++ [(a.sector.toNat, a.write)] } : DS).fail writes bytes).start.all = (({ B with q := B.q ++ [(a.sector.toNat, a.write)] } : DS).fail writes bytes).start.all) = true from by simp]
                    go_wp2_with fail
                    go_ret
                    exact ⟨rfl, Kept.of_old (P := strRow va (({ B with q := B.q ++ [(a.sector.toNat, a.write)] } : DS).fail writes bytes).start.all * (strRow vb (({ B with q := B.q ++ [(a.sector.toNat, a.write)] } : DS).fail writes bytes).start.all * (diskP da (({ B with q := B.q ++ [(a.sector.toNat, a.write)] } : DS).fail writes bytes).start * diskP db (({ B with q := B.q ++ [(a.sector.toNat, a.write)] } : DS).fail writes bytes).start))) H.out.1 (H.out.2.cast (by ac_rfl))⟩
                  · have H := HR
                    clear HR
                    have hls : less left = (left - 1) := by unfold less; rw [if_pos (by omega)]
                    rw [if_neg (by omega), hls] at haw
                    clear hls
                    have hlf : (left == 0) = false := by simp; omega
                    have EB := Lib.hid (And.intro haw hbw)
                    clear haw hbw
                    have H' := Lib.hid (And.intro H.out.1 (H.out.2.cast (show _ = diskP db B * (diskP da (B.armed left writes bytes) * old w) by ac_rfl)))
                    clear H; have H := H'; clear H'
                    go_wp2_with fail
                    clear e0 e1 e2 e3 e4 e5
                    have f0 := Lib.hid (((H.out.2.drew.cast (show _ = (diskP db B * diskP da (B.armed left writes bytes)) * old w by ac_rfl)).acts HM.out).six HA.out rfl)
                    go_region_held3 (fun wx => wx.cell? ⟨b, off + j * 6, none⟩ = some (.int .i64 a.kind) ∧ wx.cell? ⟨b, off + j * 6 + 1, none⟩ = some (.int .i64 a.sector) ∧ wx.cell? ⟨b, off + j * 6 + 2, none⟩ = some (.int .i64 a.bytes) ∧ wx.cell? ⟨b, off + j * 6 + 3, none⟩ = some (.string a.text) ∧ wx.cell? ⟨b, off + j * 6 + 4, none⟩ = some (.bool a.odd) ∧ wx.cell? ⟨b, off + j * 6 + 5, none⟩ = some (.int .i64 a.after))
                      (first | exact f0.out | exact f2.out | exact f3.out)
                      (first
                        | (go_at_call 23; refine (text_any a h100a _).mono ?_; rintro e w2 ⟨rfl, hk2⟩; have H2 := Lib.hid (And.intro (H.out.1.drew.trans hk2.ext) (H.out.2.drew.kept hk2)); have f2 := Lib.hid (((H2.out.2.cast (show _ = (diskP db B * diskP da (B.armed left writes bytes)) * old w by ac_rfl)).acts HM.out).six HA.out rfl); clear hk2)
                        | (go_at_call 22; have hwr := write_any db B a.sector a.write (by omega) _ _ H2.out.2; rw [EB.out.2] at hwr; refine hwr.mono ?_; rintro e w3 ⟨rfl, hx3, hs3⟩; have H3 := Lib.hid (And.intro (H2.out.1.trans hx3) hs3); have f3 := Lib.hid (((H3.out.2.cast (show _ = (diskP db ({ B with q := B.q ++ [(a.sector.toNat, a.write)] } : DS) * diskP da (B.armed left writes bytes)) * old w by ac_rfl)).acts HM.out).six HA.out rfl); clear hx3 hs3 hwr))
                    clear f0 f2 f3 H2 H
                    have H := H3
                    clear H3
                    have H' := Lib.hid (And.intro H.out.1 (H.out.2.cast (show _ = diskP da (B.armed left writes bytes) * (diskP db ({ B with q := B.q ++ [(a.sector.toNat, a.write)] } : DS) * old w) by ac_rfl)))
                    clear H; have H := H'; clear H'
                    go_wp2_with fail
                    have f0 := Lib.hid (((H.out.2.drew.cast (show _ = (diskP da (B.armed left writes bytes) * diskP db ({ B with q := B.q ++ [(a.sector.toNat, a.write)] } : DS)) * old w by ac_rfl)).acts HM.out).six HA.out rfl)
                    go_region_held3 (fun wx => wx.cell? ⟨b, off + j * 6, none⟩ = some (.int .i64 a.kind) ∧ wx.cell? ⟨b, off + j * 6 + 1, none⟩ = some (.int .i64 a.sector) ∧ wx.cell? ⟨b, off + j * 6 + 2, none⟩ = some (.int .i64 a.bytes) ∧ wx.cell? ⟨b, off + j * 6 + 3, none⟩ = some (.string a.text) ∧ wx.cell? ⟨b, off + j * 6 + 4, none⟩ = some (.bool a.odd) ∧ wx.cell? ⟨b, off + j * 6 + 5, none⟩ = some (.int .i64 a.after))
                      (first | exact f0.out | exact f2.out | exact f3.out)
                      (first
                        | (go_at_call 23; refine (text_any a h100a _).mono ?_; rintro e w2 ⟨rfl, hk2⟩; have H2 := Lib.hid (And.intro (H.out.1.drew.trans hk2.ext) (H.out.2.drew.kept hk2)); have f2 := Lib.hid (((H2.out.2.cast (show _ = (diskP da (B.armed left writes bytes) * diskP db ({ B with q := B.q ++ [(a.sector.toNat, a.write)] } : DS)) * old w by ac_rfl)).acts HM.out).six HA.out rfl); clear hk2)
                        | (go_at_call 22; have hwr := write_any da (B.armed left writes bytes) a.sector a.write (by rw [(armed_n _ _ _ _).2.1]; omega) _ _ H2.out.2; rw [EB.out.1] at hwr; refine hwr.mono ?_; rintro e w3 ⟨rfl, hx3, hs3⟩; have H3 := Lib.hid (And.intro (H2.out.1.trans hx3) hs3); have f3 := Lib.hid (((H3.out.2.cast (show _ = (diskP da (({ B with q := B.q ++ [(a.sector.toNat, a.write)] } : DS).armed (left - 1) writes bytes) * diskP db ({ B with q := B.q ++ [(a.sector.toNat, a.write)] } : DS)) * old w by ac_rfl)).acts HM.out).six HA.out rfl); clear hx3 hs3 hwr))
                    clear f0 f2 f3 H2 H
                    have H := H3
                    clear H3
                    clear EB
                    go_wp2_with fail
                    refine ⟨⟨j + 1, (left - 1), ({ B with q := B.q ++ [(a.sector.toNat, a.write)] } : DS), by omega, by go_num, by first | rfl | go_num, by omega, by omega, by omega, by simp; omega, ⟨HB.out.1, HB.out.2.1, HB.out.2.2⟩, H.out⟩, by simp [intOf]; omega⟩
                · have hbw := write_start B HB.out.1 HB.out.2.1 a.sector a.write
                  rw [if_neg hg] at hbw
                  have haw := armed_bad B HB.out.1 left writes bytes a.sector a.write hg
                  clear hg
                  have H := HR
                  clear HR
                  have EB := Lib.hid (And.intro haw hbw)
                  clear haw hbw
                  have H' := Lib.hid (And.intro H.out.1 (H.out.2.cast (show _ = diskP db B * (diskP da (B.armed left writes bytes) * old w) by ac_rfl)))
                  clear H; have H := H'; clear H'
                  go_wp2_with fail
                  clear e0 e1 e2 e3 e4 e5
                  have f0 := Lib.hid (((H.out.2.drew.cast (show _ = (diskP db B * diskP da (B.armed left writes bytes)) * old w by ac_rfl)).acts HM.out).six HA.out rfl)
                  go_region_held3 (fun wx => wx.cell? ⟨b, off + j * 6, none⟩ = some (.int .i64 a.kind) ∧ wx.cell? ⟨b, off + j * 6 + 1, none⟩ = some (.int .i64 a.sector) ∧ wx.cell? ⟨b, off + j * 6 + 2, none⟩ = some (.int .i64 a.bytes) ∧ wx.cell? ⟨b, off + j * 6 + 3, none⟩ = some (.string a.text) ∧ wx.cell? ⟨b, off + j * 6 + 4, none⟩ = some (.bool a.odd) ∧ wx.cell? ⟨b, off + j * 6 + 5, none⟩ = some (.int .i64 a.after))
                    (first | exact f0.out | exact f2.out | exact f3.out)
                    (first
                      | (go_at_call 23; refine (text_any a h100a _).mono ?_; rintro e w2 ⟨rfl, hk2⟩; have H2 := Lib.hid (And.intro (H.out.1.drew.trans hk2.ext) (H.out.2.drew.kept hk2)); have f2 := Lib.hid (((H2.out.2.cast (show _ = (diskP db B * diskP da (B.armed left writes bytes)) * old w by ac_rfl)).acts HM.out).six HA.out rfl); clear hk2)
                      | (go_at_call 22; have hwr := write_any db B a.sector a.write (by omega) _ _ H2.out.2; rw [EB.out.2] at hwr; refine hwr.mono ?_; rintro e w3 ⟨rfl, hx3, hs3⟩; have H3 := Lib.hid (And.intro (H2.out.1.trans hx3) hs3); have f3 := Lib.hid (((H3.out.2.cast (show _ = (diskP db B * diskP da (B.armed left writes bytes)) * old w by ac_rfl)).acts HM.out).six HA.out rfl); clear hx3 hs3 hwr))
                  clear f0 f2 f3 H2 H
                  have H := H3
                  clear H3
                  have H' := Lib.hid (And.intro H.out.1 (H.out.2.cast (show _ = diskP da (B.armed left writes bytes) * (diskP db B * old w) by ac_rfl)))
                  clear H; have H := H'; clear H'
                  go_wp2_with fail
                  have f0 := Lib.hid (((H.out.2.drew.cast (show _ = (diskP da (B.armed left writes bytes) * diskP db B) * old w by ac_rfl)).acts HM.out).six HA.out rfl)
                  go_region_held3 (fun wx => wx.cell? ⟨b, off + j * 6, none⟩ = some (.int .i64 a.kind) ∧ wx.cell? ⟨b, off + j * 6 + 1, none⟩ = some (.int .i64 a.sector) ∧ wx.cell? ⟨b, off + j * 6 + 2, none⟩ = some (.int .i64 a.bytes) ∧ wx.cell? ⟨b, off + j * 6 + 3, none⟩ = some (.string a.text) ∧ wx.cell? ⟨b, off + j * 6 + 4, none⟩ = some (.bool a.odd) ∧ wx.cell? ⟨b, off + j * 6 + 5, none⟩ = some (.int .i64 a.after))
                    (first | exact f0.out | exact f2.out | exact f3.out)
                    (first
                      | (go_at_call 23; refine (text_any a h100a _).mono ?_; rintro e w2 ⟨rfl, hk2⟩; have H2 := Lib.hid (And.intro (H.out.1.drew.trans hk2.ext) (H.out.2.drew.kept hk2)); have f2 := Lib.hid (((H2.out.2.cast (show _ = (diskP da (B.armed left writes bytes) * diskP db B) * old w by ac_rfl)).acts HM.out).six HA.out rfl); clear hk2)
                      | (go_at_call 22; have hwr := write_any da (B.armed left writes bytes) a.sector a.write (by rw [(armed_n _ _ _ _).2.1]; omega) _ _ H2.out.2; rw [EB.out.1] at hwr; refine hwr.mono ?_; rintro e w3 ⟨rfl, hx3, hs3⟩; have H3 := Lib.hid (And.intro (H2.out.1.trans hx3) hs3); have f3 := Lib.hid (((H3.out.2.cast (show _ = (diskP da (B.armed left writes bytes) * diskP db B) * old w by ac_rfl)).acts HM.out).six HA.out rfl); clear hx3 hs3 hwr))
                  clear f0 f2 f3 H2 H
                  have H := H3
                  clear H3
                  clear EB
                  go_wp2_with fail
                  exact ⟨⟨j + 1, left, B, by omega, by go_num, rfl, hla, hlneg, hlpos, by omega, HB, H.out⟩, by simp [intOf]; omega⟩
            · have H := HR
              clear HR
              have hfin : (B.armed left writes bytes).start.all = B.start.all := all_eq (armed_n _ _ _ _).1 (armed_n _ _ _ _).2.1 (armed_n _ _ _ _).2.2
              have hAn : (B.armed left writes bytes).start.n = N := (armed_n _ _ _ _).1.trans HB.out.2.2
              have hBn : B.start.n = N := HB.out.2.2
              have hAq : (B.armed left writes bytes).start.q.length ≤ 1000000 := by show (B.armed left writes bytes).q.length ≤ _; rw [(armed_n _ _ _ _).2.1]; omega
              have hBq2 : B.start.q.length ≤ 1000000 := by show B.q.length ≤ _; omega
              have HFIN := Lib.hid (And.intro hfin (And.intro hAn hBn))
              clear hfin hAn hBn
              have hfa : ¬ (after < 0 ∧ left ≠ after) := fun h => h.2 (hlneg h.1)
              by_cases hneg : after < 0
              · have hle : left = after := hlneg hneg
                subst hle
                clear hfa hlneg hlpos
                go_wp2_with fail
                refine (start_any da (B.armed left writes bytes) _ _ H.out.2).mono ?_
                rintro e wx ⟨rfl, hxx, hsx⟩
                have H' := Lib.hid (And.intro (H.out.1.trans hxx) (hsx.cast (show _ = diskP db B * (diskP da (B.armed left writes bytes).start * old w) by ac_rfl)))
                clear hxx hsx H; have H := H'; clear H'
                go_wp2_with fail
                refine (start_any db B _ _ H.out.2).mono ?_
                rintro e wx ⟨rfl, hxx, hsx⟩
                have H' := Lib.hid (And.intro (H.out.1.trans hxx) (hsx.cast (show _ = diskP da (B.armed left writes bytes).start * (diskP db B.start * old w) by ac_rfl)))
                clear hxx hsx H; have H := H'; clear H'
                go_wp2_with fail
                have oA : (B.armed left writes bytes).start.off = false := rfl
                have oB : B.start.off = false := rfl
                have hca := fun R wz hz => contents_any da (B.armed left writes bytes).start oA hAq R wz hz
                have hcb := fun R wz hz => contents_any db B.start oB hBq2 R wz hz
                rw [HFIN.out.2.1] at hca
                rw [HFIN.out.2.2] at hcb
                have HCA := Lib.hid hca
                have HCB := Lib.hid hcb
                clear oA oB hca hcb hAq hBq2
                refine (HCA.out _ _ H.out.2).mono ?_
                rintro e wx ⟨va, rfl, hxx, hsx⟩
                have H' := Lib.hid (And.intro (H.out.1.trans hxx) (hsx.cast (show _ = diskP db B.start * (strRow va (B.armed left writes bytes).start.all * (diskP da (B.armed left writes bytes).start * old w)) by ac_rfl)))
                clear hxx hsx H; have H := H'; clear H'
                go_wp2_with fail
                refine (HCB.out _ _ H.out.2).mono ?_
                rintro e wx ⟨vb, rfl, hxx, hsx⟩
                have H' := Lib.hid (And.intro (H.out.1.trans hxx) (hsx.cast (show _ = strRow va (B.armed left writes bytes).start.all * (strRow vb B.start.all * (diskP da (B.armed left writes bytes).start * (diskP db B.start * old w))) by ac_rfl)))
                clear hxx hsx H; have H := H'; clear H'
                go_wp2_with fail
                clear HCA HCB
                refine (same_any va vb (B.armed left writes bytes).start.all B.start.all _ _ _ H.out.2 (H.out.2.cast (show _ = strRow vb B.start.all * (strRow va (B.armed left writes bytes).start.all * (diskP da (B.armed left writes bytes).start * (diskP db B.start * old w))) by ac_rfl))).mono ?_
                rintro e wx ⟨rfl, hkx⟩
                have H' := Lib.hid (And.intro (H.out.1.trans hkx.ext) (H.out.2.kept hkx))
                clear hkx H; have H := H'; clear H'
                rw [decide_eq_true HFIN.out.1]
                go_wp2_with fail
                go_ret
                exact ⟨rfl, Kept.of_old (P := strRow va (B.armed left writes bytes).start.all * (strRow vb B.start.all * (diskP da (B.armed left writes bytes).start * diskP db B.start))) H.out.1 (H.out.2.cast (by ac_rfl))⟩
              · clear hfa hlneg
                go_wp2_with fail
                refine (start_any da (B.armed left writes bytes) _ _ H.out.2).mono ?_
                rintro e wx ⟨rfl, hxx, hsx⟩
                have H' := Lib.hid (And.intro (H.out.1.trans hxx) (hsx.cast (show _ = diskP db B * (diskP da (B.armed left writes bytes).start * old w) by ac_rfl)))
                clear hxx hsx H; have H := H'; clear H'
                go_wp2_with fail
                refine (start_any db B _ _ H.out.2).mono ?_
                rintro e wx ⟨rfl, hxx, hsx⟩
                have H' := Lib.hid (And.intro (H.out.1.trans hxx) (hsx.cast (show _ = diskP da (B.armed left writes bytes).start * (diskP db B.start * old w) by ac_rfl)))
                clear hxx hsx H; have H := H'; clear H'
                go_wp2_with fail
                have oA : (B.armed left writes bytes).start.off = false := rfl
                have oB : B.start.off = false := rfl
                have hca := fun R wz hz => contents_any da (B.armed left writes bytes).start oA hAq R wz hz
                have hcb := fun R wz hz => contents_any db B.start oB hBq2 R wz hz
                rw [HFIN.out.2.1] at hca
                rw [HFIN.out.2.2] at hcb
                have HCA := Lib.hid hca
                have HCB := Lib.hid hcb
                clear oA oB hca hcb hAq hBq2
                refine (HCA.out _ _ H.out.2).mono ?_
                rintro e wx ⟨va, rfl, hxx, hsx⟩
                have H' := Lib.hid (And.intro (H.out.1.trans hxx) (hsx.cast (show _ = diskP db B.start * (strRow va (B.armed left writes bytes).start.all * (diskP da (B.armed left writes bytes).start * old w)) by ac_rfl)))
                clear hxx hsx H; have H := H'; clear H'
                go_wp2_with fail
                refine (HCB.out _ _ H.out.2).mono ?_
                rintro e wx ⟨vb, rfl, hxx, hsx⟩
                have H' := Lib.hid (And.intro (H.out.1.trans hxx) (hsx.cast (show _ = strRow va (B.armed left writes bytes).start.all * (strRow vb B.start.all * (diskP da (B.armed left writes bytes).start * (diskP db B.start * old w))) by ac_rfl)))
                clear hxx hsx H; have H := H'; clear H'
                go_wp2_with fail
                clear HCA HCB
                refine (same_any va vb (B.armed left writes bytes).start.all B.start.all _ _ _ H.out.2 (H.out.2.cast (show _ = strRow vb B.start.all * (strRow va (B.armed left writes bytes).start.all * (diskP da (B.armed left writes bytes).start * (diskP db B.start * old w))) by ac_rfl))).mono ?_
                rintro e wx ⟨rfl, hkx⟩
                have H' := Lib.hid (And.intro (H.out.1.trans hkx.ext) (H.out.2.kept hkx))
                clear hkx H; have H := H'; clear H'
                rw [decide_eq_true HFIN.out.1]
                go_wp2_with fail
                go_ret
                exact ⟨rfl, Kept.of_old (P := strRow va (B.armed left writes bytes).start.all * (strRow vb B.start.all * (diskP da (B.armed left writes bytes).start * diskP db B.start))) H.out.1 (H.out.2.cast (by ac_rfl))⟩
end Go.Proofs.Ytcjocajpnebecaa
