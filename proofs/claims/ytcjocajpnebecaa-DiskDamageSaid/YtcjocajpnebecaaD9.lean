/-
  DiskDamage, walked: it answers true, whatever the operations; all memory that was there is as it was. Its condition: the arguments read as data.
-/
import Derived.Test.YtcjocajpnebecaaP3
import Derived.Test.YtcjocajpnebecaaD6
import Derived.Deep.QuietTactic
import Derived.BigQuiet
import Derived.Deep.DeepCutAuto
namespace Go.Proofs.Ytcjocajpnebecaa
open Go.RowKit

theorem u8_xor_twice (a b : UInt8) : (a ^^^ b) ^^^ b = a := by
  rw [UInt8.xor_assoc, UInt8.xor_self, UInt8.xor_zero]
theorem u8_xor_left (a b : UInt8) : a ^^^ (a ^^^ b) = b := by
  rw [← UInt8.xor_assoc, UInt8.xor_self, UInt8.zero_xor]
theorem rot_eq (T : DS) (h : T.ok) (s k m : Int) (hv : rotOk T s k m = true) :
    ∃ (i j n : Nat) (b : UInt8), s = (i : Int) ∧ k = (j : Int) ∧ m = (n : Int) ∧ i < T.n ∧ j < 64 ∧ 0 < n ∧ n < 256 ∧ T.st[64 * i + j]? = some b ∧ T.rot s k m = { T with st := T.st.set (64 * i + j) (b ^^^ UInt8.ofNat n) } := by
  have hh := hv
  simp only [rotOk, DS.valid, Bool.and_eq_true, decide_eq_true_eq] at hv
  obtain ⟨⟨⟨h1, h2⟩, h3, h4⟩, h5, h6⟩ := hv
  obtain ⟨i, rfl⟩ := Int.eq_ofNat_of_zero_le h1
  obtain ⟨j, rfl⟩ := Int.eq_ofNat_of_zero_le h3
  obtain ⟨n, rfl⟩ := Int.eq_ofNat_of_zero_le (Int.le_of_lt h5)
  obtain ⟨b, hb⟩ : ∃ b, T.st[64 * i + j]? = some b := ⟨_, List.getElem?_eq_getElem (by rw [h.st]; omega)⟩
  refine ⟨i, j, n, b, rfl, rfl, rfl, by omega, by omega, by omega, by omega, hb, ?_⟩
  simp [DS.rot, hh, List.getD, hb]
theorem rot_twice (T : DS) (h : T.ok) (s k m : Int) : (T.rot s k m).rot s k m = T := by
  cases hv : rotOk T s k m with
  | false =>
    have e : T.rot s k m = T := by simp [DS.rot, hv]
    rw [e, e]
  | true =>
    obtain ⟨i, j, n, b, rfl, rfl, rfl, hi, hj, hn, hn2, hb, e⟩ := rot_eq T h s k m hv
    have hv2 : rotOk (T.rot (i : Int) (j : Int) (n : Int)) (i : Int) (j : Int) (n : Int) = true := by rw [e]; exact hv
    have hlt := (List.getElem?_eq_some_iff.1 hb).1
    obtain ⟨i', j', n', b', hi', hj', hn', _, _, _, _, hb', e'⟩ := rot_eq _ (h.rot _ _ _) _ _ _ hv2
    obtain rfl : i = i' := by omega
    obtain rfl : j = j' := by omega
    obtain rfl : n = n' := by omega
    rw [e'] 
    have hb2 : b' = b ^^^ UInt8.ofNat n := by
      rw [e] at hb'
      have hb2 : (T.st.set (64 * i + j) (b ^^^ UInt8.ofNat n))[64 * i + j]? = some b' := hb'
      rw [List.getElem?_set, if_pos rfl, if_pos hlt] at hb2
      exact (Option.some.inj hb2).symm
    rw [hb2, u8_xor_twice, e]
    show ({ T with st := (T.st.set (64 * i + j) (b ^^^ UInt8.ofNat n)).set (64 * i + j) b } : DS) = T
    rw [List.set_set]
    have : T.st.set (64 * i + j) b = T.st := by
      apply List.ext_getElem?
      intro x
      rw [List.getElem?_set]
      by_cases hx : 64 * i + j = x
      · subst hx; rw [if_pos rfl, if_pos hlt, hb]
      · rw [if_neg hx]
    rw [this]
/-- A byte of a sector. -/
def DS.byte (T : DS) (i j : Nat) : UInt8 := (T.st[64 * i + j]?).getD 0
theorem rot_byte (T : DS) (h : T.ok) (s k m : Int) (i j : Nat) (hi : i < T.n) (hj : j < 64) :
    (((T.byte i j ^^^ (T.rot s k m).byte i j).toNat : Nat) : Int) = if rotOk T s k m && (decide ((i : Int) = s) && decide ((j : Int) = k)) then m else 0 := by
  cases hv : rotOk T s k m with
  | false =>
    have e : T.rot s k m = T := by simp [DS.rot, hv]
    rw [e, UInt8.xor_self]; simp
  | true =>
    obtain ⟨i', j', n, b, rfl, rfl, rfl, hi', hj', hn, hn2, hb, e⟩ := rot_eq T h s k m hv
    have hlt := (List.getElem?_eq_some_iff.1 hb).1
    rw [e]
    unfold DS.byte
    simp only [List.getElem?_set]
    by_cases hx : 64 * i' + j' = 64 * i + j
    · obtain ⟨rfl, rfl⟩ : i' = i ∧ j' = j := by omega
      rw [if_pos rfl, if_pos hlt, hb]
      simp only [Option.getD_some]
      rw [u8_xor_left]
      simp; omega
    · have : ¬ (i = i' ∧ j = j') := fun ⟨a, b⟩ => hx (by rw [a, b])
      simp [hx]
      intro a b
      exact absurd ⟨by omega, by omega⟩ this
theorem rot_calm {T : DS} (h : T.calm) (s k m : Int) : (T.rot s k m).calm ∧ (T.rot s k m).n = T.n ∧ (T.rot s k m).el = T.el := by
  refine ⟨⟨h.ok.rot s k m, ?_, ?_, ?_⟩, (goes_rot T s k m).n, ?_⟩ <;> unfold DS.rot <;> split
  · exact h.off
  · exact h.off
  · exact h.arm
  · exact h.arm
  · exact h.q
  · exact h.q
  · rfl
  · rfl
theorem stale_calm {T : DS} (h : T.calm) (s : Int) : (T.stale s).calm ∧ (T.stale s).n = T.n := by
  refine ⟨⟨h.ok.stale s, ?_, ?_, ?_⟩, (goes_stale T s).n⟩ <;> unfold DS.stale <;> split
  · exact h.off
  · exact h.off
  · exact h.arm
  · exact h.arm
  · exact h.q
  · exact h.q
theorem stale_twice {T : DS} (h : T.calm) (s : Int) : ((T.stale s).stale s).all = (T.stale s).all := by
  cases hv : T.valid s with
  | false =>
    have e : T.stale s = T := by simp [DS.stale, hv]
    rw [e, e]
  | true =>
    obtain ⟨h1, h2⟩ := (valid_iff T s).1 hv
    have hl : (sec T.el s.toNat).length = 64 := sec_len h.ok.el (by omega)
    have e : T.stale s = { T with st := splice T.st (64 * s.toNat) (sec T.el s.toNat) } := by simp [DS.stale, hv]
    have hv2 : (T.stale s).valid s = true := by rw [e]; exact hv
    have hst := (h.ok.stale s).st
    have e2 : (T.stale s).stale s = { T.stale s with st := splice (T.stale s).st (64 * s.toNat) (sec (T.stale s).el s.toNat) } := by
      rw [DS.stale, if_pos hv2]
    have hn := (stale_calm h s).2
    rw [e2]
    refine all_ext rfl fun i hi => ?_
    have hi' : i < T.n := by rw [← hn]; exact hi
    have hq : (T.stale s).q = [] := (stale_calm h s).1.q
    have hel : (T.stale s).el = T.el := by rw [e]
    unfold DS.secNow
    simp only [hq, lastOf_nil, Option.getD_none, hel]
    congr 2
    rw [sec_set (n := T.n) (by rw [hst, hn]) (by omega) hi' (by omega)]
    split
    · rename_i hh
      rw [hl, List.drop_eq_nil_of_le (by rw [sec_len (n := T.n) (by rw [hst, hn]) hi']; omega), List.append_nil, ← hh]
      rw [e]
      show _ = sec (splice T.st (64 * s.toNat) (sec T.el s.toNat)) s.toNat
      rw [sec_set h.ok.st (by omega) (by omega) (by omega), if_pos rfl, hl, List.drop_eq_nil_of_le (by rw [sec_len h.ok.st (by omega)]; omega), List.append_nil]
    · rfl
theorem stale_other {T : DS} (h : T.calm) (s : Int) (i : Nat) (hi : i < T.n) (hne : (i : Int) ≠ s) : (T.stale s).secNow i = T.secNow i := by
  rw [calm_secNow (stale_calm h s).1, calm_secNow h]
  congr 2
  unfold DS.stale
  split
  · rename_i hv
    obtain ⟨h1, h2⟩ := (valid_iff T s).1 hv
    show sec (splice T.st (64 * s.toNat) (sec T.el s.toNat)) i = _
    rw [sec_set h.ok.st (by omega) hi (by rw [sec_len h.ok.el (by omega)]; omega), if_neg (by omega)]
  · rfl
theorem calm_byte {T : DS} (h : T.calm) (i j : Nat) (hi : i < T.n) (hj : j < 64) : (T.secNow i).data[j]? = some (T.byte i j) := by
  rw [calm_secNow h]
  show (sec T.st i).toArray[j]? = _
  rw [List.getElem?_toArray, sec_get _ _ _ hj]
  unfold DS.byte
  rw [List.getElem?_eq_getElem (by rw [h.ok.st]; omega)]; rfl

theorem byte_xor (X Y : ByteArray) (j : Nat) (hx : j < X.size) (hy : j < Y.size) (a b : UInt8) (h1 : X.data[j]? = some a) (h2 : Y.data[j]? = some b) :
    RowKit.wrap64 (bits .xor .u8 (X[j].toNat : Int) (Y[j].toNat : Int)) = (((a ^^^ b).toNat : Nat) : Int) := by
  have e1 : X[j] = a := (Array.getElem?_eq_some_iff.1 h1).2
  have e2 : Y[j] = b := (Array.getElem?_eq_some_iff.1 h2).2
  have h3 : (a ^^^ b).toNat < 256 := (a ^^^ b).toNat_lt
  rw [e1, e2, u8_xor_nat _ _ a.toNat_lt b.toNat_lt, ← UInt8.toNat_xor]
  generalize (a ^^^ b).toNat = z at *
  exact IntWalk.wrap64_in (z : Int) (by omega)

set_option maxRecDepth 100000 in
set_option maxHeartbeats 8000000 in
theorem diskDamage_walk (r : Nat) (hr : r < 256) (lv : Value) (l : List AC) (s kk mk : Int) (w : World) (hl : actsAt w lv l) :
    Calls Try.prog 9 #[.int .u8 (r : Int), lv, .int .i64 s, .int .i64 kk, .int .i64 mk] w fun e w' => e = .returned (.bool true) ∧ Kept w w' := by
  have HL := Lib.hid hl
  obtain ⟨ao, cap, rfl, hlen, _⟩ := hl
  cases hok0 : okActs l with
  | false =>
    go_enter Try.func9, Try.ntmps9
    go_wp2_with fail
    refine (head_any _).mono ?_
    rintro e w1 ⟨rfl, hk1⟩
    go_wp2_with fail
    refine (ok_any _ l _ (HL.out.kept hk1.keep)).mono ?_
    rintro e w2 ⟨rfl, rfl⟩
    rw [hok0]
    go_wp2_with fail
    go_ret
    exact ⟨rfl, hk1⟩
  | true =>
    obtain ⟨h600, h1000⟩ := okActs_len hok0
    have H1000 := Lib.hid h1000
    have HOK0 := Lib.hid hok0
    clear h1000 hok0
    obtain ⟨n, hn⟩ : ∃ n, n = 1 + r % 12 := ⟨_, rfl⟩
    have hn1 : 1 ≤ n := by omega
    have hn2 : n ≤ 4000 := by omega
    have hn12 : n ≤ 12 := by omega
    have HN := Lib.hid hn
    clear hn
    go_enter Try.func9, Try.ntmps9
    go_wp2_with fail
    refine (head_any _).mono ?_
    rintro e w1 ⟨rfl, hk1⟩
    have H1 := Lib.hid (And.intro hk1.ext ((Sat.start w).kept hk1))
    go_wp2_with fail
    refine (ok_any _ l _ (HL.out.kept hk1.keep)).mono ?_
    rintro e w2 ⟨rfl, rfl⟩
    rw [HOK0.out]
    clear hk1
    go_wp2_with fail
    refine (size_any r hr _).mono ?_
    rintro e w2 ⟨rfl, rfl⟩
    rw [← HN.out]
    go_wp2_with fail
    refine (new_yes n hn1 hn2 _ _ H1.out.2).mono ?_
    rintro e w2 ⟨d, rfl, hx2, hs2⟩
    have H := Lib.hid (And.intro (H1.out.1.trans hx2) (hs2.cast (show _ = diskP d ((DS.fresh n).run (l.take 0)) * old w by ac_rfl)))
    clear hx2 hs2 H1
    go_wp2_with fail
    go_loopw [14] (fun x wr => ∃ k : Nat, k ≤ l.length ∧ x = .int .i64 k ∧ Hid (Ext w wr ∧ Sat wr (diskP d ((DS.fresh n).run (l.take k)) * old w))) (fun x _ => l.length - (intOf x).toNat)
    case atStart => exact ⟨0, Nat.zero_le _, rfl, H.out⟩
    case round =>
      obtain ⟨k, hk, rfl, HR⟩ := hrel
      clear H
      have HG := Lib.hid (goes_run (DS.fresh n) (l.take k) (fun a ha => HL.out.wfs a (List.mem_of_mem_take ha)))
      have hq : ((DS.fresh n).run (l.take k)).q.length ≤ 1000 := by
        have := HG.out.q
        rw [List.length_take] at this
        have h2 : (DS.fresh n).q.length = 0 := rfl
        omega
      by_cases hlt : k < l.length
      · obtain ⟨a, b, off, ha, hwf, rfl, hx⟩ := ((HR.out.2.cast (show _ = diskP d ((DS.fresh n).run (l.take k)) * old w by ac_rfl)).acts HL.out).get hlt rfl
        have e0 : wr.cell? ⟨b, off + k * 6, none⟩ = some (.int .i64 a.kind) := hx 0 _ rfl
        have e1 : wr.cell? ⟨b, off + k * 6 + 1, none⟩ = some (.int .i64 a.sector) := hx 1 _ rfl
        have e2 : wr.cell? ⟨b, off + k * 6 + 2, none⟩ = some (.int .i64 a.bytes) := hx 2 _ rfl
        have e3 : wr.cell? ⟨b, off + k * 6 + 3, none⟩ = some (.string a.text) := hx 3 _ rfl
        have e4 : wr.cell? ⟨b, off + k * 6 + 4, none⟩ = some (.bool a.odd) := hx 4 _ rfl
        have e5 : wr.cell? ⟨b, off + k * 6 + 5, none⟩ = some (.int .i64 a.after) := hx 5 _ rfl
        have HA := Lib.hid (And.intro ha (And.intro hwf (H1000.out a (List.mem_of_getElem? ha))))
        clear hx ha hwf
        go_wp2_with fail
        refine (do_any d _ a HA.out.2.1 HA.out.2.2 (by omega) _ _ HR.out.2).mono ?_
        rintro e w4 ⟨rfl, hx4, hs4⟩
        have H4 := Lib.hid (And.intro (HR.out.1.trans hx4) hs4)
        clear hx4 hs4 e0 e1 e2 e3 e4 e5
        go_wp2_with fail
        refine ⟨⟨k + 1, by omega, by go_num, ?_⟩, by simp [intOf]; omega⟩
        have := H4.out
        rw [← run_snoc] at this
        rw [List.take_add_one, HA.out.1]; exact this
      · have hkl : k = l.length := by omega
        rw [hkl, List.take_of_length_le (Nat.le_refl _)] at HR HG
        have hSn : ((DS.fresh n).run l).n = n := HG.out.n
        have hSo : ((DS.fresh n).run l).ok := HG.out.ok (DS.fresh_ok n hn1 hn2)
        have hSq : ((DS.fresh n).run l).q.length ≤ 60 := by
          have h1 := HG.out.q
          have h2 : (DS.fresh n).q.length = 0 := rfl
          omega
        clear hkl hq HG
        generalize (DS.fresh n).run l = S at *
        have HSN := Lib.hid hSn
        have HSO := Lib.hid hSo
        have H := HR
        clear hSn hSo HR
        go_wp2_with fail
        refine (start_any d S _ _ H.out.2).mono ?_
        rintro e wx ⟨rfl, hxx, hsx⟩
        have H' := Lib.hid (And.intro (H.out.1.trans hxx) (hsx.cast (show _ = diskP d S.start * old w by ac_rfl)))
        clear hxx hsx H; have H := H'; clear H'
        go_wp2_with fail
        refine (sync_any d S.start (by simp [DS.start]; omega) _ _ H.out.2).mono ?_
        rintro e wx ⟨rfl, hxx, hsx⟩
        have H' := Lib.hid (And.intro (H.out.1.trans hxx) (hsx.cast (show _ = diskP d S.start.sync.2 * old w by ac_rfl)))
        clear hxx hsx H; have H := H'; clear H'
        obtain ⟨hsy, hcalm⟩ := calm_of S HSO.out
        rw [hsy] at H ⊢
        simp only at H
        have hTn : S.start.flush.n = n := (goes_flush S.start).n.trans HSN.out
        clear hsy hSq HSO HSN
        generalize S.start.flush = T at *
        have HT := Lib.hid hcalm
        clear hcalm
        subst hTn
        obtain ⟨U, hU⟩ : ∃ U, U = T.rot s kk mk := ⟨_, rfl⟩
        have hUB : U.rot s kk mk = T := by rw [hU]; exact rot_twice T HT.out.ok s kk mk
        have hUc : U.calm ∧ U.n = T.n := by rw [hU]; exact ⟨(rot_calm HT.out s kk mk).1, (rot_calm HT.out s kk mk).2.1⟩
        have hby := fun i j hi hj => rot_byte T HT.out.ok s kk mk i j hi hj
        rw [← hU] at hby
        have HU := Lib.hid (And.intro hU (And.intro hUB hUc))
        have HBY := Lib.hid hby
        clear hU hUB hUc hby
        have hcT := fun R wz hz => contents_any d T HT.out.off (by rw [HT.out.q]; simp) R wz hz
        have HCT := Lib.hid hcT
        have hcU := fun R wz hz => contents_any d U HU.out.2.2.1.off (by rw [HU.out.2.2.1.q]; simp) R wz hz
        rw [HU.out.2.2.2] at hcU
        have HCU := Lib.hid hcU
        clear hcT hcU
        go_wp2_with fail
        refine (HCT.out _ _ H.out.2).mono ?_
        rintro e wx ⟨va, rfl, hxx, hsx⟩
        have H' := Lib.hid (And.intro (H.out.1.trans hxx) (hsx.cast (show _ = diskP d T * (strRow va T.all * old w) by ac_rfl)))
        clear hxx hsx H; have H := H'; clear H'
        go_wp2_with fail
        refine (rot_any d T s kk mk _ _ H.out.2).mono ?_
        rintro e wx ⟨rfl, hxx, hsx⟩
        have H' := Lib.hid (And.intro (H.out.1.trans hxx) (hsx.cast (show _ = diskP d (T.rot s kk mk) * (strRow va T.all * old w) by ac_rfl)))
        clear hxx hsx H; have H := H'; clear H'
        rw [← HU.out.1] at H
        go_wp2_with fail
        refine (HCU.out _ _ H.out.2).mono ?_
        rintro e wx ⟨vb, rfl, hxx, hsx⟩
        have H' := Lib.hid (And.intro (H.out.1.trans hxx) (hsx.cast (show _ = diskP d U * (strRow vb U.all * (strRow va T.all * old w)) by ac_rfl)))
        clear hxx hsx H; have H := H'; clear H'
        go_wp2_with fail
        refine (rot_any d U s kk mk _ _ H.out.2).mono ?_
        rintro e wx ⟨rfl, hxx, hsx⟩
        have H' := Lib.hid (And.intro (H.out.1.trans hxx) (hsx.cast (show _ = diskP d (U.rot s kk mk) * (strRow vb U.all * (strRow va T.all * old w)) by ac_rfl)))
        clear hxx hsx H; have H := H'; clear H'
        rw [HU.out.2.1] at H
        go_wp2_with fail
        refine (HCT.out _ _ H.out.2).mono ?_
        rintro e wx ⟨vc, rfl, hxx, hsx⟩
        have H' := Lib.hid (And.intro (H.out.1.trans hxx) (hsx.cast (show _ = strRow vc T.all * (diskP d T * (strRow vb U.all * (strRow va T.all * old w))) by ac_rfl)))
        clear hxx hsx H; have H := H'; clear H'
        go_wp2_with fail
        refine (same_any va vc T.all T.all _ _ _ (H.out.2.cast (show _ = strRow va T.all * (strRow vc T.all * (diskP d T * (strRow vb U.all * old w))) by ac_rfl)) H.out.2).mono ?_
        rintro e wx ⟨rfl, hkx⟩
        have H' := Lib.hid (And.intro (H.out.1.trans hkx.ext) (H.out.2.kept hkx))
        clear hkx H; have H := H'; clear H'
        rw [show decide (T.all = T.all) = true from by simp]
        go_upto_region 20 with fail
        go_cut [21] (fun v wx => v = .bool (rotOk T s kk mk) ∧ Hid (Ext w wx ∧ Sat wx (strRow vc T.all * (diskP d T * (strRow vb U.all * (strRow va T.all * old w))))))
        case first =>
          by_cases g0 : 0 ≤ s
          · by_cases g1 : s < (T.n : Int)
            · by_cases g2 : 0 ≤ kk
              · by_cases g3 : kk < 64
                · by_cases g4 : 1 ≤ mk
                  · by_cases g5 : mk ≤ 255
                    · have hb : rotOk T s kk mk = true := by simp [rotOk, DS.valid]; omega
                      have HB := Lib.hid hb
                      clear hb
                      go_wp2_with fail
                      go_meet
                      exact ⟨by rw [HB.out], H.out⟩
                    · have hb : rotOk T s kk mk = false := by simp [rotOk, DS.valid]; omega
                      have HB := Lib.hid hb
                      clear hb
                      go_wp2_with fail
                      go_meet
                      exact ⟨by rw [HB.out], H.out⟩
                  · have hb : rotOk T s kk mk = false := by simp [rotOk, DS.valid]; omega
                    have HB := Lib.hid hb
                    clear hb
                    go_wp2_with fail
                    go_meet
                    exact ⟨by rw [HB.out], H.out⟩
                · have hb : rotOk T s kk mk = false := by simp [rotOk, DS.valid]; omega
                  have HB := Lib.hid hb
                  clear hb
                  go_wp2_with fail
                  go_meet
                  exact ⟨by rw [HB.out], H.out⟩
              · have hb : rotOk T s kk mk = false := by simp [rotOk, DS.valid]; omega
                have HB := Lib.hid hb
                clear hb
                go_wp2_with fail
                go_meet
                exact ⟨by rw [HB.out], H.out⟩
            · have hb : rotOk T s kk mk = false := by simp [rotOk, DS.valid]; omega
              have HB := Lib.hid hb
              clear hb
              go_wp2_with fail
              go_meet
              exact ⟨by rw [HB.out], H.out⟩
          · have hb : rotOk T s kk mk = false := by simp [rotOk, DS.valid]; omega
            have HB := Lib.hid hb
            clear hb
            go_wp2_with fail
            go_meet
            exact ⟨by rw [HB.out], H.out⟩
        case rest =>
          obtain ⟨rfl, H⟩ := hcut
          have hH := H
          clear hH
          generalize hvv : rotOk T s kk mk = bv at *
          have HVV := Lib.hid hvv
          clear hvv
          go_wp2_with fail
          go_loopw [22] (fun x wr => ∃ k : Nat, k ≤ T.n ∧ x = .int .i64 k ∧ Hid (Ext w wr ∧ Sat wr (strRow vc T.all * (diskP d T * (strRow vb U.all * (strRow va T.all * old w)))))) (fun x _ => T.n - (intOf x).toNat)
          case atStart => exact ⟨0, Nat.zero_le _, rfl, H⟩
          case round =>
            obtain ⟨i, hi, rfl, HR⟩ := hrel
            clear H
            by_cases hlt : i < T.n
            · have hva := (HR.out.2.cast (show _ = strRow va T.all * (strRow vc T.all * (diskP d T * (strRow vb U.all * old w))) by ac_rfl)).strForm
              have hvb := (HR.out.2.cast (show _ = strRow vb U.all * (strRow vc T.all * (diskP d T * (strRow va T.all * old w))) by ac_rfl)).strForm
              obtain ⟨xa, ca, hxa, _, hca⟩ := hva
              obtain ⟨xb, cb, hxb, _, hcb⟩ := hvb
              rw [all_len] at hxa hxb
              rw [HU.out.2.2.2] at hxb
              subst hxa hxb
              obtain ⟨ga, rfl, c1⟩ := hca i _ (all_get T i hlt)
              obtain ⟨gb, rfl, c2⟩ := hcb i _ (all_get U i (by rw [HU.out.2.2.2]; exact hlt))
              have hby := fun j hj => HBY.out i j hlt hj
              have hb1 := fun j hj => calm_byte HT.out i j hlt hj
              have hb2 := fun j hj => calm_byte HU.out.2.2.1 i j (by rw [HU.out.2.2.2]; exact hlt) hj
              have z1 : (T.secNow i).size = 64 := secNow_size HT.out.ok i hlt
              have z2 : (U.secNow i).size = 64 := secNow_size HU.out.2.2.1.ok i (by rw [HU.out.2.2.2]; exact hlt)
              have HB := Lib.hid (And.intro hby (And.intro hb1 hb2))
              have HC := Lib.hid (And.intro c1 c2)
              clear hby hb1 hb2 hca hcb c1 c2
              generalize T.secNow i = X at *
              generalize U.secNow i = Y at *
              generalize T.byte i = fx at *
              generalize U.byte i = fy at *
              go_wp2_with fail
              go_loopw [23] (fun x wr2 => ∃ k : Nat, k ≤ 64 ∧ x = .int .i64 k ∧ Hid (Kept wr wr2)) (fun x _ => 64 - (intOf x).toNat)
              case atStart => exact ⟨0, Nat.zero_le _, rfl, Kept.refl _⟩
              case round =>
                obtain ⟨j, hj, rfl, HK⟩ := hrel
                by_cases hj64 : j < 64
                · have c1 := HK.out.cell HC.out.1
                  have c2 := HK.out.cell HC.out.2
                  have hjx : j < X.size := by omega
                  have hjy : j < Y.size := by omega
                  have hxy := HB.out.1 j hj64
                  by_cases hc : (bv && (decide ((i : Int) = s) && decide ((j : Int) = kk))) = true
                  · rw [if_pos hc] at hxy
                    simp only [Bool.and_eq_true, decide_eq_true_eq] at hc
                    obtain ⟨hbv, hs, hkk⟩ := hc
                    have HXY := Lib.hid hxy
                    clear hxy
                    subst hbv
                    have hs2 : ((i : Int) == s) = true := by simpa using hs
                    have hk2 : ((j : Int) == kk) = true := by simpa using hkk
                    clear hs hkk
                    go_wp2_with fail
                    clear hs2 hk2
                    have hz := (byte_xor X Y j hjx hjy _ _ (HB.out.2.1 j hj64) (HB.out.2.2 j hj64)).trans HXY.out
                    have HZZ := Lib.hid hz
                    clear hz
                    go_quiet (fail)
                    go_wp2_with fail
                    · exfalso
                      rename_i hne
                      rw [HZZ.out] at hne
                      simp at hne
                    · exact ⟨⟨j + 1, by omega, by go_num, HK.out.trans ((Kept.refl _).drewN _)⟩, by simp [intOf]; omega⟩
                  · rw [if_neg hc] at hxy
                    have HXY := Lib.hid hxy
                    clear hxy
                    have hz := (byte_xor X Y j hjx hjy _ _ (HB.out.2.1 j hj64) (HB.out.2.2 j hj64)).trans HXY.out
                    have HZ := Lib.hid hz
                    clear hz
                    by_cases hbv : bv = true
                    · subst hbv
                      by_cases hs : (i : Int) = s
                      · have hs2 : ((i : Int) == s) = true := by simpa using hs
                        have hk2 : ((j : Int) == kk) = false := by
                          rw [beq_eq_false_iff_ne]; intro h; exact hc (by simp [hs, h])
                        clear hs hc
                        go_wp2_with fail
                        clear hs2 hk2
                        have hz := HZ.out
                        have HZZ := Lib.hid hz
                        clear hz
                        go_quiet (fail)
                        go_wp2_with fail
                        · exfalso
                          rename_i hne
                          rw [HZZ.out] at hne
                          simp at hne
                        · exact ⟨⟨j + 1, by omega, by go_num, HK.out.trans ((Kept.refl _).drewN _)⟩, by simp [intOf]; omega⟩
                      · have hs2 : ((i : Int) == s) = false := by simpa using hs
                        clear hs hc
                        go_wp2_with fail
                        clear hs2
                        have hz := HZ.out
                        have HZZ := Lib.hid hz
                        clear hz
                        go_quiet (fail)
                        go_wp2_with fail
                        · exfalso
                          rename_i hne
                          rw [HZZ.out] at hne
                          simp at hne
                        · exact ⟨⟨j + 1, by omega, by go_num, HK.out.trans ((Kept.refl _).drewN _)⟩, by simp [intOf]; omega⟩
                    · rw [Bool.not_eq_true] at hbv
                      subst hbv
                      clear hc
                      go_wp2_with fail
                      have hz := HZ.out
                      have HZZ := Lib.hid hz
                      clear hz
                      go_quiet (fail)
                      go_wp2_with fail
                      · exfalso
                        rename_i hne
                        rw [HZZ.out] at hne
                        simp at hne
                      · exact ⟨⟨j + 1, by omega, by go_num, HK.out.trans ((Kept.refl _).drewN _)⟩, by simp [intOf]; omega⟩
                · go_wp2_with fail
                  exact ⟨⟨i + 1, by omega, by go_num, (HR.out.1.trans HK.out.ext), HR.out.2.kept HK.out⟩, by simp [intOf]; omega⟩
            · have H := HR
              clear HR
              go_wp2_with fail
              obtain ⟨V, hV⟩ : ∃ V, V = T.stale s := ⟨_, rfl⟩
              obtain ⟨V2, hV2⟩ : ∃ V2, V2 = V.stale s := ⟨_, rfl⟩
              have hVc : V.calm ∧ V.n = T.n := by rw [hV]; exact stale_calm HT.out s
              have hV2c : V2.calm ∧ V2.n = T.n := by rw [hV2]; exact ⟨(stale_calm hVc.1 s).1, (stale_calm hVc.1 s).2.trans hVc.2⟩
              have hall : V.all = V2.all := by rw [hV2, hV]; exact (stale_twice HT.out s).symm
              have hoth := fun i hi hne => stale_other HT.out s i hi hne
              rw [← hV] at hoth
              have HV := Lib.hid (And.intro hV (And.intro hV2 (And.intro hVc (And.intro hV2c (And.intro hall hoth)))))
              clear hV hV2 hVc hV2c hall hoth
              have hcV := fun R wz hz => contents_any d V HV.out.2.2.1.1.off (by rw [HV.out.2.2.1.1.q]; simp) R wz hz
              rw [HV.out.2.2.1.2] at hcV
              have HCV := Lib.hid hcV
              have hcV2 := fun R wz hz => contents_any d V2 HV.out.2.2.2.1.1.off (by rw [HV.out.2.2.2.1.1.q]; simp) R wz hz
              rw [HV.out.2.2.2.1.2] at hcV2
              have HCV2 := Lib.hid hcV2
              clear hcV hcV2
              have H' := Lib.hid (And.intro H.out.1 (H.out.2.cast (show _ = diskP d T * (strRow vc T.all * (strRow vb U.all * (strRow va T.all * old w))) by ac_rfl)))
              clear H; have H := H'; clear H'
              refine (stale_any d T s _ _ H.out.2).mono ?_
              rintro e wx ⟨rfl, hxx, hsx⟩
              rw [← HV.out.1] at hsx
              have H' := Lib.hid (And.intro (H.out.1.trans hxx) (hsx.cast (show _ = diskP d V * (strRow vc T.all * (strRow vb U.all * (strRow va T.all * old w))) by ac_rfl)))
              clear hxx hsx H; have H := H'; clear H'
              go_wp2_with fail
              refine (HCV.out _ _ H.out.2).mono ?_
              rintro e wx ⟨vd, rfl, hxx, hsx⟩
              have H' := Lib.hid (And.intro (H.out.1.trans hxx) (hsx.cast (show _ = diskP d V * (strRow vd V.all * (strRow vc T.all * (strRow vb U.all * (strRow va T.all * old w)))) by ac_rfl)))
              clear hxx hsx H; have H := H'; clear H'
              go_wp2_with fail
              refine (stale_any d V s _ _ H.out.2).mono ?_
              rintro e wx ⟨rfl, hxx, hsx⟩
              rw [← HV.out.2.1] at hsx
              have H' := Lib.hid (And.intro (H.out.1.trans hxx) (hsx.cast (show _ = diskP d V2 * (strRow vd V.all * (strRow vc T.all * (strRow vb U.all * (strRow va T.all * old w)))) by ac_rfl)))
              clear hxx hsx H; have H := H'; clear H'
              go_wp2_with fail
              refine (HCV2.out _ _ H.out.2).mono ?_
              rintro e wx ⟨ve, rfl, hxx, hsx⟩
              have H' := Lib.hid (And.intro (H.out.1.trans hxx) (hsx.cast (show _ = strRow vd V.all * (strRow ve V2.all * (diskP d V2 * (strRow vc T.all * (strRow vb U.all * (strRow va T.all * old w))))) by ac_rfl)))
              clear hxx hsx H; have H := H'; clear H'
              go_wp2_with fail
              refine (same_any vd ve V.all V2.all _ _ _ H.out.2 (H.out.2.cast (show _ = strRow ve V2.all * (strRow vd V.all * (diskP d V2 * (strRow vc T.all * (strRow vb U.all * (strRow va T.all * old w))))) by ac_rfl))).mono ?_
              rintro e wx ⟨rfl, hkx⟩
              have H' := Lib.hid (And.intro (H.out.1.trans hkx.ext) (H.out.2.kept hkx))
              clear hkx H; have H := H'; clear H'
              rw [decide_eq_true HV.out.2.2.2.2.1]
              go_wp2_with fail
              go_loopw [29] (fun x wr => ∃ k : Nat, k ≤ T.n ∧ x = .int .i64 k ∧ Hid (Ext w wr ∧ Sat wr (strRow vd V.all * (strRow ve V2.all * (diskP d V2 * (strRow vc T.all * (strRow vb U.all * (strRow va T.all * old w)))))))) (fun x _ => T.n - (intOf x).toNat)
              case atStart => exact ⟨0, Nat.zero_le _, rfl, H.out⟩
              case round =>
                obtain ⟨i, hi, rfl, HR⟩ := hrel
                clear H
                have H := HR
                clear HR
                by_cases hlt : i < T.n
                · have hva := (H.out.2.cast (show _ = strRow va T.all * (strRow vd V.all * (strRow ve V2.all * (diskP d V2 * (strRow vc T.all * (strRow vb U.all * old w))))) by ac_rfl)).strForm
                  have hvb := H.out.2.strForm
                  obtain ⟨xa, ca, hxa, _, hca⟩ := hva
                  obtain ⟨xb, cb, hxb, _, hcb⟩ := hvb
                  rw [all_len] at hxa hxb
                  rw [HV.out.2.2.1.2] at hxb
                  subst hxa hxb
                  obtain ⟨ga, rfl, c1⟩ := hca i _ (all_get T i hlt)
                  obtain ⟨gb, rfl, c2⟩ := hcb i _ (all_get V i (by rw [HV.out.2.2.1.2]; exact hlt))
                  by_cases hs : (i : Int) = s
                  · have hs2 : ((i : Int) != s) = false := by simpa using hs
                    clear hs hca hcb
                    go_wp2_with fail
                    go_quiet (fail)
                    go_wp2_with fail
                    exact ⟨⟨i + 1, by omega, by go_num, H.out.1.drewN _, H.out.2.kept ((Kept.refl _).drewN _)⟩, by simp [intOf]; omega⟩
                  · have hs2 : ((i : Int) != s) = true := by simpa using hs
                    rw [HV.out.2.2.2.2.2 i hlt hs] at c2
                    have hz : ((T.secNow i).toList == (T.secNow i).toList) = true := by simp
                    clear hs hca hcb
                    go_wp2_with fail
                    go_quiet (fail)
                    go_wp2_with fail
                    exact ⟨⟨i + 1, by omega, by go_num, H.out.1.drewN _, H.out.2.kept ((Kept.refl _).drewN _)⟩, by simp [intOf]; omega⟩
                · go_wp2_with fail
                  go_ret
                  exact ⟨rfl, Kept.of_old (P := strRow vd V.all * (strRow ve V2.all * (diskP d V2 * (strRow vc T.all * (strRow vb U.all * strRow va T.all))))) H.out.1 (H.out.2.cast (by ac_rfl))⟩
end Go.Proofs.Ytcjocajpnebecaa
