/-
  ratio's Parse, walked. Its condition: a text of at most a thousand bytes; the library's variables are as the program's start leaves them.
-/
import Derived.Test.YtacjgkpncdnbgaaDoorV9
import Derived.Lib.ParseIntBTie
namespace Go.Proofs.YtacjgkpncdnbgaaDoor
open Go.RowKit

theorem sat_bounds (l : List UInt8) : -9223372036854775808 ≤ Lib.intSat 64 l ∧ Lib.intSat 64 l ≤ 9223372036854775807 := by
  unfold Lib.intSat; split <;> decide

def isOk : Lib.NumEnd Int → Bool | .ok _ => true | _ => false
/-- strconv.ParseInt, every way. -/
theorem num_any (s : ByteArray) (hs : s.size ≤ 1000) (w : World) (hE : Env w) : Calls Tryd.prog 40 #[.string s, .int .i64 10, .int .i64 64] w fun e w' =>
    ∃ v : Int, (-9223372036854775808 ≤ v ∧ v ≤ 9223372036854775807) ∧ Kept w w' ∧
      ((Lib.parseIntB 64 s.data.toList = .ok v ∧ e = .returned (.tuple #[.int .i64 v, .nilIface])) ∨
       (isOk (Lib.parseIntB 64 s.data.toList) = false ∧ ∃ N : Nat, e = .returned (.tuple #[.int .i64 v, .iface 69 (.pointer (some ⟨N, 0, none⟩))]))) := by
  cases h : Lib.parseIntB 64 s.data.toList with
  | ok v =>
    have hb := Lib.parseIntB_bounds h
    refine (Tryd.strconv_ParseInt_10_at64_ok s (by omega) v h w).mono ?_
    rintro e w' ⟨rfl, hw⟩
    refine ⟨v, ⟨by omega, by omega⟩, ?_, Or.inl ⟨rfl, rfl⟩⟩
    rcases hw with rfl | ⟨t, rfl⟩
    · exact Kept.refl _
    · exact Kept.bytes _ _ _
  | «syntax» =>
    obtain ⟨te, pe, hc⟩ := hE.sx
    refine (Tryd.strconv_ParseInt_10_at64_syntax s (by omega) h _ w hc (Or.inr ⟨te, pe, rfl⟩)).mono ?_
    rintro e w' ⟨N, rfl, _, _, hb⟩
    exact ⟨0, ⟨by decide, by decide⟩, Kept.below hb, Or.inr ⟨rfl, N, rfl⟩⟩
  | range =>
    obtain ⟨te, pe, hc⟩ := hE.rg
    refine (Tryd.strconv_ParseInt_10_at64_range s (by omega) h _ w hc (Or.inr ⟨te, pe, rfl⟩)).mono ?_
    rintro e w' ⟨N, rfl, _, _, hb⟩
    exact ⟨_, sat_bounds _, Kept.below hb, Or.inr ⟨rfl, N, rfl⟩⟩

/-- The ratio that the parts seem to mean must have this text. -/
def finR (a : Q) (s : ByteArray) : Q × Int := if strOf (textL a) = s then (a, 0) else (q0, 6)
def denR (v : Int) (d : List UInt8) (s : ByteArray) : Q × Int := match Lib.parseIntB 64 d with | .ok u => finR ⟨v, u⟩ s | _ => (q0, 6)
def parseR (s : ByteArray) : Q × Int := match Lib.parseIntB 64 (Lib.cut s.data.toList [47]).1 with
  | .ok v => if (Lib.cut s.data.toList [47]).2.2 then denR v (Lib.cut s.data.toList [47]).2.1 s else finR ⟨v, 1⟩ s
  | _ => (q0, 6)

theorem cut_len (l : List UInt8) : (Lib.cut l [47]).1.length ≤ l.length ∧ (Lib.cut l [47]).2.1.length ≤ l.length := by
  unfold Lib.cut
  split
  · simp; omega
  · simp

theorem bytes_eq {T s : ByteArray} (h : T = s) : (T.toList == s.toList) = true := by rw [h]; simp
theorem bytes_ne {T s : ByteArray} (h : ¬ T = s) : (T.toList == s.toList) = false := by
  rw [beq_eq_false_iff_ne]
  intro h2
  rw [Lib.toList_data, Lib.toList_data] at h2
  exact h (ByteArray.ext (Array.toList_inj.1 h2))

set_option maxHeartbeats 1600000 in
theorem parse_any (s : ByteArray) (hs : s.size ≤ 1000) (w : World) (hE : Env w) : Calls Tryd.prog 18 #[.string s] w fun e w' => e = .returned (resV (parseR s)) ∧ Kept w w' := by
  have O : Hid (Own w (w.alloc (.cells #[.int .i64 0, .int .i64 0] 24)) w.heap.size #[.int .i64 0, .int .i64 0]) := Lib.hid (Own.made (Kept.refl w) _)
  have EN := Lib.hid hE
  obtain ⟨m, hm⟩ := hE.most
  have CU := Lib.hid (fun w (h : w.cell? ⟨0, 0, none⟩ = some (.int .i64 m)) => Tryd.strings_Cut s ⟨#[47]⟩ m w (by omega) h)
  have HM := Lib.hid hm
  clear hE hm
  have hl := cut_len s.data.toList
  have hsz : s.data.toList.length = s.size := rfl
  have E : Hid (parseR s = match Lib.parseIntB 64 (Lib.cut s.data.toList [47]).1 with
    | .ok v => if (Lib.cut s.data.toList [47]).2.2 then denR v (Lib.cut s.data.toList [47]).2.1 s else finR ⟨v, 1⟩ s
    | _ => (q0, 6)) := Lib.hid rfl
  rw [show (⟨#[47]⟩ : ByteArray).data.toList = [47] from rfl] at CU
  generalize Lib.cut s.data.toList [47] = C at *
  obtain ⟨x, y, is⟩ := C
  simp only at hl CU E
  have NX := Lib.hid (num_any ⟨x.toArray⟩ (by simp [ByteArray.size]; omega))
  have NY := Lib.hid (num_any ⟨y.toArray⟩ (by simp [ByteArray.size]; omega))
  clear hl hsz
  obtain ⟨r, hr⟩ : ∃ r, parseR s = r := ⟨_, rfl⟩
  rw [hr] at E ⊢
  clear hr
  go_enter Tryd.func18, Tryd.ntmps18
  go_wp2_with fail
  refine (CU.out _ (((Kept.refl w).alloc _).cell HM.out)).mono ?_
  rintro e w2 ⟨rfl, k, rfl⟩
  have O1 := Lib.hid (O.out.step ((Kept.refl _).drewN k))
  obtain ⟨B, hB⟩ : ∃ B, w.heap.size = B := ⟨_, rfl⟩
  rw [hB] at O1 ⊢
  clear O CU HM
  generalize hgen : (w.alloc (.cells #[.int .i64 0, .int .i64 0] 24)).drewN k = w2 at *
  clear hgen
  go_wp2_with fail
  refine (NX.out _ (EN.out.kept O1.out.kept)).mono ?_
  rintro e w5 ⟨v, hv, hk, hcase⟩
  have O2 := Lib.hid (O1.out.step hk)
  clear hk O1 NX
  rcases hcase with ⟨hp, rfl⟩ | ⟨hp, N, rfl⟩
  · have EV := Lib.hid (show r = (if is = true then denR v y s else finR ⟨v, 1⟩ s) by have h := E.out; rw [hp] at h; exact h)
    clear hp E
    cases is
    · have EF := Lib.hid (show r = finR ⟨v, 1⟩ s from EV.out)
      clear EV NY
      go_wp2_with fail
      have O3 : Hid (Own w (w5.alloc (.cells #[.int .i64 v, .int .i64 1] 24)) B #[.int .i64 0, .int .i64 0] ∧ Own w (w5.alloc (.cells #[.int .i64 v, .int .i64 1] 24)) w5.heap.size #[.int .i64 v, .int .i64 1]) :=
        Lib.hid ⟨O2.out.step ((Kept.refl _).alloc _), Own.made O2.out.kept _⟩
      have TX := Lib.hid (fun w hE => text_any ⟨v, 1⟩ ⟨hv.1, hv.2, by show (-9223372036854775808 : Int) ≤ 1; decide, by show (1 : Int) ≤ 9223372036854775807; decide⟩ w hE)
      refine (TX.out _ (EN.out.kept O3.out.1.kept)).mono ?_
      rintro e w6 ⟨rfl, hk⟩
      have O4 := Lib.hid (And.intro (O3.out.1.step hk) (O3.out.2.step hk))
      obtain ⟨B2, hB2⟩ : ∃ B2, w5.heap.size = B2 := ⟨_, rfl⟩
      rw [hB2] at O4 ⊢
      clear hk O3 TX O2
      have f0 := O4.out.1.free 0
      have f1 := O4.out.1.free 1
      have lt := O4.out.1.lt
      have c0 := O4.out.1.cell 0
      have c1 := O4.out.1.cell 1
      have a0 := O4.out.2.cell 0
      have a1 := O4.out.2.cell 1
      by_cases ht : strOf (textL ⟨v, 1⟩) = s
      · have E2 : Hid (r = (⟨v, 1⟩, 0)) := Lib.hid (by rw [EF.out, finR, if_pos ht])
        have hb := bytes_eq ht
        generalize strOf (textL ⟨v, 1⟩) = T at *
        clear ht EF
        go_wp2_with fail
        refine bodyPost_ret (results_own rfl ((O4.out.1.set 0 _).set 1 _) rfl) rfl ?_
        exact ⟨by rw [E2.out]; rfl, ((O4.out.1.set 0 _).set 1 _).kept⟩
      · have E2 : Hid (r = (q0, 6)) := Lib.hid (by rw [EF.out, finR, if_neg ht])
        have hb := bytes_ne ht
        generalize strOf (textL ⟨v, 1⟩) = T at *
        clear ht EF
        go_wp2_with fail
        refine bodyPost_ret (results_own rfl ((O4.out.1.set 0 _).set 1 _) rfl) rfl ?_
        exact ⟨by rw [E2.out]; rfl, ((O4.out.1.set 0 _).set 1 _).kept⟩
    · have EV := Lib.hid (show r = denR v y s from EV.out)
      go_wp2_with fail
      refine (NY.out _ (EN.out.kept O2.out.kept)).mono ?_
      rintro e w55 ⟨u, hu, hk, hcase⟩
      have O22 := Lib.hid (O2.out.step hk)
      clear hk O2 NY
      rcases hcase with ⟨hp, rfl⟩ | ⟨hp, N, rfl⟩
      · have EF := Lib.hid (show r = finR ⟨v, u⟩ s by have h := EV.out; unfold denR at h; rw [hp] at h; exact h)
        clear hp EV
        go_wp2_with fail
        have O3 : Hid (Own w (w55.alloc (.cells #[.int .i64 v, .int .i64 u] 24)) B #[.int .i64 0, .int .i64 0] ∧ Own w (w55.alloc (.cells #[.int .i64 v, .int .i64 u] 24)) w55.heap.size #[.int .i64 v, .int .i64 u]) :=
          Lib.hid ⟨O22.out.step ((Kept.refl _).alloc _), Own.made O22.out.kept _⟩
        have TX := Lib.hid (fun w hE => text_any ⟨v, u⟩ ⟨hv.1, hv.2, hu.1, hu.2⟩ w hE)
        refine (TX.out _ (EN.out.kept O3.out.1.kept)).mono ?_
        rintro e w6 ⟨rfl, hk⟩
        have O4 := Lib.hid (And.intro (O3.out.1.step hk) (O3.out.2.step hk))
        obtain ⟨B2, hB2⟩ : ∃ B2, w55.heap.size = B2 := ⟨_, rfl⟩
        rw [hB2] at O4 ⊢
        clear hk O3 TX O22
        have f0 := O4.out.1.free 0
        have f1 := O4.out.1.free 1
        have lt := O4.out.1.lt
        have c0 := O4.out.1.cell 0
        have c1 := O4.out.1.cell 1
        have a0 := O4.out.2.cell 0
        have a1 := O4.out.2.cell 1
        by_cases ht : strOf (textL ⟨v, u⟩) = s
        · have E2 : Hid (r = (⟨v, u⟩, 0)) := Lib.hid (by rw [EF.out, finR, if_pos ht])
          have hb := bytes_eq ht
          generalize strOf (textL ⟨v, u⟩) = T at *
          clear ht EF
          go_wp2_with fail
          refine bodyPost_ret (results_own rfl ((O4.out.1.set 0 _).set 1 _) rfl) rfl ?_
          exact ⟨by rw [E2.out]; rfl, ((O4.out.1.set 0 _).set 1 _).kept⟩
        · have E2 : Hid (r = (q0, 6)) := Lib.hid (by rw [EF.out, finR, if_neg ht])
          have hb := bytes_ne ht
          generalize strOf (textL ⟨v, u⟩) = T at *
          clear ht EF
          go_wp2_with fail
          refine bodyPost_ret (results_own rfl ((O4.out.1.set 0 _).set 1 _) rfl) rfl ?_
          exact ⟨by rw [E2.out]; rfl, ((O4.out.1.set 0 _).set 1 _).kept⟩
      · have EF : Hid (r = (q0, 6)) := Lib.hid (by have h := EV.out; unfold denR at h; cases hq : Lib.parseIntB 64 y <;> rw [hq] at h hp <;> first | exact h | (cases hp))
        clear hp EV
        have O3 : Hid (Own w (w55.alloc (.cells #[.int .i64 v, .int .i64 u] 24)) B #[.int .i64 0, .int .i64 0]) := Lib.hid (O22.out.step ((Kept.refl _).alloc _))
        have f0 := O3.out.free 0
        have f1 := O3.out.free 1
        have lt := O3.out.lt
        have c0 := O3.out.cell 0
        have c1 := O3.out.cell 1
        go_wp2_with fail
        refine bodyPost_ret (results_own rfl ((O3.out.set 0 _).set 1 _) rfl) rfl ?_
        exact ⟨by rw [EF.out]; rfl, ((O3.out.set 0 _).set 1 _).kept⟩
  · have EF : Hid (r = (q0, 6)) := Lib.hid (by have h := E.out; cases hq : Lib.parseIntB 64 x <;> rw [hq] at h hp <;> first | exact h | (cases hp))
    clear hp NY E
    cases is
    · have O3 : Hid (Own w (w5.alloc (.cells #[.int .i64 v, .int .i64 1] 24)) B #[.int .i64 0, .int .i64 0]) := Lib.hid (O2.out.step ((Kept.refl _).alloc _))
      have f0 := O3.out.free 0
      have f1 := O3.out.free 1
      have lt := O3.out.lt
      have c0 := O3.out.cell 0
      have c1 := O3.out.cell 1
      go_wp2_with fail
      refine bodyPost_ret (results_own rfl ((O3.out.set 0 _).set 1 _) rfl) rfl ?_
      exact ⟨by rw [EF.out]; rfl, ((O3.out.set 0 _).set 1 _).kept⟩
    · have O3 : Hid (Own w (w5.alloc (.cells #[.int .i64 v, .int .i64 1] 24)) B #[.int .i64 0, .int .i64 0]) := Lib.hid (O2.out.step ((Kept.refl _).alloc _))
      have f0 := O3.out.free 0
      have f1 := O3.out.free 1
      have lt := O3.out.lt
      have c0 := O3.out.cell 0
      have c1 := O3.out.cell 1
      go_wp2_with fail
      refine bodyPost_ret (results_own rfl ((O3.out.set 0 _).set 1 _) rfl) rfl ?_
      exact ⟨by rw [EF.out]; rfl, ((O3.out.set 0 _).set 1 _).kept⟩
end Go.Proofs.YtacjgkpncdnbgaaDoor
