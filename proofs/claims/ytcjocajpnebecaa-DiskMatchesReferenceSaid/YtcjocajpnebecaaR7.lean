/-
  The ref disk's Rot, walked, whatever the arguments. No condition.
-/
import Derived.Test.YtcjocajpnebecaaR6
namespace Go.Proofs.Ytcjocajpnebecaa
open Go.RowKit

theorem sec_put {L : List UInt8} {n i j k : Nat} (v : UInt8) (h : L.length = 64 * n) (hi : i < n) (hj : j < n) (hk : k < 64) : sec (L.set (64 * i + k) v) j = if i = j then (sec L j).set k v else sec L j := by
  apply List.ext_getElem?
  intro x
  have hl : (L.set (64 * i + k) v).length = 64 * n := by simp [h]
  by_cases hx : x < 64
  · rw [sec_get _ _ _ hx, List.getElem?_set]
    by_cases hij : i = j
    · subst hij
      rw [if_pos rfl, List.getElem?_set, sec_get _ _ _ hx, sec_len h hi]
      by_cases hkx : k = x
      · subst hkx; rw [if_pos rfl, if_pos rfl, if_pos (by omega), if_pos hk]
      · rw [if_neg (by omega), if_neg hkx]
    · rw [if_neg (by omega), if_neg hij, sec_get _ _ _ hx]
  · rw [List.getElem?_eq_none (by rw [sec_len hl hj]; omega)]
    split
    · rw [List.getElem?_eq_none (by rw [List.length_set, sec_len h hj]; omega)]
    · rw [List.getElem?_eq_none (by rw [sec_len h hj]; omega)]
theorem secs_put (n : Nat) (L : List UInt8) (i k : Nat) (v : UInt8) (h : L.length = 64 * n) (hi : i < n) (hk : k < 64) :
    secs n (L.set (64 * i + k) v) = (secs n L).set i ⟨((sec L i).set k v).toArray⟩ := by
  apply List.ext_getElem?
  intro j
  rw [List.getElem?_set]
  by_cases hj : j < n
  · rw [secs_get n _ j hj, sec_put v h hi hj hk]
    by_cases hij : i = j
    · subst hij; rw [if_pos rfl, if_pos rfl, if_pos (by rw [secs_len]; exact hi)]
    · rw [if_neg hij, if_neg hij, secs_get n _ j hj]
  · rw [List.getElem?_eq_none (by rw [secs_len]; omega)]
    split
    · rw [if_neg (by rw [secs_len]; omega)]
    · rw [List.getElem?_eq_none (by rw [secs_len]; omega)]
theorem ba_put (l : List UInt8) (k n : Nat) (v : UInt8) (h : l.length = n) (hk : k < n) :
    ((⟨l.toArray⟩ : ByteArray).extract 0 k ++ (⟨#[v]⟩ : ByteArray)) ++ (⟨l.toArray⟩ : ByteArray).extract (k + 1) n = ⟨(l.set k v).toArray⟩ := by
  apply ByteArray.ext
  rw [← Array.toList_inj, ByteArray.data_append, Array.toList_append, ByteArray.data_append, Array.toList_append, Lib.extract_data, Lib.extract_data]
  simp only [List.drop_zero, Nat.sub_zero]
  rw [List.set_eq_take_append_cons_drop, if_pos (by omega)]
  rw [List.take_of_length_le (l := l.drop (k + 1)) (by rw [List.length_drop]; omega)]
  simp

theorem u8_xor_plain (b : UInt8) (n : Nat) (hn : n < 256) : bits .xor .u8 (b.toNat : Int) (n : Int) = (((b ^^^ UInt8.ofNat n).toNat : Nat) : Int) := by
  rw [u8_xor_nat _ _ b.toNat_lt hn, UInt8.toNat_xor, UInt8.toNat_ofNat_of_lt' hn]
theorem one_byte {w : World} {g : Nat} {v : UInt8} {R : HProp} (h : Sat w (pts g (.cells #[.int .u8 (v.toNat : Int)] 5) * R)) :
    (convert 57 9 (.slice (some ⟨g, 0, none⟩) 1 1)).run Try.prog w = .ok (.string ⟨#[v]⟩) w := by
  have := run_convert_bytes_back (P := Try.prog) w 57 9 5 ⟨g, 0, none⟩ 1 [v] (by kernel_rfl) (by kernel_rfl) (by kernel_rfl) (fun j hj => by
    have hj0 : j = 0 := by simpa using hj
    subst hj0
    rw [Addr.add_lit, h.cell]; rfl)
  exact this

set_option maxRecDepth 100000 in
set_option maxHeartbeats 1600000 in
theorem rrot_on (m : Nat) (S : DS) (i k n : Nat) (b0 : UInt8) (hi : i < S.n) (hk : k < 64) (hn1 : 0 < n) (hn : n < 256) (hb : S.st[64 * i + k]? = some b0) (R : HProp) (w : World) (h : Sat w (refP m S * R)) :
    Calls Try.prog 37 #[.pointer (some ⟨m, 0, none⟩), .int .i64 (i : Int), .int .i64 (k : Int), .int .i64 (n : Int)] w fun e w' => e = .returned (.tuple #[]) ∧ Ext w w' ∧ Sat w' (refP m ({ S with st := S.st.set (64 * i + k) (b0 ^^^ UInt8.ofNat n) } : DS) * R) := by
  obtain ⟨hok, x, hx, hs⟩ := h.ref
  obtain ⟨sv, ev, pv, am, a, wr, b⟩ := x
  obtain ⟨gs, cs, ge, ce, rfl, rfl, s1⟩ := hs.refStable hok
  obtain ⟨c0, c1, c2, c3, c4, c5, c6, c7, hm⟩ := hs.refFlat.ref8
  have y1 := s1.strCell i _ (secs_get S.n S.st i hi)
  obtain ⟨z1, z2⟩ := s1.strFree i
  have hl : (sec S.st i).length = 64 := sec_len hok.st hi
  have h3 := s1.strSet (i := i) ⟨((sec S.st i).set k (b0 ^^^ UInt8.ofNat n)).toArray⟩
  rw [← secs_put S.n S.st i k (b0 ^^^ UInt8.ofNat n) hok.st hi hk] at h3
  have ho : ({ S with st := S.st.set (64 * i + k) (b0 ^^^ UInt8.ofNat n) } : DS).ok := ⟨hok.pos, hok.most, by simp [hok.st], hok.el, hok.q, hok.arm⟩
  have h4 : Sat _ (refP m ({ S with st := S.st.set (64 * i + k) (b0 ^^^ UInt8.ofNat n) } : DS) * R) := Sat.mkRef (x := ⟨.slice (some ⟨gs, 0, none⟩) S.n cs, .slice (some ⟨ge, 0, none⟩) S.n ce, pv, am, a, wr, b⟩) ho hx (h3.cast (show _ = pts m (.cells (RA.cells ⟨.slice (some ⟨gs, 0, none⟩) S.n cs, .slice (some ⟨ge, 0, none⟩) S.n ce, pv, am, a, wr, b⟩ S.off) 64) * (strRow (.slice (some ⟨gs, 0, none⟩) S.n cs) (secs S.n (S.st.set (64 * i + k) (b0 ^^^ UInt8.ofNat n))) * (strRow (.slice (some ⟨ge, 0, none⟩) S.n ce) (secs S.n S.el) * (rowP 73 2 pv S.q.length (pCells S.q) * R))) by ac_rfl))
  have H4 := Lib.hid h4
  have hgb : (sec S.st i)[k]? = some b0 := by rw [sec_get _ _ _ hk]; exact hb
  obtain ⟨X, hX⟩ : ∃ X : ByteArray, X = ⟨(sec S.st i).toArray⟩ := ⟨_, rfl⟩
  rw [← hX] at y1
  have hxs : X.size = 64 := by rw [hX, ba_size, hl]
  have hxk : X.data[k]? = some b0 := by rw [hX]; show (sec S.st i).toArray[k]? = _; rw [List.getElem?_toArray]; exact hgb
  have hput := ba_put (sec S.st i) k 64 (b0 ^^^ UInt8.ofNat n) hl hk
  rw [← hX] at hput
  have hkx : k < X.size := by omega
  have hxg : X[k] = b0 := (Array.getElem?_eq_some_iff.1 hxk).2
  have HX := Lib.hid (And.intro hxs (And.intro hput hxg))
  have hin : (i : Int) < (S.n : Int) := by omega
  clear hs h hok hx s1 h3 ho h4 hl hgb hb hX hxk hput hxg
  go_enter Try.func37, Try.ntmps37
  go_wp2_with fail
  rw [HX.out.2.2, u8_xor_plain b0 n hn]
  generalize hv : b0 ^^^ UInt8.ofNat n = v at *
  have HV := Lib.hid hv
  clear hv
  have hsl1 := fun wx => str_lo X k 64 HX.out.1 (by omega) wx
  have hsl2 := fun wx => str_hi X (k + 1) 64 HX.out.1 (by omega) wx
  have hw : IntKind.i64.wrap ((k : Int) + 1) = (k : Int) + 1 := IntWalk.i64_in ((k : Int) + 1) (by omega)
  have ek : (((k + 1 : Nat) : Nat) : Int) = (k : Int) + 1 := by omega
  simp only [ek] at hsl2
  have hcv := one_byte (((Sat.start w).allocNew (.cells #[.int .u8 (v.toNat : Int)] 5)).drew)
  have hadd1 := fun wx => run_string_add_sum (P := Try.prog) (w := wx) (X.extract 0 k) (⟨#[v]⟩ : ByteArray) (by have h1 := HX.out.1; simp only [ByteArray.size_extract]; show _ + 1 ≤ _; omega)
  have hadd2 := fun wx => run_string_add_sum (P := Try.prog) (w := wx) (X.extract 0 k ++ (⟨#[v]⟩ : ByteArray)) (X.extract (k + 1) 64) (by have h1 := HX.out.1; simp only [ByteArray.size_append, ByteArray.size_extract]; show _ + 1 + _ ≤ _; omega)
  clear ek
  (refine wp_region_still_tail 17 (by kernel_rfl) (by kernel_rfl) ?_; simp only [List.take_succ_cons, List.take_zero, List.drop_succ_cons, List.drop_zero]; change wpStill _ _ (World.drew _) _ _ _; (repeat (refine wpStill_step (fun K hK => ?_); go_simp; refine hK _ ?_; clear hK K)); refine wpStill_nil ?_; change wpList _ _ _ _ _ (World.drew _))
  go_wp2_with fail
  go_end0
  rw [HX.out.2.1, HV.out]
  exact ⟨rfl, (by repeat (first | with_reducible assumption | with_reducible exact Ext.refl _ | with_reducible refine Ext.alloc ?_ _ | with_reducible refine Ext.drew ?_ | with_reducible refine Ext.drewN _ ?_ | with_reducible refine Ext.setCell ?_ _ _)), (H4.out.alloc _).drew⟩

set_option maxRecDepth 100000 in
set_option maxHeartbeats 1600000 in
theorem rrot_any (m : Nat) (S : DS) (s k n : Int) (R : HProp) (w : World) (h : Sat w (refP m S * R)) :
    Calls Try.prog 37 #[.pointer (some ⟨m, 0, none⟩), .int .i64 s, .int .i64 k, .int .i64 n] w fun e w' => e = .returned (.tuple #[]) ∧ Ext w w' ∧ Sat w' (refP m (S.rot s k n) * R) := by
  obtain ⟨hok, x, hx, hs⟩ := h.ref
  by_cases hr : rotOk S s k n = true
  · have hrr := hr
    simp only [rotOk, DS.valid, Bool.and_eq_true, decide_eq_true_eq] at hr
    obtain ⟨⟨⟨h1, h2⟩, h3, h4⟩, h5, h6⟩ := hr
    obtain ⟨i, rfl⟩ := Int.eq_ofNat_of_zero_le h1
    obtain ⟨k, rfl⟩ := Int.eq_ofNat_of_zero_le h3
    obtain ⟨n, rfl⟩ := Int.eq_ofNat_of_zero_le (Int.le_of_lt h5)
    obtain ⟨b, hb⟩ : ∃ b, S.st[64 * i + k]? = some b := ⟨_, List.getElem?_eq_getElem (by rw [hok.st]; omega)⟩
    have E : S.rot (i : Int) (k : Int) (n : Int) = { S with st := S.st.set (64 * i + k) (b ^^^ UInt8.ofNat n) } := by
      simp [DS.rot, hrr, List.getD, hb]
    rw [E]
    exact rrot_on m S i k n b (by omega) (by omega) (by omega) (by omega) hb R w h
  · obtain ⟨sv, ev, pv, am, a, wr, b⟩ := x
    obtain ⟨gs, cs, ge, ce, rfl, rfl, s1⟩ := hs.refStable hok
    obtain ⟨c0, c1, c2, c3, c4, c5, c6, c7, hm⟩ := hs.refFlat.ref8
    have HH := Lib.hid h
    have E : Hid (S.rot s k n = S) := Lib.hid (by
      unfold DS.rot; rw [if_neg hr])
    have hcase : s < 0 ∨ (0 ≤ s ∧ (S.n : Int) ≤ s) ∨ (0 ≤ s ∧ s < (S.n : Int) ∧ k < 0) ∨ (0 ≤ s ∧ s < (S.n : Int) ∧ 0 ≤ k ∧ 64 ≤ k) ∨ (0 ≤ s ∧ s < (S.n : Int) ∧ 0 ≤ k ∧ k < 64 ∧ n < 1) ∨ (0 ≤ s ∧ s < (S.n : Int) ∧ 0 ≤ k ∧ k < 64 ∧ 1 ≤ n ∧ 255 < n) := by
      simp only [rotOk, DS.valid, Bool.and_eq_true, decide_eq_true_eq] at hr
      omega
    clear hs h hok hx s1 hr
    rcases hcase with g0 | ⟨g0, g1⟩ | ⟨g0, g1, g2⟩ | ⟨g0, g1, g2, g3⟩ | ⟨g0, g1, g2, g3, g4⟩ | ⟨g0, g1, g2, g3, g4, g5⟩
    all_goals
      go_enter Try.func37, Try.ntmps37
      go_wp2_with fail
      refine bodyPost_ret (results_none rfl _ _ _) rfl ⟨rfl, Ext.refl _, ?_⟩
      rw [E.out]; exact HH.out
end Go.Proofs.Ytcjocajpnebecaa
