/-
  seal's Get, walked, for an epoch and a place that are placed.
-/
import Derived.Test.YtmemhoiepnlhfaaGreatDoorK2
import Derived.Lib.ConvBytes
namespace Go.Proofs.YtmemhoiepnlhfaaGreatDoor
open Go.RowKit
set_option maxRecDepth 100000

theorem sread_n (l : List UInt8) (n : Nat) (hn : l.length = n) (hl : n ≤ 64) (k off cap : Nat) (w : World) (hc : ∀ i c, l[i]? = some c → w.cell? ⟨k, off + i, none⟩ = some (.int .u8 (c.toNat : Int))) :
    Calls Tryz.prog 56 #[.slice (some ⟨k, off, none⟩) n cap] w fun e w' => e = .returned (readV l) ∧ w = w' := by
  subst hn
  exact sread_any l hl k off cap w hc
theorem bytes_of (s : ByteArray) (w : World) : ∃ g cap w1, (convert 9 54 (.string s)).run Tryz.prog w = .ok (.slice (some ⟨g, 0, none⟩) s.size cap) w1 ∧ s.size ≤ cap ∧ Kept w w1 ∧
    ∀ i c, s.data.toList[i]? = some c → w1.cell? ⟨g, i, none⟩ = some (.int .u8 (c.toNat : Int)) := by
  refine ⟨_, _, _, Lib.run_convert_string_bytes (P := Tryz.prog) (u := .string) w 9 54 5 s (by kernel_rfl) (by kernel_rfl) (by kernel_rfl), grownCap_ge .., ⟨⟨rfl, rfl, rfl, by rw [Lib.bytesWorld_size]; omega⟩, fun k o hk => ?_⟩, fun i c hi => ?_⟩
  · rw [Lib.bytesWorld_at_old _ _ _ _ (Array.getElem?_eq_some_iff.1 hk).1]; exact hk
  · have hlt : i < s.size := (List.getElem?_eq_some_iff.1 hi).1
    rw [Lib.bytesWorld_cell w _ s i hlt, List.getD, hi]
    rfl
def GetPost (o : Option (List UInt8)) (r : Ending) : Prop :=
  match o with
  | some b => r = .returned (.tuple #[.string (strOf b), .int .i64 0])
  | none => ∃ er : Int, er ≠ 0 ∧ r = .returned (.tuple #[.string ⟨#[]⟩, .int .i64 er])
theorem readV_form (l : List UInt8) : ∃ (n : Nat) (o : Bool), readV l = .tuple #[.int .i64 (n : Int), .bool o] ∧ (o = true → readGo 0 l = some n) ∧ (o = false → readGo 0 l = none) := by
  cases h : readGo 0 l with
  | none => exact ⟨0, false, by simp [readV, h], by simp, by simp⟩
  | some n => exact ⟨n, true, by simp [readV, h], by simp, by simp⟩
theorem data_inj {s t : ByteArray} (h : s.data.toList = t.data.toList) : s = t := by
  cases s; cases t
  simp only at h
  rw [Array.toList_inj.1 h]
theorem strOf_data (s : ByteArray) : strOf s.data.toList = s := rfl

theorem get_size (e p : Nat) (s : ByteArray) (hpl : placed (e : Int) (p : Int) = true) (hs : s.size ≠ 64) (w : World) : Calls Tryz.prog 35 #[.int .i64 (e : Int), .int .i64 (p : Int), .string s] w fun r w' => GetPost (openB e p s.data.toList) r ∧ Kept w w' := by
  have pn := placed_nat hpl
  have HN : Hid (openB e p s.data.toList = none) := Lib.hid (by
    cases h : openB e p s.data.toList with
    | none => rfl
    | some b => exact absurd (openB_reads pn.1 pn.2 h).1 hs)
  have HP := Lib.hid hpl
  have h1 : ((s.size : Int) == 64) = false := by
    rw [beq_eq_false_iff_ne]; omega
  go_enter Tryz.func35, Tryz.ntmps35
  go_wp2_with fail
  refine (placed_any (e : Int) (p : Int) _).mono ?_
  rintro r w' ⟨rfl, rfl⟩
  rw [HP.out]
  go_wp2_with fail
  go_ret2
  rw [HN.out]
  exact ⟨⟨20, by decide, rfl⟩, Kept.refl _⟩

set_option maxHeartbeats 3200000 in
theorem get_64 (e p : Nat) (s : ByteArray) (hpl : placed (e : Int) (p : Int) = true) (hs : s.size = 64) (w : World) : Calls Tryz.prog 35 #[.int .i64 (e : Int), .int .i64 (p : Int), .string s] w fun r w' => GetPost (openB e p s.data.toList) r ∧ Kept w w' := by
  have pn := placed_nat hpl
  have HO : Hid (∀ b, openB e p s.data.toList = some b → readGo 0 (s.data.toList.take 8) = some e ∧ readGo 0 ((s.data.toList.drop 8).take 4) = some p ∧ readGo 0 ((s.data.toList.drop 12).take 4) = some b.length ∧ (s.data.toList.drop 16).take b.length = b ∧ b.length ≤ 40 ∧ s.data.toList = putL e p b) := Lib.hid fun b h => (openB_reads pn.1 pn.2 h).2
  have HP := Lib.hid hpl
  have h1 : ((s.size : Int) == 64) = true := by rw [hs]; rfl
  obtain ⟨g, cap, w1, hcv, hcap, hk, hc⟩ := bytes_of s w
  have HK := Lib.hid hk
  have HC := Lib.hid hc
  have hlen : s.data.toList.length = 64 := hs
  have HL := Lib.hid hlen
  clear hk hc hlen
  rw [hs] at hcap hcv
  go_enter Tryz.func35, Tryz.ntmps35
  go_wp2_with fail
  refine (placed_any (e : Int) (p : Int) _).mono ?_
  rintro r w' ⟨rfl, rfl⟩
  rw [HP.out]
  go_wp2_with fail
  clear hcv
  refine (sread_n (s.data.toList.take 8) 8 (by rw [List.length_take, HL.out]; rfl) (by decide) g 0 _ _ (fun i c hi => by
    rw [List.getElem?_take] at hi
    split at hi
    · rw [Nat.zero_add]; exact HC.out i c hi
    · cases hi)).mono ?_
  rintro r w' ⟨rfl, rfl⟩
  obtain ⟨n1, o1, hv1, ht1, hf1⟩ := readV_form (s.data.toList.take 8)
  rw [hv1]
  have HT1 := Lib.hid ht1
  have HF1 := Lib.hid hf1
  clear hv1 ht1 hf1
  go_wp2_with fail
  refine (sread_n ((s.data.toList.drop 8).take 4) 4 (by rw [List.length_take, List.length_drop, HL.out]; rfl) (by decide) g 8 _ _ (fun i c hi => by
    rw [List.getElem?_take] at hi
    split at hi
    · rw [List.getElem?_drop] at hi; exact HC.out (8 + i) c hi
    · cases hi)).mono ?_
  rintro r w' ⟨rfl, rfl⟩
  obtain ⟨n2, o2, hv2, ht2, hf2⟩ := readV_form ((s.data.toList.drop 8).take 4)
  rw [hv2]
  have HT2 := Lib.hid ht2
  have HF2 := Lib.hid hf2
  clear hv2 ht2 hf2
  go_wp2_with fail
  refine (sread_n ((s.data.toList.drop 12).take 4) 4 (by rw [List.length_take, List.length_drop, HL.out]; rfl) (by decide) g 12 _ _ (fun i c hi => by
    rw [List.getElem?_take] at hi
    split at hi
    · rw [List.getElem?_drop] at hi; exact HC.out (12 + i) c hi
    · cases hi)).mono ?_
  rintro r w' ⟨rfl, rfl⟩
  obtain ⟨n3, o3, hv3, ht3, hf3⟩ := readV_form ((s.data.toList.drop 12).take 4)
  rw [hv3]
  have HT3 := Lib.hid ht3
  have HF3 := Lib.hid hf3
  clear hv3 ht3 hf3
  have none_of : ∀ {o : Option (List UInt8)}, (∀ b, o ≠ some b) → Hid (o = none) := fun {o} h => Lib.hid (by
    cases o with
    | none => rfl
    | some b => exact absurd rfl (h b))
  cases o1 with
  | false =>
    have HN := none_of fun b h => by have := (HO.out b h).1; rw [HF1.out rfl] at this; cases this
    clear none_of
    go_wp2_with fail
    go_ret2
    rw [HN.out]
    exact ⟨⟨20, by decide, rfl⟩, HK.out⟩
  | true =>
  cases o2 with
  | false =>
    have HN := none_of fun b h => by have := (HO.out b h).2.1; rw [HF2.out rfl] at this; cases this
    clear none_of
    go_wp2_with fail
    go_ret2
    rw [HN.out]
    exact ⟨⟨20, by decide, rfl⟩, HK.out⟩
  | true =>
  cases o3 with
  | false =>
    have HN := none_of fun b h => by have := (HO.out b h).2.2.1; rw [HF3.out rfl] at this; cases this
    clear none_of
    go_wp2_with fail
    go_ret2
    rw [HN.out]
    exact ⟨⟨20, by decide, rfl⟩, HK.out⟩
  | true =>
  by_cases hn3 : n3 ≤ 40
  case neg =>
    have hn3' : (40 : Int) < (n3 : Int) := by omega
    have HN := none_of fun b h => by
      have h2 := (HO.out b h).2.2.1
      have h3 := (HO.out b h).2.2.2.2.1
      rw [HT3.out rfl, Option.some.injEq] at h2
      omega
    clear none_of
    go_wp2_with fail
    go_ret2
    rw [HN.out]
    exact ⟨⟨20, by decide, rfl⟩, HK.out⟩
  case pos =>
  have hn3' : ¬ (40 : Int) < (n3 : Int) := by omega
  have hn4 : (n3 : Int) ≤ 40 := by omega
  go_wp2_with fail
  obtain ⟨B, hB⟩ : ∃ B, s.extract 16 (16 + n3) = B := ⟨_, rfl⟩
  rw [hB]
  have hBl : B.data.toList = (s.data.toList.drop 16).take n3 := by
    rw [← hB, extract_list]
    rw [show 16 + n3 - 16 = n3 by omega]
  have hBn : B.size = n3 := by
    rw [← size_len, hBl, List.length_take, List.length_drop, HL.out]; omega
  have HB := Lib.hid hBl
  clear hBl hB
  refine (put_any (n1 : Int) (n2 : Int) B w1).mono ?_
  rintro r w2 ⟨rfl, hk⟩
  have HK2 := Lib.hid (HK.out.trans hk)
  clear hk HK HC
  unfold putR
  by_cases hpl2 : placed (n1 : Int) (n2 : Int) = true
  case neg =>
    rw [if_neg hpl2]
    have HN := none_of fun b h => by
      have h1 := (HO.out b h).1
      have h2 := (HO.out b h).2.1
      rw [HT1.out trivial, Option.some.injEq] at h1
      rw [HT2.out trivial, Option.some.injEq] at h2
      rw [h1, h2] at hpl2
      exact hpl2 HP.out
    clear none_of hpl2
    go_wp2_with fail
    go_ret2
    rw [HN.out]
    exact ⟨⟨20, by decide, rfl⟩, HK2.out⟩
  case pos =>
  rw [if_pos hpl2, if_pos (by omega)]
  rw [show ((n1 : Int)).toNat = n1 from rfl, show ((n2 : Int)).toNat = n2 from rfl]
  obtain ⟨t, ht⟩ : ∃ t, strOf (putL n1 n2 B.data.toList) = t := ⟨_, rfl⟩
  rw [ht]
  have HT := Lib.hid ht
  clear ht hpl2
  by_cases hts : t = s
  case neg =>
    have hts' : (t.toList == s.toList) = false := by rw [ByteArray.toList_eq, ByteArray.toList_eq, beq_eq_false_iff_ne]; exact fun h => hts (data_inj h)
    have HN := none_of fun b h => by
      have h1 := (HO.out b h).1
      have h2 := (HO.out b h).2.1
      have h3 := (HO.out b h).2.2.1
      have h4 := (HO.out b h).2.2.2.1
      have h5 := (HO.out b h).2.2.2.2.2
      rw [HT1.out trivial, Option.some.injEq] at h1
      rw [HT2.out trivial, Option.some.injEq] at h2
      rw [HT3.out trivial, Option.some.injEq] at h3
      apply hts
      rw [← HT.out, HB.out, h3, h4, h1, h2, ← h5]
      rfl
    clear none_of
    go_wp2_with fail
    go_ret2
    rw [HN.out]
    exact ⟨⟨20, by decide, rfl⟩, HK2.out⟩
  case pos =>
  subst hts
  have hts' : (t.toList == t.toList) = true := by simp
  by_cases he : n1 = e
  case neg =>
    have he' : ((n1 : Int) == (e : Int)) = false := by rw [beq_eq_false_iff_ne]; omega
    have HN := none_of fun b h => by
      have h1 := (HO.out b h).1
      rw [HT1.out trivial, Option.some.injEq] at h1
      exact he h1
    clear none_of
    go_wp2_with fail
    go_ret2
    rw [HN.out]
    exact ⟨⟨21, by decide, rfl⟩, HK2.out⟩
  case pos =>
  by_cases hp : n2 = p
  case neg =>
    have he' : ((n1 : Int) == (e : Int)) = true := by rw [beq_iff_eq]; omega
    have hp' : ((n2 : Int) == (p : Int)) = false := by rw [beq_eq_false_iff_ne]; omega
    have HN := none_of fun b h => by
      have h1 := (HO.out b h).2.1
      rw [HT2.out trivial, Option.some.injEq] at h1
      exact hp h1
    clear none_of
    go_wp2_with fail
    go_ret2
    rw [HN.out]
    exact ⟨⟨21, by decide, rfl⟩, HK2.out⟩
  case pos =>
  have he' : ((n1 : Int) == (e : Int)) = true := by rw [beq_iff_eq]; omega
  have hp' : ((n2 : Int) == (p : Int)) = true := by rw [beq_iff_eq]; omega
  have HS : Hid (openB e p t.data.toList = some B.data.toList) := Lib.hid ((openB_iff _ _ _ _).2 ⟨by rw [size_len]; omega, by
    rw [← he, ← hp]
    exact congrArg (fun x : ByteArray => x.data.toList) HT.out.symm⟩)
  clear none_of
  go_wp2_with fail
  go_ret2
  rw [HS.out]
  exact ⟨rfl, HK2.out⟩

theorem get_any (e p : Nat) (s : ByteArray) (hpl : placed (e : Int) (p : Int) = true) (w : World) : Calls Tryz.prog 35 #[.int .i64 (e : Int), .int .i64 (p : Int), .string s] w fun r w' => GetPost (openB e p s.data.toList) r ∧ Kept w w' := by
  by_cases hs : s.size = 64
  · exact get_64 e p s hpl hs w
  · exact get_size e p s hpl hs w
end Go.Proofs.YtmemhoiepnlhfaaGreatDoor
