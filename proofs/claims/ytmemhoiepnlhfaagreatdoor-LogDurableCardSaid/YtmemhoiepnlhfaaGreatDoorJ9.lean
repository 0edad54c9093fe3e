/-
  seal's Join, walked. Its condition: bodies that lie in memory, the library's tables.
-/
import Derived.Test.YtmemhoiepnlhfaaGreatDoorK4
import Derived.Test.YtmemhoiepnlhfaaGreatDoorJ8
namespace Go.Proofs.YtmemhoiepnlhfaaGreatDoor
open Go.RowKit
set_option maxRecDepth 100000

def JoinPost (o : Option (List UInt8)) (r : Ending) : Prop :=
  match o with
  | some b => r = .returned (.tuple #[.string (strOf b), .int .i64 0])
  | none => r = .returned (.tuple #[.string ⟨#[]⟩, .int .i64 4])
theorem cut_any (s : ByteArray) (hs : s.size < 4294967281) (w : World) (hE : Env w) : Calls Tryz.prog 58 #[.string s, .string ⟨#[58]⟩] w fun e w' =>
    e = .returned (.tuple #[.string (strOf (Lib.cut s.data.toList [58]).1), .string (strOf (Lib.cut s.data.toList [58]).2.1), .bool (Lib.cut s.data.toList [58]).2.2]) ∧ Kept w w' := by
  obtain ⟨m, hm⟩ := hE.most
  exact (Tryz.strings_Cut s ⟨#[58]⟩ m w hs hm).mono fun _ _ ⟨h, n, hw⟩ => ⟨h, hw ▸ (Kept.refl w).drewN n⟩
theorem sjoin_any (bk o c : Nat) (xs : List ByteArray) (w : World) (hc : ∀ j x, xs[j]? = some x → w.cell? ⟨bk, o + j, none⟩ = some (.string x)) (h0 : xs ≠ []) (hcap : xs.length ≤ c) (hn : xs.length ≤ 1000000) (hl : (xs.map (·.data.toList)).flatten.length ≤ 1000000) :
    Calls Tryz.prog 59 #[.slice (some ⟨bk, o, none⟩) xs.length c, .string ⟨#[]⟩] w fun e w' => e = .returned (.string (strOf (xs.map (·.data.toList)).flatten)) ∧ Kept w w' := by
  have hbk : bk < w.heap.size := by
    cases xs with
    | nil => exact absurd rfl h0
    | cons x r => exact World.block_lt_of_cell? w _ (hc 0 x rfl)
  refine (Tryz.strings_Join bk o c xs ⟨#[]⟩ w hc hbk (by omega) hcap (by rw [join_flat]; omega)).mono fun _ _ ⟨h, hb⟩ => ⟨?_, Kept.of_below hb⟩
  rw [h, join_flat]
  rfl
theorem sequal_any (b1 o1 n c b2 o2 m d : Nat) (xs ys : List ByteArray) (w : World) (hx : xs.length = n) (hy : ys.length = m) (hn : n ≤ 1000000000) (hm : m ≤ 1000000000) (h1 : ∀ j x, xs[j]? = some x → w.cell? ⟨b1, o1 + j, none⟩ = some (.string x)) (h2 : ∀ j x, ys[j]? = some x → w.cell? ⟨b2, o2 + j, none⟩ = some (.string x)) :
    Calls Tryz.prog 60 #[.slice (some ⟨b1, o1, none⟩) n c, .slice (some ⟨b2, o2, none⟩) m d] w fun e w' => e = .returned (.bool (decide (xs = ys))) ∧ Kept w w' := by
  refine (Tryz.slices_Equal_string b1 o1 n c b2 o2 m d xs ys w (by omega) (by omega) (by omega) (by omega) (fun j hj => h1 j _ (by rw [List.getD_eq_getElem?_getD, List.getElem?_eq_getElem hj]; rfl)) (fun j hj => h2 j _ (by rw [List.getD_eq_getElem?_getD, List.getElem?_eq_getElem hj]; rfl))).mono fun _ _ ⟨h, q, hw⟩ => ⟨?_, hw ▸ (Kept.refl w).drewN q⟩
  rw [h, ← hx, ← hy, List.take_length, List.take_length]

theorem strOf_map_inj {a : List (List UInt8)} {b : List ByteArray} : a.map strOf = b ↔ a = b.map (·.data.toList) := by
  constructor
  · rintro rfl
    rw [List.map_map]
    exact (List.map_id a).symm
  · rintro rfl
    rw [List.map_map]
    exact List.map_id b

set_option maxHeartbeats 1600000 in
theorem join_any (bk o c : Nat) (xs : List ByteArray) (w : World) (hE : Env w) (hc : ∀ j x, xs[j]? = some x → w.cell? ⟨bk, o + j, none⟩ = some (.string x)) (h0 : xs ≠ []) (hcap : xs.length ≤ c) (hn : xs.length ≤ 1000000) (hl : (xs.map (·.data.toList)).flatten.length ≤ 1000000) :
    Calls Tryz.prog 36 #[.slice (some ⟨bk, o, none⟩) xs.length c] w fun r w' => JoinPost (joinL (xs.map (·.data.toList))) r ∧ Kept w w' := by
  have HJ := Lib.hid (sjoin_any bk o c xs w hc h0 hcap hn hl)
  have HC := Lib.hid hc
  have HE := Lib.hid hE
  obtain ⟨L, hL⟩ : ∃ L, (xs.map (·.data.toList)).flatten = L := ⟨_, rfl⟩
  rw [hL] at hl HJ
  have HO : Hid (joinL (xs.map (·.data.toList)) = if (Lib.cut L [58]).2.2 then (if partsL (Lib.cut L [58]).2.1 = xs.map (·.data.toList) then some (Lib.cut L [58]).2.1 else none) else none) := Lib.hid (by unfold joinL; rw [hL])
  obtain ⟨n, hn'⟩ : ∃ n, xs.length = n := ⟨_, rfl⟩
  rw [hn'] at HJ hn ⊢
  have HN := Lib.hid hn'
  have hcl := cut_len L
  clear hc hE hL hn'
  go_enter Tryz.func36, Tryz.ntmps36
  go_wp2_with fail
  refine HJ.out.mono ?_
  rintro r w1 ⟨rfl, hk⟩
  have HK1 := Lib.hid hk
  have HE1 := Lib.hid (HE.out.kept hk)
  clear hk HJ HE
  go_wp2_with fail
  refine (cut_any (strOf L) (by show L.length < _; omega) _ HE1.out).mono ?_
  rintro r w2 ⟨rfl, hk⟩
  have HK2 := Lib.hid (HK1.out.trans hk)
  have HE2 := Lib.hid (HE1.out.kept hk)
  clear hk HK1 HE1
  rw [show (strOf L).data.toList = L from rfl]
  obtain ⟨X, hX⟩ : ∃ X, Lib.cut L [58] = X := ⟨_, rfl⟩
  rw [hX] at HO hcl ⊢
  clear hX
  obtain ⟨p, q, ok⟩ := X
  dsimp only at HO hcl ⊢
  cases ok with
  | false =>
    have HN := Lib.hid (HO.out.trans (if_neg (by simp)))
    clear HO
    go_wp2_with fail
    go_ret2
    rw [HN.out]
    exact ⟨rfl, HK2.out⟩
  | true =>
  have HO2 := Lib.hid (HO.out.trans (if_pos rfl))
  clear HO
  go_wp2_with fail
  refine (split_any (strOf q) (by show q.length ≤ _; omega) _ HE2.out).mono ?_
  rintro r w3 ⟨v, rfl, hown, hb⟩
  rw [show (strOf q).data.toList = q from rfl] at hown
  obtain ⟨g, cap, rfl, _, _⟩ := hown.form (parts_pos q)
  have hpl : (partsL q).length ≤ 1000000000 := by
    have h1 := chunkF_count (textOf q).length (textOf q)
    have h2 : (textOf q).length ≤ 1000100 := by
      unfold textOf
      rw [List.length_append, List.length_cons]
      have := dec_len q.length (by omega)
      omega
    unfold partsL
    omega
  have h3 := sequal_any g 0 (partsL q).length cap bk o n c ((partsL q).map strOf) xs w3 (by simp) HN.out hpl (by omega)
    (fun j x hj => by
      have := hown.cells (g := g) rfl j (.string x) (by rw [List.getElem?_map, hj]; rfl)
      rw [Addr.add_lit] at this
      exact this) (fun j x hj => (HK2.out.trans (Kept.of_below hb)).cell (HC.out j x hj))
  have H3 := Lib.hid h3
  have HK3 := Lib.hid (HK2.out.trans (Kept.of_below hb))
  clear hown hb h3 HK2 HE2
  generalize (partsL q).length = M at *
  go_wp2_with fail
  refine H3.out.mono ?_
  rintro r w4 ⟨rfl, hk⟩
  have HK4 := Lib.hid (HK3.out.trans hk)
  clear hk H3 HK3
  by_cases heq : (partsL q).map strOf = xs
  · have HS := Lib.hid (HO2.out.trans (if_pos (strOf_map_inj.1 heq)))
    rw [decide_eq_true heq]
    clear heq HO2
    go_wp2_with fail
    go_ret2
    rw [HS.out]
    exact ⟨rfl, HK4.out⟩
  · have HS := Lib.hid (HO2.out.trans (if_neg (fun h => heq (strOf_map_inj.2 h))))
    rw [decide_eq_false heq]
    clear heq HO2
    go_wp2_with fail
    go_ret2
    rw [HS.out]
    exact ⟨rfl, HK4.out⟩
end Go.Proofs.YtmemhoiepnlhfaaGreatDoor
