/-
  log's check, Records and Room, walked. Their condition: records that lie in memory.
-/
import Derived.Test.YtmemhoiepnlhfaaGreatDoorJL
namespace Go.Proofs.YtmemhoiepnlhfaaGreatDoor
open Go.RowKit
set_option maxRecDepth 100000

def isLong (r : ByteArray) : Bool := decide (2000 < r.size)
theorem long_any (r : ByteArray) (w : World) : Calls Tryz.prog 62 #[.string r] w fun e w' => e = .returned (.bool (isLong r)) ∧ w' = w := by
  have H : Hid (isLong r = decide ((2000 : Int) < (r.size : Int))) := Lib.hid (by unfold isLong; rw [decide_eq_decide]; omega)
  go_enter Tryz.func62, Tryz.ntmps62
  go_wp2_with fail
  go_ret
  exact ⟨by rw [H.out]; rfl, rfl⟩
def RecsIn (w : World) (vb : Option Addr) (recs : List ByteArray) : Prop := ∀ (i : Nat) (x : ByteArray), recs[i]? = some x → ∃ g o, vb = some ⟨g, o, none⟩ ∧ w.cell? ⟨g, o + i, none⟩ = some (.string x)
set_option maxHeartbeats 1600000 in
theorem index_any (vb : Option Addr) (c : Nat) (recs : List ByteArray) (hn : recs.length ≤ 1000000) (w : World) (h : RecsIn w vb recs) :
    Calls Tryz.prog 81 #[.slice vb recs.length c, .func (.func 62) #[] #[]] w fun e w' => ∃ k : Int, e = .returned (.int .i64 k) ∧ (0 ≤ k ↔ recs.any isLong = true) ∧ k ≤ 1000000 ∧ -1 ≤ k ∧ w' = w := by
  have H := Lib.hid h
  obtain ⟨n, hn'⟩ : ∃ n, recs.length = n := ⟨_, rfl⟩
  have HN := Lib.hid hn'
  rw [hn'] at hn ⊢
  obtain ⟨B, hB⟩ : ∃ B, recs.any isLong = B := ⟨_, rfl⟩
  have HB := Lib.hid hB
  rw [hB]
  clear h hn' hB
  go_enter Tryz.func81, Tryz.ntmps81
  go_wp2_with fail
  go_loop [8] (fun i => ∃ j : Nat, i = .int .i64 j ∧ j ≤ n ∧ Hid ((recs.drop j).any isLong = B)) (fun i => n - (intOf i).toNat)
  case atStart => exact ⟨0, rfl, Nat.zero_le _, Lib.hid HB.out⟩
  case round =>
    obtain ⟨j, rfl, hj, HG⟩ := hrel
    by_cases hlt : j < n
    · obtain ⟨x, hx⟩ : ∃ x, recs[j]? = some x := ⟨_, List.getElem?_eq_getElem (by rw [HN.out]; exact hlt)⟩
      obtain ⟨g, o, rfl, hc⟩ := H.out j x hx
      have hg : Hid (B = (isLong x || (recs.drop (j + 1)).any isLong)) := Lib.hid (by
        rw [← HG.out, List.drop_eq_getElem_cons (by rw [HN.out]; exact hlt), List.any_cons]
        rw [List.getElem?_eq_some_iff] at hx
        rw [hx.2])
      clear hx HG H
      have HL := Lib.hid (long_any x w)
      obtain ⟨b, hb⟩ : ∃ b, isLong x = b := ⟨_, rfl⟩
      rw [hb] at hg HL
      clear hb
      go_wp2_with fail
      refine HL.out.mono ?_
      rintro r w1 ⟨rfl, rfl⟩
      cases b with
      | true =>
        go_wp2_with fail
        go_ret
        exact ⟨_, rfl, ⟨fun _ => by rw [hg.out]; rfl, fun _ => by omega⟩, by omega, by omega, rfl⟩
      | false =>
        go_wp2_with fail
        refine ⟨⟨j + 1, congrArg (Value.int .i64) (by omega), hlt, Lib.hid (by rw [hg.out]; rfl)⟩, ?_⟩
        show n - ((j : Int) + 1).toNat < n - (j : Int).toNat
        omega
    · have e0 : Hid (B = false) := Lib.hid (by rw [← HG.out, List.drop_of_length_le (by rw [HN.out]; omega)]; rfl)
      go_wp2_with fail
      go_ret
      exact ⟨_, rfl, ⟨fun h => by omega, fun h => by rw [e0.out] at h; cases h⟩, by omega, by omega, rfl⟩
theorem contains_any (vb : Option Addr) (c : Nat) (recs : List ByteArray) (hn : recs.length ≤ 1000000) (w : World) (h : RecsIn w vb recs) :
    Calls Tryz.prog 61 #[.slice vb recs.length c, .func (.func 62) #[] #[]] w fun e w' => e = .returned (.bool (recs.any isLong)) ∧ w' = w := by
  have HI := Lib.hid (index_any vb c recs hn w h)
  obtain ⟨b, hb⟩ : ∃ b, recs.any isLong = b := ⟨_, rfl⟩
  rw [hb] at HI ⊢
  clear h hb
  go_enter Tryz.func61, Tryz.ntmps61
  go_wp2_with fail
  refine HI.out.mono ?_
  rintro r w1 ⟨k, rfl, hk, hk1, hk2, rfl⟩
  have HD : Hid (decide (k ≥ 0) = b) := Lib.hid (by
    cases b with
    | true => exact decide_eq_true (hk.2 rfl)
    | false => exact decide_eq_false (fun h => by have := hk.1 h; cases this))
  clear hk
  go_wp2_with fail
  go_ret
  exact ⟨by rw [← HD.out]; rfl, rfl⟩
def checkR (br : Bool) (recs : List ByteArray) : Int := if br then 12 else if recs.any isLong then 3 else 0
theorem check_any (l : Nat) (br : Bool) (vb : Option Addr) (c : Nat) (recs : List ByteArray) (hn : recs.length ≤ 1000000) (w : World) (h : RecsIn w vb recs) (h7 : w.cell? ⟨l, 7, none⟩ = some (.bool br)) :
    Calls Tryz.prog 38 #[.pointer (some ⟨l, 0, none⟩), .slice vb recs.length c] w fun e w' => e = .returned (.int .i64 (checkR br recs)) ∧ w' = w := by
  have HI := Lib.hid (contains_any vb c recs hn w h)
  have hlt := World.block_lt_of_cell? w _ h7
  obtain ⟨b, hb⟩ : ∃ b, recs.any isLong = b := ⟨_, rfl⟩
  unfold checkR
  rw [hb] at HI ⊢
  clear h hb
  cases br with
  | true =>
    go_enter Tryz.func38, Tryz.ntmps38
    go_wp2_with fail
    go_ret
    exact ⟨rfl, rfl⟩
  | false =>
    go_enter Tryz.func38, Tryz.ntmps38
    go_wp2_with fail
    refine HI.out.mono ?_
    rintro r w1 ⟨rfl, rfl⟩
    cases b with
    | true =>
      go_wp2_with fail
      go_ret
      exact ⟨rfl, rfl⟩
    | false =>
      go_wp2_with fail
      go_ret
      exact ⟨rfl, rfl⟩
theorem check_nil (v : Value) (w : World) :
    Calls Tryz.prog 38 #[.pointer none, v] w fun e w' => e = .returned (.int .i64 1) ∧ w' = w := by
  go_enter Tryz.func38, Tryz.ntmps38
  go_wp2_with fail
  go_ret
  exact ⟨rfl, rfl⟩
theorem records_log (l d n a : Nat) (s : St) (lv : Value) (br : Bool) (list : List ByteArray) (hl : list.length ≤ 100000) (R : HProp) (w : World) (h : Sat w (pts l (.cells (logCells s d n a lv br) 69) * (strRow lv list * R))) :
    Calls Tryz.prog 22 #[.pointer (some ⟨l, 0, none⟩)] w fun e w' => ∃ v, e = .returned v ∧ Kept w w' ∧ Sat w' (strRow v list * (pts l (.cells (logCells s d n a lv br) 69) * (strRow lv list * R))) := by
  have c6 := h.log.2.2.2.2.2.2.1
  have lt := h.lt
  have H := Lib.hid h
  clear h
  go_enter Tryz.func22, Tryz.ntmps22
  go_wp2_with fail
  refine (clone_log lv list hl (pts l (.cells (logCells s d n a lv br) 69) * R) _ H.out.comm3).mono ?_
  rintro r w1 ⟨v, rfl, hk, hs⟩
  have HZ := Lib.hid (And.intro hk hs)
  clear hk hs
  go_wp2_with fail
  go_ret
  exact ⟨_, rfl, HZ.out.1, HZ.out.2.cast (by ac_rfl)⟩
theorem room_any (l d n a : Nat) (s : St) (lv : Value) (br : Bool) (hn : 2 ≤ n ∧ n ≤ 4000) (hs : s.length ≤ 100000) (R : HProp) (w : World) (h : Sat w (pts l (.cells (logCells s d n a lv br) 69) * R)) :
    Calls Tryz.prog 27 #[.pointer (some ⟨l, 0, none⟩)] w fun e w' => e = .returned (.int .i64 ((halfN n : Int) - (s.length : Int))) ∧ Kept w w' := by
  obtain ⟨c0, c1, c2, c3, c4, c5, c6, c7, lt⟩ := h.log
  have HH := Lib.hid (fun w h => half_any l n hn w h)
  have hh : halfN n ≤ 4000 := by unfold halfN; omega
  generalize halfN n = hf at *
  have f0 : Hid (w.drew.cell? ⟨l, 4, none⟩ = some (.int .i64 (n : Int)) ∧ w.drew.cell? ⟨l, 2, none⟩ = some (.int .i64 (s.length : Int))) := Lib.hid ⟨c4, c2⟩
  have hwr : IntKind.i64.wrap ((hf : Int) - (s.length : Int)) = (hf : Int) - (s.length : Int) := by rw [IntKind.wrap_i64]; omega
  have HK := Lib.hid ((Kept.refl w).drew)
  clear h c0 c1 c3 c5 c6 c7
  go_enter Tryz.func27, Tryz.ntmps27
  go_wp2_with fail
  go_region_held3 (fun wx => wx.cell? ⟨l, 4, none⟩ = some (.int .i64 (n : Int)) ∧ wx.cell? ⟨l, 2, none⟩ = some (.int .i64 (s.length : Int)))
    (first | exact f0.out)
    (first
      | (go_at_call 33; refine (HH.out _ f0.out.1).mono ?_; rintro r w1 ⟨rfl, rfl⟩))
  go_wp2_with fail
  go_ret
  exact ⟨rfl, HK.out⟩
end Go.Proofs.YtmemhoiepnlhfaaGreatDoor
