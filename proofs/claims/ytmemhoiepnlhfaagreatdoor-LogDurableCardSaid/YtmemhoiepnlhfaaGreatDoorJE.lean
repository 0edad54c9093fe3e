/-
  log's closures that return sectors, walked. Their conditions: what they have captured lies in memory.
-/
import Derived.Test.YtmemhoiepnlhfaaGreatDoorJC
import Derived.Test.YtmemhoiepnlhfaaGreatDoorJD
namespace Go.Proofs.YtmemhoiepnlhfaaGreatDoor
open Go.RowKit
set_option maxRecDepth 100000

theorem env_old {W w : World} {R : HProp} (hE : Env W) (h : Sat w (old W * R)) : Env w := by
  have key : ∀ (k : Nat) (o : Obj), W.heap[k]? = some o → w.heap[k]? = some o := fun k o hk => by
    rw [h.oldBlock (Array.getElem?_eq_some_iff.1 hk).1]; exact hk
  refine ⟨?_, ?_⟩
  · have := hE.tab
    unfold Lib.TabIs World.var? at *
    cases hg : Tryz.prog.globalNamed "internal/strconv.uint64pow10" with
    | none => simp [hg] at this
    | some g =>
      simp only [hg, Option.bind_some] at this ⊢
      have hlt : g < W.heap.size := by
        rcases Nat.lt_or_ge g W.heap.size with h' | h'
        · exact h'
        · rw [Array.getElem?_eq_none h'] at this; simp at this
      rw [key g _ (Array.getElem?_eq_getElem hlt)]
      rw [Array.getElem?_eq_getElem hlt] at this
      exact this
  · obtain ⟨m, hm⟩ := hE.most
    refine ⟨m, ?_⟩
    have hlt := World.block_lt_of_cell? W _ hm
    rw [World.cell?_of_block (w := W) (by rw [key _ _ (Array.getElem?_eq_getElem hlt), Array.getElem?_eq_getElem hlt])]
    exact hm

def zeroB : ByteArray := strOf (List.replicate 64 0)
theorem blank_any (p : Value) (i : Int) (w : World) : Calls Tryz.prog 45 #[p, .int .i64 i] w fun e w' => e = .returned (.string zeroB) ∧ Kept w w' := by
  go_enter Tryz.func45, Tryz.ntmps45
  go_wp2_with fail
  go_ret
  exact ⟨rfl, Kept.refl _⟩

set_option maxHeartbeats 1600000 in
theorem write1_any (bg bf bb g o c n gen from' i : Nat) (x : ByteArray) (w : World) (hi : i < n) (hb : gen ≤ 1000000000 ∧ from' ≤ 1000000000 ∧ i ≤ 1000000000)
    (h1 : w.cell? ⟨bg, 0, none⟩ = some (.int .i64 (gen : Int))) (h2 : w.cell? ⟨bf, 0, none⟩ = some (.int .i64 (from' : Int))) (h3 : w.cell? ⟨bb, 0, none⟩ = some (.slice (some ⟨g, o, none⟩) n c))
    (h4 : w.cell? ⟨g, o + i, none⟩ = some (.string x)) :
    Calls Tryz.prog 65 #[.int .i64 (i : Int), .pointer (some ⟨bg, 0, none⟩), .pointer (some ⟨bf, 0, none⟩), .pointer (some ⟨bb, 0, none⟩)] w fun e w' =>
      e = .returned (.string (putR gen ((from' + i : Nat) : Int) x).1) ∧ Kept w w' := by
  have f0 : Hid (w.drew.cell? ⟨bg, 0, none⟩ = some (.int .i64 (gen : Int)) ∧ w.drew.cell? ⟨bf, 0, none⟩ = some (.int .i64 (from' : Int)) ∧ w.drew.cell? ⟨bb, 0, none⟩ = some (.slice (some ⟨g, o, none⟩) n c) ∧ w.drew.cell? ⟨g, o + i, none⟩ = some (.string x)) := Lib.hid ⟨h1, h2, h3, h4⟩
  have HP := Lib.hid (fun w => (put_any (gen : Int) ((from' + i : Nat) : Int) x w))
  have e0 : ((from' + i : Nat) : Int) = (from' : Int) + (i : Int) := by omega
  rw [e0] at HP ⊢
  obtain ⟨y, hy⟩ : ∃ y, putR (gen : Int) ((from' : Int) + (i : Int)) x = y := ⟨_, rfl⟩
  rw [hy] at HP ⊢
  obtain ⟨hb1, hb2, hb3⟩ := hb
  have hwr : IntKind.i64.wrap ((from' : Int) + (i : Int)) = (from' : Int) + (i : Int) := by rw [IntKind.wrap_i64]; omega
  clear h1 h2 h3 h4 hy e0
  go_enter Tryz.func65, Tryz.ntmps65
  go_wp2_with fail
  go_region_held3 (fun wx => wx.cell? ⟨bg, 0, none⟩ = some (.int .i64 (gen : Int)) ∧ wx.cell? ⟨bf, 0, none⟩ = some (.int .i64 (from' : Int)) ∧ wx.cell? ⟨bb, 0, none⟩ = some (.slice (some ⟨g, o, none⟩) n c) ∧ wx.cell? ⟨g, o + i, none⟩ = some (.string x))
    (first | exact f0.out | exact f1.out)
    (first
      | (go_at_call 57; refine (HP.out _).mono ?_; rintro r w1 ⟨rfl, hk⟩; have HK := Lib.hid (((Kept.refl w).drew).trans hk); have f1 := Lib.hid (And.intro (hk.cell f0.out.1) (And.intro (hk.cell f0.out.2.1) (And.intro (hk.cell f0.out.2.2.1) (hk.cell f0.out.2.2.2)))); clear hk HP))
  go_wp2_with fail
  go_ret
  exact ⟨rfl, HK.out⟩

/-- A log in memory. -/
def logCells (s : St) (d n a : Nat) (lv : Value) (br : Bool) : Array Value :=
  #[.int .i64 (s.number : Int), .int .i64 (s.generation : Int), .int .i64 (s.length : Int), .pointer (some ⟨d, 0, none⟩), .int .i64 (n : Int), .int .i64 (a : Int), lv, .bool br]
theorem Sat.log {w : World} {l : Nat} {s : St} {d n a : Nat} {lv : Value} {br : Bool} {R : HProp} (h : Sat w (pts l (.cells (logCells s d n a lv br) 69) * R)) :
    w.cell? ⟨l, 0, none⟩ = some (.int .i64 (s.number : Int)) ∧ w.cell? ⟨l, 1, none⟩ = some (.int .i64 (s.generation : Int)) ∧ w.cell? ⟨l, 2, none⟩ = some (.int .i64 (s.length : Int)) ∧ w.cell? ⟨l, 3, none⟩ = some (.pointer (some ⟨d, 0, none⟩)) ∧
    w.cell? ⟨l, 4, none⟩ = some (.int .i64 (n : Int)) ∧ w.cell? ⟨l, 5, none⟩ = some (.int .i64 (a : Int)) ∧ w.cell? ⟨l, 6, none⟩ = some lv ∧ w.cell? ⟨l, 7, none⟩ = some (.bool br) ∧ l < w.heap.size :=
  ⟨by rw [h.cell]; rfl, by rw [h.cell]; rfl, by rw [h.cell]; rfl, by rw [h.cell]; rfl, by rw [h.cell]; rfl, by rw [h.cell]; rfl, by rw [h.cell]; rfl, by rw [h.cell]; rfl, h.lt⟩

set_option maxHeartbeats 1600000 in
theorem head1_any (bl ba l a : Nat) (s : St) (hs : s.ok) (ha : a < 4000) (w : World) (hE : Env w)
    (h1 : w.cell? ⟨bl, 0, none⟩ = some (.pointer (some ⟨l, 0, none⟩))) (h2 : w.cell? ⟨ba, 0, none⟩ = some (.int .i64 (a : Int)))
    (h3 : w.cell? ⟨l, 0, none⟩ = some (.int .i64 (s.number : Int))) (h4 : w.cell? ⟨l, 1, none⟩ = some (.int .i64 (s.generation : Int))) (h5 : w.cell? ⟨l, 2, none⟩ = some (.int .i64 (s.length : Int))) (i : Int) :
    Calls Tryz.prog 68 #[.int .i64 i, .pointer (some ⟨bl, 0, none⟩), .pointer (some ⟨ba, 0, none⟩)] w fun e w' =>
      e = .returned (.string (strOf (headL a s))) ∧ Kept w w' := by
  have f0 : Hid (w.drew.cell? ⟨bl, 0, none⟩ = some (.pointer (some ⟨l, 0, none⟩)) ∧ w.drew.cell? ⟨ba, 0, none⟩ = some (.int .i64 (a : Int)) ∧ w.drew.cell? ⟨l, 0, none⟩ = some (.int .i64 (s.number : Int)) ∧ w.drew.cell? ⟨l, 1, none⟩ = some (.int .i64 (s.generation : Int)) ∧ w.drew.cell? ⟨l, 2, none⟩ = some (.int .i64 (s.length : Int))) := Lib.hid ⟨h1, h2, h3, h4, h5⟩
  have HP := Lib.hid (fun w h => (sector_any s hs a ha w h))
  have HE : Hid (Env w.drew) := Lib.hid (hE.kept ((Kept.refl w).drew))
  obtain ⟨n, g, ln⟩ := s
  dsimp only at *
  have hlt : l < w.heap.size := World.block_lt_of_cell? w _ h3
  generalize strOf (headL a ⟨n, g, ln⟩) = y at *
  clear h1 h2 h3 h4 h5 hE hs
  go_enter Tryz.func68, Tryz.ntmps68
  go_wp2_with fail
  go_region_held3 (fun wx => wx.cell? ⟨bl, 0, none⟩ = some (.pointer (some ⟨l, 0, none⟩)) ∧ wx.cell? ⟨ba, 0, none⟩ = some (.int .i64 (a : Int)) ∧ wx.cell? ⟨l, 0, none⟩ = some (.int .i64 (n : Int)) ∧ wx.cell? ⟨l, 1, none⟩ = some (.int .i64 (g : Int)) ∧ wx.cell? ⟨l, 2, none⟩ = some (.int .i64 (ln : Int)))
    (first | exact f0.out | exact f1.out)
    (first
      | (go_at_call 69; refine (HP.out _ HE.out).mono ?_; rintro r w1 ⟨rfl, hk⟩; have HK := Lib.hid (((Kept.refl w).drew).trans hk); have f1 := Lib.hid (And.intro (hk.cell f0.out.1) (And.intro (hk.cell f0.out.2.1) (And.intro (hk.cell f0.out.2.2.1) (And.intro (hk.cell f0.out.2.2.2.1) (hk.cell f0.out.2.2.2.2))))); clear hk HP))
  go_wp2_with fail
  go_ret
  exact ⟨rfl, HK.out⟩
end Go.Proofs.YtmemhoiepnlhfaaGreatDoor
