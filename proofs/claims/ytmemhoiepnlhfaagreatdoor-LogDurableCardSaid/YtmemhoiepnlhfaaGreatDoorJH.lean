/-
  log's half, start and Append's closure, walked. The closure's condition: what it has captured lies in memory.
-/
import Derived.Test.YtmemhoiepnlhfaaGreatDoorJG
import Derived.Test.YtmemhoiepnlhfaaGreatDoorJ8
namespace Go.Proofs.YtmemhoiepnlhfaaGreatDoor
open Go.RowKit
set_option maxRecDepth 100000

def halfN (n : Nat) : Nat := (n - 2) / 2
def startN (n g : Nat) : Nat := 2 + g % 2 * halfN n
theorem half_any (l n : Nat) (hn : 2 ≤ n ∧ n ≤ 4000) (w : World) (h : w.cell? ⟨l, 4, none⟩ = some (.int .i64 (n : Int))) :
    Calls Tryz.prog 33 #[.pointer (some ⟨l, 0, none⟩)] w fun e w' => e = .returned (.int .i64 (halfN n : Int)) ∧ w' = w := by
  have hlt := World.block_lt_of_cell? w _ h
  have e1 : ((n : Int) - 2) / 2 = (halfN n : Int) := by unfold halfN; omega
  have E1 := Lib.hid e1
  clear e1
  go_enter Tryz.func33, Tryz.ntmps33
  go_wp2_with fail
  go_ret
  exact ⟨by rw [← E1.out]; rfl, rfl⟩
theorem half_le (n : Nat) : halfN n * 2 + 2 ≤ n ∨ n < 2 := by unfold halfN; omega
theorem lstart_any (l n g : Nat) (hn : 2 ≤ n ∧ n ≤ 4000) (hg : g ≤ 1000000) (w : World) (h : w.cell? ⟨l, 4, none⟩ = some (.int .i64 (n : Int))) :
    Calls Tryz.prog 34 #[.pointer (some ⟨l, 0, none⟩), .int .i64 (g : Int)] w fun e w' => e = .returned (.int .i64 (startN n g : Int)) ∧ w' = w := by
  have HH := Lib.hid (half_any l n hn w h)
  have h0 : (g : Int) % 2 = ((g % 2 : Nat) : Int) := by omega
  have h1 : startN n g = 2 + g % 2 * halfN n := rfl
  have hm : g % 2 = 0 ∨ g % 2 = 1 := by omega
  have hf : halfN n ≤ 4000 := by unfold halfN; omega
  obtain ⟨hh, hhh⟩ : ∃ hh, halfN n = hh := ⟨_, rfl⟩
  rw [hhh] at HH h1 hf
  have H0 := Lib.hid h0
  have e2 : (2 : Int) + (g : Int) % 2 * (hh : Int) = (startN n g : Int) := by rw [h1, h0]; simp
  have E2 := Lib.hid e2
  have hb : 0 ≤ (g : Int) % 2 * (hh : Int) ∧ (g : Int) % 2 * (hh : Int) ≤ 4000 := by
    rcases hm with hm | hm <;> rw [h0, hm] <;> simp <;> omega
  have hw1 : IntKind.i64.wrap ((g : Int) % 2 * (hh : Int)) = (g : Int) % 2 * (hh : Int) := by rw [IntKind.wrap_i64]; omega
  have hw2 : IntKind.i64.wrap (2 + (g : Int) % 2 * (hh : Int)) = 2 + (g : Int) % 2 * (hh : Int) := by rw [IntKind.wrap_i64]; omega
  clear h0 h1 hm e2 hhh hb
  go_enter Tryz.func34, Tryz.ntmps34
  go_wp2_with fail
  refine HH.out.mono ?_
  rintro e w1 ⟨rfl, rfl⟩
  go_wp2_with fail
  go_ret
  exact ⟨by rw [← E2.out]; rfl, rfl⟩

theorem Sat.strForm {w : World} {v : Value} {l : List ByteArray} {R : HProp} (h : Sat w (strRow v l * R)) : ∃ (vb : Option Addr) (c : Nat), v = .slice vb l.length c ∧ ∀ (i : Nat) (x : ByteArray), l[i]? = some x → ∃ g : Nat, vb = some ⟨g, 0, none⟩ := by
  unfold strRow at h
  obtain ⟨hl, ⟨h0, h1, _⟩ | ⟨g', cap', cur, hv, _⟩⟩ := h.row
  · refine ⟨none, 0, by rw [h0, h1], fun i x hi => ?_⟩
    rw [List.eq_nil_of_length_eq_zero h1] at hi
    simp at hi
  · exact ⟨_, _, hv, fun i x _ => ⟨g', rfl⟩⟩
theorem Sat.strCell {w : World} {g n c : Nat} {l : List ByteArray} {R : HProp} (h : Sat w (strRow (.slice (some ⟨g, 0, none⟩) n c) l * R)) (i : Nat) (x : ByteArray) (hi : l[i]? = some x) : w.cell? ⟨g, 0 + i, none⟩ = some (.string x) := by
  unfold strRow at h
  obtain ⟨rfl, _⟩ : n = l.length ∧ True := by
    obtain ⟨_, ⟨h0, _⟩ | ⟨g', cap', cur, hv, _⟩⟩ := h.row
    · cases h0
    · exact ⟨by simpa using (by simpa using hv : g = g' ∧ n = l.length ∧ c = cap').2.1, trivial⟩
  rw [Nat.zero_add]
  exact h.rowCell (by rw [List.getElem?_map, hi]; rfl)
theorem ends_either {e : Int} {r : Ending} (h : Ends e r) (he : e ≠ 0) : (r = .returned (.tuple #[]) ∧ Hid False) ∨ r = .panicked [{ v := .iface 27 (.int .i64 e), recovered := false }] := by
  unfold Ends at h
  rw [if_neg he] at h
  exact .inr h
theorem ends_zero {e : Int} {r : Ending} (h : Ends e r) (he : e = 0) : r = .returned (.tuple #[]) := by
  unfold Ends at h
  rw [if_pos he] at h
  exact h
theorem ends_dead {e : Int} {r : Ending} (h : Ends e r) (he : e ≠ 0) : r = .panicked [{ v := .iface 27 (.int .i64 e), recovered := false }] := by
  unfold Ends at h
  rw [if_neg he] at h
  exact h
theorem Kept.below_refl {w w' : World} (h : Below w.heap.size w w') : Kept w w' := Kept.of_below h
theorem clone_log (v : Value) (list : List ByteArray) (hl : list.length ≤ 100000) (X : HProp) (w : World) (h : Sat w (strRow v list * X)) :
    Calls Tryz.prog 37 #[v] w fun r w' => ∃ v', r = .returned v' ∧ Kept w w' ∧ Sat w' (strRow v' list * (strRow v list * X)) := by
  have h0 := h
  unfold strRow at h
  obtain ⟨hlen, ⟨rfl, h1, _⟩ | ⟨g', cap', cur, rfl, _⟩⟩ := h.row
  · refine (Tryz.slices_Clone_string_nil 0 0 w).mono ?_
    rintro r w' ⟨rfl, rfl⟩
    have hn : list = [] := List.eq_nil_of_length_eq_zero h1
    subst hn
    exact ⟨_, rfl, Kept.refl _, Sat.nilRow h0⟩
  · refine (Tryz.slices_Clone_string g' 0 list.length cap' list w (Nat.le_refl _) (by omega) (fun j hj => ?_)).mono ?_
    · have := h0.strCell j (list.getD j ByteArray.empty) (by rw [List.getD_eq_getElem?_getD, List.getElem?_eq_getElem hj]; rfl)
      exact this
    · rintro r w' ⟨v', rfl, ho, _, hb⟩
      rw [List.take_length] at ho
      exact ⟨v', rfl, Kept.of_below hb, Sat.of_owned h0 hb ho⟩
theorem Sat.rot4 {w : World} {A B C D Y : HProp} (h : Sat w (A * (B * (C * (D * Y))))) : Sat w (C * (D * (A * (B * Y)))) := h.cast (by ac_rfl)
theorem Sat.rot5 {w : World} {A B P C D Y : HProp} (h : Sat w (A * (B * (P * (C * (D * Y)))))) : Sat w (C * (D * (A * (B * (P * Y))))) := h.cast (by ac_rfl)
theorem Sat.swap23 {w : World} {A B P X : HProp} (h : Sat w (A * (B * (P * X)))) : Sat w (A * (P * (B * X))) := h.cast (by ac_rfl)
/-- What Append's closure has captured. -/
def appCap (l bl bp br : Nat) (pv : Value) (rec : ByteArray) (parts : List ByteArray) : HProp :=
  pts bl (.cells #[.pointer (some ⟨l, 0, none⟩)] 29) * (pts bp (.cells #[pv] 22) * (pts br (.cells #[.string rec] 9) * strRow pv parts))
theorem Sat.appCap {w : World} {l bl bp br : Nat} {pv : Value} {rec : ByteArray} {parts : List ByteArray} {R : HProp} (h : Sat w (appCap l bl bp br pv rec parts * R)) :
    w.cell? ⟨bl, 0, none⟩ = some (.pointer (some ⟨l, 0, none⟩)) ∧ w.cell? ⟨bp, 0, none⟩ = some pv ∧ w.cell? ⟨br, 0, none⟩ = some (.string rec) ∧ bl < w.heap.size ∧ bp < w.heap.size ∧ br < w.heap.size ∧ Sat w (strRow pv parts * R) := by
  unfold Proofs.YtmemhoiepnlhfaaGreatDoor.appCap at h
  have h1 := h.cast (show _ = pts bl (.cells #[.pointer (some ⟨l, 0, none⟩)] 29) * (pts bp (.cells #[pv] 22) * (pts br (.cells #[.string rec] 9) * (strRow pv parts * R))) by ac_rfl)
  have h2 := h1.right
  have h3 := h2.right
  exact ⟨by rw [h1.cell]; rfl, by rw [h2.cell]; rfl, by rw [h3.cell]; rfl, h1.lt, h2.lt, h3.lt, h3.right⟩
def appendBody (S : DS) (a n : Nat) (s : St) (parts : List ByteArray) : Int × DS :=
  andR (writeR S (startN n s.generation + s.length) s.generation parts) fun T => commitR T a ⟨s.number + 1, s.generation, s.length + parts.length⟩
theorem write_q0 (S : DS) (f g : Nat) (b : List ByteArray) (h : (writeR S f g b).1 = 0) : (writeR S f g b).2.q = [] := by
  unfold writeR andR at *
  split at h
  · rename_i h1
    rw [if_pos h1]
    exact each_q _ _ h
  · contradiction

end Go.Proofs.YtmemhoiepnlhfaaGreatDoor
