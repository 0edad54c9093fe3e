/-
  Rows of cells that a call owns, as assertions of the separation logic; and an append onto such a row.
  Its conditions: none of a program; plain facts on worlds.
-/
import Derived.Test.YtmemhoiepnlhfaaGreatDoorSep
import Derived.Deep.AppendLies
import Derived.Laws.CopyOwn
import Derived.Deep.RegionHeldLaw
import Derived.Deep.RegionHeld3
namespace Go.Proofs.YtmemhoiepnlhfaaGreatDoor
open Go.RowKit

/-- A slice value with n elements of 'size' cells each that lies at the head of a row of its own (or is nil): it reads as xs. -/
def rowP (e : TypeId) (size : Nat) (v : Value) (n : Nat) (xs : List Value) : HProp := fun h =>
  xs.length = n * size ∧ ((v = .slice none 0 0 ∧ n = 0 ∧ h = fun _ => none) ∨
    ∃ g cap cur, v = .slice (some ⟨g, 0, none⟩) n cap ∧ n ≤ cap ∧ cap ≤ maxLen ∧ cur.size = cap * size ∧ cur.toList.take (n * size) = xs ∧ pts g (.cells cur e) h)

theorem Sat.row {w : World} {e : TypeId} {size : Nat} {v : Value} {n : Nat} {xs : List Value} {R : HProp} (h : Sat w (rowP e size v n xs * R)) :
    xs.length = n * size ∧ ((v = .slice none 0 0 ∧ n = 0 ∧ Sat w R) ∨
      ∃ g cap cur, v = .slice (some ⟨g, 0, none⟩) n cap ∧ n ≤ cap ∧ cap ≤ maxLen ∧ cur.size = cap * size ∧ cur.toList.take (n * size) = xs ∧ Sat w (pts g (.cells cur e) * R)) := by
  obtain ⟨f, hf, a, b, hd, rfl, ⟨hl, hv⟩, hr⟩ := h
  refine ⟨hl, ?_⟩
  rcases hv with ⟨rfl, rfl, rfl⟩ | ⟨g, cap, cur, rfl, h1, h2, h3, h4, hp⟩
  · exact .inl ⟨rfl, rfl, b, fun k o hk => hf k o (by simp [Frag.join, hk]), hr⟩
  · exact .inr ⟨g, cap, cur, rfl, h1, h2, h3, h4, _, hf, a, b, hd, rfl, hp, hr⟩
theorem Sat.mkRow {w : World} {e : TypeId} {size : Nat} {g n cap : Nat} {cur : Array Value} {xs : List Value} {R : HProp} (hl : xs.length = n * size) (h1 : n ≤ cap) (h2 : cap ≤ maxLen)
    (h3 : cur.size = cap * size) (h4 : cur.toList.take (n * size) = xs) (h : Sat w (pts g (.cells cur e) * R)) : Sat w (rowP e size (.slice (some ⟨g, 0, none⟩) n cap) n xs * R) := by
  obtain ⟨f, hf, a, b, hd, rfl, hp, hr⟩ := h
  exact ⟨_, hf, a, b, hd, rfl, ⟨hl, .inr ⟨g, cap, cur, rfl, h1, h2, h3, h4, hp⟩⟩, hr⟩
theorem Sat.nilRow {w : World} {e : TypeId} {size : Nat} {R : HProp} (h : Sat w R) : Sat w (rowP e size (.slice none 0 0) 0 [] * R) := by
  obtain ⟨f, hf, hr⟩ := h
  exact ⟨f, hf, fun _ => none, f, fun _ => .inl rfl, by funext k; simp [Frag.join], ⟨by simp, .inl ⟨rfl, rfl, rfl⟩⟩, hr⟩
theorem Sat.owns {w : World} {e : TypeId} {size : Nat} {v : Value} {n : Nat} {xs : List Value} {R : HProp} (h : Sat w (rowP e size v n xs * R)) : w.ownsRow 0 e size v n xs := by
  obtain ⟨hl, ⟨rfl, rfl, _⟩ | ⟨g, cap, cur, rfl, h1, h2, h3, h4, hs⟩⟩ := h.row
  · exact ⟨hl, .inl ⟨rfl, rfl⟩⟩
  · exact ⟨hl, .inr ⟨g, cap, cur, rfl, Nat.zero_le _, hs.block, h1, h2, h3, h4⟩⟩
/-- Behind an append onto a row (Derived/Deep/AppendLies.lean's words). -/
theorem Sat.appended {w w' : World} {e : TypeId} {size : Nat} {v : Value} {n N cap g : Nat} {xs ys : List Value} {R : HProp} (h : Sat w (rowP e size v n xs * R))
    (hown : w'.ownsRow 0 e size (.slice (some ⟨g, 0, none⟩) N cap) N ys) (hg : w.grownBy w' v.ownBlock) (hat : v.ownBlock = some g ∨ g = w.heap.size) :
    Sat w' (rowP e size (.slice (some ⟨g, 0, none⟩) N cap) N ys * R) := by
  obtain ⟨hl, hv⟩ := hown
  rcases hv with ⟨h0, _⟩ | ⟨g', cap', cur, hv, _, hb, h1, h2, h3, h4⟩
  · cases h0
  · obtain ⟨rfl, rfl⟩ : g = g' ∧ cap = cap' := by simpa using hv
    refine Sat.mkRow hl h1 h2 h3 h4 ?_
    obtain ⟨_, ⟨rfl, rfl, hs⟩ | ⟨r, c, cu, rfl, _, _, _, _, hs⟩⟩ := h.row
    · rcases hat with hat | hat
      · simp [Value.ownBlock] at hat
      · subst hat
        exact hs.new hb fun k u hk => by
          rw [hg.block k (Array.getElem?_eq_some_iff.1 hk).1 (by simp [Value.ownBlock])]; exact hk
    · rcases hat with hat | hat
      · obtain rfl : r = g := by simpa [Value.ownBlock] using hat
        exact hs.write hb fun k hk u hu => by
          rw [hg.block k (Array.getElem?_eq_some_iff.1 hu).1 (by simpa [Value.ownBlock] using hk)]; exact hu
      · subst hat
        obtain ⟨f, hf, a, b, hd, rfl, hp, hr⟩ := hs
        have hb' : Sat w (fun x => x = b) := ⟨b, fun k o hk => hf k o (by
          rcases hd k with h | h
          · simp [Frag.join, h, hk]
          · rw [h] at hk; cases hk), rfl⟩
        have key : ∀ k o, b k = some o → w'.heap[k]? = some o := fun k o hk => by
          have hk' : k ≠ r := by
            rintro rfl
            rcases hd k with h | h
            · rw [show a = _ from hp] at h; simp at h
            · rw [h] at hk; cases hk
          have := hf k o (by
            rcases hd k with h | h
            · simp [Frag.join, h, hk]
            · rw [h] at hk; cases hk)
          rw [hg.block k (Array.getElem?_eq_some_iff.1 this).1 (by simpa [Value.ownBlock] using hk')]; exact this
        refine ⟨Frag.join (fun k => if k = w.heap.size then some (.cells cur e) else none) b, fun k u hk => ?_, _, b, fun k => ?_, rfl, rfl, hr⟩
        · by_cases hkb : k = w.heap.size
          · subst hkb
            simp [Frag.join] at hk
            rw [← hk]; exact hb
          · simp [Frag.join, hkb] at hk
            exact key k u hk
        · by_cases hkb : k = w.heap.size
          · subst hkb
            right
            cases hfk : b w.heap.size with
            | none => rfl
            | some u =>
              obtain ⟨f', hf', hx⟩ := hb'
              have := hf' w.heap.size u (by rw [hx]; exact hfk)
              simp at this
          · left; simp [hkb]
/-- What is read off a row: an element's cell. -/
theorem Sat.rowCell {w : World} {e : TypeId} {size : Nat} {g n cap : Nat} {xs : List Value} {R : HProp} (h : Sat w (rowP e size (.slice (some ⟨g, 0, none⟩) n cap) n xs * R)) {i : Nat} {x : Value} (hi : xs[i]? = some x) :
    w.cell? ⟨g, i, none⟩ = some x := by
  obtain ⟨hl, ⟨h0, _⟩ | ⟨g', cap', cur, hv, h1, h2, h3, h4, hs⟩⟩ := h.row
  · cases h0
  · obtain ⟨rfl, rfl⟩ : g = g' ∧ cap = cap' := by simpa using hv
    rw [hs.cell]
    have hlt := (List.getElem?_eq_some_iff.1 hi).1
    rw [← h4] at hi
    simp only [List.getElem?_take] at hi
    split at hi
    · simpa using hi
    · cases hi
theorem Sat.rowLt {w : World} {e : TypeId} {size : Nat} {g n m cap : Nat} {xs : List Value} {R : HProp} (h : Sat w (rowP e size (.slice (some ⟨g, 0, none⟩) m cap) n xs * R)) : g < w.heap.size := by
  obtain ⟨hl, ⟨h0, _⟩ | ⟨g', cap', cur, hv, h1, h2, h3, h4, hs⟩⟩ := h.row
  · cases h0
  · obtain ⟨rfl, rfl, rfl⟩ : g = g' ∧ m = n ∧ cap = cap' := by simpa using hv
    exact hs.lt
theorem Sat.setRow {w : World} {R : HProp} {b : Nat} {c : Array Value} {e : TypeId} {z : Nat × Nat} (h : Sat w (pts b (.cells c e z) * R)) (cs : Array Value) :
    Sat (w.setRow b cs) (pts b (.cells cs e z) * R) :=
  h.write (setRow_heap w b c cs e z h.block) fun k hk u hu => by rw [setRow_other w b k cs hk]; exact hu
theorem Ext.setRow {a w : World} (h : Ext a w) (b : Nat) (cs : Array Value) : Ext a (w.setRow b cs) := h.trans ⟨rfl, rfl, rfl, by simp [World.setRow]⟩
end Go.Proofs.YtmemhoiepnlhfaaGreatDoor
