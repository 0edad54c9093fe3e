/-
  Plain laws on a disk's state: what runs, failures and synchronizations leave. No program in sight. Its condition: few operations.
-/
import Derived.Test.YtcjocajpnebecaaL3
namespace Go.Proofs.Ytcjocajpnebecaa
open Go.RowKit

def DS.run (S : DS) (l : List AC) : DS := l.foldl (fun S a => (S.act a).2) S
theorem run_snoc (S : DS) (l : List AC) (a : AC) : S.run (l ++ [a]) = ((S.run l).act a).2 := by simp [DS.run, List.foldl_append]

/-- A step keeps the number of sectors and the invariant, and adds at most one pending write. -/
structure Goes (S S' : DS) (k : Nat) : Prop where
  n : S'.n = S.n
  ok : S.ok → S'.ok
  q : S'.q.length ≤ S.q.length + k
theorem Goes.refl (S : DS) : Goes S S 0 := ⟨rfl, id, by omega⟩
theorem Goes.trans {S T U : DS} {i j : Nat} (h : Goes S T i) (k : Goes T U j) : Goes S U (i + j) := ⟨k.n.trans h.n, fun o => k.ok (h.ok o), by have := h.q; have := k.q; omega⟩
theorem Goes.more {S T : DS} {i j : Nat} (h : Goes S T i) (hij : i ≤ j) : Goes S T j := ⟨h.n, h.ok, by have := h.q; omega⟩
theorem goes_torn (S : DS) (p : Option (Nat × ByteArray)) (b : Int) : (S.torn p b).n = S.n := by
  unfold DS.torn; split
  · split <;> rfl
  · rfl
theorem goes_fail (S : DS) (x b : Int) : Goes S (S.fail x b) 0 := by
  refine ⟨?_, fun h => h.fail x b, ?_⟩
  · unfold DS.fail; split
    · rfl
    · show (DS.torn _ _ _).n = _; rw [goes_torn, (settle_n S _).1]
  · unfold DS.fail; split
    · omega
    · simp [DS.dead]
theorem goes_count (S : DS) : Goes S S.count.2 0 := by
  refine ⟨?_, fun h => h.count, ?_⟩ <;> unfold DS.count <;> split
  · rfl
  · split
    · rfl
    · exact (goes_fail _ _ _).n
  · simp
  · split
    · simp
    · exact (goes_fail _ _ _).q
theorem goes_write (S : DS) (s : Int) (t : ByteArray) : Goes S (S.write s t).2 1 := by
  refine ⟨?_, fun h => h.write s t, ?_⟩ <;> unfold DS.write <;> split
  · rfl
  · split
    · exact (goes_count _).n
    · rfl
  · simp
  · split
    · have := (goes_count { S with q := S.q ++ [(s.toNat, t)] }).q
      simpa using this
    · simp
theorem goes_flush (S : DS) : Goes S S.flush 0 := ⟨(settle_n S _).1, fun h => h.flush, by simp [DS.flush]⟩
theorem goes_sync (S : DS) : Goes S S.sync.2 0 := by
  unfold DS.sync; split
  · exact Goes.refl S
  · split
    · exact (goes_count S).trans (goes_flush _)
    · exact goes_count S
theorem goes_start (S : DS) : Goes S S.start 0 := ⟨rfl, fun h => h.start, by simp [DS.start]⟩
theorem goes_stale (S : DS) (s : Int) : Goes S (S.stale s) 0 := by
  refine ⟨?_, fun h => h.stale s, ?_⟩ <;> unfold DS.stale <;> split <;> simp
theorem goes_rot (S : DS) (s k m : Int) : Goes S (S.rot s k m) 0 := by
  refine ⟨?_, fun h => h.rot s k m, ?_⟩ <;> unfold DS.rot <;> split <;> simp
theorem goes_armed (S : DS) (a b c : Int) (ha : a ≤ 9223372036854775807) : Goes S (S.armed a b c) 0 := by
  refine ⟨?_, fun h => h.armed ha b c, ?_⟩ <;> unfold DS.armed <;> split
  · rfl
  · split <;> rfl
  · simp
  · split <;> simp
theorem goes_act (S : DS) (a : AC) (hwf : a.wf) : Goes S (S.act a).2 1 := by
  rcases a.kinds with h | h | h | h | h | h | h | h | ⟨h0, h1, h2, h3, h4, h5, h6, h7⟩
  · simp only [DS.act, h, if_true]; exact goes_write _ _ _
  · simp only [DS.act, h]; exact (Goes.refl _).more (by omega)
  · simp only [DS.act, h]; exact (goes_sync _).more (by omega)
  · simp only [DS.act, h]; exact (goes_fail _ _ _).more (by omega)
  · simp only [DS.act, h]; exact (goes_start _).more (by omega)
  · simp only [DS.act, h]; exact (goes_armed _ _ _ _ hwf.after).more (by omega)
  · simp only [DS.act, h]; exact (goes_rot _ _ _ _).more (by omega)
  · simp only [DS.act, h]; exact (goes_stale _ _).more (by omega)
  · simp only [DS.act, h0, h1, h2, h3, h4, h5, h6, h7, if_false]; exact (Goes.refl _).more (by omega)
theorem goes_run (S : DS) (l : List AC) (hwf : ∀ a ∈ l, a.wf) : Goes S (S.run l) l.length := by
  induction l generalizing S with
  | nil => exact Goes.refl S
  | cons a l ih =>
    have h1 := goes_act S a (hwf a (by simp))
    have h2 := ih (S.act a).2 (fun x hx => hwf x (by simp [hx]))
    exact (h1.trans h2).more (by simp; omega)
theorem all_eq {S T : DS} (hn : S.n = T.n) (hq : S.q = T.q) (hs : S.st = T.st) : S.all = T.all := by
  unfold DS.all
  rw [hn]
  apply List.map_congr_left
  intro i _
  unfold DS.secNow; rw [hq, hs]

/-! ### A failure that lets all pending writes through -/
theorem fail_all (S : DS) (hoff : S.off = false) (b : Int) (x : Int) (hx : (S.q.length : Int) ≤ x) : S.fail x b = (S.settle S.q).dead := by
  have h1 : cut x S.q.length = S.q.length := by unfold cut; omega
  rw [fail_eq S x b S.q.length hoff h1.symm, List.take_of_length_le (Nat.le_refl _), List.getElem?_eq_none (Nat.le_refl _)]; rfl
theorem all_law (S : DS) (hlen : S.q.length ≤ 60) (b m : Int) :
    (((S.start.fail 60 b).fail m b).start.start).all = ((S.start.sync.2.fail 0 b).start).all ∧ S.start.sync.1 = 0 := by
  have h0 : S.start.sync = (0, S.start.flush) := by simp [DS.sync, DS.start, DS.count, DS.flush]
  have h1 : S.start.fail 60 b = (S.start.settle S.q).dead := fail_all S.start rfl b 60 (by show ((S.start).q.length : Int) ≤ 60; simp [DS.start]; omega)
  have h2 : (S.start.settle S.q).dead.fail m b = (S.start.settle S.q).dead := by simp [DS.fail, DS.dead]
  have h3 : S.start.flush.fail 0 b = (S.start.flush.settle []).dead := fail_all S.start.flush (by simp [DS.flush, (settle_n _ _).2.2.1, DS.start]) b 0 (by simp [DS.flush])
  rw [h1, h2, h0]
  refine ⟨?_, rfl⟩
  show _ = (DS.start (S.start.flush.fail 0 b)).all
  rw [h3]
  exact all_eq rfl rfl rfl
end Go.Proofs.Ytcjocajpnebecaa
