/-
  Plain laws on a disk's state: what settling, a torn write and a failure leave in each sector. No program in sight.
-/
import Derived.Test.YtcjocajpnebecaaP1
namespace Go.Proofs.Ytcjocajpnebecaa
open Go.RowKit

theorem splice_get {α : Type} (L cs : List α) (off : Nat) (h : off + cs.length ≤ L.length) (k : Nat) :
    (splice L off cs)[k]? = if off ≤ k ∧ k < off + cs.length then cs[k - off]? else L[k]? := by
  unfold splice
  by_cases h1 : k < off
  · rw [List.getElem?_append_left (by simp; omega), if_neg (by omega), List.getElem?_take_of_lt h1]
  · rw [List.getElem?_append_right (by simp; omega)]
    have e : (List.take off L).length = off := by simp; omega
    rw [e]
    by_cases h2 : k < off + cs.length
    · rw [List.getElem?_append_left (by omega), if_pos ⟨by omega, h2⟩]
    · rw [List.getElem?_append_right (by omega), if_neg (by omega), List.getElem?_drop]
      congr 1; omega
theorem sec_set {L : List UInt8} {n i j : Nat} {t : List UInt8} (h : L.length = 64 * n) (hi : i < n) (hj : j < n) (ht : t.length ≤ 64) :
    sec (splice L (64 * i) t) j = if i = j then t ++ (sec L j).drop t.length else sec L j := by
  apply List.ext_getElem?
  intro k
  have hl : (splice L (64 * i) t).length = 64 * n := by rw [length_splice _ _ _ (by omega), h]
  by_cases hk : k < 64
  · rw [sec_get _ _ _ hk, splice_get _ _ _ (by omega)]
    by_cases hij : i = j
    · subst hij
      rw [if_pos rfl]
      by_cases h1 : k < t.length
      · rw [if_pos ⟨by omega, by omega⟩, List.getElem?_append_left h1]; congr 1; omega
      · rw [if_neg (by omega), List.getElem?_append_right (by omega), List.getElem?_drop, sec_get _ _ _ (by omega)]; congr 1; omega
    · rw [if_neg (by omega), if_neg hij, sec_get _ _ _ hk]
  · rw [List.getElem?_eq_none (by rw [sec_len hl hj]; omega)]
    split
    · rw [List.getElem?_eq_none]
      rw [List.length_append, List.length_drop, sec_len h hj]; omega
    · rw [List.getElem?_eq_none (by rw [sec_len h hj]; omega)]
theorem sec_settle {S : DS} (h : S.ok) (l : List (Nat × ByteArray)) (hl : ∀ p ∈ l, p.1 < S.n ∧ p.2.size = 64) (i : Nat) (hi : i < S.n) :
    sec (S.settle l).st i = ((lastOf l i).map fun t => t.data.toList).getD (sec S.st i) := by
  obtain ⟨r, rfl⟩ : ∃ r, l = r.reverse := ⟨l.reverse, by simp⟩
  induction r with
  | nil => rfl
  | cons p r ih0 =>
    rw [List.reverse_cons] at hl ⊢
    generalize r.reverse = l at *
    have ih := ih0
    have hp := hl p (by simp)
    have hl' : ∀ p ∈ l, p.1 < S.n ∧ p.2.size = 64 := fun x hx => hl x (by simp [hx])
    have e : S.settle (l ++ [p]) = (S.settle l).set p.1 p.2.data.toList := by simp [DS.settle, List.foldl_append]
    have hok := h.settle l hl'
    have hn : (S.settle l).n = S.n := (settle_n S l).1
    have hsz : p.2.data.toList.length = 64 := by rw [← hp.2]; rfl
    rw [e]
    show sec (splice (S.settle l).st (64 * p.1) p.2.data.toList) i = _
    rw [sec_set (n := S.n) (by rw [hok.st, hn]) hp.1 hi (by omega), lastOf_snoc]
    split
    · simp only [Option.map_some, Option.getD_some]
      rw [List.drop_eq_nil_of_le]
      · simp
      · rw [sec_len (by rw [hok.st, hn]) hi]; omega
    · exact ih hl'

/-- A disk that is on, is not armed and has synchronized all that was written. -/
structure DS.calm (T : DS) : Prop where
  ok : T.ok
  off : T.off = false
  arm : T.arm = none
  q : T.q = []
theorem calm_of (S : DS) (h : S.ok) : (S.start.sync = (0, S.start.flush)) ∧ S.start.flush.calm := by
  have e : S.start.sync = (0, S.start.flush) := by simp [DS.sync, DS.start, DS.count, DS.flush]
  exact ⟨e, h.start.flush, by simp [DS.flush, (settle_n _ _).2.2.1, DS.start], by simp [DS.flush, (settle_n _ _).2.2.2, DS.start], rfl⟩
def DS.with (T : DS) (q : List (Nat × ByteArray)) : DS := { T with q := q }
def good (n : Nat) (a : AC) : Bool := (decide (0 ≤ a.sector) && decide (a.sector < (n : Int))) && decide (a.write.size = 64)
def pend (n : Nat) (l : List AC) : List (Nat × ByteArray) := (l.filter (good n)).map fun a => (a.sector.toNat, a.write)
theorem pend_snoc (n : Nat) (l : List AC) (a : AC) : pend n (l ++ [a]) = if good n a then pend n l ++ [(a.sector.toNat, a.write)] else pend n l := by
  unfold pend
  rw [List.filter_append, List.map_append]
  by_cases h : good n a
  · simp [h]
  · simp [h]
theorem pend_len (n : Nat) (l : List AC) : (pend n l).length ≤ l.length := by
  unfold pend; rw [List.length_map]; exact List.length_filter_le _ _
theorem pend_ok (n : Nat) (l : List AC) : ∀ p ∈ pend n l, p.1 < n ∧ p.2.size = 64 := by
  intro p hp
  unfold pend at hp
  obtain ⟨a, ha, rfl⟩ := List.mem_map.1 hp
  have h := (List.mem_filter.1 ha).2
  simp only [good, Bool.and_eq_true, decide_eq_true_eq] at h
  exact ⟨by omega, h.2⟩
theorem with_write {T : DS} (h : T.calm) (q : List (Nat × ByteArray)) (a : AC) :
    (T.with q).write a.sector a.write = if good T.n a then (0, T.with (q ++ [(a.sector.toNat, a.write)])) else (1, T.with q) := by
  have h1 := h.off
  have h2 := h.arm
  simp [DS.write, DS.with, h1, h2, DS.count, good, DS.valid]
theorem with_ok {T : DS} (h : T.calm) (q : List (Nat × ByteArray)) (hq : ∀ p ∈ q, p.1 < T.n ∧ p.2.size = 64) : (T.with q).ok :=
  ⟨h.ok.pos, h.ok.most, h.ok.st, h.ok.el, hq, fun a b c e => by have := h.arm; simp [DS.with, this] at e⟩
theorem with_fail {T : DS} (h : T.calm) (q : List (Nat × ByteArray)) (x b : Int) :
    (T.with q).fail x b = ((T.with q).settle (q.take (cut x q.length)) |>.torn q[cut x q.length]? b).dead := by
  have h1 := h.off
  simp [DS.fail, DS.with, h1]
theorem torn_sec {S : DS} (h : S.ok) (p : Nat × ByteArray) (hp : p.1 < S.n ∧ p.2.size = 64) (b : Int) (i : Nat) (hi : i < S.n) :
    sec (S.torn (some p) b).st i = if p.1 = i then p.2.data.toList.take (cut b 64) ++ (sec S.st i).drop (cut b 64) else sec S.st i := by
  unfold DS.torn
  have hsz : p.2.data.toList.length = 64 := by rw [← hp.2]; rfl
  have hc : cut b 64 ≤ 64 := by unfold cut; omega
  by_cases h0 : 0 < cut b 64
  · simp only [h0, if_true]
    show sec (splice S.st (64 * p.1) (p.2.data.toList.take (cut b 64))) i = _
    have hl : (p.2.data.toList.take (cut b 64)).length = cut b 64 := by rw [List.length_take]; omega
    rw [sec_set h.st hp.1 hi (by omega), hl]
  · have : cut b 64 = 0 := by omega
    simp [this]
theorem dead_start_secNow (S : DS) (i : Nat) : S.dead.start.secNow i = ⟨(sec S.st i).toArray⟩ := by
  simp [DS.secNow, DS.dead, DS.start, lastOf]
theorem calm_secNow {T : DS} (h : T.calm) (i : Nat) : T.secNow i = ⟨(sec T.st i).toArray⟩ := by
  simp [DS.secNow, h.q, lastOf]
theorem lastOf_none {q : List (Nat × ByteArray)} {i : Nat} (h : ∀ p ∈ q, p.1 ≠ i) : lastOf q i = none := by
  unfold lastOf
  rw [List.find?_eq_none.2]
  · rfl
  · intro p hp; simpa using h p (by simpa using hp)

/-- What was not written after the synchronization is as it was. -/
theorem stable_law {T : DS} (h : T.calm) (q : List (Nat × ByteArray)) (hq : ∀ p ∈ q, p.1 < T.n ∧ p.2.size = 64) (x b : Int) (i : Nat) (hi : i < T.n) (hn : ∀ p ∈ q, p.1 ≠ i) :
    ((T.with q).fail x b).start.secNow i = T.secNow i := by
  rw [with_fail h, dead_start_secNow, calm_secNow h]
  congr 2
  have hok := with_ok h q hq
  have h1 : sec ((T.with q).settle (q.take (cut x q.length))).st i = sec T.st i := by
    rw [sec_settle hok _ (fun p hp => hq p (List.mem_of_mem_take hp)) i hi, lastOf_none (fun p hp => hn p (List.mem_of_mem_take hp))]; rfl
  cases hp : q[cut x q.length]? with
  | none => exact h1
  | some p =>
    have hm := List.mem_of_getElem? hp
    have hk := hok.settle (q.take (cut x q.length)) (fun p hp => hq p (List.mem_of_mem_take hp))
    rw [torn_sec hk p (by rw [(settle_n _ _).1]; exact hq p hm) b i (by rw [(settle_n _ _).1]; exact hi), if_neg (hn p hm)]; exact h1
/-- What a failure leaves: the first writes, and the first bytes of the next. -/
theorem prefix_law {T : DS} (h : T.calm) (q : List (Nat × ByteArray)) (hq : ∀ p ∈ q, p.1 < T.n ∧ p.2.size = 64) (m k : Nat) (hk : k ≤ 64) (i : Nat) (hi : i < T.n) :
    ((T.with q).fail (m : Int) (k : Int)).start.secNow i =
      match q[m]? with
      | some p => if p.1 = i then ⟨(p.2.data.toList.take k ++ ((T.with (q.take m)).secNow i).data.toList.drop k).toArray⟩ else (T.with (q.take m)).secNow i
      | none => (T.with (q.take m)).secNow i := by
  have hc : cut (k : Int) 64 = k := by unfold cut; omega
  have hok := with_ok h q hq
  have hl : ∀ p ∈ q.take m, p.1 < (T.with q).n ∧ p.2.size = 64 := fun p hp => hq p (List.mem_of_mem_take hp)
  have hsec : sec ((T.with q).settle (q.take m)).st i = ((T.with (q.take m)).secNow i).data.toList := by
    rw [sec_settle hok _ hl i hi]
    unfold DS.secNow
    show _ = ((lastOf (q.take m) i).getD ⟨(sec T.st i).toArray⟩).data.toList
    cases lastOf (q.take m) i <;> simp [DS.with]
  have hcut : q.take (cut (m : Int) q.length) = q.take m ∧ q[cut (m : Int) q.length]? = q[m]? := by
    unfold cut
    by_cases hm : m ≤ q.length
    · have : (min (max (m : Int) 0) (q.length : Int)).toNat = m := by omega
      rw [this]; exact ⟨rfl, rfl⟩
    · have : (min (max (m : Int) 0) (q.length : Int)).toNat = q.length := by omega
      rw [this, List.take_of_length_le (Nat.le_refl _), List.take_of_length_le (by omega), List.getElem?_eq_none (Nat.le_refl _), List.getElem?_eq_none (by omega)]; exact ⟨rfl, rfl⟩
  rw [with_fail h, dead_start_secNow, hcut.1, hcut.2]
  cases hp : q[m]? with
  | none =>
    simp only
    show (⟨(sec ((T.with q).settle (q.take m)).st i).toArray⟩ : ByteArray) = _
    rw [hsec]
  | some p =>
    simp only
    have hm := hq p (List.mem_of_getElem? hp)
    have hk2 := hok.settle (q.take m) hl
    rw [torn_sec hk2 p (by rw [(settle_n _ _).1]; exact hm) (k : Int) i (by rw [(settle_n _ _).1]; exact hi), hc, hsec]
    split <;> rfl
theorem all_get (S : DS) (i : Nat) (hi : i < S.n) : S.all[i]? = some (S.secNow i) := by
  unfold DS.all
  rw [List.getElem?_map, List.getElem?_range hi]; rfl
theorem all_len (S : DS) : S.all.length = S.n := by simp [DS.all]
theorem all_ext {S T : DS} (hn : S.n = T.n) (h : ∀ i, i < S.n → S.secNow i = T.secNow i) : S.all = T.all := by
  unfold DS.all; rw [← hn]; exact List.map_congr_left fun i hi => h i (List.mem_range.1 hi)
end Go.Proofs.Ytcjocajpnebecaa
