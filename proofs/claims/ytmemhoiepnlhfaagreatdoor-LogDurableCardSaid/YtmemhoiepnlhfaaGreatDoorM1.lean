/-
  Plain laws on a disk that is on and not armed: what writing sectors and synchronizing leaves. No program in sight. And what builds upon it.
-/
import Derived.Test.YtmemhoiepnlhfaaGreatDoorK6

/-! Plain laws on a disk that is on and not armed: what writing sectors and synchronizing leaves. No program in sight. -/
namespace Go.Proofs.YtmemhoiepnlhfaaGreatDoor
open Go.RowKit

theorem splice_get {α : Type} (L cs : List α) (off : Nat) (h : off + cs.length ≤ L.length) (k : Nat) :
    (splice L off cs)[k]? = if off ≤ k ∧ k < off + cs.length then cs[k - off]? else L[k]? := by
  unfold splice
  by_cases h1 : k < off
  · rw [List.getElem?_append_left (by simp; omega), if_neg (by omega), List.getElem?_take_of_lt h1]
  · rw [List.getElem?_append_right (by simp; omega)]
    have e : (List.take off L).length = off := by simp; omega
    rw [e]
    by_cases h2 : k < off + cs.length
    · rw [List.getElem?_append_left (by omega), if_pos ⟨by omega, h2⟩]
    · rw [List.getElem?_append_right (by omega), if_neg (by omega), List.getElem?_drop]
      congr 1; omega
theorem sec_set {L : List UInt8} {n i j : Nat} {t : List UInt8} (h : L.length = 64 * n) (hi : i < n) (hj : j < n) (ht : t.length ≤ 64) :
    sec (splice L (64 * i) t) j = if i = j then t ++ (sec L j).drop t.length else sec L j := by
  apply List.ext_getElem?
  intro k
  have hl : (splice L (64 * i) t).length = 64 * n := by rw [length_splice _ _ _ (by omega), h]
  by_cases hk : k < 64
  · rw [sec_get _ _ _ hk, splice_get _ _ _ (by omega)]
    by_cases hij : i = j
    · subst hij
      rw [if_pos rfl]
      by_cases h1 : k < t.length
      · rw [if_pos ⟨by omega, by omega⟩, List.getElem?_append_left h1]; congr 1; omega
      · rw [if_neg (by omega), List.getElem?_append_right (by omega), List.getElem?_drop, sec_get _ _ _ (by omega)]; congr 1; omega
    · rw [if_neg (by omega), if_neg hij, sec_get _ _ _ hk]
  · rw [List.getElem?_eq_none (by rw [sec_len hl hj]; omega)]
    split
    · rw [List.getElem?_eq_none]
      rw [List.length_append, List.length_drop, sec_len h hj]; omega
    · rw [List.getElem?_eq_none (by rw [sec_len h hj]; omega)]
theorem sec_full {L : List UInt8} {n i j : Nat} {t : List UInt8} (h : L.length = 64 * n) (hi : i < n) (hj : j < n) (ht : t.length = 64) :
    sec (splice L (64 * i) t) j = if i = j then t else sec L j := by
  rw [sec_set h hi hj (by omega)]
  split
  · rw [List.drop_eq_nil_of_le (by rw [sec_len h hj]; omega), List.append_nil]
  · rfl
/-- What a sector holds: its stable bytes, its elder bytes. -/
def DS.stb (S : DS) (i : Nat) : List UInt8 := sec S.st i
def DS.eld (S : DS) (i : Nat) : List UInt8 := sec S.el i
def Fits (n : Nat) (ws : List (Nat × ByteArray)) : Prop := ∀ p ∈ ws, p.1 < n ∧ p.2.size = 64
theorem Fits.tail {n : Nat} {p : Nat × ByteArray} {ws : List (Nat × ByteArray)} (h : Fits n (p :: ws)) : Fits n ws := fun x hx => h x (List.mem_cons_of_mem _ hx)
theorem set_stb {S : DS} (h : S.ok) {i : Nat} {t : ByteArray} (hi : i < S.n) (ht : t.size = 64) {j : Nat} (hj : j < S.n) :
    (S.set i t.data.toList).stb j = if i = j then t.data.toList else S.stb j := sec_full h.st hi hj ht
theorem set_eld {S : DS} (h : S.ok) {i : Nat} {t : ByteArray} (hi : i < S.n) {j : Nat} (hj : j < S.n) :
    (S.set i t.data.toList).eld j = if i = j then S.stb i else S.eld j := by
  show sec (splice S.el (64 * i) (sec S.st i)) j = _
  exact sec_full h.el hi hj (sec_len h.st hi)
theorem lastOf_cons (p : Nat × ByteArray) (q : List (Nat × ByteArray)) (i : Nat) : lastOf (p :: q) i = (lastOf q i).or (if p.1 = i then some p.2 else none) := by
  unfold lastOf
  rw [List.reverse_cons, List.find?_append]
  cases h : q.reverse.find? fun p => p.1 == i with
  | some x => simp
  | none =>
    simp only [Option.none_or, Option.map_none]
    by_cases hp : p.1 = i
    · simp [hp]
    · simp [hp]
theorem lastOf_append (q r : List (Nat × ByteArray)) (i : Nat) : lastOf (q ++ r) i = (lastOf r i).or (lastOf q i) := by
  unfold lastOf
  rw [List.reverse_append, List.find?_append]
  cases h : r.reverse.find? fun p => p.1 == i with
  | some x => simp
  | none => simp
theorem lastOf_none {q : List (Nat × ByteArray)} {i : Nat} (h : ∀ p ∈ q, p.1 ≠ i) : lastOf q i = none := by
  unfold lastOf
  rw [List.find?_eq_none.2]
  · rfl
  · intro p hp; simpa using h p (by simpa using hp)
theorem lastOf_some {q : List (Nat × ByteArray)} {i : Nat} {t : ByteArray} (h : lastOf q i = some t) : (i, t) ∈ q := by
  unfold lastOf at h
  cases hf : q.reverse.find? fun p => p.1 == i with
  | none => rw [hf] at h; cases h
  | some p =>
    rw [hf] at h
    simp only [Option.map_some, Option.some.injEq] at h
    have h1 := List.find?_some hf
    have h2 := List.mem_of_find?_eq_some hf
    simp only [beq_iff_eq] at h1
    rw [List.mem_reverse] at h2
    rw [← h1, ← h]
    exact h2
theorem settle_stb {l : List (Nat × ByteArray)} : ∀ {S : DS}, S.ok → Fits S.n l → ∀ {i : Nat}, i < S.n → (S.settle l).stb i = ((lastOf l i).map fun t => t.data.toList).getD (S.stb i) := by
  induction l with
  | nil => intro S _ _ i _; rfl
  | cons p l ih =>
    intro S h hl i hi
    have hp := hl p (List.mem_cons_self ..)
    have hok := h.set p.1 p.2.data.toList hp.1 (by have := hp.2; show p.2.size ≤ 64; omega)
    have := ih (S := S.set p.1 p.2.data.toList) hok hl.tail (i := i) hi
    show (DS.settle (S.set p.1 p.2.data.toList) l).stb i = _
    rw [this, lastOf_cons, set_stb h hp.1 hp.2 hi]
    cases lastOf l i with
    | some t => rfl
    | none =>
      by_cases e : p.1 = i
      · simp [e]
      · simp [e]
theorem settle_eld {l : List (Nat × ByteArray)} : ∀ {S : DS}, S.ok → Fits S.n l → (l.map (·.1)).Nodup → ∀ {i : Nat}, i < S.n → (S.settle l).eld i = if i ∈ l.map (·.1) then S.stb i else S.eld i := by
  induction l with
  | nil => intro S _ _ _ i _; rfl
  | cons p l ih =>
    intro S h hl hnd i hi
    have hp := hl p (List.mem_cons_self ..)
    rw [List.map_cons, List.nodup_cons] at hnd
    have hok := h.set p.1 p.2.data.toList hp.1 (by have := hp.2; show p.2.size ≤ 64; omega)
    have := ih (S := S.set p.1 p.2.data.toList) hok hl.tail hnd.2 (i := i) hi
    show (DS.settle (S.set p.1 p.2.data.toList) l).eld i = _
    rw [this, set_stb h hp.1 hp.2 hi, set_eld h hp.1 hi, List.map_cons]
    by_cases e : p.1 = i
    · subst e
      rw [if_neg hnd.1, if_pos rfl, if_pos (List.mem_cons_self ..)]
    · have e' : ¬ i = p.1 := fun h => e h.symm
      rw [if_neg e, if_neg e]
      by_cases hm : i ∈ l.map (·.1)
      · rw [if_pos hm, if_pos (List.mem_cons_of_mem _ hm)]
      · rw [if_neg hm, if_neg (fun h => by rcases List.mem_cons.1 h with h | h; exact e' h; exact hm h)]
/-- A disk that is on and not armed. -/
structure DS.on (S : DS) : Prop where
  ok : S.ok
  off : S.off = false
  arm : S.arm = none
def DS.after (S : DS) (ws : List (Nat × ByteArray)) : DS := ({ S with q := S.q ++ ws } : DS).flush
theorem DS.ok.more {S : DS} (h : S.ok) {ws : List (Nat × ByteArray)} (hw : Fits S.n ws) : ({ S with q := S.q ++ ws } : DS).ok :=
  ⟨h.pos, h.most, h.st, h.el, fun p hp => by
    rcases List.mem_append.1 hp with hp | hp
    · exact h.q p hp
    · exact hw p hp, h.arm⟩
theorem writes_on : ∀ (ws : List (Nat × ByteArray)) (S : DS), S.off = false → S.arm = none → Fits S.n ws → writes S ws = (0, { S with q := S.q ++ ws })
  | [], S, _, _, _ => by simp [writes]
  | p :: ws, S, h1, h2, hw => by
    have hp := hw p (List.mem_cons_self ..)
    have e : S.write p.1 p.2 = (0, { S with q := S.q ++ [p] }) := by
      unfold DS.write DS.valid DS.count
      rw [if_neg (by rw [h1]; decide), if_pos (by simp [hp.1, hp.2])]
      simp [h2]
    rw [writes, e]
    simp only [if_true]
    rw [writes_on ws { S with q := S.q ++ [p] } h1 h2 hw.tail]
    simp
theorem each_on {S : DS} (h : S.on) {ws : List (Nat × ByteArray)} (hw : Fits S.n ws) : eachR S ws = (0, S.after ws) := by
  unfold eachR
  rw [writes_on ws S h.off h.arm hw]
  simp only [if_true]
  unfold DS.sync DS.count
  simp [h.off, h.arm, DS.after]
theorem after_on {S : DS} (h : S.on) {ws : List (Nat × ByteArray)} (hw : Fits S.n ws) : (S.after ws).on :=
  ⟨(h.ok.more hw).flush, by show (DS.settle _ _).off = _; rw [(settle_n _ _).2.2.1]; exact h.off, by show (DS.settle _ _).arm = _; rw [(settle_n _ _).2.2.2]; exact h.arm⟩
theorem after_n (S : DS) (ws : List (Nat × ByteArray)) : (S.after ws).n = S.n := (settle_n _ _).1
theorem after_q (S : DS) (ws : List (Nat × ByteArray)) : (S.after ws).q = [] := rfl
theorem now_stb {S : DS} (i : Nat) : S.secNow i = (lastOf S.q i).getD ⟨(S.stb i).toArray⟩ := rfl
theorem after_now {S : DS} (h : S.on) {ws : List (Nat × ByteArray)} (hw : Fits S.n ws) {i : Nat} (hi : i < S.n) : (S.after ws).secNow i = (lastOf ws i).getD (S.secNow i) := by
  have hm := h.ok.more hw
  have h1 : (S.after ws).stb i = ((lastOf (S.q ++ ws) i).map fun t => t.data.toList).getD (S.stb i) := settle_stb (S := { S with q := S.q ++ ws }) hm hm.q hi
  rw [now_stb, after_q, show lastOf ([] : List (Nat × ByteArray)) i = none from rfl, Option.getD_none, h1, lastOf_append, now_stb]
  cases lastOf ws i with
  | some t => rfl
  | none =>
    cases lastOf S.q i with
    | some t => rfl
    | none => rfl
theorem stb_now {S : DS} (hq : S.q = []) (i : Nat) : S.stb i = (S.secNow i).data.toList := by
  rw [now_stb, hq]
  rfl
theorem after_eld {S : DS} (h : S.on) (hq : S.q = []) {ws : List (Nat × ByteArray)} (hw : Fits S.n ws) (hnd : (ws.map (·.1)).Nodup) {i : Nat} (hi : i < S.n) :
    (S.after ws).eld i = if i ∈ ws.map (·.1) then (S.secNow i).data.toList else S.eld i := by
  have hm := h.ok.more hw
  have e : S.q ++ ws = ws := by rw [hq, List.nil_append]
  have h1 : (S.after ws).eld i = if i ∈ (S.q ++ ws).map (·.1) then S.stb i else S.eld i := settle_eld (S := { S with q := S.q ++ ws }) hm hm.q (by show ((S.q ++ ws).map (·.1)).Nodup; rw [e]; exact hnd) hi
  rw [h1, e, stb_now hq]
end Go.Proofs.YtmemhoiepnlhfaaGreatDoor

/-! Plain laws of a log: what a disk holds whose log is in order; Open finds it. No program in sight. -/
namespace Go.Proofs.YtmemhoiepnlhfaaGreatDoor
open Go.RowKit
set_option maxRecDepth 100000

def headB (a : Nat) (s : St) : ByteArray := strOf (headL a s)
def dataB (g p : Nat) (b : ByteArray) : ByteArray := strOf (putL g p b.data.toList)
theorem headB_size {a : Nat} {s : St} (h : s.ok) : (headB a s).size = 64 := by
  show (headL a s).length = 64
  unfold headL
  exact putL_len _ _ (by rw [List.length_append, digitsL_len h]; omega)
theorem dataB_size {g p : Nat} {b : ByteArray} (h : b.size ≤ 40) : (dataB g p b).size = 64 := putL_len _ _ h
theorem putR_data {g p : Nat} {b : ByteArray} (hg : g ≤ 1000000000) (hp : p < 4000) (h : b.size ≤ 40) : (putR (g : Int) (p : Int) b).1 = dataB g p b := by
  unfold putR
  rw [if_pos (by simp [placed]; omega), if_pos h]
  rfl
theorem split_le {r b : ByteArray} (h : b ∈ splitB r) : b.size ≤ 40 := by
  unfold splitB at h
  obtain ⟨c, hc, rfl⟩ := List.mem_map.1 h
  exact parts_le _ c hc
theorem partsOf_le {recs : List ByteArray} {b : ByteArray} (h : b ∈ partsOf recs) : b.size ≤ 40 := by
  unfold partsOf at h
  obtain ⟨r, _, hr⟩ := List.mem_flatMap.1 h
  exact split_le hr
theorem zero_len : zeroB.data.toList.length = 64 := by unfold zeroB strOf; simp
/-- A zero sector says no head, and is no body. -/
theorem openB_zero (e p : Nat) : ∀ b, openB e p zeroB.data.toList = some b → b.length = 0 := by
  intro b h
  have h1 := (openB_iff e p _ b).1 h
  have h2 : (zeroB.data.toList.drop 12).take 4 = beD b.length 4 := by rw [h1.2]; exact field_n e p b
  have h3 : valL ((zeroB.data.toList.drop 12).take 4) = 0 := by decide
  rw [h2, val_fit (by have := h1.1; have : (256 : Nat) ^ 4 = 4294967296 := by decide
                      omega)] at h3
  exact h3
theorem parseL_zero (a half : Nat) : parseL a zeroB.data.toList half = none := by
  cases h : parseL a zeroB.data.toList half with
  | none => rfl
  | some s =>
    unfold parseL at h
    cases h1 : openB 0 a zeroB.data.toList with
    | none => rw [h1] at h; cases h
    | some b =>
      rw [h1] at h
      have := openB_zero 0 a b h1
      dsimp only at h
      rw [if_neg (by omega)] at h
      cases h
theorem openB_zero_none (e p : Nat) : openB e p zeroB.data.toList = none := by
  cases h : openB e p zeroB.data.toList with
  | none => rfl
  | some b =>
    have h1 := openB_zero e p b h
    have h2 := ((openB_iff e p _ b).1 h).2
    have hb : b = [] := List.eq_nil_of_length_eq_zero h1
    subst hb
    -- the sum of a zero text is not zero
    have h3 : (zeroB.data.toList.drop 56) = beD (sumL (putH e p [])) 8 := by
      rw [h2]
      unfold putL
      rw [List.drop_left' (putH_len e p (by decide))]
    have h4 : valL (zeroB.data.toList.drop 56) = 0 := by decide
    have h6 : putH e p [] = zeroB.data.toList.take 56 := by
      rw [h2]
      unfold putL
      rw [List.take_left' (putH_len e p (by decide))]
    have h5 : sumL (zeroB.data.toList.take 56) ≠ 0 := by decide
    rw [h3, val_fit (Nat.lt_of_lt_of_le (sum_lt _) (by decide)), h6] at h4
    exact absurd h4 h5

/-- What a disk holds whose log is in order. -/
structure Holds (S : DS) (L : LS) : Prop where
  on : S.on
  q : S.q = []
  n : S.n = L.n
  ok : L.ok
  br : L.br = false
  a : L.a = 0
  heads : (L.s = ⟨0, 0, 0⟩ ∧ S.secNow 0 = zeroB ∧ S.secNow 1 = zeroB) ∨ (S.secNow 0 = headB 0 L.s ∧ S.secNow 1 = headB 1 L.s)
  len : L.s.length = (partsOf L.list).length
  data : ∀ i b, (partsOf L.list)[i]? = some b → S.secNow (startN L.n L.s.generation + i) = dataB L.s.generation (startN L.n L.s.generation + i) b
theorem start_fits {n g l : Nat} (h : 6 ≤ n) (hl : l ≤ halfN n) : 2 ≤ startN n g ∧ startN n g + l ≤ n := by
  unfold startN
  have h1 := half_le n
  have hm : g % 2 = 0 ∨ g % 2 = 1 := by omega
  rcases hm with hm | hm <;> rw [hm] <;> omega
theorem dataB_open {g p : Nat} {b : ByteArray} (h : b.size ≤ 40) : openB g p (dataB g p b).data.toList = some b.data.toList := (openB_iff _ _ _ _).2 ⟨h, rfl⟩
theorem bodies_data {S : DS} {g p : Nat} : ∀ (k : Nat) (bs : List ByteArray), bs.length = k → (∀ b ∈ bs, b.size ≤ 40) → (∀ i b, bs[i]? = some b → S.secNow (p + i) = dataB g (p + i) b) → bodiesL S g p k = some (bs.map (·.data.toList))
  | 0, bs, hl, _, _ => by
    have : bs = [] := List.eq_nil_of_length_eq_zero hl
    subst this
    rfl
  | k + 1, bs, hl, h40, h => by
    obtain ⟨cs, b, rfl⟩ : ∃ cs b, bs = cs ++ [b] := by
      rcases List.eq_nil_or_concat bs with h0 | ⟨cs, b, h0⟩
      · rw [h0] at hl; cases hl
      · exact ⟨cs, b, by simpa using h0⟩
    have hcl : cs.length = k := by simpa using hl
    have ih := bodies_data k cs hcl (fun c hc => h40 c (List.mem_append_left _ hc)) (fun i c hi => h i c (by rw [List.getElem?_append_left (List.getElem?_eq_some_iff.1 hi).1]; exact hi))
    have hb := h k b (by rw [List.getElem?_append_right (by omega), hcl]; simp)
    rw [bodiesL, ih]
    dsimp only
    rw [hb, dataB_open (h40 b (by simp))]
    simp
theorem map_data (l : List ByteArray) : (l.map (·.data.toList)).map strOf = l := by
  rw [List.map_map]
  exact List.map_id _
theorem parts_data (l : List ByteArray) : (partsOf l).map (·.data.toList) = (l.map (·.data.toList)).flatMap partsL := by
  unfold partsOf
  rw [List.map_flatMap, List.flatMap_map]
  congr 1
  funext r
  unfold splitB
  rw [List.map_map]
  exact List.map_id _
theorem recs_parts (l : List ByteArray) : recsL ((partsOf l).map (·.data.toList)) = some (l.map (·.data.toList)) := by
  rw [parts_data]
  exact recsL_parts _
theorem state_holds {S : DS} {L : LS} (h : Holds S L) : stateL S = some (L.s, 0) := by
  unfold stateL
  rcases h.heads with ⟨h1, h2, h3⟩ | ⟨h2, h3⟩
  · rw [h2, h3, parseL_zero, parseL_zero, h1]
    rfl
  · have hh : L.s.length ≤ halfN S.n := by rw [h.n]; exact h.ok.half
    have e0 : parseL 0 (headB 0 L.s).data.toList (halfN S.n) = some L.s := parseL_head h.ok.s hh
    have e1 : parseL 1 (headB 1 L.s).data.toList (halfN S.n) = some L.s := parseL_head h.ok.s hh
    rw [h2, h3, e0, e1]
    simp [pickL]
/-- Open finds the log. -/
theorem open_holds {S : DS} {L : LS} (h : Holds S L) : openL S = (0, some L) := by
  unfold openL
  have hn : ¬ S.n < 6 := by rw [h.n]; have := h.ok.n.1; omega
  rw [if_neg (by rw [h.on.off]; decide), if_neg hn, state_holds h]
  dsimp only
  rw [h.n, bodies_data L.s.length (partsOf L.list) h.len.symm (fun b hb => partsOf_le hb) h.data]
  dsimp only
  rw [recs_parts]
  dsimp only
  rw [map_data]
  obtain ⟨n, s, a, list, br⟩ := L
  have h1 := h.a
  have h2 := h.br
  dsimp only at h1 h2
  subst h1 h2
  rfl
end Go.Proofs.YtmemhoiepnlhfaaGreatDoor

/-! Plain laws of a log: what Append and Rewrite leave on a disk that is on. No program in sight. -/
namespace Go.Proofs.YtmemhoiepnlhfaaGreatDoor
open Go.RowKit
set_option maxRecDepth 100000

theorem lastOf_mem : ∀ {ws : List (Nat × ByteArray)}, (ws.map (·.1)).Nodup → ∀ {i : Nat} {t : ByteArray}, (i, t) ∈ ws → lastOf ws i = some t
  | [], _, _, _, h => by cases h
  | p :: ws, hnd, i, t, h => by
    rw [List.map_cons, List.nodup_cons] at hnd
    rw [lastOf_cons]
    rcases List.mem_cons.1 h with h | h
    · subst h
      have : lastOf ws i = none := lastOf_none (fun x hx hxi => hnd.1 (List.mem_map.2 ⟨x, hx, hxi⟩))
      rw [this]
      simp
    · rw [lastOf_mem hnd.2 h]
      rfl
theorem places_nodup (f m : Nat) : (places f m).Nodup := by
  unfold places
  exact List.Pairwise.map _ (fun a b (h : a ≠ b) (e : f + a = f + b) => h (by omega)) List.nodup_range
theorem mem_places {f m i : Nat} : i ∈ places f m ↔ f ≤ i ∧ i < f + m := by
  unfold places
  rw [List.mem_map]
  constructor
  · rintro ⟨k, hk, rfl⟩
    rw [List.mem_range] at hk
    omega
  · rintro ⟨h1, h2⟩
    exact ⟨i - f, List.mem_range.2 (by omega), by omega⟩
/-- What a step on a disk that is on leaves: T. -/
structure Leaves2 (T : DS) (n : Nat) : Prop where
  on : T.on
  n : T.n = n
  q : T.q = []
theorem zeroB_size : zeroB.size = 64 := zero_len
theorem after_view {S : DS} (h : S.on) {n : Nat} (hn : S.n = n) {ws : List (Nat × ByteArray)} (hw : Fits n ws) (hnd : (ws.map (·.1)).Nodup) :
    eachR S ws = (0, S.after ws) ∧ Leaves2 (S.after ws) n ∧ (∀ i t, (i, t) ∈ ws → (S.after ws).secNow i = t) ∧ (∀ i, i < n → i ∉ ws.map (·.1) → (S.after ws).secNow i = S.secNow i) ∧
    (S.q = [] → ∀ i, i < n → (S.after ws).eld i = if i ∈ ws.map (·.1) then (S.secNow i).data.toList else S.eld i) := by
  subst hn
  refine ⟨each_on h hw, ⟨after_on h hw, after_n S ws, rfl⟩, fun i t hi => ?_, fun i hi hni => ?_, fun hq i hi => after_eld h hq hw hnd hi⟩
  · rw [after_now h hw (hw _ hi).1, lastOf_mem hnd hi]
    rfl
  · rw [after_now h hw hi, lastOf_none (fun p hp e => hni (List.mem_map.2 ⟨p, hp, e⟩))]
    rfl
theorem write_view {S : DS} (h : S.on) {n : Nat} (hn : S.n = n) {f g : Nat} {ps : List ByteArray} (hf : f + ps.length ≤ n) (hn4 : n ≤ 4000) (hg : g ≤ 1000000000) (h40 : ∀ b ∈ ps, b.size ≤ 40) :
    ∃ T, writeR S f g ps = (0, T) ∧ Leaves2 T n ∧ (∀ k b, ps[k]? = some b → T.secNow (f + k) = dataB g (f + k) b) ∧ (∀ i, i < n → i < f ∨ f + ps.length ≤ i → T.secNow i = S.secNow i) ∧
    (S.q = [] → ∀ i, i < n → T.eld i = if f ≤ i ∧ i < f + ps.length then zeroB.data.toList else S.eld i) := by
  have hb1 : Fits n (blanks f ps.length) := by
    intro p hp
    simp only [blanks, List.mem_map, List.mem_range] at hp
    obtain ⟨i, hi, rfl⟩ := hp
    exact ⟨by dsimp only; omega, zeroB_size⟩
  have hb2 : Fits n (datas f g ps) := by
    intro p hp
    obtain ⟨i, hi⟩ := List.mem_iff_getElem?.1 hp
    simp only [datas, List.getElem?_mapIdx, Option.map_eq_some_iff] at hi
    obtain ⟨x, hx, rfl⟩ := hi
    have hlt := (List.getElem?_eq_some_iff.1 hx).1
    have hx40 := h40 x (List.mem_of_getElem? hx)
    refine ⟨by dsimp only; omega, ?_⟩
    dsimp only
    rw [putR_data hg (by omega) hx40]
    exact dataB_size hx40
  have n1 : ((blanks f ps.length).map (·.1)).Nodup := by rw [blanks_fst]; exact places_nodup _ _
  have n2 : ((datas f g ps).map (·.1)).Nodup := by rw [datas_fst]; exact places_nodup _ _
  obtain ⟨e1, l1, v1, o1, d1⟩ := after_view h hn hb1 n1
  obtain ⟨e2, l2, v2, o2, d2⟩ := after_view l1.on l1.n hb2 n2
  refine ⟨_, ?_, l2, fun k b hk => ?_, fun i hi ho => ?_, fun hq i hi => ?_⟩
  · unfold writeR andR
    rw [e1]
    simp only [if_true]
    exact e2
  · have hlt := (List.getElem?_eq_some_iff.1 hk).1
    refine v2 (f + k) _ ?_
    rw [List.mem_iff_getElem?]
    refine ⟨k, ?_⟩
    simp only [datas, List.getElem?_mapIdx, hk, Option.map_some]
    rw [putR_data hg (by omega) (h40 b (List.mem_of_getElem? hk))]
  · rw [o2 i hi (by rw [datas_fst, mem_places]; omega), o1 i hi (by rw [blanks_fst, mem_places]; omega)]
  · rw [d2 rfl i hi, datas_fst]
    by_cases hm : f ≤ i ∧ i < f + ps.length
    · rw [if_pos (mem_places.2 hm), if_pos hm]
      rw [v1 i zeroB (by
        simp only [blanks, List.mem_map, List.mem_range]
        exact ⟨i - f, by omega, by rw [show f + (i - f) = i by omega]⟩)]
    · rw [if_neg (fun h => hm (mem_places.1 h)), if_neg hm, d1 hq i hi, blanks_fst, if_neg (fun h => hm (mem_places.1 h))]
theorem head_view {S : DS} (h : S.on) {n : Nat} (hn : S.n = n) {a : Nat} {s : St} (ha : a < n) (hs : s.ok) :
    ∃ T, headR S a s = (0, T) ∧ Leaves2 T n ∧ T.secNow a = headB a s ∧ (∀ i, i < n → i ≠ a → T.secNow i = S.secNow i) ∧
    (S.q = [] → ∀ i, i < n → T.eld i = if i = a then (S.secNow i).data.toList else S.eld i) := by
  have hb : Fits n [(a, strOf (headL a s))] := by
    intro p hp
    rw [List.mem_singleton.1 hp]
    exact ⟨ha, headB_size hs⟩
  obtain ⟨e1, l1, v1, o1, d1⟩ := after_view h hn hb (by simp)
  refine ⟨_, e1, l1, v1 a _ (by simp [headB]), fun i hi hne => o1 i hi (by simpa using hne), fun hq i hi => ?_⟩
  rw [d1 hq i hi]
  simp
theorem rest_view {S : DS} (h : S.on) {n : Nat} (hn : S.n = n) (f m : Nat) :
    ∃ T, eachR S (restW f m n) = (0, T) ∧ Leaves2 T n ∧ (∀ i, i < n → 2 ≤ i → i < f ∨ f + m ≤ i → T.secNow i = zeroB) ∧ (∀ i, i < n → i < 2 ∨ f ≤ i ∧ i < f + m → T.secNow i = S.secNow i) ∧
    (S.q = [] → ∀ i, i < n → T.eld i = if 2 ≤ i ∧ (i < f ∨ f + m ≤ i) then (S.secNow i).data.toList else S.eld i) := by
  have hmem : ∀ i, i ∈ restUp f m n ↔ i < n ∧ 2 ≤ i ∧ (i < f ∨ f + m ≤ i) := by
    intro i
    unfold restUp
    simp [List.mem_filter]
  have hb : Fits n (restW f m n) := by
    intro p hp
    simp only [restW, List.mem_map] at hp
    obtain ⟨i, hi, rfl⟩ := hp
    exact ⟨((hmem i).1 hi).1, zeroB_size⟩
  have hnd : ((restW f m n).map (·.1)).Nodup := by
    rw [restW_fst]
    unfold restUp
    exact List.nodup_range.filter _
  obtain ⟨e1, l1, v1, o1, d1⟩ := after_view h hn hb hnd
  refine ⟨_, e1, l1, fun i hi h2 ho => v1 i zeroB ?_, fun i hi ho => o1 i hi ?_, fun hq i hi => ?_⟩
  · simp only [restW, List.mem_map]
    exact ⟨i, (hmem i).2 ⟨hi, h2, ho⟩, rfl⟩
  · rw [restW_fst, hmem]
    omega
  · rw [d1 hq i hi, restW_fst]
    by_cases hc : 2 ≤ i ∧ (i < f ∨ f + m ≤ i)
    · rw [if_pos ((hmem i).2 ⟨hi, hc⟩), if_pos hc]
    · rw [if_neg (fun h => hc ((hmem i).1 h).2), if_neg hc]
end Go.Proofs.YtmemhoiepnlhfaaGreatDoor

/-! Plain laws of a log: Append and Rewrite keep a log in order. No program in sight. -/
namespace Go.Proofs.YtmemhoiepnlhfaaGreatDoor
open Go.RowKit

/-- What sectors held before. -/
structure Elder (S : DS) (L : LS) : Prop where
  heads : ∀ a, a < 2 → ∀ t, parseL a (S.eld a) (halfN L.n) = some t → t = L.s ∨ t.number < L.s.number
  data : ∀ i, i < L.s.length → S.eld (startN L.n L.s.generation + i) = zeroB.data.toList
theorem parse_headB {a half : Nat} {s t : St} (hs : s.ok) (h : parseL a (headB a s).data.toList half = some t) : t = s := by
  obtain ⟨h1, h2, _⟩ := parseL_some h
  have h3 : putL 0 a (digitsL s ++ digitsL s) = putL 0 a (digitsL t ++ digitsL t) := h1
  have l1 := digitsL_len hs
  have l2 := digitsL_len h2
  have h4 : digitsL s ++ digitsL s = digitsL t ++ digitsL t := by
    have f1 := field_b 0 a (digitsL s ++ digitsL s)
    have f2 := field_b 0 a (digitsL t ++ digitsL t)
    rw [List.length_append, l1] at f1
    rw [List.length_append, l2] at f2
    rw [← f1, h3, f2]
  have h5 : digitsL s = digitsL t := by
    have := congrArg (List.take 19) h4
    rwa [List.take_left' l1, List.take_left' l2] at this
  rw [← stOf_digits h2 (digitsL t), ← h5, stOf_digits hs]
theorem splitB_le (r : ByteArray) : ∀ b ∈ splitB r, b.size ≤ 40 := fun _ hb => split_le hb
theorem partsOf_snoc (l : List ByteArray) (r : ByteArray) : partsOf (l ++ [r]) = partsOf l ++ splitB r := by
  unfold partsOf
  rw [List.flatMap_append]
  simp
def LS.more (L : LS) (rec : ByteArray) : LS := { L with s := ⟨L.s.number + 1, L.s.generation, L.s.length + (splitB rec).length⟩, a := 0, list := L.list ++ [rec] }
theorem append_code {S : DS} {L : LS} (hb : L.br = false) (rec : ByteArray) :
    appendL S L rec = if isLong rec then (3, S, L) else if halfN L.n < L.s.length + (splitB rec).length ∨ L.s.number = 999999999 then (18, S, L) else
      if (appendBody S L.a L.n L.s (splitB rec)).1 = 0 then (0, (appendBody S L.a L.n L.s (splitB rec)).2, L.more rec) else ((appendBody S L.a L.n L.s (splitB rec)).1, (appendBody S L.a L.n L.s (splitB rec)).2, { L with br := true }) := by
  unfold appendL
  rw [if_neg (by rw [hb]; exact Bool.false_ne_true)]
  rfl
theorem append_holds {S : DS} {L : LS} (h : Holds S L) (rec : ByteArray) (hl : isLong rec = false) (hf : ¬ (halfN L.n < L.s.length + (splitB rec).length ∨ L.s.number = 999999999)) :
    ∃ S', appendL S L rec = (0, S', L.more rec) ∧ Holds S' (L.more rec) ∧ (Elder S L → Elder S' (L.more rec)) := by
  obtain ⟨P, hP⟩ : ∃ P, splitB rec = P := ⟨_, rfl⟩
  have hP40 : ∀ b ∈ P, b.size ≤ 40 := hP ▸ splitB_le rec
  have hk := h.ok
  have hn6 := hk.n
  rw [hP] at hf
  have hf1 : L.s.length + P.length ≤ halfN L.n := by omega
  have hf2 : L.s.number ≠ 999999999 := fun e => hf (.inr e)
  have hsf := start_fits (g := L.s.generation) hn6.1 hf1
  have h6 := half_small L.n hn6.2
  obtain ⟨s1, s2, s3⟩ := hk.s
  obtain ⟨s', hs'⟩ : ∃ s' : St, (⟨L.s.number + 1, L.s.generation, L.s.length + P.length⟩ : St) = s' := ⟨_, rfl⟩
  have hs'ok : s'.ok := by
    rw [← hs']
    refine ⟨?_, s2, ?_⟩
    · show L.s.number + 1 < _; omega
    · show L.s.length + P.length < _; omega
  obtain ⟨T1, e1, l1, v1, o1, d1⟩ := write_view h.on h.n (f := startN L.n L.s.generation + L.s.length) (g := L.s.generation) (ps := P) (by omega) hn6.2 (by omega) hP40
  obtain ⟨T2, e2, l2, v2, o2, d2⟩ := head_view l1.on l1.n (a := 1) (s := s') (by omega) hs'ok
  obtain ⟨T3, e3, l3, v3, o3, d3⟩ := head_view l2.on l2.n (a := 0) (s := s') (by omega) hs'ok
  have hbody : appendBody S L.a L.n L.s P = (0, T3) := by
    unfold appendBody andR
    rw [e1]
    simp only [if_true]
    unfold commitR andR
    rw [h.a, hs', e2]
    simp only [if_true]
    exact e3
  have hlist : partsOf (L.list ++ [rec]) = partsOf L.list ++ P := by rw [partsOf_snoc, hP]
  have hmore : L.more rec = { L with s := s', a := 0, list := L.list ++ [rec] } := by
    unfold LS.more
    rw [hP, hs']
  have n0 : T3.secNow 0 = headB 0 s' := v3
  have n1 : T3.secNow 1 = headB 1 s' := by rw [o3 1 (by omega) (by decide), v2]
  have ni : ∀ i, i < L.n → 2 ≤ i → T3.secNow i = T1.secNow i := fun i hi h2 => by rw [o3 i hi (by omega), o2 i hi (by omega)]
  refine ⟨T3, ?_, ?_, ?_⟩
  · rw [append_code h.br, if_neg (by rw [hl]; exact Bool.false_ne_true), hP, if_neg hf, hbody]
    rfl
  · rw [hmore]
    refine ⟨l3.on, l3.q, l3.n, ⟨hs'ok, by dsimp only; omega, hn6, ?_, ?_⟩, h.br, rfl, .inr ⟨n0, n1⟩, ?_, ?_⟩
    · dsimp only
      rw [← hs', List.length_append]
      have := hk.len
      have hp := split_pos rec
      rw [hP] at hp
      show L.list.length + 1 ≤ L.s.length + P.length
      omega
    · dsimp only
      rw [← hs']
      exact hf1
    · dsimp only
      rw [hlist, List.length_append, ← h.len, ← hs']
    · intro i b hi
      dsimp only at hi ⊢
      rw [hlist] at hi
      have hg : s'.generation = L.s.generation := by rw [← hs']
      rw [hg]
      have hlt := (List.getElem?_eq_some_iff.1 hi).1
      rw [List.length_append, ← h.len] at hlt
      rw [ni _ (by omega) (by omega)]
      by_cases hc : i < L.s.length
      · rw [o1 _ (by omega) (.inl (by omega))]
        rw [List.getElem?_append_left (by rw [← h.len]; exact hc)] at hi
        exact h.data i b hi
      · rw [List.getElem?_append_right (by rw [← h.len]; omega), ← h.len] at hi
        have := v1 (i - L.s.length) b hi
        rwa [show startN L.n L.s.generation + L.s.length + (i - L.s.length) = startN L.n L.s.generation + i by omega] at this
  · intro hE
    rw [hmore]
    have hpar : ∀ a, a < 2 → ∀ t, parseL a (S.secNow a).data.toList (halfN L.n) = some t → t = s' ∨ t.number < s'.number := by
      intro a ha t ht
      have hnum : L.s.number < s'.number := by rw [← hs']; show L.s.number < L.s.number + 1; omega
      rcases h.heads with ⟨_, z0, z1⟩ | ⟨z0, z1⟩
      · have : a = 0 ∨ a = 1 := by omega
        rcases this with rfl | rfl
        · rw [z0, parseL_zero] at ht; cases ht
        · rw [z1, parseL_zero] at ht; cases ht
      · have : a = 0 ∨ a = 1 := by omega
        rcases this with rfl | rfl
        · rw [z0] at ht
          rw [parse_headB hk.s ht]
          exact .inr hnum
        · rw [z1] at ht
          rw [parse_headB hk.s ht]
          exact .inr hnum
    refine ⟨fun a ha t ht => ?_, fun i hi => ?_⟩
    · dsimp only at ht ⊢
      have : a = 0 ∨ a = 1 := by omega
      rcases this with rfl | rfl
      · rw [d3 l2.q 0 (by omega), if_pos rfl, o2 0 (by omega) (by decide), o1 0 (by omega) (.inl (by omega))] at ht
        exact hpar 0 (by decide) t ht
      · rw [d3 l2.q 1 (by omega), if_neg (by decide), d2 l1.q 1 (by omega), if_pos rfl, o1 1 (by omega) (.inl (by omega))] at ht
        exact hpar 1 (by decide) t ht
    · dsimp only at hi ⊢
      have hg : s'.generation = L.s.generation := by rw [← hs']
      have hlen : s'.length = L.s.length + P.length := by rw [← hs']
      rw [hlen] at hi
      rw [hg, d3 l2.q _ (by omega), if_neg (by omega), d2 l1.q _ (by omega), if_neg (by omega), d1 h.q _ (by omega)]
      by_cases hc : i < L.s.length
      · rw [if_neg (by omega)]
        exact hE.data i hc
      · rw [if_pos (by omega)]
end Go.Proofs.YtmemhoiepnlhfaaGreatDoor

/-! Plain laws of a log: Rewrite leaves a log in order, and no trace. No program in sight. -/
namespace Go.Proofs.YtmemhoiepnlhfaaGreatDoor
open Go.RowKit

/-- What all sectors hold behind a Rewrite, and held before. -/
structure Traced (S : DS) (n : Nat) (s : St) (parts : List ByteArray) : Prop where
  now0 : S.secNow 0 = headB 0 s
  now1 : S.secNow 1 = headB 1 s
  data : ∀ k b, parts[k]? = some b → S.secNow (startN n s.generation + k) = dataB s.generation (startN n s.generation + k) b
  rest : ∀ i, i < n → 2 ≤ i → i < startN n s.generation ∨ startN n s.generation + parts.length ≤ i → S.secNow i = zeroB
  eld0 : S.eld 0 = (headB 0 s).data.toList
  eld1 : S.eld 1 = (headB 1 s).data.toList
  eldr : ∀ i, i < n → 2 ≤ i → i < startN n s.generation ∨ startN n s.generation + parts.length ≤ i → S.eld i = zeroB.data.toList
def LS.anew (L : LS) (recs : List ByteArray) : LS := { L with s := ⟨L.s.number + 1, L.s.generation + 1, (partsOf recs).length⟩, a := 0, list := recs }
theorem rewrite_code {S : DS} {L : LS} (hb : L.br = false) (recs : List ByteArray) :
    rewriteL S L recs = if recs.any isLong then (3, S, L) else if L.s.generation = 999999 then (18, S, L) else if halfN L.n < 0 + (partsOf recs).length ∨ L.s.number = 999999999 then (18, S, L) else
      if (rewriteBody S L.a L.n L.s (partsOf recs)).1 = 0 then (0, (rewriteBody S L.a L.n L.s (partsOf recs)).2, L.anew recs) else ((rewriteBody S L.a L.n L.s (partsOf recs)).1, (rewriteBody S L.a L.n L.s (partsOf recs)).2, { L with br := true }) := by
  unfold rewriteL
  rw [if_neg (by rw [hb]; exact Bool.false_ne_true)]
  rfl
theorem rewrite_holds {S : DS} {L : LS} (hon : S.on) (hn : S.n = L.n) (hk : L.ok) (hbr : L.br = false) (recs : List ByteArray) (hl : recs.any isLong = false) (hg9 : L.s.generation ≠ 999999) (hf : ¬ (halfN L.n < 0 + (partsOf recs).length ∨ L.s.number = 999999999)) :
    ∃ S', rewriteL S L recs = (0, S', L.anew recs) ∧ Holds S' (L.anew recs) ∧ Traced S' L.n (L.anew recs).s (partsOf recs) ∧
      (S.q = [] → (∀ i, i < (partsOf recs).length → S'.eld (startN L.n (L.s.generation + 1) + i) = zeroB.data.toList) ∧ Elder S' (L.anew recs)) := by
  obtain ⟨P, hP⟩ : ∃ P, partsOf recs = P := ⟨_, rfl⟩
  have hP40 : ∀ b ∈ P, b.size ≤ 40 := fun b hb => partsOf_le (recs := recs) (hP ▸ hb)
  have hn6 := hk.n
  rw [hP] at hf
  have hf1 : P.length ≤ halfN L.n := by omega
  have hf2 : L.s.number ≠ 999999999 := fun e => hf (.inr e)
  have hsf := start_fits (g := L.s.generation + 1) hn6.1 hf1
  have h6 := half_small L.n hn6.2
  obtain ⟨s1, s2, s3⟩ := hk.s
  obtain ⟨s', hs'⟩ : ∃ s' : St, (⟨L.s.number + 1, L.s.generation + 1, P.length⟩ : St) = s' := ⟨_, rfl⟩
  have hs'ok : s'.ok := by
    rw [← hs']
    refine ⟨?_, ?_, ?_⟩
    · show L.s.number + 1 < _; omega
    · show L.s.generation + 1 < _; omega
    · show P.length < _; omega
  have hgen : s'.generation = L.s.generation + 1 := by rw [← hs']
  have hlen : s'.length = P.length := by rw [← hs']
  have ha : L.a ≤ 1 := hk.a
  obtain ⟨st, hst⟩ : ∃ st, startN L.n (L.s.generation + 1) = st := ⟨_, rfl⟩
  rw [hst] at hsf
  obtain ⟨T1, e1, l1, v1, o1, d1⟩ := write_view hon hn (f := st) (g := L.s.generation + 1) (ps := P) (by omega) hn6.2 (by omega) hP40
  obtain ⟨T2, e2, l2, v2, o2, d2⟩ := head_view l1.on l1.n (a := 1 - L.a) (s := s') (by omega) hs'ok
  obtain ⟨T3, e3, l3, v3, o3, d3⟩ := head_view l2.on l2.n (a := L.a) (s := s') (by omega) hs'ok
  obtain ⟨T4, e4, l4, v4, o4, d4⟩ := rest_view l3.on l3.n st P.length
  obtain ⟨T5, e5, l5, v5, o5, d5⟩ := rest_view l4.on l4.n st P.length
  obtain ⟨T6, e6, l6, v6, o6, d6⟩ := head_view l5.on l5.n (a := 0) (s := s') (by omega) hs'ok
  obtain ⟨T7, e7, l7, v7, o7, d7⟩ := head_view l6.on l6.n (a := 1) (s := s') (by omega) hs'ok
  have hbody : rewriteBody S L.a L.n L.s P = (0, T7) := by
    unfold rewriteBody
    rw [hst, hs']
    unfold andR
    rw [e1]
    simp only [if_true]
    unfold commitR andR
    rw [e2]
    simp only [if_true]
    rw [e3]
    simp only [if_true]
    rw [e4]
    simp only [if_true]
    rw [e5]
    simp only [if_true]
    rw [e6]
    simp only [if_true]
    exact e7
  have hanew : L.anew recs = { L with s := s', a := 0, list := recs } := by
    unfold LS.anew
    rw [hP, hs']
  have hd : ∀ i, i < L.n → st ≤ i → i < st + P.length → T7.secNow i = T1.secNow i := fun i hi h1 h2 => by
    rw [o7 i hi (by omega), o6 i hi (by omega), o5 i hi (.inr ⟨h1, h2⟩), o4 i hi (.inr ⟨h1, h2⟩), o3 i hi (by omega), o2 i hi (by omega)]
  have hr : ∀ i, i < L.n → 2 ≤ i → i < st ∨ st + P.length ≤ i → T7.secNow i = zeroB := fun i hi h1 h2 => by
    rw [o7 i hi (by omega), o6 i hi (by omega), v5 i hi h1 h2]
  have t3 : ∀ a, a < 2 → T3.secNow a = headB a s' := by
    intro a ha2
    by_cases hc : a = L.a
    · rw [hc]; exact v3
    · rw [o3 a (by omega) hc]
      have : a = 1 - L.a := by omega
      rw [this]; exact v2
  have t5 : ∀ a, a < 2 → T5.secNow a = headB a s' := fun a ha2 => by
    rw [o5 a (by omega) (.inl ha2), o4 a (by omega) (.inl ha2), t3 a ha2]
  have n0 : T7.secNow 0 = headB 0 s' := by rw [o7 0 (by omega) (by decide)]; exact v6
  have n1 : T7.secNow 1 = headB 1 s' := v7
  have x0 : T7.eld 0 = (headB 0 s').data.toList := by
    rw [d7 l6.q 0 (by omega), if_neg (by decide), d6 l5.q 0 (by omega), if_pos rfl, t5 0 (by decide)]
  have x1 : T7.eld 1 = (headB 1 s').data.toList := by
    rw [d7 l6.q 1 (by omega), if_pos rfl, o6 1 (by omega) (by decide), t5 1 (by decide)]
  have xr : ∀ i, i < L.n → 2 ≤ i → i < st ∨ st + P.length ≤ i → T7.eld i = zeroB.data.toList := fun i hi h1 h2 => by
    rw [d7 l6.q i hi, if_neg (by omega), d6 l5.q i hi, if_neg (by omega), d5 l4.q i hi, if_pos ⟨h1, h2⟩, v4 i hi h1 h2]
  refine ⟨T7, ?_, ?_, ?_, ?_⟩
  · rw [rewrite_code hbr, if_neg (by rw [hl]; exact Bool.false_ne_true), if_neg hg9, hP, if_neg hf, hbody]
    rfl
  · rw [hanew]
    refine ⟨l7.on, l7.q, l7.n, ⟨hs'ok, by dsimp only; omega, hn6, ?_, ?_⟩, hbr, rfl, .inr ⟨n0, n1⟩, ?_, ?_⟩
    · dsimp only
      rw [hlen, ← hP]
      exact parts_len_ge recs
    · dsimp only
      rw [hlen]
      exact hf1
    · dsimp only
      rw [hlen, hP]
    · intro i b hi
      dsimp only at hi ⊢
      rw [hP] at hi
      have hlt := (List.getElem?_eq_some_iff.1 hi).1
      rw [hgen, hst, hd _ (by omega) (by omega) (by omega)]
      exact v1 i b hi
  · rw [hanew, hP]
    dsimp only
    refine ⟨n0, n1, fun k b hk => ?_, ?_, x0, x1, ?_⟩
    · have hlt := (List.getElem?_eq_some_iff.1 hk).1
      rw [hgen, hst, hd _ (by omega) (by omega) (by omega)]
      exact v1 k b hk
    · rw [hgen, hst]; exact hr
    · rw [hgen, hst]; exact xr
  · intro hq
    have xd : ∀ i, i < P.length → T7.eld (st + i) = zeroB.data.toList := fun i hi => by
      rw [d7 l6.q _ (by omega), if_neg (by omega), d6 l5.q _ (by omega), if_neg (by omega), d5 l4.q _ (by omega), if_neg (by omega), d4 l3.q _ (by omega), if_neg (by omega), d3 l2.q _ (by omega), if_neg (by omega), d2 l1.q _ (by omega), if_neg (by omega), d1 hq _ (by omega), if_pos (by omega)]
    rw [hP, hst]
    refine ⟨xd, ?_⟩
    rw [hanew]
    refine ⟨fun a ha2 t ht => ?_, fun i hi => ?_⟩
    · dsimp only at ht ⊢
      have : a = 0 ∨ a = 1 := by omega
      rcases this with rfl | rfl
      · rw [x0] at ht
        exact .inl (parse_headB hs'ok ht)
      · rw [x1] at ht
        exact .inl (parse_headB hs'ok ht)
    · dsimp only at hi ⊢
      rw [hgen, hst]
      rw [hlen] at hi
      exact xd i hi
end Go.Proofs.YtmemhoiepnlhfaaGreatDoor

/-! Plain laws of a log: one damaged byte, or one stale sector, is seen. No program in sight. -/
namespace Go.Proofs.YtmemhoiepnlhfaaGreatDoor
open Go.RowKit
set_option maxRecDepth 100000

theorem sumStep_inj {a b : Nat} {c : UInt8} (ha : a < 2147483647) (hb : b < 2147483647) (h : sumStep a c = sumStep b c) : a = b := by
  unfold sumStep at h
  generalize c.toNat = k at h
  omega
theorem sumFold_inj : ∀ (l : List UInt8) (a b : Nat), a < 2147483647 → b < 2147483647 → l.foldl sumStep a = l.foldl sumStep b → a = b
  | [], _, _, _, _, h => h
  | c :: l, a, b, ha, hb, h => sumStep_inj ha hb (sumFold_inj l _ _ (Nat.mod_lt _ (by decide)) (Nat.mod_lt _ (by decide)) h)
/-- One other byte has another sum. -/
theorem sum_set {l : List UInt8} {k : Nat} {c d : UInt8} (hk : l[k]? = some c) (hcd : c ≠ d) : sumL (l.set k d) ≠ sumL l := by
  intro h
  have hlt := (List.getElem?_eq_some_iff.1 hk).1
  have e1 : l = l.take k ++ c :: l.drop (k + 1) := by
    conv => lhs; rw [← List.take_append_drop k l]
    rw [List.drop_eq_getElem_cons hlt, (List.getElem?_eq_some_iff.1 hk).2]
  have e2 : l.set k d = l.take k ++ d :: l.drop (k + 1) := by
    rw [List.set_eq_take_append_cons_drop, if_pos hlt]
  rw [e2] at h
  conv at h => rhs; rw [e1]
  unfold sumL at h
  rw [List.foldl_append, List.foldl_append, List.foldl_cons, List.foldl_cons] at h
  have h2 := sumFold_inj _ _ _ (Nat.mod_lt _ (by decide)) (Nat.mod_lt _ (by decide)) h
  have hc : c.toNat < 256 := c.toNat_lt
  have hd : d.toNat < 256 := d.toNat_lt
  have : c.toNat ≠ d.toNat := fun e => hcd (UInt8.toNat_inj.1 e)
  unfold sumStep at h2
  generalize List.foldl _ 0 (l.take k) = s at h2
  omega
/-- No sealed sector is one byte off another. -/
theorem seal_set {e p e' p' k : Nat} {b b' : List UInt8} {c d : UInt8} (hb : b.length ≤ 40) (hb' : b'.length ≤ 40) (hk : (putL e p b)[k]? = some c) (hcd : c ≠ d) : (putL e p b).set k d ≠ putL e' p' b' := by
  intro h
  have l1 := putH_len e p hb
  have l2 := putH_len e' p' hb'
  unfold putL at h hk
  by_cases hk56 : k < 56
  · rw [List.set_append_left _ _ (by omega)] at h
    rw [List.getElem?_append_left (by omega)] at hk
    have h1 := congrArg (List.drop 56) h
    rw [List.drop_left' (by rw [List.length_set]; exact l1), List.drop_left' l2] at h1
    have h2 := congrArg (List.take 56) h
    rw [List.take_left' (by rw [List.length_set]; exact l1), List.take_left' l2] at h2
    have h3 : sumL (putH e p b) = sumL (putH e' p' b') := by
      have f1 := val_fit (n := sumL (putH e p b)) (k := 8) (Nat.lt_of_lt_of_le (sum_lt _) (by decide))
      have f2 := val_fit (n := sumL (putH e' p' b')) (k := 8) (Nat.lt_of_lt_of_le (sum_lt _) (by decide))
      rw [← f1, h1, f2]
    rw [← h2] at h3
    exact sum_set hk hcd h3.symm
  · have h2 := congrArg (List.take 56) h
    rw [List.set_append_right _ _ (by omega), List.take_left' l1, List.take_left' l2] at h2
    have h1 := congrArg (List.drop 56) h
    rw [List.set_append_right _ _ (by omega), List.drop_left' l1, List.drop_left' l2, ← h2] at h1
    rw [List.getElem?_append_right (by omega)] at hk
    have hlt := (List.getElem?_eq_some_iff.1 hk).1
    have h4 : ((beD (sumL (putH e p b)) 8).set (k - (putH e p b).length) d)[k - (putH e p b).length]? = some d := by rw [List.getElem?_set_self hlt]
    rw [h1, hk] at h4
    simp only [Option.some.injEq] at h4
    exact hcd h4
theorem open_flip {e p e' p' k : Nat} {b : List UInt8} {c d : UInt8} (hb : b.length ≤ 40) (hk : (putL e p b)[k]? = some c) (hcd : c ≠ d) : openB e' p' ((putL e p b).set k d) = none := by
  cases h : openB e' p' ((putL e p b).set k d) with
  | none => rfl
  | some b' =>
    obtain ⟨h1, h2⟩ := (openB_iff _ _ _ _).1 h
    exact absurd h2 (seal_set hb h1 hk hcd)
theorem parse_flip {a a' half k : Nat} {s : St} {c d : UInt8} (hs : s.ok) (hk : (headL a s)[k]? = some c) (hcd : c ≠ d) : parseL a' ((headL a s).set k d) half = none := by
  unfold parseL
  unfold headL at hk ⊢
  rw [open_flip (by rw [List.length_append, digitsL_len hs]; omega) hk hcd]
theorem parse_zero_flip {a half k : Nat} {d : UInt8} : parseL a (zeroB.data.toList.set k d) half = none := by
  cases h : parseL a (zeroB.data.toList.set k d) half with
  | none => rfl
  | some t =>
    obtain ⟨h1, h2, _⟩ := parseL_some h
    -- a head has more than one byte that is not zero
    have hz : zeroB.data.toList = List.replicate 64 0 := rfl
    have l2 := digitsL_len h2
    have hg : ∀ j, j < 19 → ∃ x, (digitsL t)[j]? = some x ∧ x ≠ 0 := by
      intro j hj
      have hjl : j < (digitsL t).length := by omega
      refine ⟨_, List.getElem?_eq_getElem hjl, ?_⟩
      have hm : (digitsL t)[j] ∈ digitsL t := List.getElem_mem hjl
      have hdig : isDig (digitsL t)[j] = true := by
        unfold digitsL at hm ⊢
        rcases List.mem_append.1 hm with hm | hm
        · rcases List.mem_append.1 hm with hm | hm
          · exact padL_dig _ _ _ hm
          · exact padL_dig _ _ _ hm
        · exact padL_dig _ _ _ hm
      intro e
      rw [e] at hdig
      exact absurd hdig (by decide)
    have hb := field_b 0 a (digitsL t ++ digitsL t)
    have e1 : putL 0 a (digitsL t ++ digitsL t) = zeroB.data.toList.set k d := h1.symm
    rw [e1, List.length_append, l2] at hb
    have key : ∀ j, j < 38 → 16 + j ≠ k → (digitsL t ++ digitsL t)[j]? = some 0 := by
      intro j hj hne
      rw [← hb, List.getElem?_take, if_pos (by omega), List.getElem?_drop, List.getElem?_set_ne (by omega), hz, List.getElem?_replicate, if_pos (by omega)]
    obtain ⟨x, hx, hx0⟩ := hg 0 (by decide)
    obtain ⟨y, hy, hy0⟩ := hg 1 (by decide)
    by_cases hk0 : 16 + 0 = k
    · have := key 1 (by decide) (by omega)
      rw [List.getElem?_append_left (by omega), hy] at this
      simp only [Option.some.injEq] at this
      exact absurd this hy0
    · have := key 0 (by decide) hk0
      rw [List.getElem?_append_left (by omega), hx] at this
      simp only [Option.some.injEq] at this
      exact absurd this hx0
end Go.Proofs.YtmemhoiepnlhfaaGreatDoor

/-! Plain laws of a log: what Open says of a disk with one damaged byte, or one stale sector. No program in sight. -/
namespace Go.Proofs.YtmemhoiepnlhfaaGreatDoor
open Go.RowKit

theorem bodies_bad {S : DS} {e p : Nat} : ∀ (k i : Nat), i < k → openB e (p + i) (S.secNow (p + i)).data.toList = none → bodiesL S e p k = none
  | 0, _, h, _ => by omega
  | k + 1, i, h, hi => by
    rw [bodiesL]
    by_cases hc : i = k
    · subst hc
      cases bodiesL S e p i with
      | none => rfl
      | some bs => dsimp only; rw [hi]
    · rw [bodies_bad k i (by omega) hi]
theorem open_same {S' : DS} {L : LS} {a : Nat} (hon : S'.off = false) (hn : S'.n = L.n) (hk : L.ok) (hbr : L.br = false) (hst : stateL S' = some (L.s, a)) (hlen : L.s.length = (partsOf L.list).length)
    (hd : ∀ i b, (partsOf L.list)[i]? = some b → S'.secNow (startN L.n L.s.generation + i) = dataB L.s.generation (startN L.n L.s.generation + i) b) : openL S' = (0, some { L with a := a }) := by
  unfold openL
  have hn6 : ¬ S'.n < 6 := by rw [hn]; have := hk.n.1; omega
  rw [if_neg (by rw [hon]; decide), if_neg hn6, hst]
  dsimp only
  rw [hn, bodies_data L.s.length (partsOf L.list) hlen.symm (fun b hb => partsOf_le hb) hd]
  dsimp only
  rw [recs_parts]
  dsimp only
  rw [map_data, ← hbr]
theorem open_bad {S' : DS} {L : LS} {a : Nat} (hon : S'.off = false) (hn : S'.n = L.n) (hk : L.ok) (hst : stateL S' = some (L.s, a)) {i : Nat} (hi : i < L.s.length)
    (hd : openB L.s.generation (startN L.n L.s.generation + i) (S'.secNow (startN L.n L.s.generation + i)).data.toList = none) : openL S' = (20, none) := by
  unfold openL
  have hn6 : ¬ S'.n < 6 := by rw [hn]; have := hk.n.1; omega
  rw [if_neg (by rw [hon]; decide), if_neg hn6, hst]
  dsimp only
  rw [hn, bodies_bad L.s.length i hi hd]
theorem sec_byte {L : List UInt8} {n s k i : Nat} {v : UInt8} (h : L.length = 64 * n) (hs : s < n) (hk : k < 64) (hi : i < n) : sec (L.set (64 * s + k) v) i = if i = s then (sec L s).set k v else sec L i := by
  apply List.ext_getElem?
  intro j
  have hl : (L.set (64 * s + k) v).length = 64 * n := by rw [List.length_set]; exact h
  by_cases hj : j < 64
  · rw [sec_get _ _ _ hj, List.getElem?_set]
    by_cases hc : i = s
    · subst hc
      rw [if_pos rfl, List.getElem?_set, sec_get _ _ _ hj, sec_len h hi]
      by_cases hkj : k = j
      · rw [if_pos (by omega), if_pos hkj, if_pos (by omega), if_pos (by omega)]
      · rw [if_neg (by omega), if_neg hkj]
    · rw [if_neg (by omega), if_neg hc, sec_get _ _ _ hj]
  · rw [List.getElem?_eq_none (by rw [sec_len hl hi]; omega)]
    split
    · rw [List.getElem?_eq_none (by rw [List.length_set, sec_len h hs]; omega)]
    · rw [List.getElem?_eq_none (by rw [sec_len h hi]; omega)]
theorem now_of_stb {S : DS} (hq : S.q = []) (i : Nat) : (S.secNow i).data.toList = S.stb i := (stb_now hq i).symm
/-- What a damaged byte leaves. -/
theorem rot_view {S : DS} (hok : S.ok) (hq : S.q = []) {s k m : Int} (hr : rotOk S s k m = true) :
    ∃ s' k' c d, s = (s' : Nat) ∧ s' < S.n ∧ k' < 64 ∧ (S.secNow s').data.toList[k']? = some c ∧ c ≠ d ∧
      ((S.rot s k m).secNow s').data.toList = (S.secNow s').data.toList.set k' d ∧ (∀ i, i < S.n → i ≠ s' → (S.rot s k m).secNow i = S.secNow i) := by
  unfold rotOk at hr
  simp only [Bool.and_eq_true, decide_eq_true_eq] at hr
  obtain ⟨⟨hv, hk1, hk2⟩, hm1, hm2⟩ := hr
  obtain ⟨hs1, hs2⟩ := (valid_iff S s).1 hv
  obtain ⟨s', rfl⟩ := Int.eq_ofNat_of_zero_le hs1
  obtain ⟨k', rfl⟩ := Int.eq_ofNat_of_zero_le hk1
  obtain ⟨m', rfl⟩ := Int.eq_ofNat_of_zero_le (by omega : (0 : Int) ≤ m)
  have hsn : s' < S.n := by omega
  have hkk : k' < 64 := by omega
  have hr' : rotOk S (s' : Int) (k' : Int) (m' : Int) = true := by
    unfold rotOk
    simp only [Bool.and_eq_true, decide_eq_true_eq]
    exact ⟨⟨hv, hk1, hk2⟩, hm1, hm2⟩
  have hlt : 64 * s' + k' < S.st.length := by rw [hok.st]; omega
  obtain ⟨c, hc⟩ : ∃ c, S.st[64 * s' + k']? = some c := ⟨_, List.getElem?_eq_getElem hlt⟩
  have hst : (S.rot (s' : Int) (k' : Int) (m' : Int)).st = S.st.set (64 * s' + k') (c ^^^ UInt8.ofNat m') := by
    unfold DS.rot
    rw [if_pos hr']
    dsimp only [Int.toNat_natCast]
    rw [List.getD_eq_getElem?_getD, hc]
    rfl
  have hq' : (S.rot (s' : Int) (k' : Int) (m' : Int)).q = [] := by
    unfold DS.rot
    rw [if_pos hr']
    exact hq
  have hview : ∀ i, i < S.n → (S.rot (s' : Int) (k' : Int) (m' : Int)).stb i = if i = s' then (S.stb s').set k' (c ^^^ UInt8.ofNat m') else S.stb i := fun i hi => by
    unfold DS.stb
    rw [hst]
    exact sec_byte hok.st hsn hkk hi
  refine ⟨s', k', c, c ^^^ UInt8.ofNat m', rfl, hsn, hkk, ?_, ?_, ?_, fun i hi hne => ?_⟩
  · rw [now_of_stb hq]
    unfold DS.stb
    rw [sec_get _ _ _ hkk]
    exact hc
  · intro e
    have h0 : UInt8.ofNat m' = 0 := by
      have : c ^^^ (c ^^^ UInt8.ofNat m') = c ^^^ c := by rw [← e]
      rw [← UInt8.xor_assoc, UInt8.xor_self] at this
      simpa using this
    have h1 := congrArg UInt8.toNat h0
    rw [UInt8.toNat_ofNat'] at h1
    have h2 : m' % 256 = m' := Nat.mod_eq_of_lt (by omega)
    rw [show (2 : Nat) ^ 8 = 256 from rfl, h2] at h1
    have : (0 : UInt8).toNat = 0 := rfl
    omega
  · rw [now_of_stb hq', hview s' hsn, if_pos rfl, now_of_stb hq]
  · apply data_inj
    rw [now_of_stb hq', hview i hi, if_neg hne, now_of_stb hq]
end Go.Proofs.YtmemhoiepnlhfaaGreatDoor

/-! Plain laws of a log: Open behind rot, behind a stale sector, behind a failure; a new disk. No program in sight. -/
namespace Go.Proofs.YtmemhoiepnlhfaaGreatDoor
open Go.RowKit
set_option maxRecDepth 100000

theorem rot_n (S : DS) (s k m : Int) : (S.rot s k m).n = S.n ∧ (S.rot s k m).off = S.off ∧ (S.rot s k m).arm = S.arm ∧ (S.rot s k m).q = S.q := by
  unfold DS.rot
  split <;> exact ⟨rfl, rfl, rfl, rfl⟩
theorem rot_no {S : DS} {s k m : Int} (h : rotOk S s k m = false) : S.rot s k m = S := by
  unfold DS.rot
  rw [if_neg (by rw [h]; exact Bool.false_ne_true)]
def Used (L : LS) (s : Nat) : Prop := startN L.n L.s.generation ≤ s ∧ s < startN L.n L.s.generation + L.s.length
theorem state_data {S S' : DS} {L : LS} (h : Holds S L) (hn : S'.n = S.n) (h0 : S'.secNow 0 = S.secNow 0) (h1 : S'.secNow 1 = S.secNow 1) : stateL S' = some (L.s, 0) := by
  have := state_holds h
  unfold stateL at this ⊢
  rw [hn, h0, h1]
  exact this
theorem data_lt {S : DS} {L : LS} (h : Holds S L) {i : Nat} {b : ByteArray} (hi : (partsOf L.list)[i]? = some b) : i < L.s.length := by rw [h.len]; exact (List.getElem?_eq_some_iff.1 hi).1
theorem holds_fits {S : DS} {L : LS} (h : Holds S L) : 2 ≤ startN L.n L.s.generation ∧ startN L.n L.s.generation + L.s.length ≤ S.n := by
  rw [h.n]
  exact start_fits h.ok.n.1 h.ok.half
theorem open_rot_free {S : DS} {L : LS} (h : Holds S L) {s : Nat} {k m : Int} (h2 : 2 ≤ s) (hu : ¬ Used L s) : openL (S.rot (s : Int) k m) = (0, some L) := by
  have hf := holds_fits h
  have e : { L with a := 0 } = L := by rw [← h.a]
  cases hr : rotOk S s k m with
  | false => rw [rot_no hr]; exact open_holds h
  | true =>
    obtain ⟨s', k', c, d, hs, hsn, _, _, _, _, ho⟩ := rot_view h.on.ok h.q hr
    obtain rfl : s = s' := by omega
    obtain ⟨r1, r2, _, _⟩ := rot_n S s k m
    have hn6 := h.ok.n.1
    have hSn := h.n
    rw [← e]
    refine open_same (by rw [r2]; exact h.on.off) (by rw [r1]; exact h.n) h.ok h.br (state_data h r1 (ho 0 (by omega) (by omega)) (ho 1 (by omega) (by omega))) h.len (fun i b hi => ?_)
    have hlt := data_lt h hi
    rw [ho _ (by omega) (fun e => hu ⟨by omega, by omega⟩)]
    exact h.data i b hi
theorem open_rot_used {S : DS} {L : LS} (h : Holds S L) {s : Nat} {k m : Int} (hu : Used L s) (hr : rotOk S s k m = true) : openL (S.rot (s : Int) k m) = (20, none) := by
  have hf := holds_fits h
  obtain ⟨s', k', c, d, hs, hsn, _, hc, hcd, hv, ho⟩ := rot_view h.on.ok h.q hr
  obtain rfl : s = s' := by omega
  obtain ⟨r1, r2, _, _⟩ := rot_n S s k m
  have hn6 := h.ok.n.1
  have hSn := h.n
  obtain ⟨hu1, hu2⟩ := hu
  obtain ⟨i, rfl⟩ : ∃ i, s = startN L.n L.s.generation + i := ⟨s - startN L.n L.s.generation, by omega⟩
  obtain ⟨b, hb⟩ : ∃ b, (partsOf L.list)[i]? = some b := ⟨_, List.getElem?_eq_getElem (by rw [← h.len]; omega)⟩
  have hd := h.data i b hb
  refine open_bad (by rw [r2]; exact h.on.off) (by rw [r1]; exact h.n) h.ok (state_data h r1 (ho 0 (by omega) (by omega)) (ho 1 (by omega) (by omega))) (i := i) (by omega) ?_
  rw [hv]
  rw [hd] at hc ⊢
  exact open_flip (partsOf_le (List.mem_of_getElem? hb)) hc hcd
theorem open_rot {S : DS} {L : LS} (h : Holds S L) {s : Nat} (hs : s < S.n) (k m : Int) : (∃ a, openL (S.rot (s : Int) k m) = (0, some { L with a := a })) ∨ openL (S.rot (s : Int) k m) = (20, none) := by
  have e : { L with a := 0 } = L := by rw [← h.a]
  have hf := holds_fits h
  cases hr : rotOk S s k m with
  | false => exact .inl ⟨0, by rw [rot_no hr, e]; exact open_holds h⟩
  | true =>
    by_cases h2 : 2 ≤ s
    · by_cases hu : Used L s
      · exact .inr (open_rot_used h hu hr)
      · exact .inl ⟨0, by rw [e]; exact open_rot_free h h2 hu⟩
    · left
      obtain ⟨s', k', c, d, hs', hsn, hk64, hc, hcd, hv, ho⟩ := rot_view h.on.ok h.q hr
      obtain rfl : s = s' := by omega
      obtain ⟨r1, r2, _, _⟩ := rot_n S s k m
      have hn6 := h.ok.n.1
      have hSn := h.n
      have hh : L.s.length ≤ halfN L.n := h.ok.half
      have hdata : ∀ i b, (partsOf L.list)[i]? = some b → (S.rot (s : Int) k m).secNow (startN L.n L.s.generation + i) = dataB L.s.generation (startN L.n L.s.generation + i) b := fun i b hi => by
        have := data_lt h hi
        rw [ho _ (by omega) (by omega)]
        exact h.data i b hi
      have key : ∃ a, stateL (S.rot (s : Int) k m) = some (L.s, a) := by
        have hs01 : s = 0 ∨ s = 1 := by omega
        unfold stateL
        rw [r1, hSn]
        rcases h.heads with ⟨z, z0, z1⟩ | ⟨z0, z1⟩
        · rcases hs01 with rfl | rfl
          · rw [ho 1 (by omega) (by decide), hv, z0, z1, parseL_zero, parse_zero_flip, z]
            exact ⟨0, by simp [pickL]⟩
          · rw [ho 0 (by omega) (by decide), hv, z0, z1, parseL_zero, parse_zero_flip, z]
            exact ⟨0, by simp [pickL]⟩
        · rcases hs01 with rfl | rfl
          · rw [z0] at hc
            have e1 : parseL 1 (headB 1 L.s).data.toList (halfN L.n) = some L.s := parseL_head h.ok.s hh
            have e0 : parseL 0 ((headB 0 L.s).data.toList.set k' d) (halfN L.n) = none := parse_flip h.ok.s hc hcd
            rw [ho 1 (by omega) (by decide), hv, z0, z1, e0, e1]
            exact ⟨1, rfl⟩
          · rw [z1] at hc
            have e1 : parseL 0 (headB 0 L.s).data.toList (halfN L.n) = some L.s := parseL_head h.ok.s hh
            have e0 : parseL 1 ((headB 1 L.s).data.toList.set k' d) (halfN L.n) = none := parse_flip h.ok.s hc hcd
            rw [ho 0 (by omega) (by decide), hv, z0, z1, e0, e1]
            exact ⟨0, rfl⟩
      obtain ⟨a, ha⟩ := key
      exact ⟨a, open_same (by rw [r2]; exact h.on.off) (by rw [r1]; exact h.n) h.ok h.br ha h.len hdata⟩

/-- What a stale sector leaves. -/
theorem stale_view {S : DS} (hok : S.ok) (hq : S.q = []) {s : Nat} (hs : s < S.n) :
    (S.stale (s : Int)).n = S.n ∧ (S.stale (s : Int)).off = S.off ∧ (S.stale (s : Int)).arm = S.arm ∧ (S.stale (s : Int)).q = [] ∧ (S.stale (s : Int)).el = S.el ∧ (S.stale (s : Int)).ok ∧
      ((S.stale (s : Int)).secNow s).data.toList = S.eld s ∧ (∀ i, i < S.n → i ≠ s → (S.stale (s : Int)).secNow i = S.secNow i) := by
  have hv : S.valid (s : Int) = true := (valid_iff S s).2 ⟨by omega, by omega⟩
  have e : S.stale (s : Int) = { S with st := splice S.st (64 * s) (sec S.el s) } := by
    unfold DS.stale
    rw [if_pos hv]
    rfl
  have hel : (sec S.el s).length = 64 := sec_len hok.el hs
  rw [e]
  refine ⟨rfl, rfl, rfl, hq, rfl, ⟨hok.pos, hok.most, ?_, hok.el, hok.q, hok.arm⟩, ?_, fun i hi hne => ?_⟩
  · show (splice S.st (64 * s) (sec S.el s)).length = _
    rw [length_splice _ _ _ (by rw [hel, hok.st]; omega)]
    exact hok.st
  · refine (now_of_stb (S := { S with st := splice S.st (64 * s) (sec S.el s) }) hq s).trans ?_
    show sec (splice S.st (64 * s) (sec S.el s)) s = _
    rw [sec_full hok.st hs hs hel, if_pos rfl]
    rfl
  · apply data_inj
    refine (now_of_stb (S := { S with st := splice S.st (64 * s) (sec S.el s) }) hq i).trans (Eq.trans ?_ (now_of_stb hq i).symm)
    show sec (splice S.st (64 * s) (sec S.el s)) i = _
    rw [sec_full hok.st hs hi hel, if_neg (fun e => hne e.symm)]
    rfl
theorem open_stale {S : DS} {L : LS} (h : Holds S L) (hE : Elder S L) {s : Nat} (hs : s < S.n) : (∃ a, openL (S.stale (s : Int)) = (0, some { L with a := a })) ∨ openL (S.stale (s : Int)) = (20, none) := by
  have hf := holds_fits h
  have hn6 := h.ok.n.1
  have hSn := h.n
  obtain ⟨r1, r2, _, _, _, _, hv, ho⟩ := stale_view h.on.ok h.q hs
  have hoff : (S.stale (s : Int)).off = false := by rw [r2]; exact h.on.off
  by_cases h2 : 2 ≤ s
  · have hst := state_data h r1 (ho 0 (by omega) (by omega)) (ho 1 (by omega) (by omega))
    by_cases hu : Used L s
    · right
      obtain ⟨hu1, hu2⟩ := hu
      obtain ⟨i, rfl⟩ : ∃ i, s = startN L.n L.s.generation + i := ⟨s - startN L.n L.s.generation, by omega⟩
      refine open_bad hoff (by rw [r1]; exact h.n) h.ok hst (i := i) (by omega) ?_
      rw [hv, hE.data i (by omega)]
      exact openB_zero_none _ _
    · left
      refine ⟨0, open_same hoff (by rw [r1]; exact h.n) h.ok h.br hst h.len (fun i b hi => ?_)⟩
      have hlt := data_lt h hi
      rw [ho _ (by omega) (fun e => hu ⟨by omega, by omega⟩)]
      exact h.data i b hi
  · left
    have hh : L.s.length ≤ halfN L.n := h.ok.half
    have hdata : ∀ i b, (partsOf L.list)[i]? = some b → (S.stale (s : Int)).secNow (startN L.n L.s.generation + i) = dataB L.s.generation (startN L.n L.s.generation + i) b := fun i b hi => by
      have := data_lt h hi
      rw [ho _ (by omega) (by omega)]
      exact h.data i b hi
    have key : ∃ a, stateL (S.stale (s : Int)) = some (L.s, a) := by
      have hs01 : s = 0 ∨ s = 1 := by omega
      unfold stateL
      rw [r1, hSn]
      rcases hs01 with rfl | rfl
      · have ho1 := ho 1 (by omega) (by decide)
        rw [ho1, hv]
        have hpar := hE.heads 0 (by decide)
        rcases h.heads with ⟨z, z0, z1⟩ | ⟨z0, z1⟩
        · rw [z1, parseL_zero]
          cases hp : parseL 0 (S.eld 0) (halfN L.n) with
          | none => exact ⟨0, by rw [z]; simp [pickL]⟩
          | some t =>
            rcases hpar t hp with rfl | hlt
            · exact ⟨0, rfl⟩
            · rw [z] at hlt
              exact absurd hlt (Nat.not_lt_zero _)
        · have e1 : parseL 1 (headB 1 L.s).data.toList (halfN L.n) = some L.s := parseL_head h.ok.s hh
          rw [z1, e1]
          cases hp : parseL 0 (S.eld 0) (halfN L.n) with
          | none => exact ⟨1, rfl⟩
          | some t =>
            rcases hpar t hp with rfl | hlt
            · exact ⟨0, by simp [pickL]⟩
            · refine ⟨1, ?_⟩
              unfold pickL
              dsimp only
              rw [if_neg (fun h => by omega), if_neg (by omega)]
      · have ho0 := ho 0 (by omega) (by decide)
        rw [ho0, hv]
        have hpar := hE.heads 1 (by decide)
        rcases h.heads with ⟨z, z0, z1⟩ | ⟨z0, z1⟩
        · rw [z0, parseL_zero]
          cases hp : parseL 1 (S.eld 1) (halfN L.n) with
          | none => exact ⟨0, by rw [z]; simp [pickL]⟩
          | some t =>
            rcases hpar t hp with rfl | hlt
            · exact ⟨1, rfl⟩
            · rw [z] at hlt
              exact absurd hlt (Nat.not_lt_zero _)
        · have e1 : parseL 0 (headB 0 L.s).data.toList (halfN L.n) = some L.s := parseL_head h.ok.s hh
          rw [z0, e1]
          cases hp : parseL 1 (S.eld 1) (halfN L.n) with
          | none => exact ⟨0, rfl⟩
          | some t =>
            rcases hpar t hp with rfl | hlt
            · exact ⟨0, by simp [pickL]⟩
            · refine ⟨0, ?_⟩
              unfold pickL
              dsimp only
              rw [if_neg (fun h => by omega), if_pos (by omega)]
    obtain ⟨a, ha⟩ := key
    exact ⟨a, open_same hoff (by rw [r1]; exact h.n) h.ok h.br ha h.len hdata⟩

/-- Nothing is pending: a failure turns the disk off, and no more. -/
theorem fail_dead {S : DS} {L : LS} (h : Holds S L) (x b : Int) : S.fail x b = S.dead := by
  unfold DS.fail
  rw [if_neg (by rw [h.on.off]; decide), h.q]
  simp [DS.settle, DS.torn]
theorem fail_start {S : DS} {L : LS} (h : Holds S L) (x b : Int) : (S.fail x b).start = S := by
  rw [fail_dead h]
  obtain ⟨n, st, el, q, off, arm⟩ := S
  have h1 := h.q
  have h2 := h.on.off
  have h3 := h.on.arm
  dsimp only at h1 h2 h3
  subst h1 h2 h3
  rfl
def LS.fresh (n : Nat) : LS := ⟨n, ⟨0, 0, 0⟩, 0, [], false⟩
theorem fresh_ok (n : Nat) (h1 : 1 ≤ n) (h2 : n ≤ 4000) : (DS.fresh n).ok := ⟨h1, h2, by simp [DS.fresh], by simp [DS.fresh], fun p hp => by simp [DS.fresh] at hp, fun a w b e => by simp [DS.fresh] at e⟩
theorem fresh_sec (n i : Nat) (hi : i < n) : sec (List.replicate (64 * n) (0 : UInt8)) i = List.replicate 64 0 := by
  unfold sec
  rw [List.drop_replicate, List.take_replicate]
  congr 1
  omega
theorem fresh_now (n i : Nat) (hi : i < n) : (DS.fresh n).secNow i = zeroB := by
  apply data_inj
  rw [now_of_stb rfl]
  exact fresh_sec n i hi
theorem fresh_holds {n : Nat} (h1 : 6 ≤ n) (h2 : n ≤ 4000) : Holds (DS.fresh n) (LS.fresh n) ∧ Elder (DS.fresh n) (LS.fresh n) := by
  refine ⟨⟨⟨fresh_ok n (by omega) h2, rfl, rfl⟩, rfl, rfl, ⟨⟨show (0:Nat) < 1000000000 by decide, show (0:Nat) < 1000000 by decide, show (0:Nat) < 10000 by decide⟩, show (0:Nat) ≤ 1 by decide, ⟨h1, h2⟩, Nat.le_refl _, Nat.zero_le _⟩, rfl, rfl, .inl ⟨rfl, fresh_now n 0 (by omega), fresh_now n 1 (by omega)⟩, rfl, fun i b hi => by simp [LS.fresh, partsOf] at hi⟩, ⟨fun a ha t ht => ?_, fun i hi => by simp [LS.fresh] at hi⟩⟩
  have e : (DS.fresh n).eld a = zeroB.data.toList := fresh_sec n a (by omega)
  rw [e, parseL_zero] at ht
  cases ht
theorem open_small {n : Nat} (h : n < 6) : openL (DS.fresh n) = (1, none) := by
  unfold openL
  rw [if_neg (show ¬ (DS.fresh n).off = true from Bool.false_ne_true), if_pos (show (DS.fresh n).n < 6 from h)]
end Go.Proofs.YtmemhoiepnlhfaaGreatDoor

/-! The law package's small functions, walked: text, Zero, Same. Their condition: records that lie in memory. -/
namespace Go.Proofs.YtmemhoiepnlhfaaGreatDoor
open Go.RowKit
set_option maxRecDepth 100000

def xsB (c : UInt8) (n : Nat) : ByteArray := strOf (List.replicate n c)
theorem xsB_size (c : UInt8) (n : Nat) : (xsB c n).size = n := by unfold xsB strOf; simp [ByteArray.size]
theorem xsB_snoc (c : UInt8) (n : Nat) : xsB c n ++ ⟨#[c]⟩ = xsB c (n + 1) := by
  apply data_inj
  rw [ByteArray.toList_data_append]
  unfold xsB strOf
  simp [List.replicate_succ']
theorem ba_bne {x y : ByteArray} (h : x ≠ y) : (!x.toList == y.toList) = true := by
  rw [Bool.not_eq_true', beq_eq_false_iff_ne]
  intro e
  rw [ByteArray.toList_eq, ByteArray.toList_eq] at e
  exact h (data_inj e)
def sizeV : Value → Nat
  | .string s => s.size
  | _ => 0
set_option maxHeartbeats 1600000 in
theorem text_any (n : Nat) (hn : n ≤ 5000) (w : World) : Calls Tryz.prog 29 #[.int .i64 (n : Int)] w fun e w' => e = .returned (.string (xsB 120 n)) ∧ w' = w := by
  have e0 : Value.string ⟨#[]⟩ = .string (xsB 120 0) := rfl
  go_enter Tryz.func29, Tryz.ntmps29
  go_wp2_with fail
  go_loop [3] (fun v => ∃ j : Nat, v = .string (xsB 120 j) ∧ j ≤ n) (fun v => n - sizeV v)
  case atStart => exact ⟨0, rfl, Nat.zero_le _⟩
  case round =>
    obtain ⟨j, rfl, hj⟩ := hrel
    have hz := xsB_size 120 j
    have hs := xsB_snoc 120 j
    by_cases hlt : j < n
    · go_wp2_with fail
      refine ⟨⟨j + 1, by rw [← hs], hlt⟩, ?_⟩
      simp only [sizeV, xsB_size]
      omega
    · obtain rfl : j = n := by omega
      go_wp2_with fail
      go_ret
      exact ⟨rfl, rfl⟩
set_option maxHeartbeats 1600000 in
theorem zero_any (w : World) : Calls Tryz.prog 12 #[] w fun e w' => e = .returned (.string zeroB) ∧ w' = w := by
  have e0 : Value.string ⟨#[]⟩ = .string (xsB 0 0) := rfl
  go_enter Tryz.func12, Tryz.ntmps12
  go_wp2_with fail
  go_loop [1, 2] (fun v i => ∃ j : Nat, v = .string (xsB 0 j) ∧ i = .int .i64 j ∧ j ≤ 64) (fun v i => 64 - sizeV v)
  case atStart => exact ⟨0, rfl, rfl, Nat.zero_le _⟩
  case round =>
    obtain ⟨j, rfl, rfl, hj⟩ := hrel
    have hz := xsB_size 0 j
    have hs := xsB_snoc 0 j
    by_cases hlt : j < 64
    · go_wp2_with fail
      refine ⟨⟨j + 1, by rw [← hs], congrArg (Value.int .i64) (by omega), hlt⟩, ?_⟩
      simp only [sizeV, xsB_size]
      omega
    · obtain rfl : j = 64 := by omega
      go_wp2_with fail
      go_ret
      exact ⟨rfl, rfl⟩
theorem RecsIn.kept {w w' : World} {vb : Option Addr} {l : List ByteArray} (h : RecsIn w vb l) (hk : Kept w w') : RecsIn w' vb l := fun i x hx => by
  obtain ⟨g, o, e, hc⟩ := h i x hx
  exact ⟨g, o, e, hk.cell hc⟩
set_option maxHeartbeats 1600000 in
theorem same_any (va vb : Option Addr) (ca cb : Nat) (a b : List ByteArray) (ha : a.length ≤ 1000000) (hb : b.length ≤ 1000000) (w : World) (hA : RecsIn w va a) (hB : RecsIn w vb b) :
    Calls Tryz.prog 16 #[.slice va a.length ca, .slice vb b.length cb] w fun e w' => e = .returned (.bool (decide (a = b))) ∧ Kept w w' := by
  have HA := Lib.hid hA
  have HB := Lib.hid hB
  obtain ⟨n, hn'⟩ : ∃ n, a.length = n := ⟨_, rfl⟩
  obtain ⟨m, hm'⟩ : ∃ m, b.length = m := ⟨_, rfl⟩
  obtain ⟨E, hE⟩ : ∃ E, decide (a = b) = E := ⟨_, rfl⟩
  have HN := Lib.hid hn'
  have HM := Lib.hid hm'
  have HE := Lib.hid hE
  rw [hn'] at ha ⊢
  rw [hm'] at hb ⊢
  rw [hE]
  clear hA hB hn' hm' hE
  by_cases hne : n = m
  · subst hne
    go_enter Tryz.func16, Tryz.ntmps16
    go_wp2_with fail
    go_loopw [5] (fun i wr => ∃ j : Nat, i = .int .i64 j ∧ j ≤ n ∧ Hid (a.take j = b.take j) ∧ Hid (Kept w wr)) (fun i _ => n - (intOf i).toNat)
    case atStart => exact ⟨0, rfl, Nat.zero_le _, Lib.hid rfl, Lib.hid (Kept.refl _)⟩
    case round =>
      obtain ⟨j, rfl, hj, HT, HK⟩ := hrel
      by_cases hlt : j < n
      · obtain ⟨x, hx⟩ : ∃ x, a[j]? = some x := ⟨_, List.getElem?_eq_getElem (by rw [HN.out]; exact hlt)⟩
        obtain ⟨y, hy⟩ : ∃ y, b[j]? = some y := ⟨_, List.getElem?_eq_getElem (by rw [HM.out]; exact hlt)⟩
        obtain ⟨ga, oa, ea, hca⟩ := (HA.out.kept HK.out) j x hx
        obtain ⟨gb, ob, eb, hcb⟩ := (HB.out.kept HK.out) j y hy
        have HX := Lib.hid hx
        have HY := Lib.hid hy
        subst ea eb
        clear hx hy
        have hji : (j : Int) < (n : Int) := by omega
        have hj0 : (0 : Int) ≤ (j : Int) := by omega
        have hni : (n : Int) ≤ 1000000 := by omega
        by_cases hxy : x = y
        · subst hxy
          go_wp2_with fail
          go_quiet (fail)
          go_wp2_with fail
          refine ⟨⟨j + 1, congrArg (Value.int .i64) (by omega), hlt, Lib.hid (by rw [List.take_add_one, List.take_add_one, HT.out, HX.out, HY.out]), Lib.hid (HK.out.trans ((Kept.refl _).drewN _))⟩, ?_⟩
          simp [intOf]; omega
        · have hF : Hid (E = false) := Lib.hid (by
            rw [← HE.out]
            exact decide_eq_false (fun e => hxy (by subst e; have := HX.out.symm.trans HY.out; exact Option.some.inj this)))
          have hc : (!x.toList == y.toList) = true := ba_bne hxy
          go_wp2_with fail
          go_quiet (fail)
          go_wp2_with fail
          go_ret
          exact ⟨by rw [hF.out]; rfl, HK.out.trans ((Kept.refl _).drewN _)⟩
      · obtain rfl : j = n := by omega
        have hT : Hid (E = true) := Lib.hid (by
          rw [← HE.out]
          refine decide_eq_true ?_
          have := HT.out
          rwa [List.take_of_length_le (by rw [HN.out]; omega), List.take_of_length_le (by rw [HM.out]; omega)] at this)
        go_wp2_with fail
        go_ret
        exact ⟨by rw [hT.out]; rfl, HK.out⟩
  · have hF : Hid (E = false) := Lib.hid (by
      rw [← HE.out]
      exact decide_eq_false (fun e => hne (by rw [← HN.out, ← HM.out, e])))
    go_enter Tryz.func16, Tryz.ntmps16
    go_wp2_with fail
    go_ret
    exact ⟨by rw [hF.out]; rfl, Kept.refl _⟩
end Go.Proofs.YtmemhoiepnlhfaaGreatDoor

/-! The law package's light, walked: what it lets in. Its condition: operations that lie in memory. -/
namespace Go.Proofs.YtmemhoiepnlhfaaGreatDoor
open Go.RowKit
set_option maxRecDepth 100000

structure OpL where
  kind : Nat
  body : ByteArray
  list : List ByteArray
  after : Int
  writes : Int
  bytes : Int
/-- An operation's six cells in memory, and its list's texts. -/
structure OpIn (w : World) (b off : Nat) (o : OpL) (vb : Option Addr) (c : Nat) : Prop where
  kind : w.cell? ⟨b, off, none⟩ = some (.int .u8 (o.kind : Int))
  body : w.cell? ⟨b, off + 1, none⟩ = some (.string o.body)
  list : w.cell? ⟨b, off + 2, none⟩ = some (.slice vb o.list.length c)
  after : w.cell? ⟨b, off + 3, none⟩ = some (.int .i64 o.after)
  writes : w.cell? ⟨b, off + 4, none⟩ = some (.int .i64 o.writes)
  bytes : w.cell? ⟨b, off + 5, none⟩ = some (.int .i64 o.bytes)
  recs : RecsIn w vb o.list
  less : o.kind < 256
  len : o.list.length ≤ 9223372036854775807
def OpsIn (w : World) (vo : Option Addr) (l : List OpL) : Prop := ∀ i o, l[i]? = some o → ∃ b off vb c, vo = some ⟨b, off, none⟩ ∧ OpIn w b (off + i * 6) o vb c
theorem OpIn.kept {w w' : World} {b off : Nat} {o : OpL} {vb : Option Addr} {c : Nat} (h : OpIn w b off o vb c) (hk : Kept w w') : OpIn w' b off o vb c :=
  ⟨hk.cell h.kind, hk.cell h.body, hk.cell h.list, hk.cell h.after, hk.cell h.writes, hk.cell h.bytes, h.recs.kept hk, h.less, h.len⟩
theorem OpsIn.kept {w w' : World} {vo : Option Addr} {l : List OpL} (h : OpsIn w vo l) (hk : Kept w w') : OpsIn w' vo l := fun i o hi => by
  obtain ⟨b, off, vb, c, e, ho⟩ := h i o hi
  exact ⟨b, off, vb, c, e, ho.kept hk⟩
def Light (sectors : Int) (l : List OpL) : Prop := sectors ≤ 40 ∧ l.length ≤ 16 ∧ ∀ o ∈ l, o.list.length ≤ 20
def LightR (sectors : Int) (l : List OpL) (e : Ending) : Prop := ∃ b : Bool, e = .returned (.bool b) ∧ (b = true → Light sectors l)
theorem LightR.no {sectors : Int} {l : List OpL} : LightR sectors l (.returned (.bool false)) := ⟨false, rfl, fun h => by cases h⟩
theorem LightR.yes {sectors : Int} {l : List OpL} (h : Light sectors l) : LightR sectors l (.returned (.bool true)) := ⟨true, rfl, fun _ => h⟩
set_option maxHeartbeats 4000000 in
theorem light_any (sectors : Int) (vo : Option Addr) (cap : Nat) (l : List OpL) (hl : l.length ≤ 9223372036854775807) (w : World) (h : OpsIn w vo l) :
    Calls Tryz.prog 17 #[.int .i64 sectors, .slice vo l.length cap] w fun e w' => LightR sectors l e ∧ w' = w := by
  have H := Lib.hid h
  obtain ⟨n, hn⟩ : ∃ n, l.length = n := ⟨_, rfl⟩
  have HN := Lib.hid hn
  rw [hn] at hl ⊢
  have HP : Hid (Light sectors l ↔ sectors ≤ 40 ∧ n ≤ 16 ∧ ∀ o ∈ l, o.list.length ≤ 20) := Lib.hid (by unfold Light; rw [hn])
  clear h hn
  by_cases hs : (40 : Int) < sectors
  · go_enter Tryz.func17, Tryz.ntmps17
    go_wp2_with fail
    go_ret
    exact ⟨LightR.no, rfl⟩
  by_cases hn16 : (16 : Int) < (n : Int)
  · go_enter Tryz.func17, Tryz.ntmps17
    go_wp2_with fail
    go_ret
    exact ⟨LightR.no, rfl⟩
  go_enter Tryz.func17, Tryz.ntmps17
  go_wp2_with fail
  go_loop [5, 6] (fun t i => ∃ (j : Nat) (tt : Int), t = .int .i64 tt ∧ i = .int .i64 j ∧ j ≤ n ∧ Hid (∀ o ∈ l.take j, o.list.length ≤ 20)) (fun _ i => n - (intOf i).toNat)
  case atStart => exact ⟨0, 0, rfl, rfl, Nat.zero_le _, Lib.hid (fun o ho => by simp at ho)⟩
  case round =>
    obtain ⟨j, tt, rfl, rfl, hj, HT⟩ := hrel
    by_cases hlt : j < n
    · obtain ⟨o, ho⟩ : ∃ o, l[j]? = some o := ⟨_, List.getElem?_eq_getElem (by rw [HN.out]; exact hlt)⟩
      obtain ⟨b, off, vb, c, rfl, hO⟩ := H.out j o ho
      have HO := Lib.hid ho
      have HOI := Lib.hid hO.recs
      have c1 := hO.body
      have c2 := hO.list
      have hll := hO.len
      obtain ⟨m, hm⟩ : ∃ m, o.list.length = m := ⟨_, rfl⟩
      rw [hm] at c2 hll
      have HM := Lib.hid hm
      clear H hO ho hm
      by_cases h20 : (20 : Int) < (m : Int)
      · go_wp2_with fail
        go_ret
        exact ⟨LightR.no, rfl⟩
      · go_wp2_with fail
        go_loop [5, 7] (fun t k => ∃ (q : Nat) (t2 : Int), t = .int .i64 t2 ∧ k = .int .i64 q ∧ q ≤ m) (fun _ k => m - (intOf k).toNat)
        case atStart => exact ⟨0, _, rfl, rfl, Nat.zero_le _⟩
        case round =>
          obtain ⟨q, t2, rfl, rfl, hq⟩ := hrel
          by_cases hqm : q < m
          · obtain ⟨x, hx⟩ : ∃ x, o.list[q]? = some x := ⟨_, List.getElem?_eq_getElem (by rw [HM.out]; exact hqm)⟩
            obtain ⟨g2, o2, rfl, hcx⟩ := HOI.out q x hx
            clear hx
            go_wp2_with fail
            refine ⟨⟨q + 1, _, rfl, congrArg (Value.int .i64) (by omega), hqm⟩, ?_⟩
            show m - ((q : Int) + 1).toNat < m - (q : Int).toNat
            omega
          · go_wp2_with fail
            · go_ret
              exact ⟨LightR.no, rfl⟩
            · refine ⟨⟨j + 1, _, rfl, congrArg (Value.int .i64) (by omega), hlt, Lib.hid ?_⟩, ?_⟩
              · intro o' ho'
                rw [List.take_add_one, HO.out] at ho'
                rcases List.mem_append.1 ho' with h1 | h1
                · exact HT.out o' h1
                · obtain rfl : o' = o := by simpa using h1
                  rw [HM.out]; omega
              · show n - ((j : Int) + 1).toNat < n - (j : Int).toNat
                omega
    · obtain rfl : j = n := by omega
      go_wp2_with fail
      go_ret
      refine ⟨LightR.yes (HP.out.2 ⟨by omega, by omega, ?_⟩), rfl⟩
      have := HT.out
      rwa [List.take_of_length_le (by rw [HN.out]; omega)] at this
end Go.Proofs.YtmemhoiepnlhfaaGreatDoor

/-! Plain laws of a log: each operation of a play, and plays. No program in sight. -/
namespace Go.Proofs.YtmemhoiepnlhfaaGreatDoor
open Go.RowKit
set_option maxRecDepth 100000

structure Good (S : DS) (L : LS) (a r : Nat) : Prop where
  h : Holds S L
  e : Elder S L
  num : L.s.number = a + r
  gen : L.s.generation = r
theorem fresh_good {n : Nat} (h1 : 6 ≤ n) (h2 : n ≤ 4000) : Good (DS.fresh n) (LS.fresh n) 0 0 := ⟨(fresh_holds h1 h2).1, (fresh_holds h1 h2).2, rfl, rfl⟩
/-- What an operation answers, and what is left. -/
def fits (L : LS) (parts : Nat) : Bool := decide (parts ≤ halfN L.n)
theorem append_step {S : DS} {L : LS} {a r : Nat} (g : Good S L a r) (ha : a + r ≤ 1000) (rec : ByteArray) :
    (isLong rec = true ∧ appendL S L rec = (3, S, L)) ∨ (isLong rec = false ∧ halfN L.n < (partsOf (L.list ++ [rec])).length ∧ appendL S L rec = (18, S, L)) ∨
      (isLong rec = false ∧ (partsOf (L.list ++ [rec])).length ≤ halfN L.n ∧ ∃ S', appendL S L rec = (0, S', L.more rec) ∧ Good S' (L.more rec) (a + 1) r) := by
  have hlen : (partsOf (L.list ++ [rec])).length = L.s.length + (splitB rec).length := by rw [partsOf_snoc, List.length_append, ← g.h.len]
  have hnum := g.num
  rw [hlen]
  cases hl : isLong rec with
  | true => exact .inl ⟨rfl, by unfold appendL; rw [if_neg (by rw [g.h.br]; exact Bool.false_ne_true), if_pos hl]⟩
  | false =>
    right
    by_cases hf : halfN L.n < L.s.length + (splitB rec).length
    · exact .inl ⟨rfl, hf, by unfold appendL; rw [if_neg (by rw [g.h.br]; exact Bool.false_ne_true), if_neg (by rw [hl]; exact Bool.false_ne_true), if_pos (.inl hf)]⟩
    · right
      obtain ⟨S', e, h', e'⟩ := append_holds g.h rec hl (fun h => by rcases h with h | h <;> omega)
      exact ⟨rfl, by omega, S', e, h', e' g.e, by show L.s.number + 1 = _; omega, g.gen⟩
theorem rewrite_step {S : DS} {L : LS} {a r : Nat} (g : Good S L a r) (ha : a + r ≤ 1000) (recs : List ByteArray) :
    (recs.any isLong = true ∧ rewriteL S L recs = (3, S, L)) ∨ (recs.any isLong = false ∧ halfN L.n < (partsOf recs).length ∧ rewriteL S L recs = (18, S, L)) ∨
      (recs.any isLong = false ∧ (partsOf recs).length ≤ halfN L.n ∧ ∃ S', rewriteL S L recs = (0, S', L.anew recs) ∧ Good S' (L.anew recs) a (r + 1) ∧ Traced S' L.n (L.anew recs).s (partsOf recs) ∧
        ∀ i, i < (partsOf recs).length → S'.eld (startN L.n (L.s.generation + 1) + i) = zeroB.data.toList) := by
  have hnum := g.num
  have hgen := g.gen
  cases hl : recs.any isLong with
  | true => exact .inl ⟨rfl, by unfold rewriteL; rw [if_neg (by rw [g.h.br]; exact Bool.false_ne_true), if_pos hl]⟩
  | false =>
    right
    by_cases hf : halfN L.n < (partsOf recs).length
    · exact .inl ⟨rfl, hf, by unfold rewriteL; rw [if_neg (by rw [g.h.br]; exact Bool.false_ne_true), if_neg (by rw [hl]; exact Bool.false_ne_true), if_neg (by omega), if_pos (.inl (by omega))]⟩
    · right
      obtain ⟨S', e, h', t', k'⟩ := rewrite_holds g.h.on g.h.n g.h.ok g.h.br recs hl (by omega) (fun h => by rcases h with h | h <;> omega)
      obtain ⟨k1, k2⟩ := k' g.h.q
      exact ⟨rfl, by omega, S', e, ⟨h', k2, by show L.s.number + 1 = _; omega, by show L.s.generation + 1 = _; omega⟩, t', k1⟩
structure PS where
  S : DS
  L : LS
  a : Nat
  r : Nat
def PS.good (p : PS) : Prop := Good p.S p.L p.a p.r
def stepP (p : PS) (o : OpL) : PS :=
  if o.kind % 2 = 0 then ⟨(appendL p.S p.L o.body).2.1, (appendL p.S p.L o.body).2.2, if (appendL p.S p.L o.body).1 = 0 then p.a + 1 else p.a, p.r⟩
  else ⟨(rewriteL p.S p.L o.list).2.1, (rewriteL p.S p.L o.list).2.2, p.a, if (rewriteL p.S p.L o.list).1 = 0 then p.r + 1 else p.r⟩
theorem stepP_good {p : PS} (g : p.good) (ha : p.a + p.r ≤ 1000) (o : OpL) : (stepP p o).good ∧ (stepP p o).a + (stepP p o).r ≤ p.a + p.r + 1 ∧ (stepP p o).L.n = p.L.n := by
  unfold stepP
  by_cases hk : o.kind % 2 = 0
  · rw [if_pos hk]
    rcases append_step g ha o.body with ⟨_, e⟩ | ⟨_, _, e⟩ | ⟨_, _, S', e, g'⟩
    · rw [e]
      exact ⟨g, by show p.a + p.r ≤ _; omega, rfl⟩
    · rw [e]
      exact ⟨g, by show p.a + p.r ≤ _; omega, rfl⟩
    · rw [e]
      exact ⟨g', by show p.a + 1 + p.r ≤ _; omega, rfl⟩
  · rw [if_neg hk]
    rcases rewrite_step g ha o.list with ⟨_, e⟩ | ⟨_, _, e⟩ | ⟨_, _, S', e, g', _⟩
    · rw [e]
      exact ⟨g, by show p.a + p.r ≤ _; omega, rfl⟩
    · rw [e]
      exact ⟨g, by show p.a + p.r ≤ _; omega, rfl⟩
    · rw [e]
      exact ⟨g', by show p.a + (p.r + 1) ≤ _; omega, rfl⟩
def playP (p : PS) (l : List OpL) : PS := l.foldl stepP p
theorem playP_snoc (p : PS) (l : List OpL) (o : OpL) : playP p (l ++ [o]) = stepP (playP p l) o := by simp [playP]
theorem playP_take (p : PS) (l : List OpL) {j : Nat} {o : OpL} (h : l[j]? = some o) : playP p (l.take (j + 1)) = stepP (playP p (l.take j)) o := by
  rw [List.take_add_one, h]
  exact playP_snoc _ _ _
theorem playP_good : ∀ (l : List OpL) (p : PS), p.good → p.a + p.r + l.length ≤ 1000 → (playP p l).good ∧ (playP p l).a + (playP p l).r ≤ p.a + p.r + l.length ∧ (playP p l).L.n = p.L.n
  | [], p, g, _ => ⟨g, Nat.le_refl _, rfl⟩
  | o :: l, p, g, h => by
    rw [List.length_cons] at h
    obtain ⟨g1, h1, h2⟩ := stepP_good g (by omega) o
    obtain ⟨g3, h3, h4⟩ := playP_good l (stepP p o) g1 (by omega)
    refine ⟨g3, ?_, h4.trans h2⟩
    rw [List.length_cons]
    exact Nat.le_trans h3 (by omega)
def freshP (n : Nat) : PS := ⟨DS.fresh n, LS.fresh n, 0, 0⟩
theorem played_good {n : Nat} (h1 : 6 ≤ n) (h2 : n ≤ 4000) (l : List OpL) (hl : l.length ≤ 1000) : (playP (freshP n) l).good ∧ (playP (freshP n) l).a + (playP (freshP n) l).r ≤ l.length ∧ (playP (freshP n) l).L.n = n := by
  obtain ⟨a, b, c⟩ := playP_good l (freshP n) (fresh_good h1 h2) (by show 0 + 0 + _ ≤ _; omega)
  exact ⟨a, by have : (freshP n).a + (freshP n).r = 0 := rfl; omega, c⟩
theorem rot_ok {S : DS} (h : S.ok) {s k m : Int} : (S.rot s k m).ok := by
  unfold DS.rot
  split
  · exact ⟨h.pos, h.most, by rw [List.length_set]; exact h.st, h.el, h.q, h.arm⟩
  · exact h
/-- Rot of a sector that the log does not use leaves it in order. -/
theorem rot_free_holds {S : DS} {L : LS} (h : Holds S L) {s : Nat} {k m : Int} (h2 : 2 ≤ s) (hu : ¬ Used L s) : Holds (S.rot (s : Int) k m) L := by
  cases hr : rotOk S s k m with
  | false => rw [rot_no hr]; exact h
  | true =>
    obtain ⟨s', k', c, d, hs, hsn, _, _, _, _, ho⟩ := rot_view h.on.ok h.q hr
    obtain rfl : s = s' := by omega
    obtain ⟨r1, r2, r3, r4⟩ := rot_n S s k m
    have hn6 := h.ok.n.1
    have hSn := h.n
    have hf := holds_fits h
    have h0 := ho 0 (by omega) (by omega)
    have h1 := ho 1 (by omega) (by omega)
    refine ⟨⟨rot_ok h.on.ok, r2.trans h.on.off, r3.trans h.on.arm⟩, r4.trans h.q, r1.trans h.n, h.ok, h.br, h.a, ?_, h.len, fun i b hi => ?_⟩
    · rw [h0, h1]; exact h.heads
    · have hlt := data_lt h hi
      rw [ho _ (by omega) (fun e => hu ⟨by omega, by omega⟩)]
      exact h.data i b hi
theorem text_small {t : List UInt8} (h : t.length < 10) : (textOf t).length = t.length + 2 := by
  unfold textOf
  rw [dec_small h, List.length_append, List.length_cons]
  simp
  omega
theorem text_two {t : List UInt8} (h : 10 ≤ t.length) (h2 : t.length < 100) : (textOf t).length = t.length + 3 := by
  unfold textOf
  rw [dec_big (by omega), dec_small (by omega), List.length_append, List.length_append, List.length_cons]
  simp
  omega
theorem split_len_one {r : ByteArray} (h : (textOf r.data.toList).length ≤ 40) : (splitB r).length = 1 := by
  unfold splitB
  rw [List.length_map]
  unfold partsL
  obtain ⟨k, hk⟩ : ∃ k, (textOf r.data.toList).length = k := ⟨_, rfl⟩
  rw [hk] at h ⊢
  cases k with
  | zero => rfl
  | succ k => rw [chunkF, if_neg (by omega)]; rfl
theorem split_len_two {r : ByteArray} (h : 40 < (textOf r.data.toList).length) (h2 : (textOf r.data.toList).length ≤ 80) : (splitB r).length = 2 := by
  unfold splitB
  rw [List.length_map]
  unfold partsL
  obtain ⟨k, hk⟩ : ∃ k, (textOf r.data.toList).length = k + 2 := ⟨(textOf r.data.toList).length - 2, by omega⟩
  rw [hk]
  rw [chunkF, if_pos (by omega), List.length_cons, chunkF, if_neg (by rw [List.length_drop]; omega)]
  rfl
end Go.Proofs.YtmemhoiepnlhfaaGreatDoor
