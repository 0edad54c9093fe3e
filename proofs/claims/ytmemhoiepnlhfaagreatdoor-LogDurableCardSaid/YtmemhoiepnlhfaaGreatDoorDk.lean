/-
  What a disk is and what its operations do, as plain functions; and a disk in memory, as an assertion of the separation logic.
  Its conditions: none; the assertion speaks of a pointer to a struct of five fields.
-/
import Derived.Test.YtmemhoiepnlhfaaGreatDoorRow
import Derived.Test.YtmemhoiepnlhfaaGreatDoorRows
namespace Go.Proofs.YtmemhoiepnlhfaaGreatDoor
open Go.RowKit

/-- The state of a disk: sectors, stable and elder bytes, pending writes, whether it is off, and its alarm. -/
structure DS where
  n : Nat
  st : List UInt8
  el : List UInt8
  q : List (Nat × ByteArray)
  off : Bool
  arm : Option (Int × Int × Int)

def sec (l : List UInt8) (i : Nat) : List UInt8 := (l.drop (64 * i)).take 64
def DS.set (S : DS) (i : Nat) (t : List UInt8) : DS := { S with el := splice S.el (64 * i) (sec S.st i), st := splice S.st (64 * i) t }
def DS.settle (S : DS) (l : List (Nat × ByteArray)) : DS := l.foldl (fun S p => S.set p.1 p.2.data.toList) S
def cut (x : Int) (n : Nat) : Nat := (min (max x 0) (n : Int)).toNat
def DS.torn (S : DS) (p : Option (Nat × ByteArray)) (b : Int) : DS :=
  match p with
  | some p => if 0 < cut b 64 then S.set p.1 (p.2.data.toList.take (cut b 64)) else S
  | none => S
def DS.dead (S : DS) : DS := { S with q := [], off := true, arm := none }
def DS.fail (S : DS) (w b : Int) : DS :=
  if S.off then S else ((S.settle (S.q.take (cut w S.q.length))).torn (S.q[cut w S.q.length]?) b).dead
def DS.count (S : DS) : Int × DS :=
  match S.arm with
  | none => (0, S)
  | some (a, w, b) => if 0 < a then (0, { S with arm := some (a - 1, w, b) }) else (19, S.fail w b)
def DS.valid (S : DS) (s : Int) : Bool := decide (0 ≤ s) && decide (s < (S.n : Int))
def DS.write (S : DS) (s : Int) (t : ByteArray) : Int × DS :=
  if S.off then (19, S) else if S.valid s && decide (t.size = 64) then DS.count { S with q := S.q ++ [(s.toNat, t)] } else (1, S)
def lastOf (q : List (Nat × ByteArray)) (i : Nat) : Option ByteArray := (q.reverse.find? fun p => p.1 == i).map (·.2)
def DS.secNow (S : DS) (i : Nat) : ByteArray := (lastOf S.q i).getD ⟨(sec S.st i).toArray⟩
def DS.read (S : DS) (s : Int) : ByteArray × Int :=
  if S.off then (⟨#[]⟩, 19) else if S.valid s then (S.secNow s.toNat, 0) else (⟨#[]⟩, 1)
def DS.flush (S : DS) : DS := { S.settle S.q with q := [] }
def DS.sync (S : DS) : Int × DS :=
  if S.off then (19, S) else if S.count.1 = 0 then (0, S.count.2.flush) else S.count
def DS.armed (S : DS) (a w b : Int) : DS := if S.off then S else if 0 ≤ a then { S with arm := some (a, w, b) } else { S with arm := none }
def DS.start (S : DS) : DS := { S with off := false, arm := none }
def rotOk (S : DS) (s k m : Int) : Bool := S.valid s && (decide (0 ≤ k) && decide (k < 64)) && (decide (0 < m) && decide (m < 256))
def DS.rot (S : DS) (s k m : Int) : DS :=
  if rotOk S s k m then { S with st := S.st.set (64 * s.toNat + k.toNat) ((S.st.getD (64 * s.toNat + k.toNat) 0) ^^^ UInt8.ofNat m.toNat) } else S
def DS.stale (S : DS) (s : Int) : DS := if S.valid s then { S with st := splice S.st (64 * s.toNat) (sec S.el s.toNat) } else S
def DS.fresh (n : Nat) : DS := { n, st := List.replicate (64 * n) 0, el := List.replicate (64 * n) 0, q := [], off := false, arm := none }

/-- What always holds of a disk. -/
structure DS.ok (S : DS) : Prop where
  pos : 1 ≤ S.n
  most : S.n ≤ 4000
  st : S.st.length = 64 * S.n
  el : S.el.length = 64 * S.n
  q : ∀ p ∈ S.q, p.1 < S.n ∧ p.2.size = 64
  arm : ∀ a w b, S.arm = some (a, w, b) → 0 ≤ a ∧ a ≤ 9223372036854775807

def u8s (l : List UInt8) : List Value := l.map fun b => .int .u8 (b.toNat : Int)
def qCell (p : Nat × ByteArray) : List Value := [.int .i64 ((p.1 : Int) * 64), .int .i64 (((p.1 : Int) + 1) * 64), .string p.2]
def qCells (q : List (Nat × ByteArray)) : List Value := q.flatMap qCell
theorem qCells_len (q : List (Nat × ByteArray)) : (qCells q).length = q.length * 3 := by
  induction q with
  | nil => rfl
  | cons p q ih => simp [qCells, qCell, List.length_flatMap] at ih ⊢; omega
theorem qCells_get (q : List (Nat × ByteArray)) (i j : Nat) (p : Nat × ByteArray) (hi : q[i]? = some p) (hj : j < 3) : (qCells q)[3 * i + j]? = (qCell p)[j]? := by
  induction q generalizing i with
  | nil => simp at hi
  | cons x q ih =>
    cases i with
    | zero =>
      simp at hi; subst hi
      show (qCell x ++ qCells q)[3 * 0 + j]? = _
      rw [List.getElem?_append_left (by simp [qCell]; omega)]
      simp
    | succ i =>
      show (qCell x ++ qCells q)[3 * (i + 1) + j]? = _
      rw [List.getElem?_append_right (by simp [qCell]; omega)]
      have : 3 * (i + 1) + j - (qCell x).length = 3 * i + j := by simp [qCell]; omega
      rw [this]; exact ih i (by simpa using hi)

def coreCells (n bs be : Nat) (qv : Value) (off : Bool) (av : Value) : Array Value :=
  #[.slice (some ⟨bs, 0, none⟩) (64 * n) (64 * n), .slice (some ⟨be, 0, none⟩) (64 * n) (64 * n), qv, .bool off, av]
def armP (av : Value) : Option (Int × Int × Int) → HProp
  | none => fact (av = .pointer none)
  | some (a, w, b) => fun h => ∃ g, av = .pointer (some ⟨g, 0, none⟩) ∧ pts g (.cells #[.int .i64 a, .int .i64 w, .int .i64 b] 86) h
def diskIn (d : Nat) (S : DS) (bs be : Nat) (qv av : Value) (R : HProp) : HProp :=
  pts d (.cells (coreCells S.n bs be qv S.off av) 58) * (pts bs (.cells (u8s S.st).toArray 5) * (pts be (.cells (u8s S.el).toArray 5) *
    (rowP 64 3 qv S.q.length (qCells S.q) * (armP av S.arm * R))))
def emp : HProp := fun h => h = fun _ => none
theorem emp_sep (R : HProp) : emp * R = R := by
  have := fact_sep True R
  rw [show fact True = emp from by funext h; simp [fact, emp]] at this
  rw [this]; funext h; simp
theorem sep_emp (R : HProp) : R * emp = R := by rw [sep_comm, emp_sep]
/-- A disk whose state is S, behind a pointer to block d. -/
def diskP (d : Nat) (S : DS) : HProp := fun h => S.ok ∧ ∃ bs be qv av, diskIn d S bs be qv av emp h
theorem diskIn_sep (d : Nat) (S : DS) (bs be : Nat) (qv av : Value) (R : HProp) : diskIn d S bs be qv av emp * R = diskIn d S bs be qv av R := by
  unfold diskIn; simp only [sep_assoc]; rw [emp_sep]
theorem Sat.disk {w : World} {d : Nat} {S : DS} {R : HProp} (h : Sat w (diskP d S * R)) : S.ok ∧ ∃ bs be qv av, Sat w (diskIn d S bs be qv av R) := by
  obtain ⟨f, hf, a, b, hd, rfl, ⟨hok, bs, be, qv, av, hp⟩, hr⟩ := h
  refine ⟨hok, bs, be, qv, av, ?_⟩
  rw [← diskIn_sep]
  exact ⟨_, hf, a, b, hd, rfl, hp, hr⟩
theorem Sat.mkDisk {w : World} {d : Nat} {S : DS} {R : HProp} {bs be : Nat} {qv av : Value} (hok : S.ok) (h : Sat w (diskIn d S bs be qv av R)) : Sat w (diskP d S * R) := by
  rw [← diskIn_sep] at h
  obtain ⟨f, hf, a, b, hd, rfl, hp, hr⟩ := h
  exact ⟨_, hf, a, b, hd, rfl, ⟨hok, bs, be, qv, av, hp⟩, hr⟩

/-- Everything that was there is as it was. -/
structure Kept (w w' : World) : Prop where
  ext : Ext w w'
  keep : ∀ (k : Nat) (o : Obj), w.heap[k]? = some o → w'.heap[k]? = some o
theorem Kept.refl (w : World) : Kept w w := ⟨Ext.refl w, fun _ _ h => h⟩
theorem Kept.trans {a b c : World} (h : Kept a b) (k : Kept b c) : Kept a c := ⟨h.ext.trans k.ext, fun i o ho => k.keep i o (h.keep i o ho)⟩
theorem Kept.alloc {a w : World} (h : Kept a w) (o : Obj) : Kept a (w.alloc o) :=
  h.trans ⟨(Ext.refl _).alloc o, fun k u hk => by rw [Below.heap_alloc _ _ _ (Array.getElem?_eq_some_iff.1 hk).1]; exact hk⟩
theorem Kept.drew {a w : World} (h : Kept a w) : Kept a w.drew := ⟨h.ext.drew, h.keep⟩
theorem Kept.drewN {a w : World} (n : Nat) (h : Kept a w) : Kept a (w.drewN n) := ⟨h.ext.drewN n, h.keep⟩
/-- A store into a block that the call has made. -/
theorem Kept.setCell {a w : World} (h : Kept a w) {p : Addr} (hp : a.heap.size ≤ p.block) (v : Value) : Kept a (w.setCell p v) :=
  ⟨h.ext.setCell p v, fun k o hk => by
    rw [Below.heap_setCell _ _ _ _ (by have := (Array.getElem?_eq_some_iff.1 hk).1; omega)]; exact h.keep k o hk⟩
theorem Sat.kept {w w' : World} {P : HProp} (h : Sat w P) (k : Kept w w') : Sat w' P := h.step k.keep
theorem Kept.cell {w w' : World} (k : Kept w w') {p : Addr} {v : Value} (h : w.cell? p = some v) : w'.cell? p = some v := by
  have hlt := World.block_lt_of_cell? w p h
  have := k.keep p.block _ (Array.getElem?_eq_getElem hlt)
  rw [World.cell?_of_block (w := w) (by rw [this, Array.getElem?_eq_getElem hlt])]; exact h

/-- The struct's own cells. -/
theorem Sat.core {w : World} {d n bs be : Nat} {qv av : Value} {off : Bool} {R : HProp} (h : Sat w (pts d (.cells (coreCells n bs be qv off av) 58) * R)) :
    w.cell? ⟨d, 0, none⟩ = some (.slice (some ⟨bs, 0, none⟩) (64 * n) (64 * n)) ∧ w.cell? ⟨d, 1, none⟩ = some (.slice (some ⟨be, 0, none⟩) (64 * n) (64 * n)) ∧
    w.cell? ⟨d, 2, none⟩ = some qv ∧ w.cell? ⟨d, 3, none⟩ = some (.bool off) ∧ w.cell? ⟨d, 4, none⟩ = some av ∧ d < w.heap.size :=
  ⟨by rw [h.cell]; rfl, by rw [h.cell]; rfl, by rw [h.cell]; rfl, by rw [h.cell]; rfl, by rw [h.cell]; rfl, h.lt⟩
theorem core_set2 (n bs be : Nat) (qv av v : Value) (off : Bool) : (coreCells n bs be qv off av).setIfInBounds 2 v = coreCells n bs be v off av := rfl
theorem core_set3 (n bs be : Nat) (qv av : Value) (off x : Bool) : (coreCells n bs be qv off av).setIfInBounds 3 (.bool x) = coreCells n bs be qv x av := rfl
theorem core_set4 (n bs be : Nat) (qv av v : Value) (off : Bool) : (coreCells n bs be qv off av).setIfInBounds 4 v = coreCells n bs be qv off v := rfl
/-- The alarm goes. -/
theorem Sat.noArm {w : World} {A B C Q X R : HProp} (h : Sat w (A * (B * (C * (Q * (X * R)))))) : Sat w (A * (B * (C * (Q * (armP (.pointer none) none * R))))) := by
  have h1 : Sat w (X * (A * (B * (C * (Q * R))))) := h.cast (by ac_rfl)
  have h2 : Sat w (armP (.pointer none) none * (A * (B * (C * (Q * R))))) := Sat.of_fact rfl h1.right
  exact h2.cast (by ac_rfl)
/-- A new alarm. -/
theorem Sat.newArm {w : World} {g : Nat} {a b c : Int} {A B C Q X R : HProp} (h : Sat w (pts g (.cells #[.int .i64 a, .int .i64 b, .int .i64 c] 86) * (A * (B * (C * (Q * (X * R))))))) :
    Sat w (A * (B * (C * (Q * (armP (.pointer (some ⟨g, 0, none⟩)) (some (a, b, c)) * R))))) := by
  have h1 : Sat w (X * (pts g (.cells #[.int .i64 a, .int .i64 b, .int .i64 c] 86) * (A * (B * (C * (Q * R)))))) := h.cast (by ac_rfl)
  have h2 : Sat w (armP (.pointer (some ⟨g, 0, none⟩)) (some (a, b, c)) * (A * (B * (C * (Q * R))))) := by
    obtain ⟨f, hf, x, y, hd, rfl, hp, hr⟩ := h1.right
    exact ⟨_, hf, x, y, hd, rfl, ⟨g, rfl, hp⟩, hr⟩
  exact h2.cast (by ac_rfl)
/-- The alarm's cells. -/
theorem Sat.armOpen {w : World} {av : Value} {a b c : Int} {R : HProp} (h : Sat w (armP av (some (a, b, c)) * R)) :
    ∃ g, av = .pointer (some ⟨g, 0, none⟩) ∧ Sat w (pts g (.cells #[.int .i64 a, .int .i64 b, .int .i64 c] 86) * R) := by
  obtain ⟨f, hf, x, y, hd, rfl, ⟨g, rfl, hp⟩, hr⟩ := h
  exact ⟨g, rfl, _, hf, x, y, hd, rfl, hp, hr⟩
theorem Sat.armClose {w : World} {g : Nat} {a b c : Int} {R : HProp} (h : Sat w (pts g (.cells #[.int .i64 a, .int .i64 b, .int .i64 c] 86) * R)) :
    Sat w (armP (.pointer (some ⟨g, 0, none⟩)) (some (a, b, c)) * R) := by
  obtain ⟨f, hf, x, y, hd, rfl, hp, hr⟩ := h
  exact ⟨_, hf, x, y, hd, rfl, ⟨g, rfl, hp⟩, hr⟩
/-- The pending writes go. -/
theorem Sat.noQueue {w : World} {e : TypeId} {size : Nat} {A B C Q X R : HProp} (h : Sat w (A * (B * (C * (Q * (X * R)))))) : Sat w (A * (B * (C * (rowP e size (.slice none 0 0) 0 [] * (X * R))))) := by
  have h1 : Sat w (Q * (A * (B * (C * (X * R))))) := h.cast (by ac_rfl)
  have h2 : Sat w (rowP e size (.slice none 0 0) 0 [] * (A * (B * (C * (X * R))))) := Sat.nilRow h1.right
  exact h2.cast (by ac_rfl)
end Go.Proofs.YtmemhoiepnlhfaaGreatDoor
