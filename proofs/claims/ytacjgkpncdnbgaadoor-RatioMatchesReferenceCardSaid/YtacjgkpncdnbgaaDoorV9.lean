/-
  ratio's Text, walked. Its condition: the library's tables are as the program's start leaves them.
-/
import Derived.Test.YtacjgkpncdnbgaaDoorV8
import Derived.Lib.ItoaMem
import Derived.Lib.ItoaLen
namespace Go.Proofs.YtacjgkpncdnbgaaDoor
open Go.RowKit

/-- What the library's functions read: the table of powers of ten, the errors, the length up to which a search is plain. -/
structure Env (w : World) : Prop where
  tab : Lib.TabIs Tryd.prog w "internal/strconv.uint64pow10" .u64 Lib.pow10Tab
  most : ∃ m, w.cell? ⟨0, 0, none⟩ = some (.int .i64 m)
  sx : ∃ te pe, w.cell? ⟨1, 0, none⟩ = some (.iface te pe)
  rg : ∃ te pe, w.cell? ⟨2, 0, none⟩ = some (.iface te pe)

theorem Kept.var {w w' : World} (k : Kept w w') {P : Program} {name : String} {v : Array Value} (h : w.var? P name = some v) : w'.var? P name = some v := by
  unfold World.var? at *
  cases hg : P.globalNamed name with
  | none => simp [hg] at h
  | some g =>
    simp only [hg, Option.bind_some] at h ⊢
    have hlt : g < w.heap.size := by
      rcases Nat.lt_or_ge g w.heap.size with h' | h'
      · exact h'
      · rw [Array.getElem?_eq_none h'] at h; simp at h
    have := k.keep g _ (Array.getElem?_eq_getElem hlt)
    rw [this]
    rw [Array.getElem?_eq_getElem hlt] at h
    exact h
theorem Env.kept {w w' : World} (h : Env w) (k : Kept w w') : Env w' :=
  ⟨k.var h.tab, h.most.imp fun _ e => k.cell e, h.sx.imp fun _ e => e.imp fun _ e => k.cell e, h.rg.imp fun _ e => e.imp fun _ e => k.cell e⟩
theorem Kept.grow (w : World) (k : Nat) (os : Array Obj) : Kept w (Sort.grow (w.drewN k) os) :=
  ⟨⟨rfl, rfl, rfl, by show w.heap.size ≤ (w.heap ++ os).size; simp⟩, fun i o h => by
    show (w.heap ++ os)[i]? = some o
    rw [Array.getElem?_append_left (Array.getElem?_eq_some_iff.1 h).1]; exact h⟩
theorem Kept.bytes (w : World) (e : TypeId) (s : ByteArray) : Kept w (Lib.bytesWorld w e s) :=
  ⟨⟨rfl, rfl, rfl, by rw [Lib.bytesWorld_size]; omega⟩, fun i o h => by
    rw [Lib.bytesWorld_at_old _ _ _ _ (Array.getElem?_eq_some_iff.1 h).1]; exact h⟩
theorem Kept.below {w w' : World} (h : Below w.heap.size w w') : Kept w w' :=
  ⟨⟨h.os, h.tape, h.output, h.size⟩, fun i o ho => by rw [h.block i (Array.getElem?_eq_some_iff.1 ho).1]; exact ho⟩

def textL (a : Q) : List UInt8 := if a.valid then (if 1 < a.d then Lib.itoa a.n ++ 47 :: Lib.itoa a.d else Lib.itoa a.n) else []
def strOf (l : List UInt8) : ByteArray := ⟨l.toArray⟩

theorem strOf_mid (x y : List UInt8) : strOf x ++ (⟨#[47]⟩ ++ strOf y) = strOf (x ++ 47 :: y) := by
  apply ByteArray.ext
  rw [← Array.toList_inj]
  simp [strOf]
theorem itoa_any (n : Int) (h0 : -9223372036854775808 ≤ n) (h1 : n ≤ 9223372036854775807) (w : World) (hE : Env w) :
    Calls Tryd.prog 38 #[.int .i64 n] w fun e w' => e = .returned (.string (strOf (Lib.itoa n))) ∧ Kept w w' :=
  (Tryd.strconv_Itoa n h0 h1 w hE.tab).mono fun _ _ ⟨h, k, os, hw⟩ => ⟨h, hw ▸ Kept.grow w k os⟩

set_option maxHeartbeats 800000 in
theorem text_any (a : Q) (ha : a.wf) (w : World) (hE : Env w) : Calls Tryd.prog 17 #[a.val] w fun e w' => e = .returned (.string (strOf (textL a))) ∧ Kept w w' := by
  have va := Lib.hid (fun w => valid_any a ha w)
  have O : Hid (Own w (w.alloc (.cells #[.int .i64 a.n, .int .i64 a.d] 24)) w.heap.size #[.int .i64 a.n, .int .i64 a.d]) := Lib.hid (Own.made (Kept.refl w) _)
  have EN := Lib.hid hE
  have IN := Lib.hid (fun w hE => itoa_any a.n ha.n1 ha.n2 w hE)
  have ID := Lib.hid (fun w hE => itoa_any a.d ha.d1 ha.d2 w hE)
  obtain ⟨x, hx⟩ : ∃ x, Lib.itoa a.n = x := ⟨_, rfl⟩
  obtain ⟨y, hy⟩ : ∃ y, Lib.itoa a.d = y := ⟨_, rfl⟩
  have E : Hid (textL a = if a.valid then (if 1 < a.d then x ++ 47 :: y else x) else []) := Lib.hid (by rw [← hx, ← hy]; rfl)
  have lx : (strOf x).size ≤ 21 := by rw [← hx]; show (Lib.itoa a.n).toArray.size ≤ 21; simpa using Lib.itoa_length_le a.n ha.n1 ha.n2
  have ly : (strOf y).size ≤ 21 := by rw [← hy]; show (Lib.itoa a.d).toArray.size ≤ 21; simpa using Lib.itoa_length_le a.d ha.d1 ha.d2
  rw [hx] at IN
  rw [hy] at ID
  clear hx hy hE
  generalize a.valid = AV at *
  obtain ⟨n, d⟩ := a
  obtain ⟨r, hr⟩ : ∃ r, textL ⟨n, d⟩ = r := ⟨_, rfl⟩
  rw [hr] at E ⊢
  clear hr ha
  unfold Q.val at *
  simp only at *
  go_enter Tryd.func17, Tryd.ntmps17
  go_wp2_with fail
  refine (va.out _).mono ?_
  rintro e w2 ⟨rfl, hk⟩
  obtain ⟨B, hB⟩ : ∃ B, w.heap.size = B := ⟨_, rfl⟩
  rw [hB] at O ⊢
  have O1 := Lib.hid (O.out.step hk)
  clear hk O va
  have a0 := O1.out.cell 0
  have a1 := O1.out.cell 1
  cases AV
  · go_wp2_with fail
    go_ret
    exact ⟨by rw [E.out]; rfl, O1.out.kept⟩
  · go_wp2_with fail
    refine (IN.out _ (EN.out.kept O1.out.kept)).mono ?_
    rintro e w3 ⟨rfl, hk⟩
    have O2 := Lib.hid (O1.out.step hk)
    clear hk O1 IN a0 a1
    have a0 := O2.out.cell 0
    have a1 := O2.out.cell 1
    by_cases h1 : 1 < d
    · go_wp2_with fail
      refine (ID.out _ (EN.out.kept O2.out.kept)).mono ?_
      rintro e w4 ⟨rfl, hk⟩
      have O3 := Lib.hid (O2.out.step hk)
      clear hk O2 ID a0 a1
      go_wp2_with fail
      go_ret
      refine ⟨?_, O3.out.kept⟩
      rw [E.out, if_pos trivial, if_pos h1, ← strOf_mid]; rfl
    · go_wp2_with fail
      go_ret
      refine ⟨?_, O2.out.kept⟩
      rw [E.out, if_pos trivial, if_neg (by omega)]; rfl
end Go.Proofs.YtacjgkpncdnbgaaDoor
