/-
  What the library's functions read; what calls of them leave as it was; seal's parts and Split, walked.
-/
import Derived.Test.YtmemhoiepnlhfaaGreatDoorK3
import Derived.Test.YtmemhoiepnlhfaaGreatDoorJ6
import Derived.Test.YtmemhoiepnlhfaaGreatDoorSh
import Derived.RangeFuncBox
import Derived.RangeFuncLeaves
import Derived.Shelf.Abstract
import Derived.OwnWalkIn
import Derived.TacticsInMore
import Derived.LoopNIn
import Derived.LoopIn
import Derived.Maps.AppendAt
import Derived.RangeFuncNested
import Derived.RangeFuncBound
import Derived.RangeFuncCalls
import Derived.Shelf.RegionOpen
import Derived.RegionIn
namespace Go.Proofs.YtmemhoiepnlhfaaGreatDoor
open Go.RowKit Go.Shelf
set_option maxRecDepth 100000

structure Env (w : World) : Prop where
  tab : Lib.TabIs Tryz.prog w "internal/strconv.uint64pow10" .u64 Lib.pow10Tab
  most : ∃ m, w.cell? ⟨2, 0, none⟩ = some (.int .i64 m)
theorem Kept.var {w w' : World} (k : Kept w w') {P : Program} {name : String} {v : Array Value} (h : w.var? P name = some v) : w'.var? P name = some v := by
  unfold World.var? at *
  cases hg : P.globalNamed name with
  | none => simp [hg] at h
  | some g =>
    simp only [hg, Option.bind_some] at h ⊢
    have hlt : g < w.heap.size := by
      rcases Nat.lt_or_ge g w.heap.size with h' | h'
      · exact h'
      · rw [Array.getElem?_eq_none h'] at h; simp at h
    have := k.keep g _ (Array.getElem?_eq_getElem hlt)
    rw [this]
    rw [Array.getElem?_eq_getElem hlt] at h
    exact h
theorem Env.kept {w w' : World} (h : Env w) (k : Kept w w') : Env w' := ⟨k.var h.tab, h.most.imp fun _ e => k.cell e⟩
theorem Kept.grow (w : World) (k : Nat) (os : Array Obj) : Kept w (Sort.grow (w.drewN k) os) :=
  ⟨⟨rfl, rfl, rfl, by show w.heap.size ≤ (w.heap ++ os).size; simp⟩, fun i o h => by
    show (w.heap ++ os)[i]? = some o
    rw [Array.getElem?_append_left (Array.getElem?_eq_some_iff.1 h).1]; exact h⟩
theorem Kept.bytes (w : World) (e : TypeId) (s : ByteArray) : Kept w (Lib.bytesWorld w e s) :=
  ⟨⟨rfl, rfl, rfl, by rw [Lib.bytesWorld_size]; omega⟩, fun i o h => by
    rw [Lib.bytesWorld_at_old _ _ _ _ (Array.getElem?_eq_some_iff.1 h).1]; exact h⟩
theorem Kept.of_below {w w' : World} (h : Below w.heap.size w w') : Kept w w' :=
  ⟨⟨h.os, h.tape, h.output, h.size⟩, fun i o ho => by rw [h.block i (Array.getElem?_eq_some_iff.1 ho).1]; exact ho⟩
theorem Kept.under {w w' : World} (h : Kept w w') : Below w.heap.size w w' := ⟨h.ext.os, h.ext.tape, h.ext.output, h.ext.size, fun k hkk => by
  rw [h.keep k _ (Array.getElem?_eq_getElem hkk), Array.getElem?_eq_getElem hkk]⟩
theorem itoa_any (n : Nat) (h : n ≤ 9223372036854775807) (w : World) (hE : Env w) :
    Calls Tryz.prog 83 #[.int .i64 (n : Int)] w fun e w' => e = .returned (.string (strOf (Lib.decDigits n))) ∧ Kept w w' :=
  (Tryz.strconv_Itoa (n : Int) (by omega) (by omega) w hE.tab).mono fun _ _ ⟨h, k, os, hw⟩ => ⟨by rw [h, itoa_dec]; rfl, hw ▸ Kept.grow w k os⟩

theorem extract_take (s : ByteArray) : (s.extract 0 40).data.toList = s.data.toList.take 40 := by rw [extract_list]; simp
theorem extract_drop (s : ByteArray) : (s.extract 40 s.size).data.toList = s.data.toList.drop 40 := by
  rw [extract_list, List.take_of_length_le (by rw [List.length_drop, size_len]; omega)]
theorem chunk_more {f : Nat} {s : ByteArray} (hf : s.size ≤ f) (h : 40 < s.size) : ∃ g, f = g + 1 ∧ (s.extract 40 s.size).size ≤ g ∧
    (chunkF f s.data.toList).map strOf = s.extract 0 40 :: (chunkF g (s.extract 40 s.size).data.toList).map strOf := by
  obtain ⟨g, rfl⟩ : ∃ g, f = g + 1 := ⟨f - 1, by omega⟩
  refine ⟨g, rfl, ?_, ?_⟩
  · rw [← size_len, extract_drop, List.length_drop, size_len]; omega
  · rw [chunkF, if_pos (by rw [size_len]; exact h), List.map_cons, extract_drop, ← extract_take s]
    rfl
theorem chunk_last {f : Nat} {s : ByteArray} (h : ¬ 40 < s.size) : (chunkF f s.data.toList).map strOf = [s] := by
  cases f with
  | zero => rfl
  | succ f => rw [chunkF, if_neg (by rw [size_len]; exact h)]; rfl

def strSz : Value → Nat
  | .string s => s.size
  | _ => 0
theorem text_sum (X t : ByteArray) (h : strOf (Lib.decDigits t.size) = X) : (X ++ ⟨#[58]⟩ ++ t).data.toList = textOf t.data.toList := by
  rw [← h]
  simp only [ByteArray.data_append, Array.toList_append]
  show Lib.decDigits t.size ++ [58] ++ t.data.toList = _
  rw [List.append_assoc]
  rfl

set_option maxHeartbeats 2000000 in
theorem parts1_any (l Bn : Nat) (t : ByteArray) (ht : t.size ≤ 1000000) (J Jx : List ByteArray → World → Prop) (n₀ : Nat)
    (hY : ∀ pre x W, J pre W → pre.length < (partsL t.data.toList).length → YieldAt Fence.wide 9 Tryz.prog l #[.string x] W fun e W' =>
      (e = .returned (.bool true) ∧ J (pre ++ [x]) W' ∧ Below n₀ W W') ∨ (e = .returned (.bool false) ∧ Jx (pre ++ [x]) W'))
    (hJ : ∀ W W' : World, Kept W W' → J [] W → J [] W')
    (W : World) (hE : Env W) (hB : W.cell? ⟨Bn, 0, none⟩ = some (.string t)) (h0 : J [] W) :
    CallsIn Fence.wide 10 Tryz.prog 82 #[.func (.yield l) #[] #[], .pointer (some ⟨Bn, 0, none⟩)] W fun e W' => (∃ v, e = .returned v) ∧
      ((∃ ys, ys = (partsL t.data.toList).map strOf ∧ J ys W') ∨ (∃ pre, pre <+: (partsL t.data.toList).map strOf ∧ Jx pre W')) := by
  have HI := Lib.hid (fun W hE => itoa_any t.size (by omega) W hE)
  have hXl : (strOf (Lib.decDigits t.size)).size ≤ 21 := dec_len t.size (by omega)
  obtain ⟨X, hX⟩ : ∃ X, strOf (Lib.decDigits t.size) = X := ⟨_, rfl⟩
  rw [hX] at HI hXl
  have HX := Lib.hid hX
  have hs1 := fun w' => run_string_add_sum (P := Tryz.prog) (w := w') X ⟨#[58]⟩ (by show X.size + 1 ≤ _; omega)
  have hs2 := fun w' => run_string_add_sum (P := Tryz.prog) (w := w') (X ++ ⟨#[58]⟩) t (by rw [ByteArray.size_append]; show X.size + 1 + t.size ≤ _; omega)
  clear hX
  have HE := Lib.hid hE
  have HY := Lib.hid hY
  have HJ := Lib.hid hJ
  have H0 := Lib.hid h0
  clear hY hJ h0 hE
  refine callsIn_of_wp Tryz.func82 rfl trivial ?_ rfl
  simp only [Tryz.ntmps82, List.size_toArray, List.length_cons, List.length_nil, Nat.reduceAdd, Nat.reduceSub, Array.replicate_succ, Array.replicate_zero, List.push_toArray, List.append_toArray, List.nil_append, List.cons_append]
  have hmx : Tryz.prog.follows .mixedOrders = true := by kernel_rfl
  gi_wp2
  gi_region_with_o (refine ⟨trivial, ?_⟩; gi_at_call 83; refine (callsIn_wide.2 (HI.out _ (by first | exact HE.out | exact HE.out.kept (Kept.refl W).drew | exact HE.out.kept (Kept.refl W).drew.drew))).mono ?_; rintro e w2 ⟨rfl, hk⟩; have hB2 := hk.cell hB; have HK2 : Hid (J [] w2) := Lib.hid (HJ.out W w2 (by first | exact hk | exact (Kept.refl W).drew.trans hk | exact (Kept.refl W).drew.drew.trans hk) H0.out))
  all_goals clear hk
  all_goals
    obtain ⟨s0, hs0⟩ : ∃ s0, X ++ (⟨#[58]⟩ : ByteArray) ++ t = s0 := ⟨_, rfl⟩
  all_goals
    have HS0 : Hid (s0.data.toList = textOf t.data.toList) := Lib.hid (by rw [← hs0]; exact text_sum X t HX.out)
    rw [hs0]
  all_goals clear hs1 hs2 hs0
  all_goals gi_wp2
  all_goals (try go_simp)
  all_goals
    gi_loopw [3] (fun v wr => ∃ (pre : List ByteArray) (s : ByteArray) (f : Nat), v = .string s ∧ s.size ≤ f ∧ Hid ((partsL t.data.toList).map strOf = pre ++ (chunkF f s.data.toList).map strOf) ∧ J pre wr) (fun v _ => strSz v)
    case atStart => exact ⟨[], s0, (textOf t.data.toList).length, rfl, by rw [← HS0.out, size_len]; exact Nat.le_refl _, Lib.hid (by rw [HS0.out]; rfl), HK2.out⟩
    case round =>
      obtain ⟨pre, s, f, rfl, hsf, HG, hJs⟩ := hrel
      by_cases h40 : 40 < s.size
      · obtain ⟨g, rfl, hg1, hg2⟩ := chunk_more hsf h40
        have h40i : (40 : Int) < (s.size : Int) := by omega
        have HG2 := Lib.hid (HG.out.trans (by rw [hg2]))
        have hlen : pre.length < (partsL t.data.toList).length := by
          have := congrArg List.length HG2.out
          simp only [List.length_map, List.length_append, List.length_cons] at this
          omega
        clear hg2 HG
        obtain ⟨fn, tmps, assign, body, hy, hR⟩ := HY.out pre (s.extract 0 40) wr hJs hlen
        gi_wp2
        refine hR.mono ?_
        rintro e W3 (⟨rfl, hJ3, _⟩ | ⟨rfl, hJx3⟩)
        · gi_wp2
          go_roundw
          case rel => exact ⟨pre ++ [s.extract 0 40], s.extract 40 s.size, g, rfl, hg1, Lib.hid (by rw [HG2.out]; simp), hJ3⟩
          case measure => show (s.extract 40 s.size).size < s.size; rw [ByteArray.size_extract]; omega
        · gi_wp2
          refine bodyPost_ret (results_none rfl _ _ _) rfl ?_
          exact ⟨⟨_, rfl⟩, .inr ⟨pre ++ [s.extract 0 40], ⟨_, by rw [HG2.out, List.append_assoc]; rfl⟩, hJx3⟩⟩
      · have h40i : ¬ (40 : Int) < (s.size : Int) := by omega
        have HG2 := Lib.hid (HG.out.trans (by rw [chunk_last h40]))
        have hlen : pre.length < (partsL t.data.toList).length := by
          have := congrArg List.length HG2.out
          simp only [List.length_map, List.length_append, List.length_cons] at this
          omega
        clear HG
        obtain ⟨fn, tmps, assign, body, hy, hR⟩ := HY.out pre s wr hJs hlen
        gi_wp2
        refine hR.mono ?_
        rintro e W3 (⟨rfl, hJ3, _⟩ | ⟨rfl, hJx3⟩)
        · gi_wp2
          go_end0
          exact ⟨⟨_, rfl⟩, .inl ⟨_, HG2.out.symm, hJ3⟩⟩
        · gi_wp2
          go_end0
          exact ⟨⟨_, rfl⟩, .inr ⟨pre ++ [s], ⟨[], by rw [HG2.out, List.append_nil]⟩, hJx3⟩⟩
end Go.Proofs.YtmemhoiepnlhfaaGreatDoor
