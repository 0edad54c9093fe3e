/-
  The disk's method set, walked. Its condition: the receiver is a disk in memory, the sector is valid, the text fits.
-/
import Derived.Test.YtmemhoiepnlhfaaGreatDoorW1
import Derived.StillTailTactics
import Derived.Lib.BufferWrite
namespace Go.Proofs.YtmemhoiepnlhfaaGreatDoor
open Go.RowKit

theorem slice_sec (b n i : Nat) (hi : i < n) (w : World) :
    (Instr.slice 54 (.slice (some ⟨b, 0, none⟩) (64 * n) (64 * n)) (some (.int .i64 ((i : Int) * 64))) (some (.int .i64 (((i : Int) + 1) * 64))) none).run Tryz.prog w = .ok (.slice (some ⟨b, 64 * i, none⟩) 64 (64 * n - 64 * i)) w := by
  rw [run_slice_lh (P := Tryz.prog) (w := w) 54 (some ⟨b, 0, none⟩) (64 * n) (64 * n) (by kernel_rfl) .i64 .i64 _ _ (by omega) (by omega) (by omega)]
  have e1 : ((i : Int) * 64).toNat = 64 * i := by omega
  have e2 : (((i : Int) + 1) * 64).toNat = 64 * i + 64 := by omega
  have e3 : ¬ (64 * n = 64 * i) := by omega
  rw [e1, e2]
  have hs : (sizeOf (Tryz.prog.elem 54)).run Tryz.prog w = .ok 1 w := by kernel_rfl
  rw [hs]
  simp only [Result.andThen_ok, sliced, e3, if_false, Option.map_some, Nat.mul_one]
  have e4 : 64 * i + 64 - 64 * i = 64 := by omega
  rw [e4]
  unfold Addr.add
  split
  · rename_i h0; rw [h0]
  · simp

/-- 'copy(dst, s)', s a string that fits. -/
theorem wpList_copy_str {P : Program} {w : World} {ops : Array Oper} {rest : List Oper} {o : Oper} {a : Act} {Q : Exit → Act → World → Prop} (hgd : o.guard = none) (d s : Operand) (dT sT : TypeId)
    (ho : o.op = .call { callee := .builtin .copy, args := #[d, s], argTypes := #[dT, sT] }) (elem : TypeId) (hu : P.underlying dT = some (.slice elem)) (hsz : (P.info? elem).map (·.size) = some 1)
    (g off dLen dCap : Nat) (t : ByteArray) (hd : a.eval d = .slice (some ⟨g, off, none⟩) dLen dCap) (hs : a.eval s = .string t)
    (cur : Array Value) (e : TypeId) (hg : w.heap[g]? = some (.cells cur e (0, 0))) (hle : t.size ≤ dLen) (hfit : off + t.size ≤ cur.size)
    (h : wpList P ops Q rest (a.put o.dst (goInt t.size)) (w.setRow g (cur.toList.take off ++ Lib.byteCells t.data.toList ++ cur.toList.drop (off + t.size)).toArray)) : wpList P ops Q (o :: rest) a w := by
  refine wpList_plain hgd fun K hK => ?_
  have hrun := Lib.run_copy_row_string (P := P) w dT sT o.type elem g off dLen dCap t cur e hu hsz hg hle hfit
  unfold Oper.wp
  simp only [execOp, ho, resolve, invoke, builtin, Sem.run_bind, Sem.run_pure, Result.andThen_ok, List.map_toArray, List.map_cons, List.map_nil, hd, hs, hrun]
  exact hK _ _ h

theorem u8s_splice (L cs : List UInt8) (off : Nat) : (u8s L).take off ++ (u8s cs ++ (u8s L).drop (off + (u8s cs).length)) = u8s (splice L off cs) := by
  simp [u8s, splice, List.map_append, List.map_take, List.map_drop]
theorem u8s_splice' (L cs : List UInt8) (off n : Nat) (h : cs.length = n) : (u8s L).take off ++ Lib.byteCells cs ++ (u8s L).drop (off + n) = u8s (splice L off cs) := by
  subst h
  simp [u8s, splice, List.map_append, List.map_take, List.map_drop, Lib.byteCells]
theorem u8s_len (L : List UInt8) : (u8s L).length = L.length := by simp [u8s]
theorem u8s_get (L : List UInt8) (i : Nat) : (u8s L)[i]? = (L[i]?).map fun b => Value.int .u8 (b.toNat : Int) := by simp [u8s]
theorem u8s_one (L : List UInt8) : ∀ v ∈ u8s L, v.oneCell' = true := by
  intro v hv
  obtain ⟨b, _, rfl⟩ := List.mem_map.1 hv
  rfl
theorem sec_len {L : List UInt8} {n i : Nat} (h : L.length = 64 * n) (hi : i < n) : (sec L i).length = 64 := by
  simp only [sec, List.length_take, List.length_drop]; omega
theorem sec_get (L : List UInt8) (i j : Nat) (hj : j < 64) : (sec L i)[j]? = L[64 * i + j]? := by
  simp [sec, hj]

theorem DS.ok.set {S : DS} (h : S.ok) (i : Nat) (t : List UInt8) (hi : i < S.n) (ht : t.length ≤ 64) : (S.set i t).ok := by
  refine ⟨h.pos, h.most, ?_, ?_, h.q, h.arm⟩
  · show (splice S.st (64 * i) t).length = _
    rw [length_splice _ _ _ (by rw [h.st]; omega)]; exact h.st
  · show (splice S.el (64 * i) (sec S.st i)).length = _
    rw [length_splice _ _ _ (by rw [sec_len h.st hi, h.el]; omega)]; exact h.el

set_option maxRecDepth 100000 in
set_option maxHeartbeats 800000 in
theorem set_in (d : Nat) (S : DS) (i : Nat) (t : ByteArray) (bs be : Nat) (qv av : Value) (hi : i < S.n) (ht : t.size ≤ 64) (R : HProp) (w : World) (hok : S.ok) (hs : Sat w (diskIn d S bs be qv av R)) :
    Calls Tryz.prog 49 #[.pointer (some ⟨d, 0, none⟩), spotV i, .string t] w fun e w' => e = .returned (.tuple #[]) ∧ Ext w w' ∧ Sat w' (diskIn d (S.set i t.data.toList) bs be qv av R) := by
  have HS := Lib.hid hs
  obtain ⟨c0, c1, c2, c3, c4, hd⟩ := hs.core
  have hn := hok.most
  have HO := Lib.hid hok
  clear hs hok
  have hsl := fun b wx => slice_sec b S.n i hi wx
  unfold spotV
  go_enter Tryz.func49, Tryz.ntmps49
  go_wp2_with fail
  (refine wp_region_still_tail 18 (by kernel_rfl) (by kernel_rfl) ?_; simp only [List.take_succ_cons, List.take_zero, List.drop_succ_cons, List.drop_zero]; change wpStill _ _ (World.drew _) _ _ _; (repeat (refine wpStill_step (fun K hK => ?_); go_simp; refine hK _ ?_; clear hK K)); refine wpStill_nil ?_; change wpList _ _ _ _ _ (World.drew _))
  have h1 := HS.out.allocNew (.cells #[.int .i64 ((i : Int) * 64), .int .i64 (((i : Int) + 1) * 64)] 60)
  have h2 := (show Sat (w.alloc (.cells #[.int .i64 ((i : Int) * 64), .int .i64 (((i : Int) + 1) * 64)] 60)).drew _ from h1)
  have hx : Ext w (w.alloc (.cells #[.int .i64 ((i : Int) * 64), .int .i64 (((i : Int) + 1) * 64)] 60)).drew := (by repeat (first | with_reducible assumption | with_reducible exact Ext.refl _ | with_reducible refine Ext.alloc ?_ _ | with_reducible refine Ext.drew ?_ | with_reducible refine Ext.drewN _ ?_ | with_reducible refine Ext.setCell ?_ _ _))
  unfold diskIn at h2
  have hst := HO.out.st
  have hel := HO.out.el
  have h4 : Sat _ (pts be (.cells (u8s S.el).toArray 5) * (pts bs (.cells (u8s S.st).toArray 5) * (pts d (.cells (coreCells S.n bs be qv S.off av) 58) * (pts w.heap.size (.cells #[.int .i64 ((i : Int) * 64), .int .i64 (((i : Int) + 1) * 64)] 60) *
    (rowP 64 3 qv S.q.length (qCells S.q) * (armP av S.arm * R)))))) := h2.cast (by ac_rfl)
  clear h1 h2 c0 c1 c2 c3 c4
  generalize w.heap.size = B at *
  generalize (w.alloc _).drew = W1 at *
  refine wpList_copy_own rfl (.tmp 14) (.tmp 23) 54 54 rfl 5 (by kernel_rfl) (by kernel_rfl) be (64 * i) 64 _ ⟨bs, 64 * i, none⟩ 64 _ rfl rfl (u8s S.el).toArray 5 h4.block (u8s (sec S.st i)) ?_ ?_ ?_ (u8s_one _) ?_
  · rw [u8s_len, sec_len hst hi]; rfl
  · intro j v hj
    have hj' : j < 64 := by
      have := (List.getElem?_eq_some_iff.1 hj).1
      rw [u8s_len, sec_len hst hi] at this; exact this
    rw [u8s_get, sec_get _ _ _ hj', ← u8s_get] at hj
    rw [Addr.add_lit, h4.right.cell]
    simpa using hj
  · rw [u8s_len, sec_len hst hi]; simp [u8s_len, hel]; omega
  have h5 := h4.setRow (u8s (splice S.el (64 * i) (sec S.st i))).toArray
  have hx2 := hx.setRow be (u8s (splice S.el (64 * i) (sec S.st i))).toArray
  rw [u8s_splice]
  generalize W1.setRow be _ = W2 at *
  have h6 : Sat _ (pts d (.cells (coreCells S.n bs be qv S.off av) 58) * (pts B (.cells #[.int .i64 ((i : Int) * 64), .int .i64 (((i : Int) + 1) * 64)] 60) * (pts bs (.cells (u8s S.st).toArray 5) * (pts be (.cells (u8s (splice S.el (64 * i) (sec S.st i))).toArray 5) *
    (rowP 64 3 qv S.q.length (qCells S.q) * (armP av S.arm * R)))))) := h5.cast (by ac_rfl)
  clear h4 h5 hx W1
  have c0 : W2.cell? ⟨d, 0, none⟩ = some (.slice (some ⟨bs, 0, none⟩) (64 * S.n) (64 * S.n)) := by rw [h6.cell]; rfl
  have b0 : W2.cell? ⟨B, 0, none⟩ = some (.int .i64 ((i : Int) * 64)) := by rw [h6.right.cell]; rfl
  have b1 : W2.cell? ⟨B, 1, none⟩ = some (.int .i64 (((i : Int) + 1) * 64)) := by rw [h6.right.cell]; rfl
  have HS6 := Lib.hid h6
  clear h6
  go_wp2_with fail
  (refine wp_region_still_tail 10 (by kernel_rfl) (by kernel_rfl) ?_; simp only [List.take_succ_cons, List.take_zero, List.drop_succ_cons, List.drop_zero]; change wpStill _ _ (World.drew _) _ _ _; (repeat (refine wpStill_step (fun K hK => ?_); go_simp; refine hK _ ?_; clear hK K)); refine wpStill_nil ?_; change wpList _ _ _ _ _ (World.drew _))
  have hx3 : Ext w W2.drew := hx2.drew
  have h7 : Sat W2.drew (pts bs (.cells (u8s S.st).toArray 5) * (pts d (.cells (coreCells S.n bs be qv S.off av) 58) * (pts be (.cells (u8s (splice S.el (64 * i) (sec S.st i))).toArray 5) *
    (rowP 64 3 qv S.q.length (qCells S.q) * (armP av S.arm * (R * pts B (.cells #[.int .i64 ((i : Int) * 64), .int .i64 (((i : Int) + 1) * 64)] 60))))))) := (show Sat W2.drew _ from HS6.out).cast (by ac_rfl)
  generalize W2.drew = W3 at *
  refine wpList_copy_str rfl (.tmp 33) (.tmp 34) 54 9 rfl 5 (by kernel_rfl) (by kernel_rfl) bs (64 * i) 64 _ t rfl rfl (u8s S.st).toArray 5 h7.block ht ?_ ?_
  · simp [u8s_len, hst]; omega
  have h8 := h7.setRow (u8s (splice S.st (64 * i) t.data.toList)).toArray
  have hx4 := hx3.setRow bs (u8s (splice S.st (64 * i) t.data.toList)).toArray
  rw [u8s_splice' _ _ _ _ (Lib.size_eq t).symm]
  generalize W3.setRow bs _ = W4 at *
  have H8 := Lib.hid h8
  clear h7 h8
  go_wp2
  go_end0
  refine ⟨rfl, hx4, ?_⟩
  have h9 : Sat W4 (pts B (.cells #[.int .i64 ((i : Int) * 64), .int .i64 (((i : Int) + 1) * 64)] 60) * diskIn d (S.set i t.data.toList) bs be qv av R) := H8.out.cast (by unfold diskIn; simp only [DS.set]; ac_rfl)
  exact h9.right
end Go.Proofs.YtmemhoiepnlhfaaGreatDoor
