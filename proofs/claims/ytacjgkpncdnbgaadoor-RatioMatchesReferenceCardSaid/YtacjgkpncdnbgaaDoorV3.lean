/-
  ratio's reduced, walked. Its condition: numbers of their kind, a denominator above 0.
-/
import Derived.Test.YtacjgkpncdnbgaaDoorV2
import Derived.Laws.ResultCell
import Derived.Laws.Rows
namespace Go.Proofs.YtacjgkpncdnbgaaDoor
open Go.RowKit

/-- A block of the call's own, which holds a ratio. -/
structure Own (w wx : World) (B : Nat) (c : Array Value) : Prop where
  kept : Kept w wx
  new : w.heap.size ≤ B
  block : wx.heap[B]? = some (.cells c 24)
theorem Own.cell {w wx : World} {B : Nat} {c : Array Value} (h : Own w wx B c) (i : Nat) : wx.cell? ⟨B, i, none⟩ = c[i]? := by simp [World.cell?, h.block]
theorem Own.free {w wx : World} {B : Nat} {c : Array Value} (h : Own w wx B c) (i : Nat) : wx.frozen? ⟨B, i, none⟩ = false := by simp [World.frozen?, h.block]
theorem Own.lt {w wx : World} {B : Nat} {c : Array Value} (h : Own w wx B c) : B < wx.heap.size := (Array.getElem?_eq_some_iff.1 h.block).1
theorem Own.step {w wx wy : World} {B : Nat} {c : Array Value} (h : Own w wx B c) (k : Kept wx wy) : Own w wy B c := ⟨h.kept.trans k, h.new, k.keep _ _ h.block⟩
theorem Own.set {w wx : World} {B : Nat} {c : Array Value} (h : Own w wx B c) (i : Nat) (v : Value) : Own w (wx.setCell ⟨B, i, none⟩ v) B (c.setIfInBounds i v) :=
  ⟨h.kept.setCell h.new v, h.new, by simp only [World.setCell, Array.getElem?_modify]; rw [if_pos trivial, h.block]; rfl⟩
theorem Own.made {w w1 : World} (k : Kept w w1) (c : Array Value) : Own w (w1.alloc (.cells c 24)) w1.heap.size c :=
  ⟨k.alloc _, k.ext.size, heap_alloc_new _ _⟩

theorem results_own {fn : Func} {p u : Tmp} (h : fn.results = #[.cell p 24, .tmp u]) {tmps : Array Value} {w wx : World} {B : Nat} {x y : Value} (O : Own w wx B #[x, y])
    (hp : tmps.getD p undef = .pointer (some ⟨B, 0, none⟩)) : (results fn tmps).run Tryd.prog wx = .ok (.tuple #[.agg #[x, y], tmps.getD u undef]) wx := by
  have hl := run_loadVar_row (P := Tryd.prog) wx B 24 24 #[x, y] (0, 0) _ O.block rfl rfl (by kernel_rfl)
  rw [results_cell_tmp h, hp]
  simp [asAddr, Result.andThen, hl]
def resV (p : Q × Int) : Value := .tuple #[p.1.val, .int .i64 p.2]

set_option maxHeartbeats 1600000 in
theorem reduced_any (m : Bool) (n d : Nat) (hn : n < 18446744073709551616) (hd : d < 18446744073709551616) (h0 : 0 < d) (w : World) :
    Calls Tryd.prog 31 #[.bool m, .int .u64 (n : Int), .int .u64 (d : Int)] w fun e w' => e = .returned (resV (red m n d)) ∧ Kept w w' := by
  obtain ⟨G, hG⟩ : ∃ G, Nat.gcd n d = G := ⟨_, rfl⟩
  have hG0 : 0 < G := hG ▸ Nat.gcd_pos_of_pos_right _ h0
  obtain ⟨x, hx⟩ : ∃ x, n / G = x := ⟨_, rfl⟩
  obtain ⟨y, hy⟩ : ∃ y, d / G = y := ⟨_, rfl⟩
  have hx' : (n : Int) / (G : Int) = (x : Int) := by rw [← hx]; rfl
  have hy' : (d : Int) / (G : Int) = (y : Int) := by rw [← hy]; rfl
  have E : Hid (red m n d = if 1000000000 < x ∨ 1000000000 < y then (q0, 2) else (⟨if m then -(x : Int) else (x : Int), (y : Int)⟩, 0)) := Lib.hid (by
    unfold red; rw [hG, hx, hy])
  have hwx : IntKind.u64.wrap (x : Int) = (x : Int) := by have := Nat.div_le_self n G; rw [IntKind.wrap_u64]; omega
  have hwy : IntKind.u64.wrap (y : Int) = (y : Int) := by have := Nat.div_le_self d G; rw [IntKind.wrap_u64]; omega
  have hG1 : ((G : Int) == 0) = false := by simp; omega
  go_enter Tryd.func31, Tryd.ntmps31
  go_wp2_with fail
  refine (common_any n d hn hd _ _ (by go_simp) (by go_simp)).mono ?_
  rintro e w2 ⟨rfl, hk⟩
  rw [hG]
  obtain ⟨B, hB⟩ : ∃ B, w.heap.size = B := ⟨_, rfl⟩
  have O : Hid (Own w w2 B #[.int .i64 0, .int .i64 0]) := Lib.hid (hB ▸ ((Own.made (Kept.refl w) _).step ((Kept.refl _).alloc _)).step hk)
  clear hk hn hd h0 hG hx hy
  rw [hB]
  go_wp2_with fail
  go_quiet (fail)
  have O1 := Lib.hid (O.out.step ((Kept.refl _).drewN nq))
  clear O
  generalize w2.drewN nq = w3 at *
  have f0 := O1.out.free 0
  have f1 := O1.out.free 1
  have lt := O1.out.lt
  have c0 := O1.out.cell 0
  have c1 := O1.out.cell 1
  by_cases l1 : 1000000000 < x
  · rw [if_pos (Or.inl l1)] at E
    go_wp2_with fail
    refine bodyPost_ret (results_own rfl ((O1.out.set 0 _).set 1 _) rfl) rfl ?_
    exact ⟨by rw [E.out]; rfl, ((O1.out.set 0 _).set 1 _).kept⟩
  · by_cases l2 : 1000000000 < y
    · rw [if_pos (Or.inr l2)] at E
      go_wp2_with fail
      refine bodyPost_ret (results_own rfl ((O1.out.set 0 _).set 1 _) rfl) rfl ?_
      exact ⟨by rw [E.out]; rfl, ((O1.out.set 0 _).set 1 _).kept⟩
    · rw [if_neg (by omega)] at E
      have i1 : (x : Int) ≤ 1000000000 := by omega
      have i2 : (y : Int) ≤ 1000000000 := by omega
      cases m
      · go_wp2_with fail
        refine bodyPost_ret (results_own rfl ((O1.out.set 0 _).set 1 _) rfl) rfl ?_
        exact ⟨by rw [E.out]; rfl, ((O1.out.set 0 _).set 1 _).kept⟩
      · go_wp2_with fail
        refine bodyPost_ret (results_own rfl ((O1.out.set 0 _).set 1 _) rfl) rfl ?_
        exact ⟨by rw [E.out]; rfl, ((O1.out.set 0 _).set 1 _).kept⟩
end Go.Proofs.YtacjgkpncdnbgaaDoor
