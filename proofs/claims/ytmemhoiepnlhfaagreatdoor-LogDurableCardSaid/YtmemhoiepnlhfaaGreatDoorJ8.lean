/-
  seal's parts and Split, walked. Their condition: a text that a log can hold, the library's tables.
-/
import Derived.Test.YtmemhoiepnlhfaaGreatDoorJ7
namespace Go.Proofs.YtmemhoiepnlhfaaGreatDoor
open Go.RowKit Go.Shelf
set_option maxRecDepth 100000
attribute [local go_sem] Oper.semAt_some

theorem Tryz.infoString : (Tryz.prog.info? 9).map (fun i => (i.zero, i.size, i.bytes)) = some (some (.string ⟨#[]⟩), 1, 16) := by kernel_rfl
def strRow (v : Value) (l : List ByteArray) : HProp := rowP 9 1 v l.length (l.map Value.string)
theorem strs_one (l : List ByteArray) : ∀ u ∈ l.map Value.string, u.oneCell' = true := by
  intro u hu
  obtain ⟨s, _, rfl⟩ := List.mem_map.1 hu
  rfl
theorem Sat.of_owned {w w' : World} {R : HProp} {e : TypeId} {size n : Nat} {v : Value} {xs : List Value} (h : Sat w R) (hb : Below w.heap.size w w') (ho : w'.ownsRow w.heap.size e size v n xs) : Sat w' (rowP e size v n xs * R) := by
  obtain ⟨hl, ⟨rfl, rfl⟩ | ⟨g, cap, cur, rfl, hg, hb', h1, h2, h3, h4⟩⟩ := ho
  · have : xs = [] := List.eq_nil_of_length_eq_zero (by rw [hl]; simp)
    subst this
    exact (h.kept (Kept.of_below hb)).nilRow
  · obtain ⟨f, hf, hr⟩ := h
    refine Sat.mkRow hl h1 h2 h3 h4 ⟨Frag.join (fun k => if k = g then some (.cells cur e) else none) f, fun k u hk => ?_, _, f, fun k => ?_, rfl, rfl, hr⟩
    · by_cases hkg : k = g
      · subst hkg
        simp [Frag.join] at hk
        rw [← hk]; exact hb'
      · simp [Frag.join, hkg] at hk
        exact (Kept.of_below hb).keep k u (hf k u hk)
    · by_cases hkg : k = g
      · subst hkg
        right
        cases hfk : f k with
        | none => rfl
        | some u =>
          have := (Array.getElem?_eq_some_iff.1 (hf _ _ hfk)).1
          omega
      · left; simp [hkg]

theorem parts_make (t : ByteArray) (w : World) : CallsIn Fence.wide 10 Tryz.prog 63 #[.string t] w fun e w' => e = .returned (.func (.func 82) #[] #[.pointer (some ⟨w.heap.size, 0, none⟩)]) ∧ w' = w.alloc (.cells #[.string t] 9) := by
  refine callsIn_of_wp Tryz.func63 rfl trivial ?_ rfl
  simp only [Tryz.ntmps63, List.size_toArray, List.length_cons, List.length_nil, Nat.reduceAdd, Nat.reduceSub, Array.replicate_succ, Array.replicate_zero, List.push_toArray, List.append_toArray, List.nil_append, List.cons_append]
  gi_wp2
  go_ret
  exact ⟨rfl, rfl⟩

theorem parts_stops (t : ByteArray) (ht : t.size ≤ 1000000) (Bn n₀ : Nat) (w : World) (hBn : Bn < w.heap.size) (hE : Env w) (hc : w.cell? ⟨Bn, 0, none⟩ = some (.string t)) :
    SeqStopsK Fence.wide 10 Tryz.prog 82 #[.pointer (some ⟨Bn, 0, none⟩)] (fun x : ByteArray => #[Value.string x]) (Below n₀) (fun ys => ys = (partsL t.data.toList).map strOf) (fun pre => pre <+: (partsL t.data.toList).map strOf) (partsL t.data.toList).length w := fun l J Jx W hW hJ _ hY h0 => by
  refine parts1_any l Bn t ht J Jx n₀ hY (fun A B hk hA => ?_) W (hE.kept (Kept.of_below hW)) ((hW.cell (p := ⟨Bn, 0, none⟩) hBn).trans hc) h0
  refine hJ [] A B none hA ⟨hk.ext.os, hk.ext.tape, hk.ext.output, hk.ext.size, fun k hkk _ => ?_⟩ (fun r e => by cases e)
  rw [hk.keep k _ (Array.getElem?_eq_getElem hkk), Array.getElem?_eq_getElem hkk]

set_option maxHeartbeats 4000000 in
theorem split_any (t : ByteArray) (ht : t.size ≤ 1000000) (w : World) (hE : Env w) :
    Calls Tryz.prog 39 #[.string t] w fun e w' => ∃ v, e = .returned v ∧ w'.ownsRow w.heap.size 9 1 v (partsL t.data.toList).length (((partsL t.data.toList).map strOf).map Value.string) ∧ Below w.heap.size w w' := by
  obtain ⟨i0, hi, hz0, hz1, hz2⟩ := info_parts Tryz.infoString
  have hcount : (partsL t.data.toList).length ≤ 1000000 := by
    have h1 := chunkF_count (textOf t.data.toList).length (textOf t.data.toList)
    have h2 : (textOf t.data.toList).length ≤ 1000100 := by
      unfold textOf
      rw [List.length_append, List.length_cons, size_len]
      have := dec_len t.size (by omega)
      omega
    unfold partsL
    omega
  refine (callsIn_wide (n := 11)).1 ?_
  refine callsIn_of_wp_marks Tryz.func39 rfl trivial ?_ rfl
  simp only [Tryz.ntmps39, List.size_toArray, List.length_cons, List.length_nil, Nat.reduceAdd, Nat.reduceSub, Array.replicate_succ, Array.replicate_zero, List.push_toArray, List.append_toArray, List.nil_append, List.cons_append]
  gi_wp2_with (refine ⟨trivial, ?_⟩; gi_at_call 63; refine (parts_make t _).mono ?_; rintro e w' ⟨rfl, rfl⟩)
  have bO := Boxed.new w 22 (.slice none 0 0)
  have bN := Boxed.new (w.alloc (.cells #[.slice none 0 0] 22)) 9 (.string t)
  rw [World.size_alloc] at bN
  have hB0 : Below w.heap.size w ((w.alloc (.cells #[.slice none 0 0] 22)).alloc (.cells #[.string t] 9)) := ((Below.refl _ w).alloc (Nat.le_refl _) _).alloc (by simp) _
  refine wpIn_rangeFunc_ownG rfl (by decide) (gf := 82) (lb := #[.pointer (some ⟨w.heap.size + 1, 0, none⟩)]) rfl trivial (enters_of Tryz.func82 (by kernel_rfl) rfl)
    (parts_stops t ht (w.heap.size + 1) w.heap.size _ (by simp) (hE.kept (Kept.of_below hB0)) bN.cell) belowK_t (belowK_b (by simp; omega)) (Below.refl _ _) (fun _ => rfl)
    (fun pre W => (∃ v, Boxed W w.heap.size 22 v ∧ W.ownsRow w.heap.size 9 1 v pre.length (pre.map Value.string)) ∧ Below w.heap.size w W)
    (fun _ _ _ => False)
    (OwnFrom.and (Own.from (fun s A B row hs hg hr => by
      obtain ⟨v, h1, h2, _⟩ := holdsRow_own w.heap.size w.heap.size 22 9 1 (fun pre : List ByteArray => pre.length) (fun pre => pre.map Value.string) (fun _ _ => True) s A B row ⟨hs.choose, hs.choose_spec.1, hs.choose_spec.2, trivial⟩ hg hr
      exact ⟨v, h1, h2⟩) _) (ownFrom_below (Nat.le_refl _) (by simp; omega)))
    (fun _ _ _ _ _ hs _ _ => hs)
    ⟨⟨_, bO.alloc _, World.ownsRow_nil _ _ _ _⟩, hB0⟩
    (fun x => { tmps := #[.string t, undef, .slice none 0 0, .pointer (some ⟨w.heap.size, 0, none⟩), .string x, .string t, .func (.func 82) #[] #[.pointer (some ⟨w.heap.size + 1, 0, none⟩)], .string x, undef, undef, undef, undef, undef], defers := [] }) ?assign ?body ?done ?stop
  case assign =>
    intro l x W K hK
    gi_wp2
    exact hK
  case body =>
    rintro l pre x W ⟨⟨v, hv, hrow⟩, hB⟩ hlt
    have hc := hv.cell
    gi_wp2_with (gi_at_builtin; refine wpListIn_append_own _ rfl _ _ 22 rfl w.heap.size 9 i0 (.string ⟨#[]⟩) 1 16 Tryz.underlying22 hi hz0 hz1 hz2 rfl (by decide) _ _ _ rfl (hrow.alloc _) ⟨W.heap.size, 0, none⟩ 1 1 [.string x] rfl rfl (cell_one_new _ _ _) (by simp [Value.oneCell']) (by unfold maxLen; omega) (by omega) (by have := hB.size; simp; omega) ?_; intro v' w1 hown' hgrow _; obtain ⟨g', cap', rfl⟩ := ownsRow_succ hown'; obtain ⟨hv1, hv2, hr2, hk2, hb2⟩ := hv.appended (by decide) hrow hB.size (Nat.le_refl _) hown' hgrow; have hc1 := hv1.cell; have hf1 := hv1.frozen)
    exact ⟨hk2.from _, hb2, ⟨_, hv2, by simpa using hr2⟩, hB.trans hb2⟩
  case done =>
    rintro D ys W hD rfl ⟨⟨v, hv, hrow⟩, hB⟩ hK
    have hc := hv.cell
    gi_wp2
    refine ⟨by simp, .inl ⟨_, _, rfl, run_takeDeferred hK, ?_⟩⟩
    refine ⟨_, results_tmp rfl _ _ _, v, rfl, ?_, hB.trans (belowK_b (w := w) (Nat.le_refl _) W D _ _ (by simp at hD; omega) hK rfl rfl)⟩
    have := ownsRow_putObj hrow (Obj.deferred none) hK rfl
    simpa using this
  case stop =>
    rintro D c pre W _ _ h _
    exact h.elim
end Go.Proofs.YtmemhoiepnlhfaaGreatDoor
