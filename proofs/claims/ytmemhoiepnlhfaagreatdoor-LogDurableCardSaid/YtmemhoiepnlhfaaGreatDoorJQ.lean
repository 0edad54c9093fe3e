/-
  log's Open, walked. Its condition: a disk.
-/
import Derived.Test.YtmemhoiepnlhfaaGreatDoorK6
import Derived.Deep.CutBlock
namespace Go.Proofs.YtmemhoiepnlhfaaGreatDoor
open Go.RowKit
set_option maxRecDepth 100000

theorem open_nil (w : World) : Calls Tryz.prog 14 #[.pointer none] w fun r w' => r = .returned (.tuple #[.pointer none, .slice none 0 0, .int .i64 1]) ∧ w' = w := by
  go_enter Tryz.func14, Tryz.ntmps14
  go_wp2_with fail
  go_ret3
  exact ⟨rfl, rfl⟩
def StIn (o : Option St) (b : Bool) (x y z : Int) : Prop := match o with | some s => b = true ∧ x = s.number ∧ y = s.generation ∧ z = s.length | none => b = false
theorem fin_first {w2 w3 : World} {X : HProp} {t : TypeId} {a b c : Value} (h : Sat w2 X) (hk : Kept (w2.drew.alloc (.cells #[a, b, c] t)) w3) (x y z : Value) :
    Ext w2 (((w3.setCell ⟨w2.heap.size, 0, none⟩ x).setCell ⟨w2.heap.size, 1, none⟩ y).setCell ⟨w2.heap.size, 2, none⟩ z) ∧ Sat (((w3.setCell ⟨w2.heap.size, 0, none⟩ x).setCell ⟨w2.heap.size, 1, none⟩ y).setCell ⟨w2.heap.size, 2, none⟩ z) (pts w2.heap.size (.cells #[x, y, z] t) * X) := by
  refine ⟨(((((Ext.refl w2).drew.alloc _).trans hk.ext).setCell _ _).setCell _ _).setCell _ _, ?_⟩
  have h1 : Sat w3 (pts w2.heap.size (.cells #[a, b, c] t) * X) := (h.drew.allocNew _).kept hk
  exact ((h1.setCell (i := 0) x).setCell (i := 1) y).setCell (i := 2) z
theorem fin_last {w2 w3 : World} {X : HProp} {t : TypeId} (h : Sat w2 X) (hk : Kept w2.drew w3) (x y z : Value) :
    Ext w2 (w3.alloc (.cells #[x, y, z] t)) ∧ Sat (w3.alloc (.cells #[x, y, z] t)) (pts w3.heap.size (.cells #[x, y, z] t) * X) :=
  ⟨((Ext.refl w2).drew.trans hk.ext).alloc _, (h.drew.kept hk).allocNew _⟩
theorem Sat.state {w : World} {l d n a : Nat} {s0 : St} {lv : Value} {br : Bool} {X : HProp} (h : Sat w (pts l (.cells (logCells s0 d n a lv br) 69) * X)) (s : St) :
    Sat (((w.setCell ⟨l, 0, none⟩ (.int .i64 (s.number : Int))).setCell ⟨l, 1, none⟩ (.int .i64 (s.generation : Int))).setCell ⟨l, 2, none⟩ (.int .i64 (s.length : Int))) (pts l (.cells (logCells s d n a lv br) 69) * X) := by
  have e : (((logCells s0 d n a lv br).setIfInBounds 0 (.int .i64 (s.number : Int))).setIfInBounds 1 (.int .i64 (s.generation : Int))).setIfInBounds 2 (.int .i64 (s.length : Int)) = logCells s d n a lv br := rfl
  have := ((h.setCell (i := 0) (.int .i64 (s.number : Int))).setCell (i := 1) (.int .i64 (s.generation : Int))).setCell (i := 2) (.int .i64 (s.length : Int))
  rw [e] at this
  exact this
theorem Sat.stateOne {w : World} {l d n a : Nat} {s : St} {lv : Value} {br : Bool} {X : HProp} (h : Sat w (pts l (.cells (logCells s d n a lv br) 69) * X)) :
    Sat (w.setCell ⟨l, 5, none⟩ (.int .i64 1)) (pts l (.cells (logCells s d n 1 lv br) 69) * X) := by
  have e : (logCells s d n a lv br).setIfInBounds 5 (.int .i64 1) = logCells s d n 1 lv br := rfl
  have := h.setCell (i := 5) (.int .i64 1)
  rw [e] at this
  exact this
theorem zero_of {s : ByteArray} (h : s.toList = List.replicate 64 0) : s = zeroB := by
  rw [ByteArray.toList_eq] at h
  exact data_inj h
theorem zero_not {s : ByteArray} (h : (!(s.toList == List.replicate 64 0)) = true) : s ≠ zeroB := by
  rintro rfl
  have e : zeroB.toList = List.replicate 64 0 := by rw [ByteArray.toList_eq]; rfl
  rw [e] at h
  simp at h
theorem zero_yes {s : ByteArray} (h : (!(s.toList == List.replicate 64 0)) = false) : s = zeroB := by
  refine zero_of ?_
  simpa using h
theorem St.eq_of {a b : St} (h1 : a.number = b.number) (h2 : a.generation = b.generation) (h3 : a.length = b.length) : a = b := by
  cases a; cases b
  simp only at h1 h2 h3
  subst h1 h2 h3
  rfl
def jS : Option (List UInt8) → ByteArray
  | some b => strOf b
  | none => ⟨#[]⟩
def jE : Option (List UInt8) → Int
  | some _ => 0
  | none => 4
theorem join_form {o : Option (List UInt8)} {r : Ending} (h : JoinPost o r) : r = .returned (.tuple #[.string (jS o), .int .i64 (jE o)]) := by
  cases o with
  | some b => exact h
  | none => exact h
def vbBlock : Option Addr → Nat
  | some a => a.block
  | none => 0
def sliceLen : Value → Nat
  | .slice _ n _ => n
  | _ => 0
def OpenPost (d : Nat) (w : World) (W : World) (R : HProp) (S : DS) : Int × Option LS → Ending → World → Prop
  | (e, none), r, w' => r = .returned (.tuple #[.pointer none, .slice none 0 0, .int .i64 e]) ∧ Ext w w' ∧ Sat w' (diskP d S * (old W * R))
  | (_, some L), r, w' => ∃ l v, r = .returned (.tuple #[.pointer (some ⟨l, 0, none⟩), v, .int .i64 0]) ∧ Ext w w' ∧ Sat w' (diskP d S * (logP l d L * (strRow v L.list * (old W * R))))
def secs (S : DS) (j : Nat) : List ByteArray := (List.range j).map S.secNow
theorem secs_snoc (S : DS) (j : Nat) : secs S (j + 1) = secs S j ++ [S.secNow j] := by simp [secs, List.range_succ]
theorem secs_get (S : DS) {i j : Nat} (h : i < j) : (secs S j)[i]? = some (S.secNow i) := by
  unfold secs
  rw [List.getElem?_map, List.getElem?_range h]
  rfl
theorem secs_len (S : DS) (j : Nat) : (secs S j).length = j := by simp [secs]

set_option maxHeartbeats 6400000 in
theorem open_log (W : World) (hE : Env W) (d : Nat) (S : DS) (hq : S.q.length ≤ 80000) (R : HProp) (w : World) (h : Sat w (diskP d S * (old W * R))) :
    Calls Tryz.prog 14 #[.pointer (some ⟨d, 0, none⟩)] w fun r w' => OpenPost d w W R S (openL S) r w' := by
  have hok := h.disk.1
  have hn4 := hok.most
  have hn1 := hok.pos
  obtain ⟨i0, hi0, hz0, hz1, hz2⟩ := info_parts Tryz.infoString
  have H := Lib.hid (And.intro (Ext.refl w) h)
  have HO : Hid (openL S = (if S.off then (19, none) else if S.n < 6 then (1, none) else
    match stateL S with
    | none => (20, none)
    | some (s, a) => match bodiesL S s.generation (startN S.n s.generation) s.length with
      | none => (20, none)
      | some bs => match recsL bs with
        | none => (20, none)
        | some rs => (0, some ⟨S.n, s, a, rs.map strOf, false⟩) : Int × Option LS)) := Lib.hid rfl
  obtain ⟨Z, hZ⟩ : ∃ Z, openL S = Z := ⟨_, rfl⟩
  rw [hZ] at HO ⊢
  have HRd := Lib.hid (fun j wx R' (h : Sat wx (diskP d S * R')) => read_any d S j (by omega) R' wx h)
  clear h hZ hok
  by_cases hoff : S.off = true
  · have hZ : Z = (19, none) := by rw [HO.out, if_pos hoff]
    subst hZ
    have hr19 : S.read 0 = (⟨#[]⟩, 19) := by unfold DS.read; rw [if_pos hoff]
    have HR0 := HRd.out 0 w (old W * R) H.out.2
    rw [hr19] at HR0
    have HR0' := Lib.hid HR0
    clear HR0 hr19 HRd HO
    go_enter Tryz.func14, Tryz.ntmps14
    go_wp2_with fail
    go_loopw [5] (fun v wr => v = .slice none 0 0 ∧ wr = w) (fun _ _ => 0)
    case atStart => exact ⟨rfl, rfl⟩
    case round =>
      as_aux_lemma =>
        obtain ⟨rfl, rfl⟩ := hrel
        go_wp2_with fail
        refine HR0'.out.mono ?_
        rintro r w1 ⟨rfl, hk⟩
        have HK := Lib.hid hk
        clear hk HR0'
        go_wp2_with fail
        go_ret3
        exact ⟨rfl, H.out.1.trans HK.out.ext, H.out.2.kept HK.out⟩
  · go_enter Tryz.func14, Tryz.ntmps14
    go_wp2_with fail
    go_loopw [5] (fun v wr => ∃ j : Nat, j ≤ S.n ∧ Hid (Ext w wr ∧ Sat wr (strRow v (secs S j) * (diskP d S * (old W * R))))) (fun v _ => S.n - (sliceLen v))
    case atStart => exact ⟨0, Nat.zero_le _, Lib.hid ⟨H.out.1, Sat.nilRow H.out.2⟩⟩
    case round =>
      as_aux_lemma =>
        obtain ⟨j, hj, HR⟩ := hrel
        obtain ⟨vb, vc, rfl, _⟩ := HR.out.2.strForm
        rw [secs_len] at HR ⊢
        have HRj := HRd.out (j : Int) wr _ (HR.out.2.comm3)
        by_cases hlt : j < S.n
        · have hrd : S.read (j : Int) = (S.secNow j, 0) := by
            unfold DS.read DS.valid
            rw [if_neg hoff, if_pos (by simp; omega)]
            rfl
          rw [hrd] at HRj
          have HRj' := Lib.hid HRj
          clear HRj hrd
          go_wp2_with fail
          refine HRj'.out.mono ?_
          rintro r w1 ⟨rfl, hk⟩
          have hs1 := HR.out.2.kept hk
          have h3 := hs1.alloc (.cells #[.string (S.secNow j)] 9)
          have H3 := Lib.hid (And.intro ((HR.out.1.trans hk.ext).alloc (.cells #[.string (S.secNow j)] 9)) h3)
          have HN2 := Lib.hid (World.news_of_block (heap_alloc_new w1 (.cells #[.string (S.secNow j)] 9)))
          clear hs1 h3 hk HRj'
          go_wp2_with (at_builtin; refine wpList_append_lies _ rfl (.tmp 36) (.tmp 38) 22 rfl 0 9 i0 (.string ⟨#[]⟩) 1 16 (by kernel_rfl) hi0 hz0 hz1 hz2 rfl (by decide) (.slice vb j vc) (secs S j).length _ rfl H3.out.2.owns ⟨w1.heap.size, 0, none⟩ 1 1 [.string (S.secNow j)] rfl rfl HN2.out (by simp [Value.oneCell']) (by decide) (by rw [secs_len]; unfold maxLen; omega) (by rw [secs_len]; omega) (Nat.zero_le _) _ rfl ?_)
          intro g cap w3 hown hgrow hat hlt3
          have hs4 := H3.out.2.appended hown hgrow (by rw [World.size_alloc]; exact hat)
          have H4 := Lib.hid (And.intro (H3.out.1.grown hgrow) hs4)
          clear hown hgrow hat hlt3 hs4
          go_wp2_with fail
          refine ⟨⟨j + 1, hlt, Lib.hid ⟨H4.out.1, ?_⟩⟩, ?_⟩
          · have := H4.out.2
            unfold strRow
            rw [secs_snoc, List.length_append, List.map_append]
            exact this
          · show S.n - ((secs S j).length + 1) < S.n - j
            rw [secs_len]
            omega
        · obtain rfl : j = S.n := by omega
          have hrd : S.read (S.n : Int) = (⟨#[]⟩, 1) := by
            unfold DS.read DS.valid
            rw [if_neg hoff, if_neg (by simp)]
          rw [hrd] at HRj
          have HRj' := Lib.hid HRj
          clear HRj hrd
          go_wp2_with fail
          refine HRj'.out.mono ?_
          rintro r w1 ⟨rfl, hk⟩
          have H1 := Lib.hid (And.intro (HR.out.1.trans hk.ext) (HR.out.2.kept hk))
          clear hk HRj' HR hi0 hz0 hz1 hz2 HRd
          by_cases h6 : S.n < 6
          · have hZ : Hid (Z = (1, none)) := Lib.hid (by rw [HO.out, if_neg hoff, if_pos h6])
            go_wp2_with fail
            go_ret3
            rw [hZ.out]
            exact ⟨rfl, H1.out.1, H1.out.2.right⟩
          · have h6' : ¬ (S.n : Int) < 6 := by omega
            have hs2 := H1.out.2.allocNew (.cells (logCells ⟨0, 0, 0⟩ d S.n 0 (.slice none 0 0) false) 69)
            have H2 := Lib.hid (And.intro (H1.out.1.alloc (.cells (logCells ⟨0, 0, 0⟩ d S.n 0 (.slice none 0 0) false) 69)) hs2)
            obtain ⟨g, rfl⟩ : ∃ g, vb = some ⟨g, 0, none⟩ := by
              obtain ⟨vb', vc', he, hf⟩ := H1.out.2.strForm
              simp only [Value.slice.injEq] at he
              obtain ⟨rfl, _, rfl⟩ := he
              exact hf 0 (S.secNow 0) (secs_get S (by omega))
            have HO2 : Hid (Z = (match stateL S with
              | none => (20, none)
              | some (s, a) => match bodiesL S s.generation (startN S.n s.generation) s.length with
                | none => (20, none)
                | some bs => match recsL bs with
                  | none => (20, none)
                  | some rs => (0, some ⟨S.n, s, a, rs.map strOf, false⟩) : Int × Option LS)) := Lib.hid (by rw [HO.out, if_neg hoff, if_neg h6])
            clear hs2 HO
            go_upto_region 12 with fail
            clear h6'
            generalize w1.heap.size = l at *
            have h2' : Hid (Ext w (w1.alloc (.cells #[.int .i64 0, .int .i64 0, .int .i64 0, .pointer (some ⟨d, 0, none⟩), .int .i64 (S.n : Int), .int .i64 0, .slice none 0 0, .bool false] 69)) ∧ Sat (w1.alloc (.cells #[.int .i64 0, .int .i64 0, .int .i64 0, .pointer (some ⟨d, 0, none⟩), .int .i64 (S.n : Int), .int .i64 0, .slice none 0 0, .bool false] 69)) (pts l (.cells (logCells ⟨0, 0, 0⟩ d S.n 0 (.slice none 0 0) false) 69) * (strRow (.slice (some ⟨g, 0, none⟩) S.n vc) (secs S S.n) * (diskP d S * (old W * R))))) := H2
            clear H2 H1
            generalize w1.alloc (.cells #[.int .i64 0, .int .i64 0, .int .i64 0, .pointer (some ⟨d, 0, none⟩), .int .i64 (S.n : Int), .int .i64 0, .slice none 0 0, .bool false] 69) = w2 at *
            obtain ⟨X, hX⟩ : ∃ X, pts l (.cells (logCells ⟨0, 0, 0⟩ d S.n 0 (.slice none 0 0) false) 69) * (strRow (.slice (some ⟨g, 0, none⟩) S.n vc) (secs S S.n) * (diskP d S * (old W * R))) = X := ⟨_, rfl⟩
            rw [hX] at h2'
            have HXq : Hid (∀ wx, Sat wx X → wx.cell? ⟨g, 0, none⟩ = some (.string (S.secNow 0)) ∧ wx.cell? ⟨g, 1, none⟩ = some (.string (S.secNow 1)) ∧ wx.cell? ⟨l, 4, none⟩ = some (.int .i64 (S.n : Int)) ∧ l < wx.heap.size ∧ g < wx.heap.size) := Lib.hid (by
              intro wx h
              rw [← hX] at h
              have h1 := h.right
              have e1 := h1.strCell 0 (S.secNow 0) (secs_get S (by omega))
              have e2 := h1.strCell 1 (S.secNow 1) (secs_get S (by omega))
              exact ⟨e1, e2, h.log.2.2.2.2.1, h.lt, World.block_lt_of_cell? wx _ e1⟩)
            have HX := Lib.hid hX
            have HH := Lib.hid (fun wx h => half_any l S.n (by omega) wx h)
            have HP0 := Lib.hid (fun wx => parse_any 0 (by omega) (S.secNow 0) (halfN S.n) wx)
            have HP1 := Lib.hid (fun wx => parse_any 1 (by omega) (S.secNow 1) (halfN S.n) wx)
            have hst : Hid (stateL S = pickL (decide (S.secNow 0 = zeroB) || decide (S.secNow 1 = zeroB)) (parseL 0 (S.secNow 0).data.toList (halfN S.n)) (parseL 1 (S.secNow 1).data.toList (halfN S.n))) := Lib.hid rfl
            generalize parseL 0 (S.secNow 0).data.toList (halfN S.n) = o0 at *
            generalize parseL 1 (S.secNow 1).data.toList (halfN S.n) = o1 at *
            rw [show ((0 : Nat) : Int) = 0 from rfl] at HP0
            rw [show ((1 : Nat) : Int) = 1 from rfl] at HP1
            clear hX
            go_cut [9, 10] (fun p b wx => ∃ (T : Nat) (x y z : Int) (bb : Bool), p = .pointer (some ⟨T, 0, none⟩) ∧ b = .bool bb ∧ Hid (StIn o0 bb x y z ∧ Ext w wx ∧ Sat wx (pts T (.cells #[.int .i64 x, .int .i64 y, .int .i64 z] 67) * X)))
            case first =>
              as_aux_lemma =>
                obtain ⟨q0, q1, q2, t0, t1⟩ := HXq.out w2 h2'.out.2
                have g0 : Hid (w2.drew.cell? ⟨g, 0, none⟩ = some (.string (S.secNow 0)) ∧ w2.drew.cell? ⟨l, 4, none⟩ = some (.int .i64 (S.n : Int))) := Lib.hid ⟨q0, q2⟩
                have hA := h2'.out.2.drew.alloc (.cells #[.int .i64 0, .int .i64 0, .int .i64 0] 67)
                have g1 : Hid ((w2.drew.alloc (.cells #[.int .i64 0, .int .i64 0, .int .i64 0] 67)).cell? ⟨g, 0, none⟩ = some (.string (S.secNow 0)) ∧ (w2.drew.alloc (.cells #[.int .i64 0, .int .i64 0, .int .i64 0] 67)).cell? ⟨l, 4, none⟩ = some (.int .i64 (S.n : Int))) := Lib.hid (by
                  have := HXq.out _ hA
                  exact ⟨this.1, this.2.2.1⟩)
                clear hA
                go_region_held_law (fun wx => wx.cell? ⟨g, 0, none⟩ = some (.string (S.secNow 0)) ∧ wx.cell? ⟨l, 4, none⟩ = some (.int .i64 (S.n : Int)))
                  (first | exact g0.out | exact g1.out | exact g2.out | exact g3.out | exact g4.out)
                 (first
                  | (go_simp; go_at_call 33; refine (HH.out _ g0.out.2).mono ?_; rintro r w3 ⟨rfl, rfl⟩; go_simp)
                  | (go_simp; go_at_call 33; refine (HH.out _ g1.out.2).mono ?_; rintro r w3 ⟨rfl, rfl⟩; go_simp)
                  | (go_simp; go_at_call 32; refine (HP0.out w2.drew).mono ?_; rintro r w3 ⟨⟨x, y, z, bb, rfl, hst0⟩, hk⟩;
                     have hF := fin_last h2'.out.2 hk (.int .i64 x) (.int .i64 y) (.int .i64 z) (t := 67);
                     have g2 := Lib.hid (And.intro (HXq.out _ (h2'.out.2.drew.kept hk)).1 (HXq.out _ (h2'.out.2.drew.kept hk)).2.2.1);
                     have g3 := Lib.hid (And.intro (HXq.out _ ((h2'.out.2.drew.kept hk).alloc (.cells #[.int .i64 0, .int .i64 0, .int .i64 0] 67))).1 (HXq.out _ ((h2'.out.2.drew.kept hk).alloc (.cells #[.int .i64 0, .int .i64 0, .int .i64 0] 67))).2.2.1);
                     have g4 := Lib.hid (And.intro (HXq.out _ hF.2.right).1 (HXq.out _ hF.2.right).2.2.1);
                     have HF := Lib.hid (And.intro (h2'.out.1.trans hF.1) hF.2); have HST := Lib.hid hst0; clear hF hst0 hk; go_simp)
                  | (go_simp; go_at_call 32; refine (HP0.out (w2.drew.alloc (.cells #[.int .i64 0, .int .i64 0, .int .i64 0] 67))).mono ?_; rintro r w3 ⟨⟨x, y, z, bb, rfl, hst0⟩, hk⟩;
                     have hF := fin_first h2'.out.2 hk (.int .i64 x) (.int .i64 y) (.int .i64 z);
                     have g2 := Lib.hid (And.intro (HXq.out _ ((h2'.out.2.drew.alloc (.cells #[.int .i64 0, .int .i64 0, .int .i64 0] 67)).kept hk)).1 (HXq.out _ ((h2'.out.2.drew.alloc (.cells #[.int .i64 0, .int .i64 0, .int .i64 0] 67)).kept hk)).2.2.1);
                     have g4 := Lib.hid (And.intro (HXq.out _ hF.2.right).1 (HXq.out _ hF.2.right).2.2.1);
                     have HF := Lib.hid (And.intro (h2'.out.1.trans hF.1) hF.2); have HST := Lib.hid hst0;
                     have bk := hk.newD; obtain ⟨x0, x1, x2, y0, y1, y2, xlt⟩ := bk_three bk; clear hF hst0 hk bk; go_simp))
                all_goals
                  go_wp2_with fail
                  go_meet
                  exact ⟨_, _, _, _, _, rfl, rfl, Lib.hid ⟨HST.out, HF.out⟩⟩
            case rest =>
              as_aux_lemma =>
                obtain ⟨w3', hw3'⟩ : ∃ v, v = wc := ⟨_, rfl⟩
                subst hw3'
                obtain ⟨T, x, y, z, bb, rfl, rfl, hst0⟩ := hcut
                have HS0 := Lib.hid hst0.out.1
                obtain ⟨Y, hY⟩ : ∃ Y, pts T (.cells #[.int .i64 x, .int .i64 y, .int .i64 z] 67) * X = Y := ⟨_, rfl⟩
                have h3' : Hid (Ext w w3' ∧ Sat w3' Y) := Lib.hid ⟨hst0.out.2.1, hY ▸ hst0.out.2.2⟩
                have HYq : Hid (∀ wx, Sat wx Y → wx.cell? ⟨g, 0, none⟩ = some (.string (S.secNow 0)) ∧ wx.cell? ⟨g, 1, none⟩ = some (.string (S.secNow 1)) ∧ wx.cell? ⟨l, 4, none⟩ = some (.int .i64 (S.n : Int)) ∧ l < wx.heap.size ∧ g < wx.heap.size) := Lib.hid (by
                  intro wx h
                  rw [← hY] at h
                  exact HXq.out wx h.right)
                have HY := Lib.hid hY
                clear hY hst0 h2' HXq HP0
                go_upto_region 13 with fail
                go_cut [11, 12] (fun p b wx => ∃ (T : Nat) (x y z : Int) (bb : Bool), p = .pointer (some ⟨T, 0, none⟩) ∧ b = .bool bb ∧ Hid (StIn o1 bb x y z ∧ Ext w wx ∧ Sat wx (pts T (.cells #[.int .i64 x, .int .i64 y, .int .i64 z] 67) * Y)))
                case first =>
                  as_aux_lemma =>
                    obtain ⟨q0, q1, q2, t0, t1⟩ := HYq.out w3' h3'.out.2
                    have g0 : Hid (w3'.drew.cell? ⟨g, 1, none⟩ = some (.string (S.secNow 1)) ∧ w3'.drew.cell? ⟨l, 4, none⟩ = some (.int .i64 (S.n : Int))) := Lib.hid ⟨q1, q2⟩
                    have hA := h3'.out.2.drew.alloc (.cells #[.int .i64 0, .int .i64 0, .int .i64 0] 67)
                    have g1 : Hid ((w3'.drew.alloc (.cells #[.int .i64 0, .int .i64 0, .int .i64 0] 67)).cell? ⟨g, 1, none⟩ = some (.string (S.secNow 1)) ∧ (w3'.drew.alloc (.cells #[.int .i64 0, .int .i64 0, .int .i64 0] 67)).cell? ⟨l, 4, none⟩ = some (.int .i64 (S.n : Int))) := Lib.hid (by
                      have := HYq.out _ hA
                      exact ⟨this.2.1, this.2.2.1⟩)
                    clear hA
                    go_region_held_law (fun wx => wx.cell? ⟨g, 1, none⟩ = some (.string (S.secNow 1)) ∧ wx.cell? ⟨l, 4, none⟩ = some (.int .i64 (S.n : Int)))
                      (first | exact g0.out | exact g1.out | exact g2.out | exact g3.out | exact g4.out)
                     (first
                      | (go_simp; go_at_call 33; refine (HH.out _ g0.out.2).mono ?_; rintro r w3 ⟨rfl, rfl⟩; go_simp)
                      | (go_simp; go_at_call 33; refine (HH.out _ g1.out.2).mono ?_; rintro r w3 ⟨rfl, rfl⟩; go_simp)
                      | (go_simp; go_at_call 32; refine (HP1.out w3'.drew).mono ?_; rintro r w3 ⟨⟨x, y, z, bb, rfl, hst0⟩, hk⟩;
                         have hF := fin_last h3'.out.2 hk (.int .i64 x) (.int .i64 y) (.int .i64 z) (t := 67);
                         have g2 := Lib.hid (And.intro (HYq.out _ (h3'.out.2.drew.kept hk)).2.1 (HYq.out _ (h3'.out.2.drew.kept hk)).2.2.1);
                         have g3 := Lib.hid (And.intro (HYq.out _ ((h3'.out.2.drew.kept hk).alloc (.cells #[.int .i64 0, .int .i64 0, .int .i64 0] 67))).2.1 (HYq.out _ ((h3'.out.2.drew.kept hk).alloc (.cells #[.int .i64 0, .int .i64 0, .int .i64 0] 67))).2.2.1);
                         have g4 := Lib.hid (And.intro (HYq.out _ hF.2.right).2.1 (HYq.out _ hF.2.right).2.2.1);
                         have HF := Lib.hid (And.intro (h3'.out.1.trans hF.1) hF.2); have HST := Lib.hid hst0; clear hF hst0 hk; go_simp)
                      | (go_simp; go_at_call 32; refine (HP1.out (w3'.drew.alloc (.cells #[.int .i64 0, .int .i64 0, .int .i64 0] 67))).mono ?_; rintro r w3 ⟨⟨x, y, z, bb, rfl, hst0⟩, hk⟩;
                         have hF := fin_first h3'.out.2 hk (.int .i64 x) (.int .i64 y) (.int .i64 z);
                         have g2 := Lib.hid (And.intro (HYq.out _ ((h3'.out.2.drew.alloc (.cells #[.int .i64 0, .int .i64 0, .int .i64 0] 67)).kept hk)).2.1 (HYq.out _ ((h3'.out.2.drew.alloc (.cells #[.int .i64 0, .int .i64 0, .int .i64 0] 67)).kept hk)).2.2.1);
                         have g4 := Lib.hid (And.intro (HYq.out _ hF.2.right).2.1 (HYq.out _ hF.2.right).2.2.1);
                         have HF := Lib.hid (And.intro (h3'.out.1.trans hF.1) hF.2); have HST := Lib.hid hst0;
                         have bk := hk.newD; obtain ⟨x0, x1, x2, y0, y1, y2, xlt⟩ := bk_three bk; clear hF hst0 hk bk; go_simp))
                    all_goals
                      go_wp2_with fail
                      go_meet
                      exact ⟨_, _, _, _, _, rfl, rfl, Lib.hid ⟨HST.out, HF.out⟩⟩
                case rest =>
                  as_aux_lemma =>
                    obtain ⟨w4, hw4⟩ : ∃ v, v = wc := ⟨_, rfl⟩
                    subst hw4
                    obtain ⟨T', x', y', z', bb', rfl, rfl, hst1⟩ := hcut
                    have HS1 := Lib.hid hst1.out.1
                    have h4 := Lib.hid (And.intro hst1.out.2.1 (hst1.out.2.2.cast (show _ = pts T' (.cells #[.int .i64 x', .int .i64 y', .int .i64 z'] 67) * (pts T (.cells #[.int .i64 x, .int .i64 y, .int .i64 z] 67) * (pts l (.cells (logCells ⟨0, 0, 0⟩ d S.n 0 (.slice none 0 0) false) 69) * (strRow (.slice (some ⟨g, 0, none⟩) S.n vc) (secs S S.n) * (diskP d S * (old W * R))))) by rw [← HY.out, ← HX.out])))
                    clear hst1 h3' HYq HX HY HP1
                    obtain ⟨a0, a1, a2, az0, az1, az2, alt⟩ := bk_three h4.out.2.block
                    obtain ⟨b0, b1, b2, bz0, bz1, bz2, blt⟩ := bk_three h4.out.2.right.block
                    have hl4 := h4.out.2.right.right
                    obtain ⟨c0, c1, c2, c3, c4, c5, c6, c7, clt⟩ := hl4.log
                    have s0 := hl4.right.strCell 0 (S.secNow 0) (secs_get S (by omega))
                    have s1 := hl4.right.strCell 1 (S.secNow 1) (secs_get S (by omega))
                    have sl := World.block_lt_of_cell? _ _ s0
                    have d0 := hl4.free 0
                    have d1 := hl4.free 1
                    have d2 := hl4.free 2
                    have d5 := hl4.free 5
                    clear hl4
                    go_upto_block 2 with fail
                    go_cut [] (fun wx => ∃ (s : St) (a : Nat), Hid (stateL S = some (s, a) ∧ Ext w wx ∧ Sat wx (pts l (.cells (logCells s d S.n a (.slice none 0 0) false) 69) * (strRow (.slice (some ⟨g, 0, none⟩) S.n vc) (secs S S.n) * (diskP d S * (old W * R))))))
                    case first =>
                      as_aux_lemma =>
                        cases o0 with
                        | some s0' =>
                          obtain ⟨rfl, rfl, rfl, rfl⟩ := HS0.out
                          cases o1 with
                          | some s1' =>
                            obtain ⟨rfl, rfl, rfl, rfl⟩ := HS1.out
                            by_cases hn : s0'.number = s1'.number
                            · have hn' : ((s0'.number : Int) == (s1'.number : Int)) = true := by rw [beq_iff_eq]; omega
                              by_cases hs : s0' = s1'
                              · subst hs
                                go_wp2_with fail
                                go_meet
                                exact ⟨s0', 0, Lib.hid ⟨by rw [hst.out]; unfold pickL; simp, (((h4.out.1.setCell _ _).setCell _ _).setCell _ _), h4.out.2.right.right.state s0'⟩⟩
                              · have hZ : Hid (Z = (20, none)) := Lib.hid (by rw [HO2.out, hst.out]; unfold pickL; simp [hn, hs])
                                have hne : ¬ (s0'.generation = s1'.generation ∧ s0'.length = s1'.length) := by
                                  rintro ⟨e1, e2⟩
                                  exact hs (St.eq_of hn e1 e2)
                                by_cases hgen : s0'.generation = s1'.generation
                                · have hgen' : ((s0'.generation : Int) == (s1'.generation : Int)) = true := by rw [beq_iff_eq]; omega
                                  have hlen' : ((s0'.length : Int) == (s1'.length : Int)) = false := by rw [beq_eq_false_iff_ne]; omega
                                  go_wp2_with fail
                                  go_ret3
                                  rw [hZ.out]
                                  exact ⟨rfl, h4.out.1, (h4.out.2.cast (show _ = pts T' (.cells #[.int .i64 (s1'.number : Int), .int .i64 (s1'.generation : Int), .int .i64 (s1'.length : Int)] 67) * (pts T (.cells #[.int .i64 (s0'.number : Int), .int .i64 (s0'.generation : Int), .int .i64 (s0'.length : Int)] 67) * (pts l (.cells (logCells ⟨0, 0, 0⟩ d S.n 0 (.slice none 0 0) false) 69) * (strRow (.slice (some ⟨g, 0, none⟩) S.n vc) (secs S S.n) * (diskP d S * (old W * R))))) from rfl)).right.right.right.right⟩
                                · have hgen' : ((s0'.generation : Int) == (s1'.generation : Int)) = false := by rw [beq_eq_false_iff_ne]; omega
                                  go_wp2_with fail
                                  go_ret3
                                  rw [hZ.out]
                                  exact ⟨rfl, h4.out.1, (h4.out.2.cast (show _ = pts T' (.cells #[.int .i64 (s1'.number : Int), .int .i64 (s1'.generation : Int), .int .i64 (s1'.length : Int)] 67) * (pts T (.cells #[.int .i64 (s0'.number : Int), .int .i64 (s0'.generation : Int), .int .i64 (s0'.length : Int)] 67) * (pts l (.cells (logCells ⟨0, 0, 0⟩ d S.n 0 (.slice none 0 0) false) 69) * (strRow (.slice (some ⟨g, 0, none⟩) S.n vc) (secs S S.n) * (diskP d S * (old W * R))))) from rfl)).right.right.right.right⟩
                            · have hn' : ((s0'.number : Int) == (s1'.number : Int)) = false := by rw [beq_eq_false_iff_ne]; omega
                              by_cases hg : s1'.number ≤ s0'.number
                              · have hg' : (s1'.number : Int) ≤ (s0'.number : Int) := by omega
                                go_wp2_with fail
                                go_meet
                                exact ⟨s0', 0, Lib.hid ⟨by rw [hst.out]; unfold pickL; simp [hn, hg], (((h4.out.1.setCell _ _).setCell _ _).setCell _ _), h4.out.2.right.right.state s0'⟩⟩
                              · have hg' : ¬ (s1'.number : Int) ≤ (s0'.number : Int) := by omega
                                go_wp2_with fail
                                go_meet
                                exact ⟨s1', 1, Lib.hid ⟨by rw [hst.out]; unfold pickL; simp [hn, hg], ((((h4.out.1.setCell _ _).setCell _ _).setCell _ _).setCell _ _), (h4.out.2.right.right.state s1').stateOne⟩⟩
                          | none =>
                            obtain rfl : bb' = false := HS1.out
                            go_wp2_with fail
                            go_meet
                            exact ⟨s0', 0, Lib.hid ⟨by rw [hst.out]; rfl, (((h4.out.1.setCell _ _).setCell _ _).setCell _ _), h4.out.2.right.right.state s0'⟩⟩
                        | none =>
                          obtain rfl : bb = false := HS0.out
                          cases o1 with
                          | some s1' =>
                            obtain ⟨rfl, rfl, rfl, rfl⟩ := HS1.out
                            go_wp2_with fail
                            go_meet
                            exact ⟨s1', 1, Lib.hid ⟨by rw [hst.out]; rfl, ((((h4.out.1.setCell _ _).setCell _ _).setCell _ _).setCell _ _), (h4.out.2.right.right.state s1').stateOne⟩⟩
                          | none =>
                            obtain rfl : bb' = false := HS1.out
                            have hst' := hst.out
                            go_wp2_with fail
                            · rename_i hz
                              have e := zero_of hz
                              go_meet
                              exact ⟨⟨0, 0, 0⟩, 0, Lib.hid ⟨by rw [hst']; unfold pickL; rw [e]; simp, h4.out.1, h4.out.2.right.right⟩⟩
                            · rename_i _ _ hz
                              have e1 := zero_not hz.1
                              have e2 := zero_not hz.2
                              have hZ : Hid (Z = (20, none)) := Lib.hid (by rw [HO2.out, hst']; unfold pickL; simp [e1, e2])
                              go_ret3
                              rw [hZ.out]
                              exact ⟨rfl, h4.out.1, h4.out.2.right.right.right.right⟩
                            · rename_i hz0 _ hz
                              have e : S.secNow 0 = zeroB ∨ S.secNow 1 = zeroB := hz.imp zero_yes zero_yes
                              go_meet
                              exact ⟨⟨0, 0, 0⟩, 0, Lib.hid ⟨by rw [hst']; unfold pickL; rcases e with e | e <;> rw [e] <;> simp, h4.out.1, h4.out.2.right.right⟩⟩
                    case rest =>
                      as_aux_lemma =>
                        clear a0 a1 a2 az0 az1 az2 alt b0 b1 b2 bz0 bz1 bz2 blt c0 c1 c2 c3 c4 c5 c6 c7 clt s0 s1 sl d0 d1 d2 d5 h4 HS0 HS1
                        obtain ⟨w5, hw5⟩ : ∃ v, v = wc := ⟨_, rfl⟩
                        subst hw5
                        obtain ⟨s, a, h5⟩ := hcut
                        obtain ⟨hsok, hslen, _⟩ := state_ok h5.out.1
                        have HO3 : Hid (Z = (match bodiesL S s.generation (startN S.n s.generation) s.length with
                          | none => (20, none)
                          | some bs => match recsL bs with
                            | none => (20, none)
                            | some rs => (0, some ⟨S.n, s, a, rs.map strOf, false⟩) : Int × Option LS)) := Lib.hid (by rw [HO2.out, h5.out.1])
                        have HSt := Lib.hid (fun wx h => lstart_any l S.n s.generation (by omega) (by have := hsok.2.1; omega) wx h)
                        have hm2 : s.generation % 2 = 0 ∨ s.generation % 2 = 1 := by omega
                        have hst2 : startN S.n s.generation + s.length ≤ S.n := by
                          unfold startN
                          have := half_le S.n
                          rcases hm2 with hm2 | hm2 <;> rw [hm2] <;> omega
                        have hst3 : startN S.n s.generation < S.n := by
                          unfold startN
                          have := half_le S.n
                          unfold halfN at *
                          rcases hm2 with hm2 | hm2 <;> rw [hm2] <;> omega
                        have hgen := hsok.2.1
                        obtain ⟨st, hst'⟩ : ∃ st, startN S.n s.generation = st := ⟨_, rfl⟩
                        rw [hst'] at HO3 HSt hst2 hst3
                        have hl5 := h5.out.2.2.log
                        have c1 := hl5.2.1
                        have c2 := hl5.2.2.1
                        have c4 := hl5.2.2.2.2.1
                        have clt := hl5.2.2.2.2.2.2.2.2
                        have HP5 : Hid (∀ wx X, Sat wx (pts l (.cells (logCells s d S.n a (.slice none 0 0) false) 69) * (strRow (.slice (some ⟨g, 0, none⟩) S.n vc) (secs S S.n) * X)) → wx.cell? ⟨l, 1, none⟩ = some (.int .i64 (s.generation : Int)) ∧ l < wx.heap.size ∧ ∀ i, i < S.n → wx.cell? ⟨g, i, none⟩ = some (.string (S.secNow i))) := Lib.hid (by
                          intro wx X h
                          refine ⟨h.log.2.1, h.lt, fun i hi => ?_⟩
                          have := h.right.strCell i (S.secNow i) (secs_get S hi)
                          rwa [Nat.zero_add] at this)
                        have hvc : S.n ≤ vc := by
                          obtain ⟨_, ⟨h0, _⟩ | ⟨g', cap', cur, hv, hle, _⟩⟩ := Sat.row (w := w5) (e := 9) (size := 1) (v := .slice (some ⟨g, 0, none⟩) S.n vc) (n := (secs S S.n).length) (xs := (secs S S.n).map Value.string) h5.out.2.2.right
                          · cases h0
                          · simp only [Value.slice.injEq] at hv
                            obtain ⟨_, _, rfl⟩ := hv
                            rw [secs_len] at hle
                            exact hle
                        have hwr : IntKind.i64.wrap ((st : Int) + (s.length : Int)) = (st : Int) + (s.length : Int) := by rw [IntKind.wrap_i64]; omega
                        clear hl5 hst' hm2 hst HO2
                        go_wp2_with fail
                        refine (HSt.out _ c4).mono ?_
                        rintro r w6 ⟨rfl, rfl⟩
                        have hvne : ¬ vc = st := by omega
                        obtain ⟨N, hN⟩ : ∃ N, s.length = N := ⟨_, rfl⟩
                        rw [hN] at hst2 hslen HO3 c2 hwr
                        go_wp2_with fail
                        obtain ⟨i0, hi0, hz0, hz1, hz2⟩ := info_parts Tryz.infoString
                        have HGt := Lib.hid (fun j (hj : j < N) wx => get_any s.generation (st + j) (S.secNow (st + j)) (by simp [placed]; omega) wx)
                        clear c1 c2 c4 clt hvne hwr HSt
                        rw [show st + N - st = N by omega]
                        go_loopw [14, 145] (fun v i wr => ∃ (j : Nat) (bs : List (List UInt8)), j ≤ N ∧ i = .int .i64 j ∧ Hid (bodiesL S s.generation st j = some bs ∧ Ext w wr ∧ Sat wr (strRow v (bs.map strOf) * (pts l (.cells (logCells s d S.n a (.slice none 0 0) false) 69) * (strRow (.slice (some ⟨g, 0, none⟩) S.n vc) (secs S S.n) * (diskP d S * (old W * R)))))) ) (fun _ i _ => N - (intOf i).toNat)
                        case atStart => exact ⟨0, [], Nat.zero_le _, rfl, Lib.hid ⟨rfl, h5.out.2.1, Sat.nilRow h5.out.2.2⟩⟩
                        case round =>
                          as_aux_lemma =>
                            obtain ⟨j, bs, hj, rfl, HR⟩ := hrel
                            have hbl := (bodies_len HR.out.1).1
                            obtain ⟨q1, t0, hq⟩ := HP5.out wr _ (HR.out.2.2.cast (show _ = pts l (.cells (logCells s d S.n a (.slice none 0 0) false) 69) * (strRow (.slice (some ⟨g, 0, none⟩) S.n vc) (secs S S.n) * (strRow u14 (bs.map strOf) * (diskP d S * (old W * R)))) by ac_rfl))
                            by_cases hlt : j < N
                            · have qj := hq (st + j) (by omega)
                              have hG := Lib.hid (HGt.out j hlt wr)
                              have e0 : ((st + j : Nat) : Int) = (st : Int) + (j : Int) := by omega
                              rw [e0] at hG
                              have hwr : IntKind.i64.wrap ((st : Int) + (j : Int)) = (st : Int) + (j : Int) := by rw [IntKind.wrap_i64]; omega
                              have hb1 : Hid (bodiesL S s.generation st (j + 1) = match openB s.generation (st + j) (S.secNow (st + j)).data.toList with | none => none | some b => some (bs ++ [b])) := Lib.hid (by rw [bodiesL, HR.out.1]; rfl)
                              obtain ⟨o, ho⟩ : ∃ o, openB s.generation (st + j) (S.secNow (st + j)).data.toList = o := ⟨_, rfl⟩
                              rw [ho] at hG hb1
                              generalize S.secNow (st + j) = tx at qj hG
                              clear hq e0 ho
                              go_wp2_with fail
                              refine hG.out.mono ?_
                              rintro r w7 ⟨hr, hk⟩
                              cases o with
                              | none =>
                                obtain ⟨er, her, rfl⟩ := hr
                                have her' : (er != 0) = true := by rw [bne_iff_ne]; exact her
                                have hZ : Hid (Z = (20, none)) := Lib.hid (by
                                  rw [HO3.out]
                                  have := bodies_none hb1.out (N - (j + 1))
                                  rw [show j + 1 + (N - (j + 1)) = N by omega] at this
                                  rw [this])
                                have H7 := Lib.hid (And.intro (HR.out.2.1.trans hk.ext) (HR.out.2.2.kept hk))
                                clear hk HR hG
                                go_wp2_with fail
                                go_ret3
                                rw [hZ.out]
                                exact ⟨rfl, H7.out.1, H7.out.2.right.right.right⟩
                              | some b =>
                                obtain rfl : r = _ := hr
                                have hs7 := (HR.out.2.2.kept hk).alloc (.cells #[.string (strOf b)] 9)
                                have H7 := Lib.hid (And.intro ((HR.out.2.1.trans hk.ext).alloc (.cells #[.string (strOf b)] 9)) hs7)
                                have HN7 := Lib.hid (World.news_of_block (heap_alloc_new w7 (.cells #[.string (strOf b)] 9)))
                                clear hs7 hk HR hG q1 t0 qj
                                go_wp2_with (at_builtin; refine wpList_append_lies _ rfl (.tmp 165) (.tmp 167) 22 rfl 0 9 i0 (.string ⟨#[]⟩) 1 16 (by kernel_rfl) hi0 hz0 hz1 hz2 rfl (by decide) u14 (bs.map strOf).length _ rfl H7.out.2.owns ⟨w7.heap.size, 0, none⟩ 1 1 [.string (strOf b)] rfl rfl HN7.out (by simp [Value.oneCell']) (by decide) (by rw [List.length_map]; unfold maxLen; omega) (by rw [List.length_map]; omega) (Nat.zero_le _) _ rfl ?_)
                                intro gg cap w8 hown hgrow hat hlt3
                                have hs8 := H7.out.2.appended hown hgrow (by rw [World.size_alloc]; exact hat)
                                have H8 := Lib.hid (And.intro (H7.out.1.grown hgrow) hs8)
                                clear hown hgrow hat hlt3 hs8
                                go_wp2_with fail
                                refine ⟨⟨j + 1, bs ++ [b], hlt, congrArg (Value.int .i64) (by omega), Lib.hid ⟨hb1.out, H8.out.1, ?_⟩⟩, ?_⟩
                                · have e : strRow (.slice (some ⟨gg, 0, none⟩) (j + 1) cap) ((bs ++ [b]).map strOf) = rowP 9 1 (.slice (some ⟨gg, 0, none⟩) (j + 1) cap) (j + 1) (List.map (Value.string ∘ strOf) bs ++ [Value.string (strOf b)]) := by
                                    unfold strRow
                                    simp [hbl]
                                  rw [e]
                                  exact H8.out.2
                                · show N - ((j : Int) + 1).toNat < N - (j : Int).toNat
                                  omega
                            · obtain rfl : j = N := by omega
                              have HO4 : Hid (Z = (match recsL bs with
                                | none => (20, none)
                                | some rs => (0, some ⟨S.n, s, a, rs.map strOf, false⟩) : Int × Option LS)) := Lib.hid (by rw [HO3.out, HR.out.1])
                              have hb40 := (bodies_len HR.out.1).2
                              have HR6 := Lib.hid (And.intro HR.out.2.1 HR.out.2.2)
                              clear HR HO3 hq q1 HGt h5 HP5
                              obtain ⟨vb, vc', rfl, hvb⟩ := HR6.out.2.strForm
                              have hml : (bs.map strOf).length = j := by rw [List.length_map]; exact hbl
                              rw [hml] at HR6 ⊢
                              have HB40 := Lib.hid hb40
                              have HVB := Lib.hid hvb
                              obtain ⟨XX, hXX⟩ : ∃ XX, strRow (.slice (some ⟨g, 0, none⟩) S.n vc) (secs S S.n) * (diskP d S * (old W * R)) = XX := ⟨_, rfl⟩
                              have HXX := Lib.hid hXX
                              have hcapb : ∀ g2, vb = some ⟨g2, 0, none⟩ → j ≤ vc' := by
                                intro g2 he
                                subst he
                                obtain ⟨_, ⟨h0, _⟩ | ⟨g', cap', cur, hv, hle, _⟩⟩ := Sat.row (w := wr) (e := 9) (size := 1) (v := .slice (some ⟨g2, 0, none⟩) j vc') (n := (bs.map strOf).length) (xs := (bs.map strOf).map Value.string) HR6.out.2
                                · cases h0
                                · simp only [Value.slice.injEq] at hv
                                  obtain ⟨_, _, rfl⟩ := hv
                                  rw [hml] at hle
                                  exact hle
                              rw [hXX] at HR6
                              have H6 : Hid (Ext w wr ∧ Sat wr (strRow (.slice none 0 0) ([] : List ByteArray) * (strRow (.slice vb j vc') (bs.map strOf) * (pts l (.cells (logCells s d S.n a (.slice none 0 0) false) 69) * XX)))) := Lib.hid ⟨HR6.out.1, Sat.nilRow HR6.out.2⟩
                              clear HR6 hb40 hvb hXX
                              go_wp2_with fail
                              go_loopw [14] (fun v wr => ∃ (k m c : Nat) (b : Option Addr) (rs : List (List UInt8)) (lv : Value), v = .slice b m c ∧ k + m = j ∧ (m = 0 ∨ (b = some ⟨vbBlock vb, k, none⟩ ∧ m ≤ c)) ∧ rs.length ≤ k ∧ Hid (recsL bs = (recsL (bs.drop k)).map (rs ++ ·) ∧ Ext w wr ∧ Sat wr (strRow lv (rs.map strOf) * (strRow (.slice vb j vc') (bs.map strOf) * (pts l (.cells (logCells s d S.n a lv false) 69) * XX)))) ) (fun v _ => sliceLen v)
                              case atStart =>
                                refine ⟨0, j, vc', vb, [], _, rfl, by omega, ?_, Nat.le_refl _, Lib.hid ⟨?_, H6.out⟩⟩
                                · rcases Nat.eq_zero_or_pos j with h0 | h0
                                  · exact .inl h0
                                  · obtain ⟨x, hx⟩ : ∃ x, (bs.map strOf)[0]? = some x := ⟨_, List.getElem?_eq_getElem (by rw [hml]; exact h0)⟩
                                    obtain ⟨g2, hg2⟩ := HVB.out 0 x hx
                                    exact .inr ⟨by rw [hg2]; rfl, hcapb g2 hg2⟩
                                · rw [List.drop_zero]
                                  cases recsL bs with
                                  | none => rfl
                                  | some r => rfl
                              case round =>
                                as_aux_lemma =>
                                  obtain ⟨k, m, c, b, rs, lv, rfl, hkm, hb, hrs, HR⟩ := hrel
                                  have hlg := HR.out.2.2.cast (show _ = pts l (.cells (logCells s d S.n a lv false) 69) * (strRow lv (rs.map strOf) * (strRow (.slice vb j vc') (bs.map strOf) * XX)) by ac_rfl)
                                  have c6 := hlg.log.2.2.2.2.2.2.1
                                  have clt := hlg.lt
                                  have z6 := hlg.free 6
                                  clear hlg
                                  by_cases hm0 : m = 0
                                  · subst hm0
                                    have hZ : Hid (Z = (0, some ⟨S.n, s, a, rs.map strOf, false⟩)) := Lib.hid (by
                                      rw [HO4.out, HR.out.1, List.drop_of_length_le (by omega), recsL_nil]
                                      simp)
                                    go_wp2_with fail
                                    refine (clone_log lv (rs.map strOf) (by rw [List.length_map]; omega) _ _ HR.out.2.2).mono ?_
                                    rintro r w7 ⟨v', rfl, hk, hs7⟩
                                    have H7 := Lib.hid (And.intro (HR.out.2.1.trans hk.ext) (hs7.cast (show _ = strRow (.slice vb j vc') (bs.map strOf) * (strRow (.slice (some ⟨g, 0, none⟩) S.n vc) (secs S S.n) * (diskP d S * (pts l (.cells (logCells s d S.n a lv false) 69) * (strRow lv (rs.map strOf) * (strRow v' (rs.map strOf) * (old W * R)))))) by rw [← HXX.out]; ac_rfl)).right.right)
                                    clear hk hs7 HR
                                    go_wp2_with fail
                                    go_ret3
                                    rw [hZ.out]
                                    exact ⟨l, v', rfl, H7.out.1, Sat.logClose (L := ⟨S.n, s, a, rs.map strOf, false⟩) H7.out.2⟩
                                  · obtain ⟨rfl, hmc⟩ := hb.resolve_left hm0
                                    obtain ⟨G2, hG2⟩ : ∃ G2, vbBlock vb = G2 := ⟨_, rfl⟩
                                    rw [hG2]
                                    obtain ⟨P1, hP1⟩ : ∃ P1, strRow lv (rs.map strOf) * (strRow (.slice vb j vc') (bs.map strOf) * (pts l (.cells (logCells s d S.n a lv false) 69) * XX)) = P1 := ⟨_, rfl⟩
                                    have HP1' := Lib.hid hP1
                                    rw [hP1] at HR
                                    obtain ⟨D, hD⟩ : ∃ D, bs.drop k = D := ⟨_, rfl⟩
                                    have hDl : D.length = m := by rw [← hD, List.length_drop, hbl]; omega
                                    have hDr : Hid (recsL bs = (recsL D).map (rs ++ ·)) := Lib.hid (by rw [← hD]; exact HR.out.1)
                                    have hDd : ∀ q, bs.drop (k + q) = D.drop q := fun q => by rw [← hD, List.drop_drop]
                                    have HJ : Hid (∀ q wx, 1 ≤ q → q ≤ m → Sat wx P1 → Calls Tryz.prog 36 #[.slice (some ⟨G2, k, none⟩) q c] wx fun r w' => JoinPost (joinL (D.take q)) r ∧ Kept wx w') := Lib.hid (by
                                      intro q wx h1 h2 hx
                                      have hlen : ((D.take q).map strOf).length = q := by rw [List.length_map, List.length_take]; omega
                                      have hmap : ((D.take q).map strOf).map (·.data.toList) = D.take q := by
                                        rw [List.map_map]
                                        exact List.map_id _
                                      have hrow : Sat wx (strRow (.slice vb j vc') (bs.map strOf) * (strRow lv (rs.map strOf) * (pts l (.cells (logCells s d S.n a lv false) 69) * XX))) := hx.cast (by rw [← hP1]; ac_rfl)
                                      have hE' : Env wx := env_old hE (hx.cast (show _ = old W * (strRow lv (rs.map strOf) * (strRow (.slice vb j vc') (bs.map strOf) * (pts l (.cells (logCells s d S.n a lv false) 69) * (strRow (.slice (some ⟨g, 0, none⟩) S.n vc) (secs S S.n) * (diskP d S * R))))) by rw [← hP1, ← HXX.out]; ac_rfl))
                                      have := join_any G2 k c ((D.take q).map strOf) wx hE' (fun t x ht => ?_) (fun h0 => by rw [h0] at hlen; simp at hlen; omega) (by omega) (by omega) (by
                                        rw [hmap]
                                        have := flat_le (D.take q) (fun y hy => HB40.out y (List.mem_of_mem_drop (hD ▸ List.mem_of_mem_take hy)))
                                        have h3 : (D.take q).length ≤ q := by rw [List.length_take]; omega
                                        omega)
                                      · rw [hlen, hmap] at this
                                        exact this
                                      · have htl : t < q := by rw [← hlen]; exact (List.getElem?_eq_some_iff.1 ht).1
                                        have hg : (bs.map strOf)[k + t]? = some x := by
                                          rw [List.getElem?_map, List.getElem?_take, if_pos htl, ← hD, List.getElem?_drop] at ht
                                          rw [List.getElem?_map]
                                          exact ht
                                        obtain ⟨g2, hg2⟩ := HVB.out _ x hg
                                        subst hg2
                                        have hG2' : g2 = G2 := hG2
                                        subst hG2'
                                        have := hrow.strCell (k + t) x hg
                                        rwa [Nat.zero_add] at this)
                                    have H7 := Lib.hid (And.intro HR.out.2.1 HR.out.2.2)
                                    have hm1 : 1 ≤ m := by omega
                                    have hc1 : ((1 : Nat) : Int) = 1 := rfl
                                    have HJ1 := Lib.hid (HJ.out 1 wr (Nat.le_refl _) hm1 H7.out.2)
                                    clear HR hP1 hD hb c6 clt z6
                                    go_wp2_with fail
                                    refine HJ1.out.mono ?_
                                    rintro r w7 ⟨hj1, hk⟩
                                    obtain rfl := join_form hj1
                                    have H8 := Lib.hid (And.intro (H7.out.1.trans hk.ext) (H7.out.2.kept hk))
                                    clear hk H7 HJ1 hj1
                                    go_wp2_with fail
                                    go_loopw [19, 20, 21] (fun qn rec en wx => ∃ q : Nat, 1 ≤ q ∧ q ≤ m ∧ qn = .int .i64 q ∧ rec = .string (jS (joinL (D.take q))) ∧ en = .int .i64 (jE (joinL (D.take q))) ∧ Hid (findJoin D 1 = findJoin D q ∧ Ext w wx ∧ Sat wx P1)) (fun qn _ _ _ => m - (intOf qn).toNat)
                                    case atStart => exact ⟨1, Nat.le_refl _, hm1, rfl, rfl, rfl, Lib.hid ⟨rfl, H8.out⟩⟩
                                    case round =>
                                      as_aux_lemma =>
                                        obtain ⟨q, hq1, hqm, rfl, rfl, rfl, HQ⟩ := hrel
                                        cases hj : joinL (D.take q) with
                                        | none =>
                                          rw [show jE none = 4 from rfl, show jS none = ⟨#[]⟩ from rfl]
                                          by_cases hqlt : q < m
                                          · have HJ1 := Lib.hid (HJ.out (q + 1) wr (by omega) hqlt HQ.out.2.2)
                                            have e1 : ((q + 1 : Nat) : Int) = (q : Int) + 1 := by omega
                                            have hfn := findJoin_next hj (by rw [hDl]; exact hqlt)
                                            go_wp2_with fail
                                            refine HJ1.out.mono ?_
                                            rintro r w8 ⟨hj1, hk⟩
                                            obtain rfl := join_form hj1
                                            have H9 := Lib.hid (And.intro (HQ.out.2.1.trans hk.ext) (HQ.out.2.2.kept hk))
                                            clear hk hj1 HJ1
                                            go_wp2_with fail
                                            refine ⟨⟨q + 1, by omega, hqlt, congrArg (Value.int .i64) (by omega), rfl, rfl, Lib.hid ⟨HQ.out.1.trans hfn, H9.out⟩⟩, ?_⟩
                                            show m - ((q : Int) + 1).toNat < m - (q : Int).toNat
                                            omega
                                          · have hZ : Hid (Z = (20, none)) := Lib.hid (by
                                              have h1 := findJoin_end hj (by rw [hDl]; exact hqlt)
                                              have h2 : D ≠ [] := by
                                                intro h0
                                                rw [h0] at hDl
                                                simp at hDl
                                                omega
                                              rw [HO4.out, hDr.out, recsL_cons h2, HQ.out.1, h1]
                                              rfl)
                                            have H9 := Lib.hid (And.intro HQ.out.2.1 (HQ.out.2.2.cast (show _ = strRow lv (rs.map strOf) * (strRow (.slice vb j vc') (bs.map strOf) * (pts l (.cells (logCells s d S.n a lv false) 69) * (strRow (.slice (some ⟨g, 0, none⟩) S.n vc) (secs S S.n) * (diskP d S * (old W * R))))) by rw [← HP1'.out, ← HXX.out])).right.right.right.right)
                                            go_wp2_with fail
                                            go_ret3
                                            rw [hZ.out]
                                            exact ⟨rfl, H9.out.1, H9.out.2⟩
                                        | some r =>
                                          rw [show jE (some r) = 0 from rfl, show jS (some r) = strOf r from rfl]
                                          have hrec : Hid (recsL D = (recsL (D.drop q)).map (r :: ·)) := Lib.hid (by
                                            have h1 := findJoin_some hj
                                            have h2 : D ≠ [] := by
                                              intro h0
                                              rw [h0] at hDl
                                              simp at hDl
                                              omega
                                            rw [recsL_cons h2, HQ.out.1, h1])
                                          have hlg := HQ.out.2.2.cast (show _ = pts l (.cells (logCells s d S.n a lv false) 69) * (strRow lv (rs.map strOf) * (strRow (.slice vb j vc') (bs.map strOf) * XX)) by rw [← HP1'.out]; ac_rfl)
                                          have c6 := hlg.log.2.2.2.2.2.2.1
                                          have clt := hlg.lt
                                          have z6 := hlg.free 6
                                          clear hlg
                                          have hsA := (HQ.out.2.2.cast (show _ = strRow lv (rs.map strOf) * (pts l (.cells (logCells s d S.n a lv false) 69) * (strRow (.slice vb j vc') (bs.map strOf) * XX)) by rw [← HP1'.out]; ac_rfl)).alloc (.cells #[.string (strOf r)] 9)
                                          have HA := Lib.hid (And.intro (HQ.out.2.1.alloc (.cells #[.string (strOf r)] 9)) hsA)
                                          have HN9 := Lib.hid (World.news_of_block (heap_alloc_new wr (.cells #[.string (strOf r)] 9)))
                                          clear hsA
                                          go_wp2_with (at_builtin; refine wpList_append_lies _ rfl (.tmp 203) (.tmp 205) 22 rfl 0 9 i0 (.string ⟨#[]⟩) 1 16 (by kernel_rfl) hi0 hz0 hz1 hz2 rfl (by decide) lv (rs.map strOf).length _ rfl HA.out.2.owns ⟨wr.heap.size, 0, none⟩ 1 1 [.string (strOf r)] rfl rfl HN9.out (by simp [Value.oneCell']) (by decide) (by rw [List.length_map]; unfold maxLen; omega) (by rw [List.length_map]; omega) (Nat.zero_le _) _ rfl ?_)
                                          intro gg cap w8 hown hgrow hat hlt3
                                          have hsB := HA.out.2.appended hown hgrow (by rw [World.size_alloc]; exact hat)
                                          have hsC := hsB.comm3
                                          have c6' := hsC.log.2.2.2.2.2.2.1
                                          have clt' := hsC.lt
                                          have z6' := hsC.free 6
                                          have hsD := hsC.setCell (i := 6) (.slice (some ⟨gg, 0, none⟩) ((rs.map strOf).length + 1) cap)
                                          have HD := Lib.hid (And.intro ((HA.out.1.grown hgrow).setCell ⟨l, 6, none⟩ (.slice (some ⟨gg, 0, none⟩) ((rs.map strOf).length + 1) cap)) hsD)
                                          clear hown hgrow hat hlt3 hsB hsC hsD HA HN9 c6 clt z6
                                          rw [List.length_map] at HD
                                          have hqc : q ≤ c := by omega
                                          have hfin : Hid (recsL bs = (recsL (bs.drop (k + q))).map ((rs ++ [r]) ++ ·)) := Lib.hid (by
                                            rw [hDr.out, hrec.out, hDd]
                                            cases recsL (D.drop q) with
                                            | none => rfl
                                            | some u => simp)
                                          have hlogE : (logCells s d S.n a lv false).setIfInBounds 6 (.slice (some ⟨gg, 0, none⟩) (rs.length + 1) cap) = logCells s d S.n a (.slice (some ⟨gg, 0, none⟩) (rs.length + 1) cap) false := rfl
                                          have hrowE : strRow (.slice (some ⟨gg, 0, none⟩) (rs.length + 1) cap) ((rs ++ [r]).map strOf) = rowP 9 1 (.slice (some ⟨gg, 0, none⟩) (rs.length + 1) cap) (rs.length + 1) (rs.map (Value.string ∘ strOf) ++ [.string (strOf r)]) := by
                                            unfold strRow
                                            simp
                                          have HE9 : Hid (Ext w (w8.setCell ⟨l, 6, none⟩ (.slice (some ⟨gg, 0, none⟩) (rs.length + 1) cap)) ∧ Sat (w8.setCell ⟨l, 6, none⟩ (.slice (some ⟨gg, 0, none⟩) (rs.length + 1) cap)) (strRow (.slice (some ⟨gg, 0, none⟩) (rs.length + 1) cap) ((rs ++ [r]).map strOf) * (strRow (.slice vb j vc') (bs.map strOf) * (pts l (.cells (logCells s d S.n a (.slice (some ⟨gg, 0, none⟩) (rs.length + 1) cap) false) 69) * XX)))) := Lib.hid ⟨HD.out.1, by
                                            rw [hrowE]
                                            have := HD.out.2
                                            rw [hlogE] at this
                                            exact this.cast (by ac_rfl)⟩
                                          clear HD hlogE hrowE
                                          by_cases hcq : c = q
                                          · go_wp2_with fail
                                            refine ⟨⟨k + q, m - q, 0, _, rs ++ [r], _, rfl, by omega, .inl (by omega), by rw [List.length_append, List.length_singleton]; omega, Lib.hid ⟨hfin.out, HE9.out⟩⟩, ?_⟩
                                            show m - q < m
                                            omega
                                          · go_wp2_with fail
                                            refine ⟨⟨k + q, m - q, c - q, _, rs ++ [r], _, rfl, by omega, .inr ⟨rfl, by omega⟩, by rw [List.length_append, List.length_singleton]; omega, Lib.hid ⟨hfin.out, HE9.out⟩⟩, ?_⟩
                                            show m - q < m
                                            omega
end Go.Proofs.YtmemhoiepnlhfaaGreatDoor
