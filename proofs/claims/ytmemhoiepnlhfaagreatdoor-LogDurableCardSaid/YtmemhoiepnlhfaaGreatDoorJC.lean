/-
  log's parse, walked. Its condition: a place that is placed.
-/
import Derived.Test.YtmemhoiepnlhfaaGreatDoorJB
import Derived.Laws.ResultCell
import Derived.Laws.Rows
import Derived.Deep.DeepCutAuto
namespace Go.Proofs.YtmemhoiepnlhfaaGreatDoor
open Go.RowKit
set_option maxRecDepth 100000

/-- A block of the call's own. -/
structure Own (w wx : World) (B : Nat) (c : Array Value) (t : TypeId) : Prop where
  kept : Kept w wx
  new : w.heap.size ≤ B
  block : wx.heap[B]? = some (.cells c t)
theorem Own.cell {w wx : World} {B : Nat} {c : Array Value} {t : TypeId} (h : Own w wx B c t) (i : Nat) : wx.cell? ⟨B, i, none⟩ = c[i]? := by simp [World.cell?, h.block]
theorem Own.free {w wx : World} {B : Nat} {c : Array Value} {t : TypeId} (h : Own w wx B c t) (i : Nat) : wx.frozen? ⟨B, i, none⟩ = false := by simp [World.frozen?, h.block]
theorem Own.lt {w wx : World} {B : Nat} {c : Array Value} {t : TypeId} (h : Own w wx B c t) : B < wx.heap.size := (Array.getElem?_eq_some_iff.1 h.block).1
theorem Own.step {w wx wy : World} {B : Nat} {c : Array Value} {t : TypeId} (h : Own w wx B c t) (k : Kept wx wy) : Own w wy B c t := ⟨h.kept.trans k, h.new, k.keep _ _ h.block⟩
theorem Own.set {w wx : World} {B : Nat} {c : Array Value} {t : TypeId} (h : Own w wx B c t) (i : Nat) (v : Value) : Own w (wx.setCell ⟨B, i, none⟩ v) B (c.setIfInBounds i v) t :=
  ⟨h.kept.setCell h.new v, h.new, by simp only [World.setCell, Array.getElem?_modify]; rw [if_pos trivial, h.block]; rfl⟩
theorem Own.made {w w1 : World} (k : Kept w w1) (c : Array Value) (t : TypeId) : Own w (w1.alloc (.cells c t)) w1.heap.size c t :=
  ⟨k.alloc _, k.ext.size, heap_alloc_new _ _⟩
theorem Own.at' {w w1 : World} (k : Kept w w1) (c : Array Value) (t : TypeId) {B : Nat} (h : w1.heap.size = B) : Own w (w1.alloc (.cells c t)) B c t := h ▸ Own.made k c t

theorem Own.drew {w wx : World} {B : Nat} {c : Array Value} {t : TypeId} (h : Own w wx B c t) : Own w wx.drew B c t := h.step (Kept.refl _).drew
theorem Own.set3 {w w5 : World} {B T : Nat} {c : Array Value} {t t' : TypeId} {p q r x y z : Value} (O : Own w w5 B c t) (bk : w5.heap[T]? = some (.cells #[p, q, r] t')) (hT : w.heap.size ≤ T) (hne : T ≠ B) :
    Own w (((w5.setCell ⟨T, 0, none⟩ x).setCell ⟨T, 1, none⟩ y).setCell ⟨T, 2, none⟩ z) B c t ∧ (((w5.setCell ⟨T, 0, none⟩ x).setCell ⟨T, 1, none⟩ y).setCell ⟨T, 2, none⟩ z).heap[T]? = some (.cells #[x, y, z] t') := by
  refine ⟨⟨((O.kept.setCell hT _).setCell hT _).setCell hT _, O.new, ?_⟩, ?_⟩
  · rw [Below.heap_setCell _ _ _ _ (by exact fun h => hne h.symm), Below.heap_setCell _ _ _ _ (by exact fun h => hne h.symm), Below.heap_setCell _ _ _ _ (by exact fun h => hne h.symm)]
    exact O.block
  · simp only [World.setCell, Array.getElem?_modify]
    rw [bk]
    rfl

def stV (s : St) : Value := .agg #[.int .i64 (s.number : Int), .int .i64 (s.generation : Int), .int .i64 (s.length : Int)]
def ParsePost (o : Option St) (r : Ending) : Prop := ∃ (x y z : Int) (b : Bool), r = .returned (.tuple #[.agg #[.int .i64 x, .int .i64 y, .int .i64 z], .bool b]) ∧ (match o with | some s => b = true ∧ x = s.number ∧ y = s.generation ∧ z = s.length | none => b = false)
theorem results_st {fn : Func} {p u : Tmp} (h : fn.results = #[.cell p 67, .tmp u]) {tmps : Array Value} {w wx : World} {B : Nat} {x y z : Value} (O : Own w wx B #[x, y, z] 67)
    (hp : tmps.getD p undef = .pointer (some ⟨B, 0, none⟩)) : (results fn tmps).run Tryz.prog wx = .ok (.tuple #[.agg #[x, y, z], tmps.getD u undef]) wx := by
  have hl := run_loadVar_row (P := Tryz.prog) wx B 67 67 #[x, y, z] (0, 0) _ O.block rfl rfl (by kernel_rfl)
  rw [results_cell_tmp h, hp]
  simp [asAddr, Result.andThen, hl]

theorem Kept.new {w w' : World} {o : Obj} (h : Kept (w.alloc o) w') : w'.heap[w.heap.size]? = some o := h.keep _ _ (heap_alloc_new _ _)
theorem Kept.newD {w w' : World} {o : Obj} (h : Kept (w.drew.alloc o) w') : w'.heap[w.heap.size]? = some o := h.keep _ _ (heap_alloc_new _ _)
theorem Kept.cells3 {w w' : World} (h : Kept w w') {b : Nat} {x y z : Value} {t : TypeId} (e : w.heap[b]? = some (.cells #[x, y, z] t)) : w'.heap[b]? = some (.cells #[x, y, z] t) := h.keep _ _ e
theorem bk_three {w : World} {b : Nat} {x y z : Value} {t : TypeId} (h : w.heap[b]? = some (.cells #[x, y, z] t)) :
    w.cell? ⟨b, 0, none⟩ = some x ∧ w.cell? ⟨b, 1, none⟩ = some y ∧ w.cell? ⟨b, 2, none⟩ = some z ∧ w.frozen? ⟨b, 0, none⟩ = false ∧ w.frozen? ⟨b, 1, none⟩ = false ∧ w.frozen? ⟨b, 2, none⟩ = false ∧ b < w.heap.size := by
  refine ⟨?_, ?_, ?_, ?_, ?_, ?_, (Array.getElem?_eq_some_iff.1 h).1⟩ <;> simp [World.cell?, World.frozen?, h]

set_option maxHeartbeats 4000000 in
theorem parse_any (a : Nat) (ha : a < 4000) (s : ByteArray) (half : Nat) (w : World) : Calls Tryz.prog 32 #[.int .i64 (a : Int), .string s, .int .i64 (half : Int)] w fun r w' => ParsePost (parseL a s.data.toList half) r ∧ Kept w w' := by
  have HG := Lib.hid (fun w => (get_any 0 a s (by simp [placed]; omega) w : Calls Tryz.prog 35 #[.int .i64 0, .int .i64 (a : Int), .string s] w _))
  have HP : Hid (parseL a s.data.toList half = match openB 0 a s.data.toList with
    | some b => if b.length = 38 ∧ b.take 19 = b.drop 19 ∧ b.all isDig = true ∧ (stOf b).length ≤ half then some (stOf b) else none
    | none => none) := Lib.hid rfl
  obtain ⟨P, hP⟩ : ∃ P, parseL a s.data.toList half = P := ⟨_, rfl⟩
  rw [hP] at HP ⊢
  clear hP
  obtain ⟨O, hO⟩ : ∃ O, openB 0 a s.data.toList = O := ⟨_, rfl⟩
  rw [hO] at HP HG
  clear hO
  have HW : Hid (Own w (w.alloc (.cells #[.int .i64 0, .int .i64 0, .int .i64 0] 67)) w.heap.size #[.int .i64 0, .int .i64 0, .int .i64 0] 67) := Lib.hid (Own.made (Kept.refl w) _ _)
  go_enter Tryz.func32, Tryz.ntmps32
  go_wp2_with fail
  refine (HG.out _).mono ?_
  rintro r w1 ⟨hr, hk⟩
  generalize w.heap.size = B at *
  have HO := Lib.hid (HW.out.step hk)
  clear hk HW HG
  cases O with
  | none =>
    obtain ⟨er, her, rfl⟩ := hr
    have her' : (er != 0) = true := by rw [bne_iff_ne]; exact her
    have HN := Lib.hid (show P = none from HP.out)
    clear HP her
    go_wp2_with fail
    go_quiet (fail)
    have HO2 := Lib.hid (HO.out.step ((Kept.refl _).drewN nq))
    clear HO
    generalize w1.drewN nq = w2 at *
    have f0 := HO2.out.free 0
    have f1 := HO2.out.free 1
    have f2 := HO2.out.free 2
    have lt := HO2.out.lt
    have c0 := HO2.out.cell 0
    have c1 := HO2.out.cell 1
    have c2 := HO2.out.cell 2
    go_wp2_with fail
    refine bodyPost_ret (results_st rfl (((HO2.out.set 0 _).set 1 _).set 2 _) rfl) rfl ?_
    refine ⟨⟨_, _, _, _, rfl, ?_⟩, (((HO2.out.set 0 _).set 1 _).set 2 _).kept⟩
    rw [HN.out]
  | some b =>
    obtain rfl : r = _ := hr
    have HP' := Lib.hid (show P = if b.length = 38 ∧ b.take 19 = b.drop 19 ∧ b.all isDig = true ∧ (stOf b).length ≤ half then some (stOf b) else none from HP.out)
    clear HP
    have HP := HP'
    clear HP'
    have hbs : (strOf b).size = b.length := rfl
    obtain ⟨X, hX⟩ : ∃ X, strOf b = X := ⟨_, rfl⟩
    have hXd : X.data.toList = b := by rw [← hX]; rfl
    have HX := Lib.hid hXd
    rw [hX] at hbs ⊢
    clear hX
    have HBS := Lib.hid hbs
    clear hbs
    by_cases h38 : b.length = 38
    case neg =>
      have h1 : ((X.size : Int) != 38) = true := by rw [bne_iff_ne, HBS.out]; omega
      have HN := Lib.hid (HP.out.trans (if_neg (fun h => h38 h.1)))
      clear HP
      go_wp2_with fail
      go_quiet (fail)
      have HO2 := Lib.hid (HO.out.step ((Kept.refl _).drewN nq))
      clear HO
      generalize w1.drewN nq = w2 at *
      have f0 := HO2.out.free 0
      have f1 := HO2.out.free 1
      have f2 := HO2.out.free 2
      have lt := HO2.out.lt
      have c0 := HO2.out.cell 0
      have c1 := HO2.out.cell 1
      have c2 := HO2.out.cell 2
      go_wp2_with fail
      refine bodyPost_ret (results_st rfl (((HO2.out.set 0 _).set 1 _).set 2 _) rfl) rfl ?_
      refine ⟨⟨_, _, _, _, rfl, ?_⟩, (((HO2.out.set 0 _).set 1 _).set 2 _).kept⟩
      rw [HN.out]
    case pos =>
    have hX38 : X.size = 38 := by rw [HBS.out]; exact h38
    have h1 : ((38 : Int) != 38) = false := rfl
    have t1 : (X.extract 0 19).data.toList = b.take 19 := by rw [extract_list, ← HX.out]; simp
    have t2 : (X.extract 19 38).data.toList = b.drop 19 := by
      rw [extract_list, HX.out, List.take_of_length_le]; rw [List.length_drop]; omega
    by_cases heq : b.take 19 = b.drop 19
    case neg =>
      have h2 : ((X.extract 0 19).toList == (X.extract 19 38).toList) = false := by
        rw [beq_eq_false_iff_ne, ByteArray.toList_eq, ByteArray.toList_eq, t1, t2]; exact heq
      have HN := Lib.hid (HP.out.trans (if_neg (fun h => heq h.2.1)))
      clear HP t1 t2 heq
      go_wp2_with fail
      go_quiet (fail)
      have HO2 := Lib.hid (HO.out.step ((Kept.refl _).drewN nq))
      clear HO
      generalize w1.drewN nq = w2 at *
      have f0 := HO2.out.free 0
      have f1 := HO2.out.free 1
      have f2 := HO2.out.free 2
      have lt := HO2.out.lt
      have c0 := HO2.out.cell 0
      have c1 := HO2.out.cell 1
      have c2 := HO2.out.cell 2
      go_wp2_with fail
      refine bodyPost_ret (results_st rfl (((HO2.out.set 0 _).set 1 _).set 2 _) rfl) rfl ?_
      refine ⟨⟨_, _, _, _, rfl, ?_⟩, (((HO2.out.set 0 _).set 1 _).set 2 _).kept⟩
      rw [HN.out]
    case pos =>
    have h2 : ((X.extract 0 19).toList == (X.extract 19 38).toList) = true := by
      rw [beq_iff_eq, ByteArray.toList_eq, ByteArray.toList_eq, t1, t2]; exact heq
    have HPL := Lib.hid (fun w => (HX.out ▸ plain_any X w : Calls Tryz.prog 52 #[.string X] w fun e w' => e = .returned (.bool (b.all isDig)) ∧ Kept w w'))
    obtain ⟨pl, hpl⟩ : ∃ pl, b.all isDig = pl := ⟨_, rfl⟩
    rw [hpl] at HPL HP
    have HPLQ := Lib.hid hpl
    have HEQ := Lib.hid heq
    clear hpl heq t1 t2
    cases pl with
    | false =>
      have HN := Lib.hid (HP.out.trans (if_neg (fun h => by cases h.2.2.1)))
      clear HP
      go_wp2_with fail
      go_region_held3 (fun _ => True) (trivial)
        (first
          | (go_at_call 52; refine (HPL.out _).mono ?_; rintro r w2 ⟨rfl, hk⟩; have HO2 := Lib.hid (HO.out.step (((Kept.refl _).drew).trans hk)); clear hk HPL))
      have f0 := HO2.out.free 0
      have f1 := HO2.out.free 1
      have f2 := HO2.out.free 2
      have lt := HO2.out.lt
      have c0 := HO2.out.cell 0
      have c1 := HO2.out.cell 1
      have c2 := HO2.out.cell 2
      go_wp2_with fail
      refine bodyPost_ret (results_st rfl (((HO2.out.set 0 _).set 1 _).set 2 _) rfl) rfl ?_
      refine ⟨⟨_, _, _, _, rfl, ?_⟩, (((HO2.out.set 0 _).set 1 _).set 2 _).kept⟩
      rw [HN.out]
    | true =>
      go_wp2_with fail
      go_region_held3 (fun _ => True) (trivial)
        (first
          | (go_at_call 52; refine (HPL.out _).mono ?_; rintro r w2 ⟨rfl, hk⟩; have HO2 := Lib.hid (HO.out.step (((Kept.refl _).drew).trans hk)); clear hk HPL))
      clear HO
      go_wp2_with fail
      clear h1 h2
      have hdig : ∀ c ∈ b, isDig c = true := by have := HPLQ.out; rwa [List.all_eq_true] at this
      have e1 : (X.extract 0 9).data.toList = b.take 9 := by rw [extract_list, HX.out]; simp
      have e2 : (X.extract 9 15).data.toList = (b.drop 9).take 6 := by rw [extract_list, HX.out]
      have e3 : (X.extract 15 19).data.toList = (b.drop 15).take 4 := by rw [extract_list, HX.out]
      have g1 : (X.extract 0 9).size = 9 := by rw [ByteArray.size_extract]; omega
      have g2 : (X.extract 9 15).size = 6 := by rw [ByteArray.size_extract]; omega
      have g3 : (X.extract 15 19).size = 4 := by rw [ByteArray.size_extract]; omega
      have P1 := Lib.hid (fun w => parse1_any (X.extract 0 9) (by omega) (by omega) (fun c hc => hdig c (by rw [e1] at hc; exact List.mem_of_mem_take hc)) w)
      have P2 := Lib.hid (fun w => parse1_any (X.extract 9 15) (by omega) (by omega) (fun c hc => hdig c (by rw [e2] at hc; exact List.mem_of_mem_drop (List.mem_of_mem_take hc))) w)
      have P3 := Lib.hid (fun w => parse1_any (X.extract 15 19) (by omega) (by omega) (fun c hc => hdig c (by rw [e3] at hc; exact List.mem_of_mem_drop (List.mem_of_mem_take hc))) w)
      have HS : Hid (stOf b = ⟨undec (X.extract 0 9).data.toList, undec (X.extract 9 15).data.toList, undec (X.extract 15 19).data.toList⟩) := Lib.hid (by rw [e1, e2, e3]; rfl)
      generalize undec (X.extract 0 9).data.toList = n at *
      generalize undec (X.extract 9 15).data.toList = g at *
      generalize undec (X.extract 15 19).data.toList = l at *
      clear e1 e2 e3 g1 g2 g3 hdig hXd
      go_region_with (first
          | (go_at_call 53; refine (P1.out _).mono ?_; rintro r w3 ⟨rfl, hk⟩; have HO3 := Lib.hid (HO2.out.step (by first | exact ((Kept.refl _).drew).trans hk | exact (((Kept.refl _).drew).alloc _).trans hk)); (first | (have bk := hk.newD) | (have bk := hk.new) | skip); clear hk P1)
          | (go_at_call 53; refine (P2.out _).mono ?_; rintro r w4 ⟨rfl, hk⟩; have HO4 := Lib.hid (HO3.out.step (by first | exact hk | exact ((Kept.refl _).alloc _).trans hk)); (first | (have bk := hk.new) | (have bk := Kept.cells3 hk (by assumption)) | skip); clear hk P2)
          | (go_at_call 53; refine (P3.out _).mono ?_; rintro r w5 ⟨rfl, hk⟩; have HO5 := Lib.hid (HO4.out.step (by first | exact hk | exact ((Kept.refl _).alloc _).trans hk)); (first | (have bk := hk.new) | (have bk := Kept.cells3 hk (by assumption)) | skip); (first | (have bk3 := bk_three bk; obtain ⟨x0, x1, x2, y0, y1, y2, xlt⟩ := bk3) | skip); clear hk P3))
      all_goals
        first
          | (have O3 := And.intro (HO5.out.step ((Kept.refl w5).alloc (.cells #[.int .i64 (n : Int), .int .i64 (g : Int), .int .i64 (l : Int)] 67))) (heap_alloc_new w5 (.cells #[.int .i64 (n : Int), .int .i64 (g : Int), .int .i64 (l : Int)] 67)); have hne : w5.heap.size ≠ B := Ne.symm (Nat.ne_of_lt HO5.out.lt); obtain ⟨wE, hwE⟩ : ∃ wE, w5.alloc (.cells #[.int .i64 (n : Int), .int .i64 (g : Int), .int .i64 (l : Int)] 67) = wE := ⟨_, rfl⟩; rw [hwE] at O3 ⊢; clear hwE; obtain ⟨T, hT⟩ : ∃ T, w5.heap.size = T := ⟨_, rfl⟩; rw [hT] at O3 hne ⊢; clear hT)
          | (have O3 := Own.set3 (x := .int .i64 (n : Int)) (y := .int .i64 (g : Int)) (z := .int .i64 (l : Int)) HO5.out bk HO4.out.kept.ext.size (Ne.symm (Nat.ne_of_lt HO4.out.lt)); have hne : w4.heap.size ≠ B := Ne.symm (Nat.ne_of_lt HO4.out.lt); obtain ⟨wE, hwE⟩ : ∃ wE, ((w5.setCell ⟨w4.heap.size, 0, none⟩ (.int .i64 (n : Int))).setCell ⟨w4.heap.size, 1, none⟩ (.int .i64 (g : Int))).setCell ⟨w4.heap.size, 2, none⟩ (.int .i64 (l : Int)) = wE := ⟨_, rfl⟩; rw [hwE] at O3 ⊢; clear hwE; obtain ⟨T, hT⟩ : ∃ T, w4.heap.size = T := ⟨_, rfl⟩; rw [hT] at O3 hne ⊢; clear hT)
          | (have O3 := Own.set3 (x := .int .i64 (n : Int)) (y := .int .i64 (g : Int)) (z := .int .i64 (l : Int)) HO5.out bk HO3.out.kept.ext.size (Ne.symm (Nat.ne_of_lt HO3.out.lt)); have hne : w3.heap.size ≠ B := Ne.symm (Nat.ne_of_lt HO3.out.lt); obtain ⟨wE, hwE⟩ : ∃ wE, ((w5.setCell ⟨w3.heap.size, 0, none⟩ (.int .i64 (n : Int))).setCell ⟨w3.heap.size, 1, none⟩ (.int .i64 (g : Int))).setCell ⟨w3.heap.size, 2, none⟩ (.int .i64 (l : Int)) = wE := ⟨_, rfl⟩; rw [hwE] at O3 ⊢; clear hwE; obtain ⟨T, hT⟩ : ∃ T, w3.heap.size = T := ⟨_, rfl⟩; rw [hT] at O3 hne ⊢; clear hT)
          | (have O3 := Own.set3 (x := .int .i64 (n : Int)) (y := .int .i64 (g : Int)) (z := .int .i64 (l : Int)) HO5.out bk HO2.out.kept.ext.size (Ne.symm (Nat.ne_of_lt HO2.out.lt)); have hne : w2.heap.size ≠ B := Ne.symm (Nat.ne_of_lt HO2.out.lt); obtain ⟨wE, hwE⟩ : ∃ wE, ((w5.setCell ⟨w2.heap.size, 0, none⟩ (.int .i64 (n : Int))).setCell ⟨w2.heap.size, 1, none⟩ (.int .i64 (g : Int))).setCell ⟨w2.heap.size, 2, none⟩ (.int .i64 (l : Int)) = wE := ⟨_, rfl⟩; rw [hwE] at O3 ⊢; clear hwE; obtain ⟨T, hT⟩ : ∃ T, w2.heap.size = T := ⟨_, rfl⟩; rw [hT] at O3 hne ⊢; clear hT)
        have HF := Lib.hid O3
        obtain ⟨x0', x1', x2', y0', y1', y2', xlt'⟩ := bk_three O3.2
        have f0 := HF.out.1.free 0
        have f1 := HF.out.1.free 1
        have f2 := HF.out.1.free 2
        have lt := HF.out.1.lt
        have c0 : wE.cell? ⟨B, 0, none⟩ = some (.int .i64 0) := HF.out.1.cell 0
        have c1 : wE.cell? ⟨B, 1, none⟩ = some (.int .i64 0) := HF.out.1.cell 1
        have c2 : wE.cell? ⟨B, 2, none⟩ = some (.int .i64 0) := HF.out.1.cell 2
        clear O3 y0' y1' y2'
        have HR : Hid (P = if l ≤ half then some ⟨n, g, l⟩ else none) := Lib.hid (by
          rw [HP.out]
          by_cases h : l ≤ half
          · rw [if_pos ⟨h38, HEQ.out, trivial, by rw [HS.out]; exact h⟩, if_pos h, HS.out]
          · rw [if_neg (fun c => h (by have := c.2.2.2; rwa [HS.out] at this)), if_neg h])
        by_cases hlh2 : l ≤ half
      all_goals go_wp2_with fail
      all_goals go_region
      all_goals go_wp2_with fail
      all_goals
        refine bodyPost_ret (results_st rfl ((((HF.out.1.set 0 _).set 1 _).set 2 _).drew) rfl) rfl ?_
        refine ⟨⟨_, _, _, _, rfl, ?_⟩, ((((HF.out.1.set 0 _).set 1 _).set 2 _).drew).kept⟩
        rw [HR.out]
        first
          | (rw [if_pos hlh2]; exact ⟨rfl, rfl, rfl, rfl⟩)
          | (rw [if_neg hlh2])
end Go.Proofs.YtmemhoiepnlhfaaGreatDoor
