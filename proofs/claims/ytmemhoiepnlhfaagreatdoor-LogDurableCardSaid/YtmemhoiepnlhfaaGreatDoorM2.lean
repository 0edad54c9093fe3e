/-
  The law package's play, walked. Its condition: a log in order, operations in the caller's memory. And what builds upon it.
-/
import Derived.Test.YtmemhoiepnlhfaaGreatDoorM1
import Derived.Test.YtmemhoiepnlhfaaGreatDoorJQ

/-! The law package's play, walked. Its condition: a log in order, operations in the caller's memory. -/
namespace Go.Proofs.YtmemhoiepnlhfaaGreatDoor
open Go.RowKit Go.Shelf
set_option maxRecDepth 100000
attribute [local go_sem] Oper.semAt_some

theorem Sat.recs {w : World} {v : Value} {l : List ByteArray} {R : HProp} (h : Sat w (strRow v l * R)) : ∃ vb c, v = .slice vb l.length c ∧ RecsIn w vb l := by
  obtain ⟨vb, c, rfl, hf⟩ := h.strForm
  refine ⟨vb, c, rfl, fun i x hi => ?_⟩
  obtain ⟨g, rfl⟩ := hf i x hi
  exact ⟨g, 0, rfl, h.strCell i x hi⟩
theorem cell_old {W w : World} {R : HProp} (h : Sat w (old W * R)) {a : Addr} {v : Value} (hc : W.cell? a = some v) : w.cell? a = some v := by
  unfold World.cell? at hc ⊢
  cases hb : W.heap[a.block]? with
  | none => rw [hb] at hc; cases hc
  | some o =>
    rw [h.oldBlock (Array.getElem?_eq_some_iff.1 hb).1]
    exact hc
theorem RecsIn.old {W w : World} {R : HProp} {vb : Option Addr} {l : List ByteArray} (h : RecsIn W vb l) (hs : Sat w (old W * R)) : RecsIn w vb l := fun i x hx => by
  obtain ⟨g, o, e, hc⟩ := h i x hx
  exact ⟨g, o, e, cell_old hs hc⟩
theorem OpIn.old {W w : World} {R : HProp} {b off : Nat} {o : OpL} {vb : Option Addr} {c : Nat} (h : OpIn W b off o vb c) (hs : Sat w (old W * R)) : OpIn w b off o vb c :=
  ⟨cell_old hs h.kind, cell_old hs h.body, cell_old hs h.list, cell_old hs h.after, cell_old hs h.writes, cell_old hs h.bytes, h.recs.old hs, h.less, h.len⟩
theorem OpsIn.old {W w : World} {R : HProp} {vo : Option Addr} {l : List OpL} (h : OpsIn W vo l) (hs : Sat w (old W * R)) : OpsIn w vo l := fun i o hi => by
  obtain ⟨b, off, vb, c, e, ho⟩ := h i o hi
  exact ⟨b, off, vb, c, e, ho.old hs⟩
theorem records_l (l d : Nat) (L : LS) (hl : L.list.length ≤ 100000) (R : HProp) (w : World) (h : Sat w (logP l d L * R)) :
    Calls Tryz.prog 22 #[.pointer (some ⟨l, 0, none⟩)] w fun e w' => ∃ v, e = .returned v ∧ Kept w w' ∧ Sat w' (strRow v L.list * (logP l d L * R)) := by
  obtain ⟨lb, lc, h1⟩ := Sat.logOpen (A := emp) (h.cast (by rw [emp_sep]))
  have h2 := h1.cast (emp_sep _)
  refine (records_log l d L.n L.a L.s _ L.br L.list hl R w h2).mono ?_
  rintro e w' ⟨v, rfl, hk, hs⟩
  exact ⟨v, rfl, hk, hs.logClose⟩
theorem room_l (l d : Nat) (L : LS) (hn : 2 ≤ L.n ∧ L.n ≤ 4000) (hl : L.s.length ≤ 100000) (R : HProp) (w : World) (h : Sat w (logP l d L * R)) :
    Calls Tryz.prog 27 #[.pointer (some ⟨l, 0, none⟩)] w fun e w' => e = .returned (.int .i64 ((halfN L.n : Int) - (L.s.length : Int))) ∧ Kept w w' := by
  obtain ⟨lb, lc, h1⟩ := Sat.logOpen (A := emp) (h.cast (by rw [emp_sep]))
  exact room_any l d L.n L.a L.s _ L.br hn hl _ w (h1.cast (emp_sep _))
section
variable {P : Program}
theorem run_append_zero {w : World} (base : Nat) (t ty e : TypeId) (i : TypeInfo) (size : Nat) (ht : P.underlying t = some (.slice e)) (hi : P.info? e = some i)
    (v : Value) (n : Nat) (xs : List Value) (hown : w.ownsRow base e size v n xs) (A : Option Addr) (c : Nat) :
    (Builtin.append_ #[t, t] ty #[v, .slice A 0 c]).run P w = .ok v w := by
  cases A with
  | none => rcases hown.2 with ⟨rfl, rfl⟩ | ⟨g, cap, cur, rfl, _, _, hnc, _⟩ <;> simp [Builtin.append_, run_underlying ht, sizeOf, typeInfo, Builtin.lenOf, Builtin.firstCells, storeCells, *]
  | some ad => rcases hown.2 with ⟨rfl, rfl⟩ | ⟨g, cap, cur, rfl, _, _, hnc, _⟩ <;> simp [Builtin.append_, run_underlying ht, sizeOf, typeInfo, Builtin.lenOf, Builtin.firstCells, storeCells, loadCells, loadCellsFrom, *]
end
theorem append_recs {w : World} {ops : Array Oper} {rest : List Oper} {o : Oper} {a : Act} {Q : Exit → Act → World → Prop} (hgd : o.guard = none) (s x : Operand)
    (ho : o.op = .call { callee := .builtin .append, args := #[s, x], argTypes := #[22, 22] }) (v : Value) (out : List ByteArray) (R : HProp) (hs : a.eval s = v) (hrow : Sat w (strRow v out * R))
    (vb : Option Addr) (c m : Nat) (recs : List ByteArray) (hm : recs.length = m) (hx : a.eval x = .slice vb m c) (hr : RecsIn w vb recs) (hlen : out.length + recs.length ≤ 1000000)
    (h : ∀ v' w', Ext w w' → Sat w' (strRow v' (out ++ recs) * R) → wpList Tryz.prog ops Q rest (a.put o.dst v') w') : wpList Tryz.prog ops Q (o :: rest) a w := by
  obtain ⟨i0, hi0, hz0, hz1, hz2⟩ := info_parts Tryz.infoString
  subst hm
  by_cases he : recs = []
  · subst he
    refine wpList_plain hgd fun K hK => ?_
    have hrun := run_append_zero (P := Tryz.prog) (w := w) 0 22 o.type 9 i0 1 rfl hi0 v out.length (out.map Value.string) hrow.owns vb c
    unfold Oper.wp
    simp [execOp, ho, resolve, invoke, builtin, hs, hx, hrun, Result.andThen]
    exact hK _ _ (h v w (Ext.refl w) (by rw [List.append_nil]; exact hrow))
  · obtain ⟨r0, hr0⟩ : ∃ r, recs[0]? = some r := ⟨_, List.getElem?_eq_getElem (List.length_pos_iff.2 he)⟩
    obtain ⟨g0, o0, rfl, _⟩ := hr 0 r0 hr0
    refine wpList_append_lies w hgd s x 22 ho 0 9 i0 (.string ⟨#[]⟩) 1 16 rfl hi0 hz0 hz1 hz2 rfl (by decide) v out.length (out.map Value.string) hs hrow.owns ⟨g0, o0, none⟩ recs.length c (recs.map Value.string) hx (by simp) (fun j u hu => ?_) (strs_one recs) (List.length_pos_iff.2 he) (by unfold maxLen; omega) (by omega) (Nat.zero_le _) _ rfl ?_
    · rw [List.getElem?_map, Option.map_eq_some_iff] at hu
      obtain ⟨y, hy, rfl⟩ := hu
      obtain ⟨g1, o1, e1, hc⟩ := hr j y hy
      obtain ⟨rfl, rfl⟩ : g0 = g1 ∧ o0 = o1 := by simpa using e1
      rw [Addr.add_lit]
      exact hc
    · intro g cap w' hown hgrow hat hlt
      have hs2 := hrow.appended hown hgrow hat
      refine h _ w' ((Ext.refl w).grown hgrow) ?_
      unfold strRow
      rw [List.length_append, List.map_append]
      exact hs2
theorem stepP_even {p : PS} {o : OpL} (h : o.kind % 2 = 0) : stepP p o = ⟨(appendL p.S p.L o.body).2.1, (appendL p.S p.L o.body).2.2, if (appendL p.S p.L o.body).1 = 0 then p.a + 1 else p.a, p.r⟩ := by unfold stepP; rw [if_pos h]
theorem stepP_odd {p : PS} {o : OpL} (h : ¬ o.kind % 2 = 0) : stepP p o = ⟨(rewriteL p.S p.L o.list).2.1, (rewriteL p.S p.L o.list).2.2, p.a, if (rewriteL p.S p.L o.list).1 = 0 then p.r + 1 else p.r⟩ := by unfold stepP; rw [if_neg h]
theorem Good.small {S : DS} {L : LS} {a r : Nat} (g : Good S L a r) : L.list.length ≤ 1999 := by
  have h1 := g.h.ok.len
  have h2 := g.h.ok.half
  have h3 := half_small L.n g.h.ok.n.2
  omega
set_option maxHeartbeats 4000000 in
theorem play_any (W : World) (hE : Env W) (l d n : Nat) (hn6 : 6 ≤ n) (hn4 : n ≤ 4000) (vo : Option Addr) (cap : Nat) (ops : List OpL) (hlen : ops.length ≤ 16) (hls : ∀ o ∈ ops, o.list.length ≤ 20) (hO : OpsIn W vo ops) (X : HProp) (w : World)
    (h : Sat w (diskP d (DS.fresh n) * (logP l d (LS.fresh n) * (old W * X)))) :
    Calls Tryz.prog 18 #[.pointer (some ⟨l, 0, none⟩), .slice vo ops.length cap] w fun e w' => ∃ v, e = .returned (.tuple #[v, .int .i64 (((playP (freshP n) ops).a : Nat) : Int), .int .i64 (((playP (freshP n) ops).r : Nat) : Int)]) ∧ Ext w w' ∧
      Sat w' (diskP d (playP (freshP n) ops).S * (logP l d (playP (freshP n) ops).L * (old W * (strRow v (playP (freshP n) ops).L.list * X)))) := by
  obtain ⟨i0, hi0, hz0, hz1, hz2⟩ := info_parts Tryz.infoString
  obtain ⟨m, hm⟩ : ∃ m, ops.length = m := ⟨_, rfl⟩
  have HG : Hid (∀ j, j ≤ m → (playP (freshP n) (ops.take j)).good ∧ (playP (freshP n) (ops.take j)).a + (playP (freshP n) (ops.take j)).r ≤ j ∧ (playP (freshP n) (ops.take j)).L.n = n) := Lib.hid (fun j hj => by
    have hl : (ops.take j).length = j := by rw [List.length_take]; omega
    have := played_good hn6 hn4 (ops.take j) (by omega)
    rwa [hl] at this)
  have HQ : Hid (playP (freshP n) ops = playP (freshP n) (ops.take m)) := Lib.hid (by rw [List.take_of_length_le (by omega)])
  have HM := Lib.hid hm
  have HW := Lib.hid (And.intro hE (And.intro hO hls))
  have H0 := Lib.hid (show Sat w (diskP d (playP (freshP n) (ops.take 0)).S * (logP l d (playP (freshP n) (ops.take 0)).L * (old W * (strRow (.slice none 0 0) (playP (freshP n) (ops.take 0)).L.list * X)))) from
    (Sat.nilRow h).cast (show strRow (.slice none 0 0) [] * (diskP d (DS.fresh n) * (logP l d (LS.fresh n) * (old W * X))) = _ by
      show _ = diskP d (DS.fresh n) * (logP l d (LS.fresh n) * (old W * (strRow (.slice none 0 0) [] * X)))
      ac_rfl))
  rw [HQ.out]
  rw [hm] at hlen ⊢
  clear hm hE hO hls h
  go_enter Tryz.func18, Tryz.ntmps18
  go_wp2_with fail
  go_loopw [7, 8, 9, 10] (fun ov av rv iv wr => ∃ j : Nat, j ≤ m ∧ av = .int .i64 (((playP (freshP n) (ops.take j)).a : Nat) : Int) ∧ rv = .int .i64 (((playP (freshP n) (ops.take j)).r : Nat) : Int) ∧ iv = .int .i64 j ∧
    Hid (Ext w wr ∧ Sat wr (diskP d (playP (freshP n) (ops.take j)).S * (logP l d (playP (freshP n) (ops.take j)).L * (old W * (strRow ov (playP (freshP n) (ops.take j)).L.list * X)))))) (fun _ _ _ iv _ => m - (intOf iv).toNat)
  case atStart => exact ⟨0, Nat.zero_le _, rfl, rfl, rfl, Lib.hid ⟨Ext.refl _, H0.out⟩⟩
  case round =>
    obtain ⟨j, hj, rfl, rfl, rfl, HR⟩ := hrel
    by_cases hlt : j < m
    · obtain ⟨o, ho⟩ : ∃ o, ops[j]? = some o := ⟨_, List.getElem?_eq_getElem (by rw [HM.out]; exact hlt)⟩
      obtain ⟨g, hb, hPn⟩ := HG.out j hj
      have HN := Lib.hid (playP_take (freshP n) ops ho)
      obtain ⟨b, off, vb, c, rfl, hOI⟩ := HW.out.2.1 j o ho
      have hol := HW.out.2.2 o (List.mem_of_getElem? ho)
      have HI : Hid (∀ wx X, Sat wx (old W * X) → OpIn wx b (off + j * 6) o vb c) := Lib.hid (fun wx X h => hOI.old h)
      obtain ⟨P, hP⟩ : ∃ P, playP (freshP n) (ops.take j) = P := ⟨_, rfl⟩
      rw [hP] at HR HN g hb ⊢
      have HGd := Lib.hid g
      have hI := HI.out wr _ (HR.out.2.cast (show _ = old W * (diskP d P.S * (logP l d P.L * (strRow u7 P.L.list * X))) by ac_rfl))
      have c0 := hI.kind
      have hk256 := hI.less
      have hq0 : P.S.q.length ≤ 80000 := by rw [g.h.q]; simp
      have hsm := g.small
      clear hP ho hOI hI g
      by_cases hk : o.kind % 2 = 0
      · have HS := Lib.hid (stepP_even (p := P) (o := o) hk)
        rw [HS.out] at HN
        have hk2 : ((o.kind : Int) % 2) = 0 := by omega
        have hA := append_log W HW.out.1 l d P.L HGd.out.h.ok o.body P.S hq0 (strRow u7 P.L.list * X) wr HR.out.2
        have HA := Lib.hid hA
        have c1 := (HI.out wr _ (HR.out.2.cast (show _ = old W * (diskP d P.S * (logP l d P.L * (strRow u7 P.L.list * X))) by ac_rfl))).body
        clear hA
        go_wp2_with fail
        refine HA.out.mono ?_
        rintro e w1 ⟨rfl, hx1, hs1⟩
        have H1 := Lib.hid (And.intro (HR.out.1.trans hx1) hs1)
        clear hx1 hs1 HA c0 c1 HR
        rcases append_step HGd.out (by omega) o.body with ⟨_, e⟩ | ⟨_, _, e⟩ | ⟨_, _, S', e, g'⟩
        · rw [e] at H1 HN ⊢
          have hI := HI.out w1 _ (H1.out.2.cast (show _ = old W * (diskP d P.S * (logP l d P.L * (strRow u7 P.L.list * X))) by ac_rfl))
          have c0 := hI.kind
          clear hI
          go_wp2_with fail
          refine ⟨⟨j + 1, hlt, ?_, ?_, congrArg (Value.int .i64) (by omega), Lib.hid ?_⟩, by simp [intOf]; omega⟩
          · rw [HN.out]; rfl
          · rw [HN.out]
          · rw [HN.out]; exact H1.out
        · rw [e] at H1 HN ⊢
          have hI := HI.out w1 _ (H1.out.2.cast (show _ = old W * (diskP d P.S * (logP l d P.L * (strRow u7 P.L.list * X))) by ac_rfl))
          have c0 := hI.kind
          clear hI
          go_wp2_with fail
          refine ⟨⟨j + 1, hlt, ?_, ?_, congrArg (Value.int .i64) (by omega), Lib.hid ?_⟩, by simp [intOf]; omega⟩
          · rw [HN.out]; rfl
          · rw [HN.out]
          · rw [HN.out]; exact H1.out
        rw [e] at H1 HN ⊢
        have hI := HI.out w1 _ (H1.out.2.cast (show _ = old W * (diskP d S' * (logP l d (P.L.more o.body) * (strRow u7 P.L.list * X))) by ac_rfl))
        have c0 := hI.kind
        have c1 := hI.body
        clear hI
        have h3 := (H1.out.2.cast (show _ = strRow u7 P.L.list * (diskP d S' * (logP l d (P.L.more o.body) * (old W * X))) by ac_rfl)).alloc (.cells #[.string o.body] 9)
        have H3 := Lib.hid (And.intro (H1.out.1.alloc (.cells #[.string o.body] 9)) h3)
        have HN2 := Lib.hid (World.news_of_block (heap_alloc_new w1 (.cells #[.string o.body] 9)))
        clear h3
        go_wp2_with (at_builtin; refine wpList_append_lies _ rfl (.tmp 34) (.tmp 40) 22 rfl 0 9 i0 (.string ⟨#[]⟩) 1 16 (by kernel_rfl) hi0 hz0 hz1 hz2 rfl (by decide) u7 P.L.list.length (P.L.list.map Value.string) rfl H3.out.2.owns ⟨w1.heap.size, 0, none⟩ 1 1 [.string o.body] rfl rfl HN2.out (by simp [Value.oneCell']) (by decide) (by unfold maxLen; omega) (by omega) (Nat.zero_le _) _ rfl ?_)
        intro gg cp w3 hown hgrow hat hlt3
        have hs4 := H3.out.2.appended hown hgrow (by rw [World.size_alloc]; exact hat)
        have H4 := Lib.hid (And.intro (H3.out.1.grown hgrow) hs4)
        have hI := HI.out w3 _ (H4.out.2.cast (show _ = old W * (rowP 9 1 (.slice (some ⟨gg, 0, none⟩) (P.L.list.length + 1) cp) (P.L.list.length + 1) (P.L.list.map Value.string ++ [.string o.body]) * (diskP d S' * (logP l d (P.L.more o.body) * X))) by ac_rfl))
        clear hown hgrow hat hlt3 hs4 c0 c1
        have c0 := hI.kind
        clear hI
        go_wp2_with fail
        refine ⟨⟨j + 1, hlt, ?_, ?_, congrArg (Value.int .i64) (by omega), Lib.hid ?_⟩, by simp [intOf]; omega⟩
        · rw [HN.out]; rfl
        · rw [HN.out]
        · rw [HN.out]
          refine ⟨H4.out.1, H4.out.2.cast ?_⟩
          show _ = diskP d S' * (logP l d (P.L.more o.body) * (old W * (strRow _ (P.L.list ++ [o.body]) * X)))
          unfold strRow
          rw [List.length_append, List.map_append]
          show rowP _ _ _ (P.L.list.length + 1) (P.L.list.map Value.string ++ [Value.string o.body]) * _ = _
          ac_rfl
      · have HS := Lib.hid (stepP_odd (p := P) (o := o) hk)
        rw [HS.out] at HN
        have hk1 : o.kind % 2 = 1 := by omega
        have hk2 : ((o.kind : Int) % 2) = 1 := by omega
        have hI := HI.out wr _ (HR.out.2.cast (show _ = old W * (diskP d P.S * (logP l d P.L * (strRow u7 P.L.list * X))) by ac_rfl))
        have c2 := hI.list
        have HA := Lib.hid (rewrite_log W HW.out.1 l d c vb P.L HGd.out.h.ok o.list (by omega) (strRow u7 P.L.list) (fun wx X h => (HI.out wx _ h).recs) P.S hq0 X wr HR.out.2)
        obtain ⟨q, hq⟩ : ∃ q, o.list.length = q := ⟨_, rfl⟩
        rw [hq] at c2 hol HA
        have HQL := Lib.hid hq
        clear hI hq
        go_wp2_with fail
        refine HA.out.mono ?_
        rintro e w1 ⟨rfl, hx1, hs1⟩
        have H1 := Lib.hid (And.intro (HR.out.1.trans hx1) hs1)
        clear hx1 hs1 HA c0 c2 HR
        rcases rewrite_step HGd.out (by omega) o.list with ⟨_, e⟩ | ⟨_, _, e⟩ | ⟨_, _, S', e, g', _⟩
        · rw [e] at H1 HN ⊢
          go_wp2_with fail
          refine ⟨⟨j + 1, hlt, ?_, ?_, congrArg (Value.int .i64) (by omega), Lib.hid ?_⟩, by simp [intOf]; omega⟩
          · rw [HN.out]
          · rw [HN.out]; rfl
          · rw [HN.out]; exact H1.out
        · rw [e] at H1 HN ⊢
          go_wp2_with fail
          refine ⟨⟨j + 1, hlt, ?_, ?_, congrArg (Value.int .i64) (by omega), Lib.hid ?_⟩, by simp [intOf]; omega⟩
          · rw [HN.out]
          · rw [HN.out]; rfl
          · rw [HN.out]; exact H1.out
        rw [e] at H1 HN ⊢
        have h3 := (H1.out.2.cast (show _ = strRow u7 P.L.list * (diskP d S' * (logP l d (P.L.anew o.list) * (old W * X))) by ac_rfl)).right.allocNew (.cells #[] 9)
        have h4 : Sat (w1.alloc (.cells #[] 9)) (strRow (.slice (some ⟨w1.heap.size, 0, none⟩) 0 0) [] * (diskP d S' * (logP l d (P.L.anew o.list) * (old W * X)))) := Sat.mkRow rfl (Nat.le_refl _) (Nat.zero_le _) rfl rfl h3
        have H3 := Lib.hid (And.intro (H1.out.1.alloc (.cells #[] 9)) h4)
        have hI := HI.out _ _ (H3.out.2.cast (show _ = old W * (strRow (.slice (some ⟨w1.heap.size, 0, none⟩) 0 0) [] * (diskP d S' * (logP l d (P.L.anew o.list) * X))) by ac_rfl))
        have c2 := hI.list
        rw [HQL.out] at c2
        have HRC := Lib.hid hI.recs
        clear hI h3 h4
        go_wp2_with (at_builtin; refine append_recs rfl (.tmp 61) (.tmp 66) rfl (.slice (some ⟨w1.heap.size, 0, none⟩) 0 0) [] _ rfl H3.out.2 vb c q o.list HQL.out rfl HRC.out (by rw [HQL.out, List.length_nil]; omega) ?_)
        intro v4 w4 hx4 hs4
        have H4 := Lib.hid (And.intro (H3.out.1.trans hx4) hs4)
        clear hx4 hs4 c2 HRC
        go_wp2_with fail
        refine ⟨⟨j + 1, hlt, ?_, ?_, congrArg (Value.int .i64) (by omega), Lib.hid ?_⟩, by simp [intOf]; omega⟩
        · rw [HN.out]
        · rw [HN.out]; rfl
        · rw [HN.out]
          refine ⟨H4.out.1, H4.out.2.cast ?_⟩
          show _ = diskP d S' * (logP l d (P.L.anew o.list) * (old W * (strRow v4 o.list * X)))
          ac_rfl
    · obtain rfl : j = m := by omega
      go_wp2_with fail
      exact bodyPost_ret (v := .tuple #[u7, .int .i64 (((playP (freshP n) (ops.take j)).a : Nat) : Int), .int .i64 (((playP (freshP n) (ops.take j)).r : Nat) : Int)]) (by simp [results, Tryz.results18, go_sem]) rfl ⟨_, rfl, HR.out.1, HR.out.2⟩
end Go.Proofs.YtmemhoiepnlhfaaGreatDoor

/-! The law package's head, walked: it answers true, and all memory that was there is as it was. Its condition: the library's tables. -/
namespace Go.Proofs.YtmemhoiepnlhfaaGreatDoor
open Go.RowKit Go.Shelf
set_option maxRecDepth 100000

theorem append_go {S : DS} {L : LS} {a r : Nat} (g : Good S L a r) (ha : a + r ≤ 1000) (rec : ByteArray) (hl : isLong rec = false) (hf : L.s.length + (splitB rec).length ≤ halfN L.n) :
    ∃ S', appendL S L rec = (0, S', L.more rec) ∧ Good S' (L.more rec) (a + 1) r := by
  have hlen : (partsOf (L.list ++ [rec])).length = L.s.length + (splitB rec).length := by rw [partsOf_snoc, List.length_append, ← g.h.len]
  rcases append_step g ha rec with ⟨h, _⟩ | ⟨_, h, _⟩ | ⟨_, _, h⟩
  · rw [hl] at h; cases h
  · omega
  · exact h
theorem append_full {S : DS} {L : LS} {a r : Nat} (g : Good S L a r) (ha : a + r ≤ 1000) (rec : ByteArray) (hl : isLong rec = false) (hf : halfN L.n < L.s.length + (splitB rec).length) : appendL S L rec = (18, S, L) := by
  have hlen : (partsOf (L.list ++ [rec])).length = L.s.length + (splitB rec).length := by rw [partsOf_snoc, List.length_append, ← g.h.len]
  rcases append_step g ha rec with ⟨h, _⟩ | ⟨_, _, h⟩ | ⟨_, h, _⟩
  · rw [hl] at h; cases h
  · exact h
  · omega
theorem append_long {S : DS} {L : LS} (hb : L.br = false) (rec : ByteArray) (hl : isLong rec = true) : appendL S L rec = (3, S, L) := by
  unfold appendL
  rw [if_neg (by rw [hb]; exact Bool.false_ne_true), if_pos hl]
theorem rewrite_go {S : DS} {L : LS} {a r : Nat} (g : Good S L a r) (ha : a + r ≤ 1000) (recs : List ByteArray) (hl : recs.any isLong = false) (hf : (partsOf recs).length ≤ halfN L.n) :
    ∃ S', rewriteL S L recs = (0, S', L.anew recs) ∧ Good S' (L.anew recs) a (r + 1) := by
  rcases rewrite_step g ha recs with ⟨h, _⟩ | ⟨_, h, _⟩ | ⟨_, _, S', e, g', _⟩
  · rw [hl] at h; cases h
  · omega
  · exact ⟨S', e, g'⟩
def aB : ByteArray := ⟨#[97]⟩
def bB : ByteArray := ⟨#[98]⟩
def xB : ByteArray := ⟨#[120]⟩
theorem one_part {c : UInt8} : (splitB ⟨#[c]⟩).length = 1 := split_len_one (by rw [text_small (t := [c]) (show 1 < 10 by decide)]; show 1 + 2 ≤ 40; decide)
theorem xs_len (n : Nat) : (xsB 120 n).data.toList.length = n := by unfold xsB strOf; simp
theorem xs37 : (splitB (xsB 120 37)).length = 1 := split_len_one (by rw [text_two (by rw [xs_len]; decide) (by rw [xs_len]; decide), xs_len]; decide)
theorem xs38 : (splitB (xsB 120 38)).length = 2 := split_len_two (by rw [text_two (by rw [xs_len]; decide) (by rw [xs_len]; decide), xs_len]; decide) (by rw [text_two (by rw [xs_len]; decide) (by rw [xs_len]; decide), xs_len]; decide)
theorem long_xs (n : Nat) : isLong (xsB 120 n) = decide (2000 < n) := by unfold isLong; rw [xsB_size]
structure HeadLaw (S1 S2 S3 S4 S5 : DS) (L1 L2 L3 L4 : LS) : Prop where
  a1 : appendL (DS.fresh 10) (LS.fresh 10) aB = (0, S1, L1)
  a2 : appendL S1 L1 (xsB 120 37) = (0, S2, L2)
  a3 : appendL S2 L2 (xsB 120 38) = (0, S3, L3)
  a4 : appendL S3 L3 bB = (18, S3, L3)
  o0 : openL (DS.fresh 10) = (0, some (LS.fresh 10))
  o3 : openL S3 = (0, some L3)
  r4 : rewriteL S3 L3 [xB] = (0, S4, L4)
  f4 : (S4.fail 0 0).start = S4
  o4 : openL S4 = (0, some L4)
  e5 : S4.rot 5 3 1 = S5
  o5 : openL S5 = (0, some L4)
  o6 : openL (S5.rot 6 3 1) = (20, none)
  ok1 : L1.ok
  ok2 : L2.ok
  ok3 : L3.ok
  ok4 : L4.ok
  q1 : S1.q = []
  q2 : S2.q = []
  q3 : S3.q = []
  q4 : S4.q = []
  q5 : S5.q = []
  q6 : (S5.rot 6 3 1).q = []
  n2 : L2.n = 10
  n4 : L4.n = 10
  s2 : L2.s.length = 2
  s4 : L4.s.length = 1
  l3 : L3.list = [aB, xsB 120 37, xsB 120 38]
  l4 : L4.list = [xB]
  b4 : L4.br = false
  on4 : S4.off = false
theorem head_law : ∃ S1 S2 S3 S4 S5 L1 L2 L3 L4, HeadLaw S1 S2 S3 S4 S5 L1 L2 L3 L4 := by
  have g0 := fresh_good (n := 10) (by decide) (by decide)
  have h4 : halfN 10 = 4 := by decide
  have p1 : (splitB aB).length = 1 := one_part
  have p2 : (splitB (xsB 120 37)).length = 1 := xs37
  have p3 : (splitB (xsB 120 38)).length = 2 := xs38
  have p4 : (splitB bB).length = 1 := one_part
  have p5 : (partsOf [xB]).length = 1 := by
    have : partsOf [xB] = splitB xB := by simp [partsOf]
    rw [this]; exact one_part
  obtain ⟨S1, a1, g1⟩ := append_go g0 (by omega) aB (by decide) (by show 0 + _ ≤ halfN 10; omega)
  have s1 : ((LS.fresh 10).more aB).s.length = 1 := by show 0 + _ = _; omega
  obtain ⟨S2, a2, g2⟩ := append_go g1 (by omega) (xsB 120 37) (by rw [long_xs]; decide) (by show _ + _ ≤ halfN 10; omega)
  have s2 : (((LS.fresh 10).more aB).more (xsB 120 37)).s.length = 2 := by show ((LS.fresh 10).more aB).s.length + _ = _; omega
  obtain ⟨S3, a3, g3⟩ := append_go g2 (by omega) (xsB 120 38) (by rw [long_xs]; decide) (by show _ + _ ≤ halfN 10; omega)
  have s3 : ((((LS.fresh 10).more aB).more (xsB 120 37)).more (xsB 120 38)).s.length = 4 := by show (((LS.fresh 10).more aB).more (xsB 120 37)).s.length + _ = _; omega
  have a4 := append_full g3 (by omega) bB (by decide) (by show halfN 10 < _; omega)
  obtain ⟨S4, r4, g4⟩ := rewrite_go g3 (by omega) [xB] (by decide) (by show _ ≤ halfN 10; omega)
  obtain ⟨L3, hL3⟩ : ∃ L3, ((((LS.fresh 10).more aB).more (xsB 120 37)).more (xsB 120 38)) = L3 := ⟨_, rfl⟩
  have hst : startN (L3.anew [xB]).n (L3.anew [xB]).s.generation = 6 := by rw [← hL3]; decide
  have hs4 : (L3.anew [xB]).s.length = 1 := p5
  rw [hL3] at a3 g3 s3 a4 r4 g4
  have hu5 : ¬ Used (L3.anew [xB]) 5 := fun h => by have := h.1; omega
  have hu6 : Used (L3.anew [xB]) 6 := ⟨by omega, by omega⟩
  have h5 := rot_free_holds (k := 3) (m := 1) g4.h (by decide : 2 ≤ 5) hu5
  have hn : S4.n = 10 := by rw [g4.h.n, ← hL3]; rfl
  have h6 : rotOk (S4.rot 5 3 1) (6 : Nat) 3 1 = true := by
    have hn5 := (rot_n S4 5 3 1).1
    unfold rotOk
    have hv : (S4.rot 5 3 1).valid ((6 : Nat) : Int) = true := (valid_iff _ _).2 ⟨by omega, by rw [hn5, hn]; decide⟩
    rw [hv]; decide
  refine ⟨S1, S2, S3, S4, S4.rot 5 3 1, _, _, L3, L3.anew [xB], a1, a2, a3, a4, open_holds g0.h, open_holds g3.h, r4, fail_start g4.h 0 0, open_holds g4.h, rfl, open_holds h5, open_rot_used h5 hu6 h6, g1.h.ok, g2.h.ok, g3.h.ok, g4.h.ok, g1.h.q, g2.h.q, g3.h.q, g4.h.q, h5.q, (rot_n _ 6 3 1).2.2.2.trans h5.q, rfl, by rw [← hL3]; rfl, s2, hs4, by rw [← hL3]; rfl, rfl, g4.h.br, g4.h.on.off⟩
end Go.Proofs.YtmemhoiepnlhfaaGreatDoor

/-! The law package's head, walked: it answers true, and all memory that was there is as it was. Its condition: the library's tables. -/
namespace Go.Proofs.YtmemhoiepnlhfaaGreatDoor
open Go.RowKit Go.Shelf
set_option maxRecDepth 100000

theorem kept_old {W w : World} {R : HProp} (hx : Ext W w) (h : Sat w (old W * R)) : Kept W w := ⟨hx, fun k o hk => by
  rw [h.oldBlock (Array.getElem?_eq_some_iff.1 hk).1]; exact hk⟩
set_option maxHeartbeats 400000 in
theorem fail_log (d : Nat) (S : DS) (x b : Int) (hq : S.q.length ≤ 1000000) (hoff : S.off = false) (R : HProp) (w : World) (h : Sat w (diskP d S * R)) :
    Calls Tryz.prog 23 #[.pointer (some ⟨d, 0, none⟩), .int .i64 x, .int .i64 b] w fun e w' => e = .returned (.tuple #[]) ∧ Ext w w' ∧ Sat w' (diskP d (S.fail x b) * R) := by
  obtain ⟨hok, bs, be, qv, av, hs⟩ := h.disk
  exact (fail_on d S x b bs be qv av hoff hq R w hok hs).mono fun e w' ⟨he, hx, h2⟩ => ⟨he, hx, Sat.mkDisk (hok.fail x b) h2⟩
set_option maxHeartbeats 4000000 in
theorem head_any (W : World) (hE : Env W) : Calls Tryz.prog 10 #[] W fun e w' => e = .returned (.bool true) ∧ Kept W w' := by
  obtain ⟨S1, S2, S3, S4, S5, L1, L2, L3, L4, hL⟩ := head_law
  have HL := Lib.hid hL
  clear hL
  go_enter Tryz.func10, Tryz.ntmps10
  go_wp2_with fail
  refine (new_yes 10 (by decide) (by decide) (old W) W (Sat.start W)).mono ?_
  rintro e w1 ⟨d, rfl, hx, hs⟩
  have H1 := Lib.hid (And.intro hx (hs.cast (show _ = diskP d (DS.fresh 10) * (old W * emp) by rw [sep_emp])))
  clear hx hs
  go_wp2_with fail
  refine (open_log W hE d (DS.fresh 10) (Nat.zero_le _) emp w1 H1.out.2).mono ?_
  rintro e w2 hp
  rw [HL.out.o0] at hp
  obtain ⟨l, v0, rfl, hx, hs⟩ := hp
  obtain ⟨vb0, c0, rfl, _⟩ := (hs.cast (show _ = strRow v0 (LS.fresh 10).list * (diskP d (DS.fresh 10) * (logP l d (LS.fresh 10) * (old W * emp))) by ac_rfl)).recs
  have H2 := Lib.hid (And.intro (H1.out.1.trans hx) (hs.cast (show _ = diskP d (DS.fresh 10) * (logP l d (LS.fresh 10) * (old W * (strRow (.slice vb0 (LS.fresh 10).list.length c0) (LS.fresh 10).list * emp))) by ac_rfl)))
  clear hx hs H1
  obtain ⟨X, hX⟩ : ∃ X, strRow (.slice vb0 (LS.fresh 10).list.length c0) (LS.fresh 10).list * emp = X := ⟨_, rfl⟩
  rw [hX] at H2
  clear hX
  go_wp2_with fail
  refine (append_log W hE l d (LS.fresh 10) (fresh_good (by decide) (by decide)).h.ok aB (DS.fresh 10) (Nat.zero_le _) X w2 H2.out.2).mono ?_
  rintro e w3 ⟨rfl, hx, hs⟩
  rw [HL.out.a1] at hs ⊢
  have H3 := Lib.hid (And.intro (H2.out.1.trans hx) hs)
  clear hx hs H2
  go_wp2_with fail
  refine (text_any 37 (by decide) _).mono ?_
  rintro e w3' ⟨rfl, rfl⟩
  go_wp2_with fail
  refine (append_log W hE l d L1 HL.out.ok1 (xsB 120 37) S1 (by rw [HL.out.q1]; exact Nat.zero_le _) X w3' H3.out.2).mono ?_
  rintro e w4 ⟨rfl, hx, hs⟩
  rw [HL.out.a2] at hs ⊢
  have H4 := Lib.hid (And.intro (H3.out.1.trans hx) hs)
  clear hx hs H3
  go_wp2_with fail
  have hroom2 : ((halfN L2.n : Nat) : Int) - ((L2.s.length : Nat) : Int) = 2 := by rw [HL.out.n2, HL.out.s2]; decide
  refine (room_l l d L2 (by rw [HL.out.n2]; decide) (by rw [HL.out.s2]; decide) (diskP d S2 * (old W * X)) w4 (H4.out.2.cast (by ac_rfl))).mono ?_
  rintro e w5 ⟨rfl, hk⟩
  rw [hroom2]
  have H5 := Lib.hid (And.intro (H4.out.1.trans hk.ext) (H4.out.2.kept hk))
  clear hk H4
  go_wp2_with fail
  refine (text_any 38 (by decide) _).mono ?_
  rintro e w5' ⟨rfl, rfl⟩
  go_wp2_with fail
  refine (append_log W hE l d L2 HL.out.ok2 (xsB 120 38) S2 (by rw [HL.out.q2]; exact Nat.zero_le _) X w5' H5.out.2).mono ?_
  rintro e w6 ⟨rfl, hx, hs⟩
  rw [HL.out.a3] at hs ⊢
  have H6 := Lib.hid (And.intro (H5.out.1.trans hx) hs)
  clear hx hs H5
  go_wp2_with fail
  refine (append_log W hE l d L3 HL.out.ok3 bB S3 (by rw [HL.out.q3]; exact Nat.zero_le _) X w6 H6.out.2).mono ?_
  rintro e w7 ⟨rfl, hx, hs⟩
  rw [HL.out.a4] at hs ⊢
  have H7 := Lib.hid (And.intro (H6.out.1.trans hx) hs)
  clear hx hs H6
  go_wp2_with fail
  refine (open_log W hE d S3 (by rw [HL.out.q3]; exact Nat.zero_le _) (logP l d L3 * X) w7 (H7.out.2.cast (by ac_rfl))).mono ?_
  rintro e w8 hp
  rw [HL.out.o3] at hp
  obtain ⟨l3, v3, rfl, hx, hs⟩ := hp
  have H8 := Lib.hid (And.intro (H7.out.1.trans hx) (hs.cast (show _ = diskP d S3 * (logP l d L3 * (old W * (strRow v3 L3.list * (logP l3 d L3 * X)))) by ac_rfl)))
  clear hx hs H7
  obtain ⟨Z, hZ⟩ : ∃ Z, logP l3 d L3 * X = Z := ⟨_, rfl⟩
  rw [hZ] at H8
  clear hZ
  have h9 := H8.out.2.allocNew (.cells #[.string xB] 9)
  have H9 := Lib.hid (And.intro (H8.out.1.alloc (.cells #[.string xB] 9)) (h9.cast (show _ = diskP d S3 * (logP l d L3 * (old W * (pts w8.heap.size (.cells #[.string xB] 9) * (strRow v3 L3.list * Z)))) by ac_rfl)))
  clear h9 H8
  go_wp2_with fail
  refine (rewrite_log W hE l d 1 (some ⟨w8.heap.size, 0, none⟩) L3 HL.out.ok3 [xB] (by decide) (pts w8.heap.size (.cells #[.string xB] 9)) (fun wx Y h i x hi => ?_) S3 (by rw [HL.out.q3]; exact Nat.zero_le _) (strRow v3 L3.list * Z) _ H9.out.2).mono ?_
  · refine ⟨_, _, rfl, ?_⟩
    have h2 := (h.cast (show _ = pts w8.heap.size (.cells #[.string xB] 9) * (old W * Y) by ac_rfl)).cell (i := 0 + i)
    rw [h2]
    cases i with
    | zero => obtain rfl : xB = x := by simpa using hi
              rfl
    | succ i => simp at hi
  rintro e w10 ⟨rfl, hx, hs⟩
  rw [HL.out.r4] at hs ⊢
  obtain ⟨Z2, hZ2⟩ : ∃ Z2, pts w8.heap.size (.cells #[.string xB] 9) * Z = Z2 := ⟨_, rfl⟩
  have H10 := Lib.hid (And.intro (H9.out.1.trans hx) (hs.cast (show _ = diskP d S4 * (logP l d L4 * (old W * (strRow v3 L3.list * Z2))) by rw [← hZ2]; ac_rfl)))
  clear hx hs H9 hZ2
  go_wp2_with fail
  have hroom4 : ((halfN L4.n : Nat) : Int) - ((L4.s.length : Nat) : Int) = 3 := by rw [HL.out.n4, HL.out.s4]; decide
  refine (room_l l d L4 (by rw [HL.out.n4]; decide) (by rw [HL.out.s4]; decide) (diskP d S4 * (old W * (strRow v3 L3.list * Z2))) w10 (H10.out.2.cast (by ac_rfl))).mono ?_
  rintro e w11 ⟨rfl, hk⟩
  rw [hroom4]
  have H11 := Lib.hid (And.intro (H10.out.1.trans hk.ext) (H10.out.2.kept hk))
  clear hk H10
  go_wp2_with fail
  refine (fail_log d S4 0 0 (by rw [HL.out.q4]; exact Nat.zero_le _) HL.out.on4 _ w11 H11.out.2).mono ?_
  rintro e w12 ⟨rfl, hx, hs⟩
  have H12 := Lib.hid (And.intro (H11.out.1.trans hx) hs)
  clear hx hs H11
  go_wp2_with fail
  refine (start_any d (S4.fail 0 0) _ w12 H12.out.2).mono ?_
  rintro e w13 ⟨rfl, hx, hs⟩
  rw [HL.out.f4] at hs
  have H13 := Lib.hid (And.intro (H12.out.1.trans hx) hs)
  clear hx hs H12
  go_wp2_with fail
  refine (open_log W hE d S4 (by rw [HL.out.q4]; exact Nat.zero_le _) (logP l d L4 * (strRow v3 L3.list * Z2)) w13 (H13.out.2.cast (by ac_rfl))).mono ?_
  rintro e w14 hp
  rw [HL.out.o4] at hp
  obtain ⟨lx, vx, rfl, hx, hs⟩ := hp
  obtain ⟨Z3, hZ3⟩ : ∃ Z3, logP lx d L4 * Z2 = Z3 := ⟨_, rfl⟩
  have H14 := Lib.hid (And.intro (H13.out.1.trans hx) (hs.cast (show _ = diskP d S4 * (logP l d L4 * (old W * (strRow v3 L3.list * (strRow vx L4.list * Z3)))) by rw [← hZ3]; ac_rfl)))
  clear hx hs H13 hZ3
  go_wp2_with fail
  refine (new_yes 5 (by decide) (by decide) _ w14 H14.out.2).mono ?_
  rintro e w15 ⟨d5, rfl, hx, hs⟩
  have H15 := Lib.hid (And.intro (H14.out.1.trans hx) hs)
  clear hx hs H14
  go_wp2_with fail
  refine (open_log W hE d5 (DS.fresh 5) (Nat.zero_le _) (diskP d S4 * (logP l d L4 * (strRow v3 L3.list * (strRow vx L4.list * Z3)))) w15 (H15.out.2.cast (by ac_rfl))).mono ?_
  rintro e w16 hp
  rw [open_small (by decide)] at hp
  obtain ⟨rfl, hx, hs⟩ := hp
  obtain ⟨Z4, hZ4⟩ : ∃ Z4, diskP d5 (DS.fresh 5) * Z3 = Z4 := ⟨_, rfl⟩
  have H16 := Lib.hid (And.intro (H15.out.1.trans hx) (hs.cast (show _ = diskP d S4 * (logP l d L4 * (old W * (strRow v3 L3.list * (strRow vx L4.list * Z4)))) by rw [← hZ4]; ac_rfl)))
  clear hx hs H15 hZ4
  go_wp2_with fail
  refine (rot_any d S4 5 3 1 _ w16 H16.out.2).mono ?_
  rintro e w17 ⟨rfl, hx, hs⟩
  rw [HL.out.e5] at hs
  have H17 := Lib.hid (And.intro (H16.out.1.trans hx) hs)
  clear hx hs H16
  go_wp2_with fail
  refine (open_log W hE d S5 (by rw [HL.out.q5]; exact Nat.zero_le _) (logP l d L4 * (strRow v3 L3.list * (strRow vx L4.list * Z4))) w17 (H17.out.2.cast (by ac_rfl))).mono ?_
  rintro e w18 hp
  rw [HL.out.o5] at hp
  obtain ⟨ly, vy, rfl, hx, hs⟩ := hp
  obtain ⟨Z5, hZ5⟩ : ∃ Z5, logP ly d L4 * Z4 = Z5 := ⟨_, rfl⟩
  have H18 := Lib.hid (And.intro (H17.out.1.trans hx) (hs.cast (show _ = diskP d S5 * (logP l d L4 * (old W * (strRow v3 L3.list * (strRow vx L4.list * (strRow vy L4.list * Z5))))) by rw [← hZ5]; ac_rfl)))
  clear hx hs H17 hZ5
  go_wp2_with fail
  refine (rot_any d S5 6 3 1 _ w18 H18.out.2).mono ?_
  rintro e w19 ⟨rfl, hx, hs⟩
  have H19 := Lib.hid (And.intro (H18.out.1.trans hx) hs)
  clear hx hs H18
  go_wp2_with fail
  refine (open_log W hE d (S5.rot 6 3 1) (by rw [HL.out.q6]; exact Nat.zero_le _) (logP l d L4 * (strRow v3 L3.list * (strRow vx L4.list * (strRow vy L4.list * Z5)))) w19 (H19.out.2.cast (by ac_rfl))).mono ?_
  rintro e w20 hp
  rw [HL.out.o6] at hp
  obtain ⟨rfl, hx, hs⟩ := hp
  obtain ⟨S6, hS6⟩ : ∃ S6, S5.rot 6 3 1 = S6 := ⟨_, rfl⟩
  have hq6 := HL.out.q6
  rw [hS6] at hs hq6
  have H20 := Lib.hid (And.intro (H19.out.1.trans hx) (hs.cast (show _ = diskP d S6 * (logP l d L4 * (old W * (strRow v3 L3.list * (strRow vx L4.list * (strRow vy L4.list * Z5))))) by ac_rfl)))
  have HQ6 := Lib.hid hq6
  clear hx hs H19 hS6 hq6
  go_wp2_with fail
  refine (text_any 37 (by decide) _).mono ?_
  rintro e w20a ⟨rfl, rfl⟩
  go_wp2_with fail
  refine (text_any 38 (by decide) _).mono ?_
  rintro e w20b ⟨rfl, rfl⟩
  have h21 := H20.out.2.allocNew (.cells #[.string aB, .string (xsB 120 37), .string (xsB 120 38)] 9)
  have H21 := Lib.hid (And.intro (H20.out.1.alloc (.cells #[.string aB, .string (xsB 120 37), .string (xsB 120 38)] 9)) h21)
  clear h21 H20
  obtain ⟨vb3, c3, rfl, hr3⟩ := (H21.out.2.cast (show _ = strRow v3 L3.list * (pts w20b.heap.size (.cells #[.string aB, .string (xsB 120 37), .string (xsB 120 38)] 9) * (diskP d S6 * (logP l d L4 * (old W * (strRow vx L4.list * (strRow vy L4.list * Z5)))))) by ac_rfl)).recs
  have hrl : RecsIn (w20b.alloc (.cells #[.string aB, .string (xsB 120 37), .string (xsB 120 38)] 9)) (some ⟨w20b.heap.size, 0, none⟩) [aB, xsB 120 37, xsB 120 38] := fun i x hi => by
    refine ⟨_, _, rfl, ?_⟩
    rw [H21.out.2.cell]
    match i, hi with
    | 0, hi => obtain rfl : aB = x := by simpa using hi
               rfl
    | 1, hi => obtain rfl : xsB 120 37 = x := by simpa using hi
               rfl
    | 2, hi => obtain rfl : xsB 120 38 = x := by simpa using hi
               rfl
  have HS1 := Lib.hid (same_any vb3 (some ⟨w20b.heap.size, 0, none⟩) c3 3 L3.list [aB, xsB 120 37, xsB 120 38] (by rw [HL.out.l3]; decide) (by decide) _ hr3 hrl)
  clear hr3 hrl
  go_wp2_with fail
  refine HS1.out.mono ?_
  rintro e w22 ⟨rfl, hk⟩
  rw [decide_eq_true HL.out.l3]
  have H22 := Lib.hid (And.intro (H21.out.1.trans hk.ext) (H21.out.2.kept hk))
  clear hk H21 HS1
  have h23 := H22.out.2.allocNew (.cells #[.string xB] 9)
  have H23 := Lib.hid (And.intro (H22.out.1.alloc (.cells #[.string xB] 9)) h23)
  clear h23 H22
  obtain ⟨vbx, cx, rfl, hrx⟩ := (H23.out.2.cast (show _ = strRow vx L4.list * (pts w22.heap.size (.cells #[.string xB] 9) * (pts w20b.heap.size (.cells #[.string aB, .string (xsB 120 37), .string (xsB 120 38)] 9) * (diskP d S6 * (logP l d L4 * (old W * (strRow (.slice vb3 L3.list.length c3) L3.list * (strRow vy L4.list * Z5))))))) by ac_rfl)).recs
  have hrl : RecsIn (w22.alloc (.cells #[.string xB] 9)) (some ⟨w22.heap.size, 0, none⟩) [xB] := fun i x hi => by
    refine ⟨_, _, rfl, ?_⟩
    rw [H23.out.2.cell]
    match i, hi with
    | 0, hi => obtain rfl : xB = x := by simpa using hi
               rfl
  have HS2 := Lib.hid (same_any vbx (some ⟨w22.heap.size, 0, none⟩) cx 1 L4.list [xB] (by rw [HL.out.l4]; decide) (by decide) _ hrx hrl)
  clear hrx hrl
  go_wp2_with fail
  refine HS2.out.mono ?_
  rintro e w24 ⟨rfl, hk⟩
  rw [decide_eq_true HL.out.l4]
  have H24 := Lib.hid (And.intro (H23.out.1.trans hk.ext) (H23.out.2.kept hk))
  clear hk H23 HS2
  obtain ⟨vby, cy, rfl, hry⟩ := (H24.out.2.cast (show _ = strRow vy L4.list * (strRow (.slice vbx L4.list.length cx) L4.list * (pts w22.heap.size (.cells #[.string xB] 9) * (pts w20b.heap.size (.cells #[.string aB, .string (xsB 120 37), .string (xsB 120 38)] 9) * (diskP d S6 * (logP l d L4 * (old W * (strRow (.slice vb3 L3.list.length c3) L3.list * Z5))))))) by ac_rfl)).recs
  obtain ⟨vbx', cx', ex, hrx⟩ := (H24.out.2.cast (show _ = strRow (.slice vbx L4.list.length cx) L4.list * (strRow (.slice vby L4.list.length cy) L4.list * (pts w22.heap.size (.cells #[.string xB] 9) * (pts w20b.heap.size (.cells #[.string aB, .string (xsB 120 37), .string (xsB 120 38)] 9) * (diskP d S6 * (logP l d L4 * (old W * (strRow (.slice vb3 L3.list.length c3) L3.list * Z5))))))) by ac_rfl)).recs
  obtain ⟨rfl, rfl⟩ : vbx = vbx' ∧ cx = cx' := by simpa using ex
  have HS3 := Lib.hid (same_any vby vbx cy cx L4.list L4.list (by rw [HL.out.l4]; decide) (by rw [HL.out.l4]; decide) _ hry hrx)
  clear hry hrx ex
  go_wp2_with fail
  refine HS3.out.mono ?_
  rintro e w25 ⟨rfl, hk⟩
  rw [decide_eq_true trivial]
  have H25 := Lib.hid (And.intro (H24.out.1.trans hk.ext) ((H24.out.2.kept hk).cast (show _ = diskP d S6 * (logP l d L4 * (old W * (strRow (.slice vby L4.list.length cy) L4.list * (strRow (.slice vbx L4.list.length cx) L4.list * (pts w22.heap.size (.cells #[.string xB] 9) * (pts w20b.heap.size (.cells #[.string aB, .string (xsB 120 37), .string (xsB 120 38)] 9) * (strRow (.slice vb3 L3.list.length c3) L3.list * Z5))))))) by ac_rfl)))
  clear hk H24 HS3
  go_wp2_with fail
  refine (text_any 2001 (by decide) _).mono ?_
  rintro e w25a ⟨rfl, rfl⟩
  go_wp2_with fail
  have HA := Lib.hid (append_long (S := S6) HL.out.b4 (xsB 120 2001) (by rw [long_xs]; decide))
  refine (append_log W hE l d L4 HL.out.ok4 (xsB 120 2001) S6 (by rw [HQ6.out]; exact Nat.zero_le _) _ w25a H25.out.2).mono ?_
  rintro e w26 ⟨rfl, hx, hs⟩
  rw [HA.out] at hs ⊢
  have H26 := Lib.hid (And.intro (H25.out.1.trans hx) hs)
  clear hx hs H25
  go_wp2_with fail
  go_ret
  exact ⟨rfl, kept_old H26.out.1 (H26.out.2.cast (show _ = old W * (diskP d S6 * (logP l d L4 * (strRow (.slice vby L4.list.length cy) L4.list * (strRow (.slice vbx L4.list.length cx) L4.list * (pts w22.heap.size (.cells #[.string xB] 9) * (pts w20b.heap.size (.cells #[.string aB, .string (xsB 120 37), .string (xsB 120 38)] 9) * (strRow (.slice vb3 L3.list.length c3) L3.list * Z5))))))) by ac_rfl))⟩
end Go.Proofs.YtmemhoiepnlhfaaGreatDoor

/-! LogDurable, walked: it answers true, whatever the operations; all memory that was there is as it was. Its condition: operations that lie in memory, the library's tables. -/
namespace Go.Proofs.YtmemhoiepnlhfaaGreatDoor
open Go.RowKit Go.Shelf
set_option maxRecDepth 100000

theorem row_recs {w : World} {v : Value} {l : List ByteArray} {A R : HProp} (h : Sat w (A * (strRow v l * R))) : ∃ vb c, v = .slice vb l.length c ∧ RecsIn w vb l :=
  Sat.recs (h.cast (show _ = strRow v l * (A * R) by ac_rfl))
theorem same_rows {va vb : Value} {a b : List ByteArray} {w : World} {A B : HProp} (hA : Sat w (strRow va a * A)) (hB : Sat w (strRow vb b * B)) (ha : a.length ≤ 1000000) (hb : b.length ≤ 1000000) :
    Calls Tryz.prog 16 #[va, vb] w fun e w' => e = .returned (.bool (decide (a = b))) ∧ Kept w w' := by
  obtain ⟨pa, ca, rfl, ra⟩ := hA.recs
  obtain ⟨pb, cb, rfl, rb⟩ := hB.recs
  exact same_any pa pb ca cb a b ha hb w ra rb
theorem decide_self {α : Type} [DecidableEq α] (a : α) : decide (a = a) = true := decide_eq_true rfl
set_option maxHeartbeats 4000000 in
theorem logDurable_walk (sectors : Int) (vo : Option Addr) (cap : Nat) (ops : List OpL) (hl : ops.length ≤ 9223372036854775807) (writes bytes : Int) (W : World) (hE : Env W) (hO : OpsIn W vo ops) :
    Calls Tryz.prog 6 #[.int .i64 sectors, .slice vo ops.length cap, .int .i64 writes, .int .i64 bytes] W fun e w' => e = .returned (.bool true) ∧ Kept W w' := by
  go_enter Tryz.func6, Tryz.ntmps6
  go_wp2_with fail
  refine (head_any W hE).mono ?_
  rintro e w1 ⟨rfl, hk1⟩
  go_wp2_with fail
  refine (light_any sectors vo cap ops hl w1 (hO.kept hk1)).mono ?_
  rintro e u ⟨⟨b, rfl, hb⟩, rfl⟩
  cases b with
  | false =>
    go_wp2_with fail
    go_ret
    exact ⟨rfl, hk1⟩
  | true =>
    obtain ⟨hs40, hlen, hls⟩ := hb rfl
    clear hb
    by_cases h1 : sectors < 1
    · go_wp2_with fail
      refine (new_no sectors (.inl h1) _).mono ?_
      rintro e w2 ⟨rfl, rfl⟩
      go_wp2_with fail
      refine (open_nil _).mono ?_
      rintro e w2 ⟨rfl, rfl⟩
      go_wp2_with fail
      go_ret
      have e6 : decide (sectors < 6) = true := decide_eq_true (by omega)
      exact ⟨by rw [← e6]; rfl, hk1⟩
    · obtain ⟨n, rfl⟩ := Int.eq_ofNat_of_zero_le (by omega : 0 ≤ sectors)
      have hu : Sat u (old W * emp) := by
        rw [sep_emp]
        exact (Sat.start W).kept hk1
      by_cases h6 : n < 6
      · go_wp2_with fail
        refine (new_yes n (by omega) (by omega) _ u hu).mono ?_
        rintro e w2 ⟨d, rfl, hx, hs⟩
        go_wp2_with fail
        refine (open_log W hE d (DS.fresh n) (Nat.zero_le _) emp w2 hs).mono ?_
        rintro e w3 hp
        rw [open_small h6] at hp
        obtain ⟨rfl, hx2, hs2⟩ := hp
        have hk := kept_old ((hk1.ext.trans hx).trans hx2) (hs2.cast (show _ = old W * (diskP d (DS.fresh n) * emp) by ac_rfl))
        clear hx hx2 hs hs2
        go_wp2_with fail
        go_ret
        have e6 : decide ((n : Int) < 6) = true := decide_eq_true (by omega)
        exact ⟨by rw [← e6]; rfl, hk⟩
      · have g0 := fresh_good (n := n) (by omega) (by omega)
        obtain ⟨gP, _, hPn⟩ := played_good (n := n) (by omega) (by omega) ops (by omega)
        have hsm := gP.small
        go_wp2_with fail
        refine (new_yes n (by omega) (by omega) _ u hu).mono ?_
        rintro e w2 ⟨d, rfl, hx, hs⟩
        have H2 := Lib.hid (And.intro (hk1.ext.trans hx) hs)
        clear hx hs hu
        go_wp2_with fail
        refine (open_log W hE d (DS.fresh n) (Nat.zero_le _) emp w2 H2.out.2).mono ?_
        rintro e w3 hp
        rw [open_holds g0.h] at hp
        obtain ⟨l, v0, rfl, hx, hs⟩ := hp
        obtain ⟨Z, hZ⟩ : ∃ Z, strRow v0 (LS.fresh n).list * emp = Z := ⟨_, rfl⟩
        have H3 := Lib.hid (And.intro (H2.out.1.trans hx) (hs.cast (show _ = diskP d (DS.fresh n) * (logP l d (LS.fresh n) * (old W * Z)) by rw [← hZ]; ac_rfl)))
        clear hx hs H2 hZ
        go_wp2_with fail
        refine (play_any W hE l d n (by omega) (by omega) vo cap ops hlen hls hO Z w3 H3.out.2).mono ?_
        rintro e w4 ⟨v, rfl, hx, hs⟩
        obtain ⟨P, hP⟩ : ∃ P, playP (freshP n) ops = P := ⟨_, rfl⟩
        rw [hP] at hs gP hPn hsm ⊢
        have HG := Lib.hid gP
        have H4 := Lib.hid (And.intro (H3.out.1.trans hx) hs)
        clear hx hs H3 hP gP
        go_wp2_with fail
        refine (records_l l d P.L (by omega) _ w4 (H4.out.2.cast (show _ = logP l d P.L * (diskP d P.S * (old W * (strRow v P.L.list * Z))) by ac_rfl))).mono ?_
        rintro e w5 ⟨v5, rfl, hk, hs⟩
        have H5 := Lib.hid (And.intro (H4.out.1.trans hk.ext) (hs.cast (show _ = diskP d P.S * (logP l d P.L * (old W * (strRow v P.L.list * (strRow v5 P.L.list * Z)))) by ac_rfl)))
        clear hk hs H4
        go_wp2_with fail
        refine (same_rows (H5.out.2.cast (show _ = strRow v5 P.L.list * (diskP d P.S * (logP l d P.L * (old W * (strRow v P.L.list * Z)))) by ac_rfl)) (H5.out.2.cast (show _ = strRow v P.L.list * (diskP d P.S * (logP l d P.L * (old W * (strRow v5 P.L.list * Z)))) by ac_rfl)) (by omega) (by omega)).mono ?_
        rintro e w6 ⟨rfl, hk⟩
        rw [decide_self]
        obtain ⟨Z2, hZ2⟩ : ∃ Z2, logP l d P.L * (strRow v5 P.L.list * Z) = Z2 := ⟨_, rfl⟩
        have H6 := Lib.hid (And.intro (H5.out.1.trans hk.ext) ((H5.out.2.kept hk).cast (show _ = diskP d P.S * (old W * (strRow v P.L.list * Z2)) by rw [← hZ2]; ac_rfl)))
        clear hk H5 hZ2
        go_wp2_with fail
        refine (fail_log d P.S writes bytes (by rw [HG.out.h.q]; exact Nat.zero_le _) HG.out.h.on.off _ w6 H6.out.2).mono ?_
        rintro e w7 ⟨rfl, hx, hs⟩
        have H7 := Lib.hid (And.intro (H6.out.1.trans hx) hs)
        clear hx hs H6
        go_wp2_with fail
        refine (start_any d _ _ w7 H7.out.2).mono ?_
        rintro e w8 ⟨rfl, hx, hs⟩
        rw [fail_start HG.out.h] at hs
        have H8 := Lib.hid (And.intro (H7.out.1.trans hx) hs)
        clear hx hs H7
        go_wp2_with fail
        refine (open_log W hE d P.S (by rw [HG.out.h.q]; exact Nat.zero_le _) _ w8 H8.out.2).mono ?_
        rintro e w9 hp
        rw [open_holds HG.out.h] at hp
        obtain ⟨l9, v9, rfl, hx, hs⟩ := hp
        have H9 := Lib.hid (And.intro (H8.out.1.trans hx) (hs.cast (show _ = diskP d P.S * (old W * (strRow v P.L.list * (strRow v9 P.L.list * (logP l9 d P.L * Z2)))) by ac_rfl)))
        clear hx hs H8
        go_wp2_with fail
        refine (open_log W hE d P.S (by rw [HG.out.h.q]; exact Nat.zero_le _) _ w9 H9.out.2).mono ?_
        rintro e w10 hp
        rw [open_holds HG.out.h] at hp
        obtain ⟨l10, v10, rfl, hx, hs⟩ := hp
        have H10 := Lib.hid (And.intro (H9.out.1.trans hx) (hs.cast (show _ = diskP d P.S * (old W * (strRow v P.L.list * (strRow v9 P.L.list * (strRow v10 P.L.list * (logP l9 d P.L * (logP l10 d P.L * Z2)))))) by ac_rfl)))
        clear hx hs H9
        go_wp2_with fail
        refine (same_rows (H10.out.2.cast (show _ = strRow v9 P.L.list * (diskP d P.S * (old W * (strRow v P.L.list * (strRow v10 P.L.list * (logP l9 d P.L * (logP l10 d P.L * Z2)))))) by ac_rfl)) (H10.out.2.cast (show _ = strRow v P.L.list * (diskP d P.S * (old W * (strRow v9 P.L.list * (strRow v10 P.L.list * (logP l9 d P.L * (logP l10 d P.L * Z2)))))) by ac_rfl)) (by omega) (by omega)).mono ?_
        rintro e w11 ⟨rfl, hk⟩
        rw [decide_self]
        have H11 := Lib.hid (And.intro (H10.out.1.trans hk.ext) (H10.out.2.kept hk))
        clear hk H10
        go_wp2_with fail
        refine (same_rows (H11.out.2.cast (show _ = strRow v10 P.L.list * (diskP d P.S * (old W * (strRow v P.L.list * (strRow v9 P.L.list * (logP l9 d P.L * (logP l10 d P.L * Z2)))))) by ac_rfl)) (H11.out.2.cast (show _ = strRow v P.L.list * (diskP d P.S * (old W * (strRow v9 P.L.list * (strRow v10 P.L.list * (logP l9 d P.L * (logP l10 d P.L * Z2)))))) by ac_rfl)) (by omega) (by omega)).mono ?_
        rintro e w12 ⟨rfl, hk⟩
        rw [decide_self]
        have H12 := Lib.hid (And.intro (H11.out.1.trans hk.ext) (H11.out.2.kept hk))
        clear hk H11
        go_wp2_with fail
        refine (records_l l9 d P.L (by omega) _ w12 (H12.out.2.cast (show _ = logP l9 d P.L * (diskP d P.S * (old W * (strRow v P.L.list * (strRow v9 P.L.list * (strRow v10 P.L.list * (logP l10 d P.L * Z2)))))) by ac_rfl))).mono ?_
        rintro e w13 ⟨v13, rfl, hk, hs⟩
        have H13 := Lib.hid (And.intro (H12.out.1.trans hk.ext) hs)
        clear hk hs H12
        go_wp2_with fail
        refine (same_rows H13.out.2 (H13.out.2.cast (show _ = strRow v P.L.list * (strRow v13 P.L.list * (logP l9 d P.L * (diskP d P.S * (old W * (strRow v9 P.L.list * (strRow v10 P.L.list * (logP l10 d P.L * Z2))))))) by ac_rfl)) (by omega) (by omega)).mono ?_
        rintro e w14 ⟨rfl, hk⟩
        rw [decide_self]
        have H14 := Lib.hid (And.intro (H13.out.1.trans hk.ext) (H13.out.2.kept hk))
        clear hk H13
        go_wp2_with fail
        go_ret
        exact ⟨rfl, kept_old H14.out.1 (H14.out.2.cast (show _ = old W * (strRow v13 P.L.list * (logP l9 d P.L * (diskP d P.S * (strRow v P.L.list * (strRow v9 P.L.list * (strRow v10 P.L.list * (logP l10 d P.L * Z2))))))) by ac_rfl))⟩
end Go.Proofs.YtmemhoiepnlhfaaGreatDoor
