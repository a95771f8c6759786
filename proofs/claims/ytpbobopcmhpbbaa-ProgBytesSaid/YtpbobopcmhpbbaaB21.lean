/- Functions of the program, each with what it computes; no further conditions. -/
import Derived.Test.YtpbobopcmhpbbaaB05
import Derived.Test.YtpbobopcmhpbbaaB20
import Derived.Test.YtpbobopcmhpbbaaB11
import Derived.Test.YtpbobopcmhpbbaaB15
import Derived.Test.YtpbobopcmhpbbaaB16
set_option linter.unusedVariables false
set_option linter.unusedSimpArgs false
namespace Go.Ev
attribute [local go_sem] eq_self bindW_some bindW_map bindW_ite bindW_iteN W_seq W_region W_draw W_cond W_condK W_ret W_skip W_exit W_scope W_label W_block blockK_norm blockK_ret blockK_exit WO_nil WO_cons WO_guard WD_nil WD_cons WD_guard guardV guardW_boolT guardW_boolF guardW_tup fpL_some fpL_none footprint thenK_norm thenK_ret thenK_exit put_some put_none ev_tmp ev_con ev_func ofK_int ofK_bool ofK_str ofK_nil evOp evBuiltin evCall evLen evAppend getElem_16 getElem_4 List.length_cons List.length_nil List.cons_append List.nil_append List.append_nil if_false if_true Bool.false_eq_true Bool.true_eq_false Option.map_some Option.map_none List.map_cons List.map_nil evBinOp evBin evUn asB_bool splitB_decide splitB_true splitB_false splitB_beq splitB_bne splitB_not endK_ret endK_norm List.getElem?_cons_zero List.getElem?_cons_succ evResults evResult packRes retK_norm retK_ret cellsAt mkVal evFieldAddr evField evIndexAddr evPart evStore evBuild evBuildSlice fillC fillE evSlice evMakeSlice evConvert getRow AV.cells List.head?_cons List.drop_zero List.drop_succ_cons List.take_zero List.take_succ_cons List.drop_nil List.take_nil List.all_cons List.all_nil AV.ok Bool.and_self Bool.and_true Bool.true_and and_self and_true true_and Nat.zero_add Nat.add_zero setCells splice pairsOk pairsX altW_none altW_some cfg_al WI_nil WI_cons FP.apart heapEq_refl sameAt_refl Bool.or_true Bool.true_or Bool.or_false srcElems elemsOf mutDst roundK_norm roundK_exit roundK_ret List.length_map List.getElem?_map Int.toNat_natCast decide_true decide_false Bool.not_true Bool.not_false List.set set_0 set_1 set_2 set_3 set_4 look_hit look lookD_hit lookD_cons lookD_nil ins_hit ins upd_hit upd rem1_hit rem1 dropT dropSt_eq initT cfg_dd cfg_bd cfg_ra actL_nil actL_cons act1 updT_hit updT frzB retE_norm retE_ret bndO bnd evEq eqCells not_false_eq_true not_true_eq_false toList_some Array.size_empty List.length_append tySzE List.head?_drop Nat.mul_one sameAt_zero sameAt_two sameAt_three sameAt_four sameAt_five endE_norm endE_ret head_take1 List.contains_nil List.contains_cons Bool.or_self dlt_t dlt_f dle_t dle_f dgt_t dgt_f dge_t dge_f beq_t beq_f bne_t bne_f lt_T le_T nle_T nle_F Go.IntWalk.i64_in Go.IntWalk.i64_quo Go.IntWalk.rem_in room_ok ty0 ty3 ty4 ty22 ty35 ty36 ty41
section
attribute [local go_sem] List.map_append ty53 ty54
open Go.Proofs Go.RowKit Go.IntWalk
set_option maxRecDepth 100000
set_option linter.unusedSimpArgs false
set_option linter.unusedVariables false
set_option maxHeartbeats 8000000

theorem someB {g : Prg} (h : SomeOk g) : PrgB g := ⟨by have := h.len; omega, fun i hi => by have := h.sets i hi; omega⟩
theorem textI_len (l : List Int) (n : Nat) (r : Bool) : (textI l n r).length ≤ n := by simp [textI]; omega

theorem f5 (l m : List Int) (pos most fuel : Int) (raw : List Int) (hl : ∀ x ∈ l, In64 x) (hm : ∀ x ∈ m, In64 x) (h1 : In64 pos) (h2 : In64 most) (h3 : In64 fuel) (h5 : ∀ x ∈ raw, In64 x)
    (lives : ∀ H, call Try.prog pol1 18 [] H = some (.bool true, H)) (H : List MB) :
    call Try.prog pol1 5 [.sl false (l.map I), .sl false (m.map I), I pos, I most, I fuel, .sl false (raw.map I)] H = some (.bool true, H) := by
  refine call_run Try.func5 rfl rfl rfl rfl rfl rfl (fun _ => rfl) (by simp [AV.plain, AV.plainL, plain_ints]) rfl ?_ H
  obtain ⟨_, ⟨g, hg, rfl⟩, c1⟩ := f21 l hl
  have hgb := someB hg
  have hgc := hg.caps
  have hgl := hg.len
  have c2 : ∀ H, call Try.prog pol1 22 [.sl false (m.map I), I 12, .bool true] H = some (.sl false ((textI m 12 true).map I), H) := f22 m hm 12 (by omega) true
  have htl := textI_len m 12 true
  generalize textI m 12 true = t at *
  have c3 := f12 fuel 60 h3 (by omega)
  have c4 := f12 most 6 h2 (by omega)
  have a3 := around_lt (n := fuel) (m := 60) (by omega)
  have a4 := around_lt (n := most) (m := 6) (by omega)
  have c5 := f12 pos ((t.length : Int) + 2) h1 (by omega)
  have a5 := around_lt (n := pos) (m := (t.length : Int) + 2) (by omega)
  have c24 := f24 g (by omega)
  have c27 : ∀ H, call Try.prog pol1 27 [.sl false (raw.map I), I 9] H = some (.sl false ((raw.take 9).map I), H) := f27 raw 9 (by omega)
  have p23 := fun k mo f hf => paths23 g hgb t (by omega) k mo f hf
  have p25 := fun k mo f hf => paths25 g hgb t (by omega) k mo f hf
  have q23 := fun k mo f hf => paths23 g hgb (raw.take 9) (by simp; omega) k mo f hf
  have q25 := fun k mo f hf => paths25 g hgb (raw.take 9) (by simp; omega) k mo f hf
  have small := fun t k mo f (hf : f ≤ 1000000) => resP_small g t k mo f hf (by omega)
  have eqs : ∀ t k mo f, f ≤ 1000000 → ∀ H, call Try.prog pol1 26 [.sl false ((resP g t k mo f).1.map mA), .sl false ((resP g t k mo f).1.map mA)] H = some (.bool true, H) := fun t k mo f hf H => by
    have hs := small t k mo f hf
    have := f26 _ _ hs.1 hs.1 hs.2 hs.2 H
    simpa using this
  have eqT := eqs t
  have eqR := eqs (raw.take 9)
  clear eqs small
  generalize resP g t = rt at *
  generalize resP g (raw.take 9) = rr at *
  generalize aroundI fuel 60 = fu at *
  generalize aroundI most 6 = mo at *
  generalize aroundI pos ((t.length : Int) + 2) = po at *
  simp +contextual (disch := omega) only [Try.f5, dd5, go_sem, ↓reduceIte, List.reduceReplicate, Nat.reduceAdd, Nat.reduceSub, reduceCtorEq, Nat.reduceLeDiff, Nat.reduceMul, Nat.reduceLT, Nat.reduceEqDiff, Int.reduceBNe, Int.reduceBEq, Int.reduceEq, Int.reduceLT, Int.reduceLE, Int.reduceGT, Int.reduceGE, mu5, Nat.reduceBEq, ↓wrap_up, ↓wrap_down, ↓wrap_pred, ↓wrap_sub_nat, Int.reduceToNat, c1, c2, c3, c4]
  refine W_count (M := (mskOf (pol1.mask 5) (pol1.gc 5) (pol1.acts 5) 0 6)) rfl 3 (fun i => (⟨117, [(17, I i), (16, .sl true [I (-1), I (mo - 1), I 3]), (15, .sl true [I 400, I fu, I fuel]), (14, .sl false (t.map I)), (13, .rf 0 1 0 0), (5, .sl false (raw.map I)), (2, I pos)], [.row 3 [prgAV g] 0]⟩ : St)) (fun _ => True) ?_ ?_ trivial _ ?_
  · intro i hi _
    have hi3 : i = 0 ∨ i = 1 ∨ i = 2 := by omega
    rcases hi3 with rfl | rfl | rfl
    · simp +contextual (disch := omega) only [Try.f5, dd5, go_sem, ↓reduceIte, List.reduceReplicate, Nat.reduceAdd, Nat.reduceSub, reduceCtorEq, Nat.reduceLeDiff, Nat.reduceMul, Nat.reduceLT, Nat.reduceEqDiff, Int.reduceBNe, Int.reduceBEq, Int.reduceEq, Int.reduceLT, Int.reduceLE, Int.reduceGT, Int.reduceGE, mu5, Nat.reduceBEq, ↓wrap_up, ↓wrap_down, ↓wrap_pred, ↓wrap_sub_nat, Int.reduceToNat, c24, c5, p23, p25, eqT, evMin]
      repeat' (first | intro _ | apply And.intro | (unfold dOk; kernel_rfl) | exact St.beq_refl _ | (show altO _ _ _ _ = true; kernel_rfl) | (show (_ || _) = true; kernel_rfl) | (show (_ && _) = true; kernel_rfl))
      all_goals exact (by first | rfl | (simp [keepT, AV.underL, AV.under, MB.under, underL_plain, under_plain, underL_append, plain_ints, plain_span, plain_ins, plain_prg, -List.map_take, -List.map_replicate, -List.map_set]; done))
    · simp +contextual (disch := omega) only [Try.f5, dd5, go_sem, ↓reduceIte, List.reduceReplicate, Nat.reduceAdd, Nat.reduceSub, reduceCtorEq, Nat.reduceLeDiff, Nat.reduceMul, Nat.reduceLT, Nat.reduceEqDiff, Int.reduceBNe, Int.reduceBEq, Int.reduceEq, Int.reduceLT, Int.reduceLE, Int.reduceGT, Int.reduceGE, mu5, Nat.reduceBEq, ↓wrap_up, ↓wrap_down, ↓wrap_pred, ↓wrap_sub_nat, Int.reduceToNat, c24, c5, p23, p25, eqT, evMin]
      repeat' (first | intro _ | apply And.intro | (unfold dOk; kernel_rfl) | exact St.beq_refl _ | (show altO _ _ _ _ = true; kernel_rfl) | (show (_ || _) = true; kernel_rfl) | (show (_ && _) = true; kernel_rfl))
      all_goals exact (by first | rfl | (simp [keepT, AV.underL, AV.under, MB.under, underL_plain, under_plain, underL_append, plain_ints, plain_span, plain_ins, plain_prg, -List.map_take, -List.map_replicate, -List.map_set]; done))
    · simp +contextual (disch := omega) only [Try.f5, dd5, go_sem, ↓reduceIte, List.reduceReplicate, Nat.reduceAdd, Nat.reduceSub, reduceCtorEq, Nat.reduceLeDiff, Nat.reduceMul, Nat.reduceLT, Nat.reduceEqDiff, Int.reduceBNe, Int.reduceBEq, Int.reduceEq, Int.reduceLT, Int.reduceLE, Int.reduceGT, Int.reduceGE, mu5, Nat.reduceBEq, ↓wrap_up, ↓wrap_down, ↓wrap_pred, ↓wrap_sub_nat, Int.reduceToNat, c24, c5, p23, p25, eqT, evMin]
      repeat' (first | intro _ | apply And.intro | (unfold dOk; kernel_rfl) | exact St.beq_refl _ | (show altO _ _ _ _ = true; kernel_rfl) | (show (_ || _) = true; kernel_rfl) | (show (_ && _) = true; kernel_rfl))
      all_goals exact (by first | rfl | (simp [keepT, AV.underL, AV.under, MB.under, underL_plain, under_plain, underL_append, plain_ints, plain_span, plain_ins, plain_prg, -List.map_take, -List.map_replicate, -List.map_set]; done))
  · intro _
    simp +contextual (disch := omega) only [Try.f5, dd5, go_sem, ↓reduceIte, List.reduceReplicate, Nat.reduceAdd, Nat.reduceSub, reduceCtorEq, Nat.reduceLeDiff, Nat.reduceMul, Nat.reduceLT, Nat.reduceEqDiff, Int.reduceBNe, Int.reduceBEq, Int.reduceEq, Int.reduceLT, Int.reduceLE, Int.reduceGT, Int.reduceGE, mu5, Nat.reduceBEq, ↓wrap_up, ↓wrap_down, ↓wrap_pred, ↓wrap_sub_nat, Int.reduceToNat, c24, c27, q23, q25, eqR, lives]
    repeat' (first | intro _ | apply And.intro | (unfold dOk; kernel_rfl) | exact St.beq_refl _ | (show altO _ _ _ _ = true; kernel_rfl) | (show (_ || _) = true; kernel_rfl) | (show (_ && _) = true; kernel_rfl))
    all_goals exact fzEq rfl rfl
  · exact (by first | rfl | (simp [keepT, AV.underL, AV.under, MB.under, underL_plain, under_plain, underL_append, plain_ints, plain_span, plain_ins, plain_prg, -List.map_take, -List.map_replicate, -List.map_set]; done))
end
section
attribute [local go_sem] ty5 ty33 ty37 ty71 ty74 ty76 ty83
open Go.Proofs Go.RowKit Go.IntWalk
set_option maxRecDepth 100000
set_option linter.unusedSimpArgs false
set_option linter.unusedVariables false
set_option maxHeartbeats 8000000

theorem spans64 {s : List (Int × Int)} (h : refSpans s = 0) : In64S s := by
  intro p hp
  obtain ⟨k, hk, e⟩ := List.getElem_of_mem hp
  have hb : badAt s k = false := by
    cases hb : badAt s k with
    | false => rfl
    | true => rw [refSpans_bad hk hb] at h; cases h
  have hg : s[k]? = some p := by rw [← e]; exact List.getElem?_eq_getElem hk
  simp only [badAt, hg, Bool.or_eq_false_iff, Bool.not_eq_false', decide_eq_true_eq] at hb
  have := hb.1
  constructor <;> constructor <;> omega
theorem ok64 {n : Nat} {c : Int} {r : Bool} {i : Ins} (hn : n ≤ 10000) (hc : c ≤ 100) (h : okIns n c r i = true) : Ins64 i := by
  have hs : In64S i.set := by
    simp only [okIns, Bool.and_eq_true, Bool.or_eq_true, beq_iff_eq] at h
    rcases h.1.1.1.1 with e | e
    · have : refSpans i.set = 0 := by
        simp [e] at h
        exact h.2.1
      exact spans64 this
    · intro p hp
      rw [List.length_eq_zero_iff.1 e] at hp
      simp at hp
  simp only [okIns, Bool.and_eq_true, Bool.or_eq_true, beq_iff_eq, decide_eq_true_eq] at h
  refine ⟨?_, ?_, ?_, ?_, hs⟩ <;> constructor <;> omega
theorem some64 {g : Prg} (h : SomeOk g) : ∀ i ∈ g.ins, Ins64 i := fun i hi => ok64 (by have := h.len; omega) (by have := h.caps; omega) (h.ok i hi)
theorem ins64I {i : Ins} (h : Ins64 i) (hl : i.set.length ≤ 1000) : In64I i := ⟨h.op, h.x, h.y, h.n, h.set, hl⟩
theorem iE_byte (v : Int) : ∀ x ∈ iE v, 0 ≤ x ∧ x < 256 := vI_byte _
theorem setE_byte (s : List (Int × Int)) : ∀ x ∈ setE s, 0 ≤ x ∧ x < 256 := by
  intro x hx
  rcases List.mem_append.1 hx with h | h
  · exact iE_byte _ x h
  · obtain ⟨p, _, hp⟩ := List.mem_flatMap.1 h
    rcases List.mem_append.1 hp with h | h
    · exact iE_byte _ x h
    · exact iE_byte _ x h
theorem insE_byte (i : Ins) : ∀ x ∈ insE i, 0 ≤ x ∧ x < 256 := by
  intro x hx
  unfold insE at hx
  rcases List.mem_append.1 hx with h | h
  · rcases List.mem_append.1 h with h | h
    · rcases List.mem_append.1 h with h | h
      · rcases List.mem_append.1 h with h | h
        · exact iE_byte _ x h
        · exact iE_byte _ x h
      · exact iE_byte _ x h
    · exact iE_byte _ x h
  · split at h
    · rcases List.mem_append.1 h with h | h
      · exact vI_byte _ x h
      · exact setE_byte _ x h
    · simp at h
theorem prgE_byte (g : Prg) : ∀ x ∈ prgE g, 0 ≤ x ∧ x < 256 := by
  intro x hx
  unfold prgE at hx
  rcases List.mem_append.1 hx with h | h
  · rcases List.mem_append.1 h with h | h
    · rcases List.mem_append.1 h with h | h
      · exact iE_byte _ x h
      · cases g.runes <;> simp [boolE] at h <;> omega
    · exact iE_byte _ x h
  · obtain ⟨p, _, hp⟩ := List.mem_flatMap.1 h
    exact insE_byte p x hp
theorem prgE_pos (g : Prg) : 1 ≤ (prgE g).length := by
  have := vI_pos (zz g.caps)
  simp only [prgE, iE, List.length_append]
  omega
theorem some_valid {g : Prg} (hg : SomeOk g) : validG g = 0 := by
  unfold validG
  have h1 := hg.len
  have h2 := hg.caps
  have h3 : (g.ins.all (okIns g.ins.length g.caps g.runes)) = true := by rw [List.all_eq_true]; exact hg.ok
  rw [if_neg (by omega), if_neg (by omega), h3, hg.last]
  rfl

theorem f9 (l : List Int) (pos how by_ : Int) (raw : List Int) (k c : Int) (hl : ∀ x ∈ l, In64 x) (h1 : In64 pos) (h2 : In64 how) (h3 : In64 by_) (hraw : ∀ x ∈ raw, 0 ≤ x ∧ x < 256) (h4 : In64 k) (h5 : 0 ≤ c ∧ c < 256) (H : List MB) :
    call Try.prog pol1 9 [.sl false (l.map I), I pos, I how, I by_, .sl false (raw.map B8), I k, B8 c] H = some (.bool true, H) := by
  refine call_run Try.func9 rfl rfl rfl rfl rfl rfl (fun _ => rfl) (by simp [AV.plain, AV.plainL, plain_ints, plain_bytes]) rfl ?_ H
  obtain ⟨_, ⟨g, hg, rfl⟩, c1⟩ := f21 l hl
  have hgc := hg.caps
  have hgl := hg.len
  have hg64 := some64 hg
  obtain ⟨_, ⟨h, hh, rfl⟩, c2⟩ := f28M g 12 1 (by omega) (by omega) ⟨hgl.2, hg.sets, ⟨by omega, by omega⟩, hg64⟩ pos how by_ h1 h2 h3
  have c24 := f24 g (by omega)
  have gP : In64P g := ⟨⟨by omega, by omega⟩, fun i hi => ins64I (hg64 i hi) (by have := hg.sets i hi; omega), by omega⟩
  have hP : In64P h := ⟨hh.caps, fun i hi => ins64I (hh.i64 i hi) (by have := hh.sets i hi; omega), by have := hh.len; omega⟩
  have hB : PrgB h := ⟨by have := hh.len; omega, fun i hi => by have := hh.sets i hi; omega⟩
  have c33 := f33 g gP
  have c38 := f38 g gP
  have c38h := f38 h hP
  have c29 := f29 h hB
  have hgv := some_valid hg
  have hdg := prgD_on hgv hg64
  have hEl := prgE_len gP
  have hEp := prgE_pos g
  have hEb := prgE_byte g
  have hHl := prgE_len hP
  have hHb := prgE_byte h
  have hdh : ∀ e, prgD (prgE h) = e → (∃ y, e = some y) ∨ (e = none ∧ validG h ≠ 0) := fun e he => by
    cases e with
    | some y => exact .inl ⟨y, rfl⟩
    | none =>
      refine .inr ⟨rfl, fun hv => ?_⟩
      rw [prgD_on hv hh.i64] at he
      cases he
  have c39g := f39 (prgE g) hEb (by omega)
  rw [hdg] at c39g
  have c17 := f17 g (by omega)
  have c16 := f16 g (by omega) (fun i hi => by have := hg.sets i hi; omega)
  generalize hE : prgE g = E at *
  generalize hF : prgE h = F at *
  obtain ⟨n, hn⟩ : ∃ n, E.length = n := ⟨_, rfl⟩
  have hE0 : E ≠ [] := fun e => by rw [e] at hEp; simp at hEp
  have hR0 : rawE E ≠ [] := fun e => by simp [rawE] at e; exact hE0 e.2
  have hvl := vI_len10 (n := E.length) (by omega)
  have hRl : (rawE E).length = (vI E.length).length + n := by simp [rawE, hn]
  have hRb : ∀ x ∈ rawE E, 0 ≤ x ∧ x < 256 := fun x hx => by
    rcases List.mem_append.1 hx with h | h
    · exact vI_byte _ x h
    · exact hEb x h
  have c34 := f34 [.row 3 [prgAV g] 0, .row 3 [prgAV h] 0] [] [] E 0 rfl (by omega) (by omega)
  have c36 := f36 [.row 3 [prgAV g] 0, .row 3 [prgAV h] 0] [] (rawE E) _ rfl (by omega) hR0
  simp only [wrH, List.nil_append, Nat.zero_add, List.map_nil, List.cons_append, List.length_cons, List.length_nil, Nat.reduceAdd] at c34 c36
  have c35 := f35 [.row 3 [prgAV g] 0, .row 3 [prgAV h] 0, .row 1 [.agg [.ms 3 1 (rawE E).length 0 (rawE E).length]] 0, .row 1 ((rawE E).map B8) 0] (rawE E) _ rfl hR0 (by omega)
  have hrd : RdOk ⟨rawE E, 0, 0⟩ := ⟨by simp only; omega, Nat.zero_le _, hRb⟩
  have c40 := f40 [.row 3 [prgAV g] 0, .row 3 [prgAV h] 0, .row 1 [.agg [.ms 3 1 (rawE E).length 0 (rawE E).length]] 0, .row 1 ((rawE E).map B8) 0, .row 1 ((rawE E).map B8) (rawE E).length] [] ⟨rawE E, 0, 0⟩ hrd
  obtain ⟨s1, hs1, _, _⟩ := rawR_on (s := ⟨rawE E, 0, 0⟩) (b := E) (r := []) (by omega) (by rw [List.append_nil]; exact On.start _)
  rw [hs1] at c40
  simp only [List.cons_append, List.nil_append, List.length_cons, List.length_nil, Nat.reduceAdd] at c35 c40
  have c37 := f37 E E (by omega) (by omega)
  simp only [decide_true] at c37
  have hnp : ofK (.pointer none) = .nilp := rfl
  have c41 := fun H => f41 E n (by rw [List.take_of_length_le (by omega)]; exact hE0) (by omega) n (by rw [List.take_of_length_le (by omega)]; exact hn) H
  rw [List.take_of_length_le (by omega)] at c41
  have ha := around_lt (n := k) (m := (n : Int)) (by omega)
  have c12 := f12 k (n : Int) h4 (by omega)
  obtain ⟨j, hj⟩ : ∃ j : Nat, aroundI k (n : Int) = j := ⟨(aroundI k (n : Int)).toNat, by omega⟩
  rw [hj] at c12 ha
  obtain ⟨D, hD⟩ : ∃ D, E.set j c = D := ⟨_, rfl⟩
  have hset : (E.map B8).set j (B8 c) = D.map B8 := by rw [← hD, List.map_set]
  have hDl : D.length = n := by rw [← hD, List.length_set]; exact hn
  have hDb : ∀ x ∈ D, 0 ≤ x ∧ x < 256 := fun x hx => by
    rw [← hD] at hx
    rcases List.mem_or_eq_of_mem_set hx with h | h
    · exact hEb x h
    · rw [h]; exact h5
  have hfz : ∀ a0 a1 a2 a3 a4 a5 a6 : MB, fz (.ms 7 1 n 0 n) [a0, a1, a2, a3, a4, a5, a6, .row 1 (D.map B8) 0] = some (.sl false (D.map B8), [a0, a1, a2, a3, a4, a5, a6, .row 1 (D.map B8) n]) := fun a0 a1 a2 a3 a4 a5 a6 => by
    rw [fz_row (id := 7) (k := 1) (z := 0) (els := D.map B8) rfl (by rw [List.length_map]; exact hDl) (plain_bytes D)]
    simp [mark, getRow]
  have hal := bytes1_ok E
  obtain ⟨e0, he0⟩ : ∃ e, E[j]? = some e := ⟨_, List.getElem?_eq_getElem (by omega)⟩
  simp +contextual (disch := omega) only [Try.f9, dd9, go_sem, ↓reduceIte, List.reduceReplicate, Nat.reduceAdd, Nat.reduceSub, reduceCtorEq, Nat.reduceLeDiff, Nat.reduceMul, Nat.reduceLT, Nat.reduceEqDiff, Int.reduceBNe, Int.reduceBEq, Int.reduceEq, Int.reduceLT, Int.reduceLE, Int.reduceGT, Int.reduceGE, mu9, Nat.reduceBEq, ↓wrap_up, ↓wrap_down, ↓wrap_pred, ↓wrap_sub_nat, Int.reduceToNat, c1, c2, c24, c33, c34, c36, c35, c38, c37, hn, c40, c39g, evEq, hnp, c17, c16, c41, c12, he0, hset, hfz]
  refine ⟨by unfold dOk; kernel_rfl, by unfold dOk; kernel_rfl, ?_⟩
  have htkE : List.take (n - 1) (E.map B8) = (E.take (n - 1)).map B8 := by rw [List.map_take]
  have pl : ∀ (j : List AV → List MB → Option (List AV × List MB)) (x : List Int) (H : List MB), fzL j (x.map B8) H = some (x.map B8, H) := fun j x H => fzL_plain _ _ _ (plain_bytes x)
  obtain ⟨Ls, hLs⟩ : ∃ Ls : List (List Int), Ls = [raw.take 60, D, E.take (n - 1), F] := ⟨_, rfl⟩
  have hL4 : Ls.length = 4 := by rw [hLs]; rfl
  have hLb : ∀ x ∈ Ls, x.length ≤ 1000000000 ∧ ∀ y ∈ x, 0 ≤ y ∧ y < 256 := fun x hx => by
    rw [hLs] at hx
    simp only [List.mem_cons, List.not_mem_nil, or_false] at hx
    rcases hx with rfl | rfl | rfl | rfl
    · exact ⟨by rw [List.length_take]; omega, fun y hy => hraw y (List.mem_of_mem_take hy)⟩
    · exact ⟨by omega, hDb⟩
    · exact ⟨by rw [List.length_take]; omega, fun y hy => hEb y (List.mem_of_mem_take hy)⟩
    · exact ⟨by omega, hHb⟩
  have each : ∀ x ∈ Ls, (prgD x = none ∧ ∀ H, call Try.prog pol1 39 [.sl false (x.map B8)] H = some (.tup [.agg [.sl false [], I 0, .bool false], I 2], H)) ∨
      ∃ y : Prg, (∀ H, call Try.prog pol1 39 [.sl false (x.map B8)] H = some (.tup [prgAV y, I 0], H)) ∧ (∀ H, call Try.prog pol1 30 [prgAV y] H = some (I 0, H)) ∧ (∀ H, call Try.prog pol1 33 [prgAV y] H = some (.sl false (x.map B8), H)) ∧
        ∀ H, call Try.prog pol1 37 [.sl false (x.map B8), .sl false (x.map B8)] H = some (.bool true, H) := fun x hx => by
    obtain ⟨b1, b2⟩ := hLb x hx
    have c39 := f39 x b2 b1
    cases hd : prgD x with
    | none => rw [hd] at c39; exact .inl ⟨rfl, c39⟩
    | some y =>
      rw [hd] at c39
      obtain ⟨p1, p2, p3, p4⟩ := prgD_of b1 b2 hd
      have p5 := valid_insC p2 (fun i hi => (p4 i hi).i64)
      have hset : ∀ i ∈ y.ins, i.set.length ≤ 64 := fun i hi => by
        by_cases ho : i.op = 1
        · exact ((p4 i hi).set ho).2
        · rw [(p4 i hi).none ho]; simp
      have q1 := f30 y ⟨by have := p5.2.2.1; omega, fun i hi => by have := hset i hi; omega⟩
      rw [p2] at q1
      have q2 := f33 y ⟨p3, fun i hi => ins64I (p4 i hi).i64 (by have := hset i hi; omega), by have := p5.2.2.1; omega⟩
      rw [p1] at q2
      have q3 := f37 x x b1 b1
      simp only [decide_true] at q3
      exact .inr ⟨y, c39, q1, q2, q3⟩
  have hFL : F ∈ Ls := by rw [hLs]; simp
  have hLu : ∀ n, AV.underL n (Ls.map fun x => AV.sl false (x.map B8)) = true := fun n => by
    refine underL_plain n _ ?_
    rw [plainL_iff]
    intro y hy
    obtain ⟨x, _, rfl⟩ := List.mem_map.1 hy
    simp [AV.plain, plain_bytes]
  by_cases hr0 : raw.take 60 = []
  · have c41r : ∀ H, call Try.prog pol1 41 [.sl false (raw.map B8), I 60] H = _ := f41e raw 60 hr0
    have hfr : ∀ b H, fz (.sl true [.sl false [], .sl false (D.map B8), .sl b ((E.take (n - 1)).map B8), .sl false (F.map B8)]) H = some (.sl false (Ls.map fun x => .sl false (x.map B8)), H) := fun b H => by
      rw [hLs, hr0]
      simp only [fz, fzA_sl, fzL, pl]
      rfl
    simp +contextual (disch := omega) only [Try.f9, dd9, go_sem, ↓reduceIte, List.reduceReplicate, Nat.reduceAdd, Nat.reduceSub, reduceCtorEq, Nat.reduceLeDiff, Nat.reduceMul, Nat.reduceLT, Nat.reduceEqDiff, Int.reduceBNe, Int.reduceBEq, Int.reduceEq, Int.reduceLT, Int.reduceLE, Int.reduceGT, Int.reduceGE, mu9, Nat.reduceBEq, ↓wrap_up, ↓wrap_down, ↓wrap_pred, ↓wrap_sub_nat, Int.reduceToNat, c41r, c38h, hal, hn, htkE, hfr]
    refine ⟨hal, ?_⟩
    refine W_count (M := (mskOf (pol1.mask 9) (pol1.gc 9) (pol1.acts 9) 0 16)) rfl 4 (fun i => (⟨153, [(24, I i), (23, .sl false (Ls.map fun x => .sl false (x.map B8))), (16, .rf 1 1 0 0)], [.row 3 [prgAV g] 0, .row 3 [prgAV h] 0, .row 1 [.agg [.ms 3 1 (rawE E).length 0 (rawE E).length]] 0, .row 1 ((rawE E).map B8) 0, .row 1 ((rawE E).map B8) (rawE E).length, rdB s1, .row 3 [prgAV g] 0]⟩ : St)) (fun _ => True) ?_ ?_ trivial _ ?_
    · intro i hi _
      obtain ⟨x, hx⟩ : ∃ x, Ls[i]? = some x := ⟨_, List.getElem?_eq_getElem (by omega)⟩
      rcases each x (List.mem_of_getElem? hx) with ⟨_, e1⟩ | ⟨y, e1, e2, e3, e4⟩
      · simp +contextual (disch := omega) only [Try.f9, dd9, go_sem, ↓reduceIte, List.reduceReplicate, Nat.reduceAdd, Nat.reduceSub, reduceCtorEq, Nat.reduceLeDiff, Nat.reduceMul, Nat.reduceLT, Nat.reduceEqDiff, Int.reduceBNe, Int.reduceBEq, Int.reduceEq, Int.reduceLT, Int.reduceLE, Int.reduceGT, Int.reduceGE, mu9, Nat.reduceBEq, ↓wrap_up, ↓wrap_down, ↓wrap_pred, ↓wrap_sub_nat, Int.reduceToNat, hx, e1]
        exact ⟨by unfold dOk; kernel_rfl, (by first | rfl | (refine prep_to (n := 7) (m := ⟨some [24, 23, 16], some 7, []⟩) rfl rfl ?_ ?_ ?_ <;> first | rfl | (simp [keepT, AV.underL, AV.under, MB.under, underL_plain, under_plain, underL_append, plain_ints, plain_span, plain_ins, plain_prg, -List.map_take, -List.map_replicate, -List.map_set, plain_bytes, hLu]; done) | (simp [keepT, AV.underL, AV.under, MB.under, underL_plain, under_plain, underL_append, plain_ints, plain_span, plain_ins, plain_prg, -List.map_take, -List.map_replicate, -List.map_set, plain_bytes, hLu]; omega)))⟩
      · simp +contextual (disch := omega) only [Try.f9, dd9, go_sem, ↓reduceIte, List.reduceReplicate, Nat.reduceAdd, Nat.reduceSub, reduceCtorEq, Nat.reduceLeDiff, Nat.reduceMul, Nat.reduceLT, Nat.reduceEqDiff, Int.reduceBNe, Int.reduceBEq, Int.reduceEq, Int.reduceLT, Int.reduceLE, Int.reduceGT, Int.reduceGE, mu9, Nat.reduceBEq, ↓wrap_up, ↓wrap_down, ↓wrap_pred, ↓wrap_sub_nat, Int.reduceToNat, hx, e1, e2, e3, e4]
        exact ⟨by unfold dOk; kernel_rfl, (by first | rfl | (refine prep_to (n := 7) (m := ⟨some [24, 23, 16], some 7, []⟩) rfl rfl ?_ ?_ ?_ <;> first | rfl | (simp [keepT, AV.underL, AV.under, MB.under, underL_plain, under_plain, underL_append, plain_ints, plain_span, plain_ins, plain_prg, -List.map_take, -List.map_replicate, -List.map_set, plain_bytes, hLu]; done) | (simp [keepT, AV.underL, AV.under, MB.under, underL_plain, under_plain, underL_append, plain_ints, plain_span, plain_ins, plain_prg, -List.map_take, -List.map_replicate, -List.map_set, plain_bytes, hLu]; omega)))⟩
    · intro _
      have c18 := f18
      rcases each F hFL with ⟨hd, e1⟩ | ⟨y, e1, e2, e3, e4⟩
      · have hvh : validG h ≠ 0 := by
          rcases hdh none hd with ⟨y, hy⟩ | ⟨_, hv⟩
          · cases hy
          · exact hv
        simp +contextual (disch := omega) only [Try.f9, dd9, go_sem, ↓reduceIte, List.reduceReplicate, Nat.reduceAdd, Nat.reduceSub, reduceCtorEq, Nat.reduceLeDiff, Nat.reduceMul, Nat.reduceLT, Nat.reduceEqDiff, Int.reduceBNe, Int.reduceBEq, Int.reduceEq, Int.reduceLT, Int.reduceLE, Int.reduceGT, Int.reduceGE, mu9, Nat.reduceBEq, ↓wrap_up, ↓wrap_down, ↓wrap_pred, ↓wrap_sub_nat, Int.reduceToNat, c38h, e1, c29, hvh, c18]
        exact fzEq rfl rfl
      · simp +contextual (disch := omega) only [Try.f9, dd9, go_sem, ↓reduceIte, List.reduceReplicate, Nat.reduceAdd, Nat.reduceSub, reduceCtorEq, Nat.reduceLeDiff, Nat.reduceMul, Nat.reduceLT, Nat.reduceEqDiff, Int.reduceBNe, Int.reduceBEq, Int.reduceEq, Int.reduceLT, Int.reduceLE, Int.reduceGT, Int.reduceGE, mu9, Nat.reduceBEq, ↓wrap_up, ↓wrap_down, ↓wrap_pred, ↓wrap_sub_nat, Int.reduceToNat, c38h, e1, c18]
        exact fzEq rfl rfl
    · exact (by first | rfl | (refine prep_to (n := 7) (m := ⟨some [24, 23, 16], some 7, []⟩) rfl rfl ?_ ?_ ?_ <;> first | rfl | (simp [keepT, AV.underL, AV.under, MB.under, underL_plain, under_plain, underL_append, plain_ints, plain_span, plain_ins, plain_prg, -List.map_take, -List.map_replicate, -List.map_set, plain_bytes, hLu]; done) | (simp [keepT, AV.underL, AV.under, MB.under, underL_plain, under_plain, underL_append, plain_ints, plain_span, plain_ins, plain_prg, -List.map_take, -List.map_replicate, -List.map_set, plain_bytes, hLu]; omega)))
  · have c41r : ∀ H, call Try.prog pol1 41 [.sl false (raw.map B8), I 60] H = _ := fun H => f41 raw 60 hr0 (by omega) _ rfl H
    have hfr : ∀ b (a0 a1 a2 a3 a4 a5 a6 a7 : MB), fz (.sl true [.ms 8 1 (raw.take 60).length 0 (raw.take 60).length, .sl false (D.map B8), .sl b ((E.take (n - 1)).map B8), .sl false (F.map B8)]) [a0, a1, a2, a3, a4, a5, a6, a7, .row 1 ((raw.take 60).map B8) 0] =
        some (.sl false (Ls.map fun x => .sl false (x.map B8)), [a0, a1, a2, a3, a4, a5, a6, a7, .row 1 ((raw.take 60).map B8) (raw.take 60).length]) := fun b a0 a1 a2 a3 a4 a5 a6 a7 => by
      rw [hLs]
      have hz := fzA_row (n := 5) (id := 8) (k := 1) (z := 0) (H := [a0, a1, a2, a3, a4, a5, a6, a7, .row 1 ((raw.take 60).map B8) 0]) (els := (raw.take 60).map B8) (tot := (raw.take 60).length) rfl (by rw [List.length_map]) (plain_bytes _)
      generalize raw.take 60 = R at *
      simp only [fz, fzA_sl, fzL, hz, pl]
      simp [mark, getRow]
    simp +contextual (disch := omega) only [Try.f9, dd9, go_sem, ↓reduceIte, List.reduceReplicate, Nat.reduceAdd, Nat.reduceSub, reduceCtorEq, Nat.reduceLeDiff, Nat.reduceMul, Nat.reduceLT, Nat.reduceEqDiff, Int.reduceBNe, Int.reduceBEq, Int.reduceEq, Int.reduceLT, Int.reduceLE, Int.reduceGT, Int.reduceGE, mu9, Nat.reduceBEq, ↓wrap_up, ↓wrap_down, ↓wrap_pred, ↓wrap_sub_nat, Int.reduceToNat, c41r, c38h, hal, hn, htkE, hfr]
    refine ⟨hal, by show (_ || _) = true; kernel_rfl, ?_⟩
    refine W_count (M := (mskOf (pol1.mask 9) (pol1.gc 9) (pol1.acts 9) 0 16)) rfl 4 (fun i => (⟨153, [(24, I i), (23, .sl false (Ls.map fun x => .sl false (x.map B8))), (16, .rf 1 1 0 0)], [.row 3 [prgAV g] 0, .row 3 [prgAV h] 0, .row 1 [.agg [.ms 3 1 (rawE E).length 0 (rawE E).length]] 0, .row 1 ((rawE E).map B8) 0, .row 1 ((rawE E).map B8) (rawE E).length, rdB s1, .row 3 [prgAV g] 0]⟩ : St)) (fun _ => True) ?_ ?_ trivial _ ?_
    · intro i hi _
      obtain ⟨x, hx⟩ : ∃ x, Ls[i]? = some x := ⟨_, List.getElem?_eq_getElem (by omega)⟩
      rcases each x (List.mem_of_getElem? hx) with ⟨_, e1⟩ | ⟨y, e1, e2, e3, e4⟩
      · simp +contextual (disch := omega) only [Try.f9, dd9, go_sem, ↓reduceIte, List.reduceReplicate, Nat.reduceAdd, Nat.reduceSub, reduceCtorEq, Nat.reduceLeDiff, Nat.reduceMul, Nat.reduceLT, Nat.reduceEqDiff, Int.reduceBNe, Int.reduceBEq, Int.reduceEq, Int.reduceLT, Int.reduceLE, Int.reduceGT, Int.reduceGE, mu9, Nat.reduceBEq, ↓wrap_up, ↓wrap_down, ↓wrap_pred, ↓wrap_sub_nat, Int.reduceToNat, hx, e1]
        exact ⟨by unfold dOk; kernel_rfl, (by first | rfl | (refine prep_to (n := 7) (m := ⟨some [24, 23, 16], some 7, []⟩) rfl rfl ?_ ?_ ?_ <;> first | rfl | (simp [keepT, AV.underL, AV.under, MB.under, underL_plain, under_plain, underL_append, plain_ints, plain_span, plain_ins, plain_prg, -List.map_take, -List.map_replicate, -List.map_set, plain_bytes, hLu]; done) | (simp [keepT, AV.underL, AV.under, MB.under, underL_plain, under_plain, underL_append, plain_ints, plain_span, plain_ins, plain_prg, -List.map_take, -List.map_replicate, -List.map_set, plain_bytes, hLu]; omega)))⟩
      · simp +contextual (disch := omega) only [Try.f9, dd9, go_sem, ↓reduceIte, List.reduceReplicate, Nat.reduceAdd, Nat.reduceSub, reduceCtorEq, Nat.reduceLeDiff, Nat.reduceMul, Nat.reduceLT, Nat.reduceEqDiff, Int.reduceBNe, Int.reduceBEq, Int.reduceEq, Int.reduceLT, Int.reduceLE, Int.reduceGT, Int.reduceGE, mu9, Nat.reduceBEq, ↓wrap_up, ↓wrap_down, ↓wrap_pred, ↓wrap_sub_nat, Int.reduceToNat, hx, e1, e2, e3, e4]
        exact ⟨by unfold dOk; kernel_rfl, (by first | rfl | (refine prep_to (n := 7) (m := ⟨some [24, 23, 16], some 7, []⟩) rfl rfl ?_ ?_ ?_ <;> first | rfl | (simp [keepT, AV.underL, AV.under, MB.under, underL_plain, under_plain, underL_append, plain_ints, plain_span, plain_ins, plain_prg, -List.map_take, -List.map_replicate, -List.map_set, plain_bytes, hLu]; done) | (simp [keepT, AV.underL, AV.under, MB.under, underL_plain, under_plain, underL_append, plain_ints, plain_span, plain_ins, plain_prg, -List.map_take, -List.map_replicate, -List.map_set, plain_bytes, hLu]; omega)))⟩
    · intro _
      have c18 := f18
      rcases each F hFL with ⟨hd, e1⟩ | ⟨y, e1, e2, e3, e4⟩
      · have hvh : validG h ≠ 0 := by
          rcases hdh none hd with ⟨y, hy⟩ | ⟨_, hv⟩
          · cases hy
          · exact hv
        simp +contextual (disch := omega) only [Try.f9, dd9, go_sem, ↓reduceIte, List.reduceReplicate, Nat.reduceAdd, Nat.reduceSub, reduceCtorEq, Nat.reduceLeDiff, Nat.reduceMul, Nat.reduceLT, Nat.reduceEqDiff, Int.reduceBNe, Int.reduceBEq, Int.reduceEq, Int.reduceLT, Int.reduceLE, Int.reduceGT, Int.reduceGE, mu9, Nat.reduceBEq, ↓wrap_up, ↓wrap_down, ↓wrap_pred, ↓wrap_sub_nat, Int.reduceToNat, c38h, e1, c29, hvh, c18]
        exact fzEq rfl rfl
      · simp +contextual (disch := omega) only [Try.f9, dd9, go_sem, ↓reduceIte, List.reduceReplicate, Nat.reduceAdd, Nat.reduceSub, reduceCtorEq, Nat.reduceLeDiff, Nat.reduceMul, Nat.reduceLT, Nat.reduceEqDiff, Int.reduceBNe, Int.reduceBEq, Int.reduceEq, Int.reduceLT, Int.reduceLE, Int.reduceGT, Int.reduceGE, mu9, Nat.reduceBEq, ↓wrap_up, ↓wrap_down, ↓wrap_pred, ↓wrap_sub_nat, Int.reduceToNat, c38h, e1, c18]
        exact fzEq rfl rfl
    · exact (by first | rfl | (refine prep_to (n := 7) (m := ⟨some [24, 23, 16], some 7, []⟩) rfl rfl ?_ ?_ ?_ <;> first | rfl | (simp [keepT, AV.underL, AV.under, MB.under, underL_plain, under_plain, underL_append, plain_ints, plain_span, plain_ins, plain_prg, -List.map_take, -List.map_replicate, -List.map_set, plain_bytes, hLu]; done) | (simp [keepT, AV.underL, AV.under, MB.under, underL_plain, under_plain, underL_append, plain_ints, plain_span, plain_ins, plain_prg, -List.map_take, -List.map_replicate, -List.map_set, plain_bytes, hLu]; omega)))
end
end Go.Ev
