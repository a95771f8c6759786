/- Functions of the program, each with what it computes; no further conditions. -/
import Derived.Test.YtpbobopcmhpbbaaL05
import Derived.Test.YtpbobopcmhpbbaaL10
import Derived.Test.YtpbobopcmhpbbaaL11
set_option linter.unusedVariables false
set_option linter.unusedSimpArgs false
namespace Go.Ev
attribute [local go_sem] eq_self bindW_some bindW_map bindW_ite bindW_iteN W_seq W_region W_draw W_cond W_ret W_skip W_exit W_scope W_label W_block blockK_norm blockK_ret blockK_exit WO_nil WO_cons WO_guard WD_nil WD_cons WD_guard guardV guardW_boolT guardW_boolF guardW_tup fpL_some fpL_none footprint thenK_norm thenK_ret thenK_exit put_some put_none ev_tmp ev_con ev_func ofK_int ofK_bool ofK_str ofK_nil evOp evBuiltin evCall evLen evAppend getElem_16 getElem_4 List.length_cons List.length_nil List.cons_append List.nil_append List.append_nil if_false if_true Bool.false_eq_true Bool.true_eq_false Option.map_some Option.map_none List.map_cons List.map_nil evBinOp evBin evUn asB_bool splitB_decide splitB_true splitB_false splitB_beq splitB_bne splitB_not endK_ret endK_norm List.getElem?_cons_zero List.getElem?_cons_succ evResults evResult packRes retK_norm retK_ret cellsAt mkVal evFieldAddr evField evIndexAddr evPart evStore evBuild evBuildSlice fillC fillE evSlice evMakeSlice evConvert getRow AV.cells List.head?_cons List.drop_zero List.drop_succ_cons List.take_zero List.take_succ_cons List.drop_nil List.take_nil List.all_cons List.all_nil AV.ok Bool.and_self Bool.and_true Bool.true_and and_self and_true true_and Nat.zero_add Nat.add_zero setCells splice pairsOk FP.apart heapEq_refl sameAt_refl Bool.or_true Bool.true_or Bool.or_false srcElems elemsOf mutDst roundK_norm roundK_exit roundK_ret List.length_map List.getElem?_map Int.toNat_natCast decide_true decide_false Bool.not_true Bool.not_false List.set set_0 set_1 set_2 set_3 set_4 look_hit look lookD_hit lookD_cons lookD_nil ins_hit ins upd_hit upd rem1_hit rem1 dropT dropSt_eq initT cfg_dd cfg_bd cfg_ra actL_nil actL_cons act1 updT_hit updT frzB retE_norm retE_ret bndO bnd evEq eqCells not_false_eq_true not_true_eq_false toList_some Array.size_empty List.length_append List.map_append endE_norm endE_ret head_take1
open Go.Proofs Go.RowKit Go.IntWalk
set_option maxRecDepth 100000
set_option linter.unusedSimpArgs false
set_option linter.unusedVariables false
set_option maxHeartbeats 4000000

theorem f120 (g : Prg) (n : Int) (b : MB) (hl : g.ins.length ≤ 1000000) :
    call Try.prog pol1 120 [.int .i64 n, .rf 0 1 0 0] [.row 3 [.agg [.sl false (g.ins.map insAV), I g.caps, .bool g.runes]] 0, b] =
      some (.bool (decide (0 ≤ n ∧ n < g.ins.length)), [.row 3 [.agg [.sl false (g.ins.map insAV), I g.caps, .bool g.runes]] 0, b]) := by
  refine call_run2 Try.func120 rfl rfl rfl rfl (by rfl) ?_
  by_cases h : 0 ≤ n
  · by_cases h2 : n < g.ins.length
    all_goals
      simp +contextual (disch := omega) only [Try.f120, dd120, ty0, ty3, ty4, ty33, ty35, go_sem, ↓reduceIte, List.reduceReplicate, Nat.reduceAdd, Nat.reduceSub, reduceCtorEq, Nat.reduceLeDiff, Nat.reduceMul, Nat.reduceLT, Nat.reduceEqDiff, Int.reduceBNe, Int.reduceBEq, Int.reduceEq, Int.reduceLT, Int.reduceLE, Int.reduceGT, Int.reduceGE, mu120, List.contains_nil, List.contains_cons, Nat.reduceBEq, Bool.or_self, dlt_t, dlt_f, dle_t, dle_f, dgt_t, dgt_f, dge_t, dge_f, beq_t, beq_f, bne_t, bne_f, lt_T, le_T, nle_T, nle_F, ↓wrap_up, ↓wrap_down, ↓wrap_pred, ↓wrap_sub_nat, i64_in, i64_quo, rem_in, Int.reduceToNat]
      refine (retPol_keep rfl rfl rfl ?_ rfl).trans ?_
      · simp [keptOk, MB.beq_refl]
      · simp [h, h2]
  · simp +contextual (disch := omega) only [Try.f120, dd120, ty0, ty3, ty4, ty33, ty35, go_sem, ↓reduceIte, List.reduceReplicate, Nat.reduceAdd, Nat.reduceSub, reduceCtorEq, Nat.reduceLeDiff, Nat.reduceMul, Nat.reduceLT, Nat.reduceEqDiff, Int.reduceBNe, Int.reduceBEq, Int.reduceEq, Int.reduceLT, Int.reduceLE, Int.reduceGT, Int.reduceGE, mu120, List.contains_nil, List.contains_cons, Nat.reduceBEq, Bool.or_self, dlt_t, dlt_f, dle_t, dle_f, dgt_t, dgt_f, dge_t, dge_f, beq_t, beq_f, bne_t, bne_f, lt_T, le_T, nle_T, nle_F, ↓wrap_up, ↓wrap_down, ↓wrap_pred, ↓wrap_sub_nat, i64_in, i64_quo, rem_in, Int.reduceToNat]
    refine (retPol_keep rfl rfl rfl ?_ rfl).trans ?_
    · simp [keptOk, MB.beq_refl]
    · simp [h]

theorem refSpans_last {l : List (Int × Int)} (h : refSpans l = 0) {p : Int × Int} (hp : l[l.length - 1]? = some p) : p.2 ≤ 1114111 := by
  have hl : l.length - 1 < l.length := (List.getElem?_eq_some_iff.1 hp).1
  cases hb : badAt l (l.length - 1) with
  | true => rw [refSpans_bad hl hb] at h; cases h
  | false =>
    simp only [badAt, hp, Bool.or_eq_false_iff, Bool.not_eq_false', decide_eq_true_eq] at hb
    exact hb.1.2.2

/-- The method (Prog).valid. -/
theorem f69 (g : Prg) (i : Ins) (hc : 0 ≤ g.caps ∧ g.caps ≤ 9) (hl : g.ins.length ≤ 1000000) (hs : i.set.length ≤ 1000000) (H : List MB) :
    call Try.prog pol1 69 [.agg [.sl false (g.ins.map insAV), I g.caps, .bool g.runes], .pt [I i.op, I i.x, I i.y, I i.n, .sl false (i.set.map spanAV)]] H = some (.bool (okIns g.ins.length g.caps g.runes i), H) := by
  refine call_run Try.func69 rfl rfl rfl rfl rfl rfl (fun _ => rfl) (by simp [AV.plain, AV.plainL, plain_ints, plain_span, plain_ins, plain_prg]) (by simp [AV.plain, AV.plainL, plain_ints, plain_span, plain_ins, plain_prg]) ?_ H
  obtain ⟨op, x, y, n, set⟩ := i
  simp only [] at hs
  by_cases h1 : op = 1
  · subst h1
    rcases Nat.eq_zero_or_pos set.length with hz | hz
    · obtain rfl : set = [] := List.length_eq_zero_iff.1 hz
      have ht := f121 [] (by simp)
      have e : refSpans [] = 0 := by decide
      rw [e, List.map_nil] at ht
      cases hr : g.runes
      all_goals
        simp +contextual (disch := omega) only [Try.f69, dd69, ty0, ty3, ty4, ty23, ty35, ty36, ty86, ty104, ty124, ty175, ty178, go_sem, ↓reduceIte, List.reduceReplicate, Nat.reduceAdd, Nat.reduceSub, reduceCtorEq, Nat.reduceLeDiff, Nat.reduceMul, Nat.reduceLT, Nat.reduceEqDiff, Int.reduceBNe, Int.reduceBEq, Int.reduceEq, Int.reduceLT, Int.reduceLE, Int.reduceGT, Int.reduceGE, mu69, List.contains_nil, List.contains_cons, Nat.reduceBEq, Bool.or_self, dlt_t, dlt_f, dle_t, dle_f, dgt_t, dgt_f, dge_t, dge_f, beq_t, beq_f, bne_t, bne_f, lt_T, le_T, nle_T, nle_F, ↓wrap_up, ↓wrap_down, ↓wrap_pred, ↓wrap_sub_nat, i64_in, i64_quo, rem_in, Int.reduceToNat, prgAV, ht, hr]
        repeat' (first | intro _ | apply And.intro | refine fzEq rfl (congrArg AV.bool ?_) | (unfold dOk; kernel_rfl) | (show (_ && _) = true; kernel_rfl) | (show (_ || _) = true; kernel_rfl))
        all_goals (try rw [Bool.eq_iff_iff]; try simp_all [okIns, lastOk]; try omega)
    · obtain ⟨p, hp⟩ : ∃ p, set[set.length - 1]? = some p := ⟨_, List.getElem?_eq_getElem (by omega)⟩
      have ht := f121 set hs
      have hq : refSpans set = 0 → p.2 ≤ 1114111 := fun h => refSpans_last h hp
      cases hr : g.runes
      all_goals
        simp +contextual (disch := omega) only [Try.f69, dd69, ty0, ty3, ty4, ty23, ty35, ty36, ty86, ty104, ty124, ty175, ty178, go_sem, ↓reduceIte, List.reduceReplicate, Nat.reduceAdd, Nat.reduceSub, reduceCtorEq, Nat.reduceLeDiff, Nat.reduceMul, Nat.reduceLT, Nat.reduceEqDiff, Int.reduceBNe, Int.reduceBEq, Int.reduceEq, Int.reduceLT, Int.reduceLE, Int.reduceGT, Int.reduceGE, mu69, List.contains_nil, List.contains_cons, Nat.reduceBEq, Bool.or_self, dlt_t, dlt_f, dle_t, dle_f, dgt_t, dgt_f, dge_t, dge_f, beq_t, beq_f, bne_t, bne_f, lt_T, le_T, nle_T, nle_F, ↓wrap_up, ↓wrap_down, ↓wrap_pred, ↓wrap_sub_nat, i64_in, i64_quo, rem_in, Int.reduceToNat, prgAV, ht, hr, hp, spanAV]
        repeat' (first | intro _ | apply And.intro | refine fzEq rfl (congrArg AV.bool ?_) | (unfold dOk; kernel_rfl) | (show (_ && _) = true; kernel_rfl) | (show (_ || _) = true; kernel_rfl))
        all_goals (try rw [Bool.eq_iff_iff]; try simp_all [okIns, lastOk]; try omega)
  by_cases h0 : op = 0
  · subst h0
    simp +contextual (disch := omega) only [Try.f69, dd69, ty0, ty3, ty4, ty23, ty35, ty36, ty86, ty104, ty124, ty175, ty178, go_sem, ↓reduceIte, List.reduceReplicate, Nat.reduceAdd, Nat.reduceSub, reduceCtorEq, Nat.reduceLeDiff, Nat.reduceMul, Nat.reduceLT, Nat.reduceEqDiff, Int.reduceBNe, Int.reduceBEq, Int.reduceEq, Int.reduceLT, Int.reduceLE, Int.reduceGT, Int.reduceGE, mu69, List.contains_nil, List.contains_cons, Nat.reduceBEq, Bool.or_self, dlt_t, dlt_f, dle_t, dle_f, dgt_t, dgt_f, dge_t, dge_f, beq_t, beq_f, bne_t, bne_f, lt_T, le_T, nle_T, nle_F, ↓wrap_up, ↓wrap_down, ↓wrap_pred, ↓wrap_sub_nat, i64_in, i64_quo, rem_in, Int.reduceToNat, prgAV]
    repeat' (first | intro _ | apply And.intro | refine fzEq rfl (congrArg AV.bool ?_) | (unfold dOk; kernel_rfl) | (show (_ && _) = true; kernel_rfl) | (show (_ || _) = true; kernel_rfl))
    all_goals (try rw [Bool.eq_iff_iff]; try simp_all [okIns, -List.length_eq_zero_iff]; try omega)
  by_cases h2 : op = 2
  · subst h2
    simp +contextual (disch := omega) only [Try.f69, dd69, ty0, ty3, ty4, ty23, ty35, ty36, ty86, ty104, ty124, ty175, ty178, go_sem, ↓reduceIte, List.reduceReplicate, Nat.reduceAdd, Nat.reduceSub, reduceCtorEq, Nat.reduceLeDiff, Nat.reduceMul, Nat.reduceLT, Nat.reduceEqDiff, Int.reduceBNe, Int.reduceBEq, Int.reduceEq, Int.reduceLT, Int.reduceLE, Int.reduceGT, Int.reduceGE, mu69, List.contains_nil, List.contains_cons, Nat.reduceBEq, Bool.or_self, dlt_t, dlt_f, dle_t, dle_f, dgt_t, dgt_f, dge_t, dge_f, beq_t, beq_f, bne_t, bne_f, lt_T, le_T, nle_T, nle_F, ↓wrap_up, ↓wrap_down, ↓wrap_pred, ↓wrap_sub_nat, i64_in, i64_quo, rem_in, Int.reduceToNat, prgAV, f120, hl]
    repeat' (first | intro _ | apply And.intro | refine fzEq rfl (congrArg AV.bool ?_) | (unfold dOk; kernel_rfl) | (show (_ && _) = true; kernel_rfl) | (show (_ || _) = true; kernel_rfl))
    all_goals (try rw [Bool.eq_iff_iff]; try simp_all [okIns, -List.length_eq_zero_iff]; try omega)
  by_cases h3 : op = 3
  · subst h3
    simp +contextual (disch := omega) only [Try.f69, dd69, ty0, ty3, ty4, ty23, ty35, ty36, ty86, ty104, ty124, ty175, ty178, go_sem, ↓reduceIte, List.reduceReplicate, Nat.reduceAdd, Nat.reduceSub, reduceCtorEq, Nat.reduceLeDiff, Nat.reduceMul, Nat.reduceLT, Nat.reduceEqDiff, Int.reduceBNe, Int.reduceBEq, Int.reduceEq, Int.reduceLT, Int.reduceLE, Int.reduceGT, Int.reduceGE, mu69, List.contains_nil, List.contains_cons, Nat.reduceBEq, Bool.or_self, dlt_t, dlt_f, dle_t, dle_f, dgt_t, dgt_f, dge_t, dge_f, beq_t, beq_f, bne_t, bne_f, lt_T, le_T, nle_T, nle_F, ↓wrap_up, ↓wrap_down, ↓wrap_pred, ↓wrap_sub_nat, i64_in, i64_quo, rem_in, Int.reduceToNat, prgAV, f120, hl]
    repeat' (first | intro _ | apply And.intro | refine fzEq rfl (congrArg AV.bool ?_) | (unfold dOk; kernel_rfl) | (show (_ && _) = true; kernel_rfl) | (show (_ || _) = true; kernel_rfl))
    all_goals (try rw [Bool.eq_iff_iff]; try simp_all [okIns, -List.length_eq_zero_iff]; try omega)
  by_cases h4 : op = 4
  · subst h4
    simp +contextual (disch := omega) only [Try.f69, dd69, ty0, ty3, ty4, ty23, ty35, ty36, ty86, ty104, ty124, ty175, ty178, go_sem, ↓reduceIte, List.reduceReplicate, Nat.reduceAdd, Nat.reduceSub, reduceCtorEq, Nat.reduceLeDiff, Nat.reduceMul, Nat.reduceLT, Nat.reduceEqDiff, Int.reduceBNe, Int.reduceBEq, Int.reduceEq, Int.reduceLT, Int.reduceLE, Int.reduceGT, Int.reduceGE, mu69, List.contains_nil, List.contains_cons, Nat.reduceBEq, Bool.or_self, dlt_t, dlt_f, dle_t, dle_f, dgt_t, dgt_f, dge_t, dge_f, beq_t, beq_f, bne_t, bne_f, lt_T, le_T, nle_T, nle_F, ↓wrap_up, ↓wrap_down, ↓wrap_pred, ↓wrap_sub_nat, i64_in, i64_quo, rem_in, Int.reduceToNat, prgAV]
    repeat' (first | intro _ | apply And.intro | refine fzEq rfl (congrArg AV.bool ?_) | (unfold dOk; kernel_rfl) | (show (_ && _) = true; kernel_rfl) | (show (_ || _) = true; kernel_rfl))
    all_goals (try rw [Bool.eq_iff_iff]; try simp_all [okIns, -List.length_eq_zero_iff]; try omega)
  by_cases h5 : op = 5
  · subst h5
    simp +contextual (disch := omega) only [Try.f69, dd69, ty0, ty3, ty4, ty23, ty35, ty36, ty86, ty104, ty124, ty175, ty178, go_sem, ↓reduceIte, List.reduceReplicate, Nat.reduceAdd, Nat.reduceSub, reduceCtorEq, Nat.reduceLeDiff, Nat.reduceMul, Nat.reduceLT, Nat.reduceEqDiff, Int.reduceBNe, Int.reduceBEq, Int.reduceEq, Int.reduceLT, Int.reduceLE, Int.reduceGT, Int.reduceGE, mu69, List.contains_nil, List.contains_cons, Nat.reduceBEq, Bool.or_self, dlt_t, dlt_f, dle_t, dle_f, dgt_t, dgt_f, dge_t, dge_f, beq_t, beq_f, bne_t, bne_f, lt_T, le_T, nle_T, nle_F, ↓wrap_up, ↓wrap_down, ↓wrap_pred, ↓wrap_sub_nat, i64_in, i64_quo, rem_in, Int.reduceToNat, prgAV]
    repeat' (first | intro _ | apply And.intro | refine fzEq rfl (congrArg AV.bool ?_) | (unfold dOk; kernel_rfl) | (show (_ && _) = true; kernel_rfl) | (show (_ || _) = true; kernel_rfl))
    all_goals (try rw [Bool.eq_iff_iff]; try simp_all [okIns, -List.length_eq_zero_iff]; try omega)
  simp +contextual (disch := omega) only [Try.f69, dd69, ty0, ty3, ty4, ty23, ty35, ty36, ty86, ty104, ty124, ty175, ty178, go_sem, ↓reduceIte, List.reduceReplicate, Nat.reduceAdd, Nat.reduceSub, reduceCtorEq, Nat.reduceLeDiff, Nat.reduceMul, Nat.reduceLT, Nat.reduceEqDiff, Int.reduceBNe, Int.reduceBEq, Int.reduceEq, Int.reduceLT, Int.reduceLE, Int.reduceGT, Int.reduceGE, mu69, List.contains_nil, List.contains_cons, Nat.reduceBEq, Bool.or_self, dlt_t, dlt_f, dle_t, dle_f, dgt_t, dgt_f, dge_t, dge_f, beq_t, beq_f, bne_t, bne_f, lt_T, le_T, nle_T, nle_F, ↓wrap_up, ↓wrap_down, ↓wrap_pred, ↓wrap_sub_nat, i64_in, i64_quo, rem_in, Int.reduceToNat, prgAV]
  repeat' (first | intro _ | apply And.intro | refine fzEq rfl (congrArg AV.bool ?_) | (unfold dOk; kernel_rfl) | (show (_ && _) = true; kernel_rfl) | (show (_ || _) = true; kernel_rfl))
  all_goals (try rw [Bool.eq_iff_iff]; try simp_all [okIns, -List.length_eq_zero_iff]; try omega)

end Go.Ev
namespace Go.Ev
attribute [local go_sem] eq_self bindW_some bindW_map bindW_ite bindW_iteN W_seq W_region W_draw W_cond W_ret W_skip W_exit W_scope W_label W_block blockK_norm blockK_ret blockK_exit WO_nil WO_cons WO_guard WD_nil WD_cons WD_guard guardV guardW_boolT guardW_boolF guardW_tup fpL_some fpL_none footprint thenK_norm thenK_ret thenK_exit put_some put_none ev_tmp ev_con ev_func ofK_int ofK_bool ofK_str ofK_nil evOp evBuiltin evCall evLen evAppend getElem_16 getElem_4 List.length_cons List.length_nil List.cons_append List.nil_append List.append_nil if_false if_true Bool.false_eq_true Bool.true_eq_false Option.map_some Option.map_none List.map_cons List.map_nil evBinOp evBin evUn asB_bool splitB_decide splitB_true splitB_false splitB_beq splitB_bne splitB_not endK_ret endK_norm List.getElem?_cons_zero List.getElem?_cons_succ evResults evResult packRes retK_norm retK_ret cellsAt mkVal evFieldAddr evField evIndexAddr evPart evStore evBuild evBuildSlice fillC fillE evSlice evMakeSlice evConvert getRow AV.cells List.head?_cons List.drop_zero List.drop_succ_cons List.take_zero List.take_succ_cons List.drop_nil List.take_nil List.all_cons List.all_nil AV.ok Bool.and_self Bool.and_true Bool.true_and and_self and_true true_and Nat.zero_add Nat.add_zero setCells splice pairsOk FP.apart heapEq_refl sameAt_refl Bool.or_true Bool.true_or Bool.or_false srcElems elemsOf mutDst roundK_norm roundK_exit roundK_ret List.length_map List.getElem?_map Int.toNat_natCast decide_true decide_false Bool.not_true Bool.not_false List.set set_0 set_1 set_2 set_3 set_4 look_hit look lookD_hit lookD_cons lookD_nil ins_hit ins upd_hit upd rem1_hit rem1 dropT dropSt_eq initT cfg_dd cfg_bd cfg_ra actL_nil actL_cons act1 updT_hit updT frzB retE_norm retE_ret bndO bnd evEq eqCells not_false_eq_true not_true_eq_false toList_some Array.size_empty List.length_append List.map_append tySzE List.head?_drop Nat.mul_one sameAt_zero sameAt_two sameAt_three sameAt_four sameAt_five endE_norm endE_ret head_take1
open Go.Proofs Go.RowKit Go.IntWalk
set_option maxRecDepth 100000
set_option linter.unusedSimpArgs false
set_option linter.unusedVariables false
set_option maxHeartbeats 4000000

theorem f30 (g : Prg) (hb : PrgB g) (H : List MB) : call Try.prog pol1 30 [.agg [.sl false (g.ins.map insAV), I g.caps, .bool g.runes]] H = some (I (validG g), H) := by
  obtain ⟨hl, hs⟩ := hb
  refine call_run Try.func30 rfl rfl rfl rfl rfl rfl (fun _ => rfl) (by simp [AV.plain, AV.plainL, plain_ints, plain_span, plain_ins, plain_prg]) (by simp [AV.plain, AV.plainL, plain_ints, plain_span, plain_ins, plain_prg]) ?_ H
  by_cases h1 : 8192 < g.ins.length
  · have e : validG g = 4 := by simp [validG, h1]
    rw [e]
    simp +contextual (disch := omega) only [Try.f30, dd30, ty0, ty3, ty4, ty33, ty35, ty36, ty104, go_sem, ↓reduceIte, List.reduceReplicate, Nat.reduceAdd, Nat.reduceSub, reduceCtorEq, Nat.reduceLeDiff, Nat.reduceMul, Nat.reduceLT, Nat.reduceEqDiff, Int.reduceBNe, Int.reduceBEq, Int.reduceEq, Int.reduceLT, Int.reduceLE, Int.reduceGT, Int.reduceGE, mu30, List.contains_nil, List.contains_cons, Nat.reduceBEq, Bool.or_self, dlt_t, dlt_f, dle_t, dle_f, dgt_t, dgt_f, dge_t, dge_f, beq_t, beq_f, bne_t, bne_f, lt_T, le_T, nle_T, nle_F, ↓wrap_up, ↓wrap_down, ↓wrap_pred, ↓wrap_sub_nat, i64_in, i64_quo, rem_in, Int.reduceToNat, room_ok]
    exact fzEq rfl rfl
  by_cases h2 : g.ins.length = 0 ∨ g.caps < 0 ∨ 9 < g.caps
  · have e : validG g = 1 := by unfold validG; rw [if_neg h1, if_pos h2]
    rw [e]
    simp +contextual (disch := omega) only [Try.f30, dd30, ty0, ty3, ty4, ty33, ty35, ty36, ty104, go_sem, ↓reduceIte, List.reduceReplicate, Nat.reduceAdd, Nat.reduceSub, reduceCtorEq, Nat.reduceLeDiff, Nat.reduceMul, Nat.reduceLT, Nat.reduceEqDiff, Int.reduceBNe, Int.reduceBEq, Int.reduceEq, Int.reduceLT, Int.reduceLE, Int.reduceGT, Int.reduceGE, mu30, List.contains_nil, List.contains_cons, Nat.reduceBEq, Bool.or_self, dlt_t, dlt_f, dle_t, dle_f, dgt_t, dgt_f, dge_t, dge_f, beq_t, beq_f, bne_t, bne_f, lt_T, le_T, nle_T, nle_F, ↓wrap_up, ↓wrap_down, ↓wrap_pred, ↓wrap_sub_nat, i64_in, i64_quo, rem_in, Int.reduceToNat, room_ok]
    repeat' (first | intro _ | apply And.intro | exact fzEq rfl rfl)
    all_goals (exfalso; omega)
  simp +contextual (disch := omega) only [Try.f30, dd30, ty0, ty3, ty4, ty33, ty35, ty36, ty104, go_sem, ↓reduceIte, List.reduceReplicate, Nat.reduceAdd, Nat.reduceSub, reduceCtorEq, Nat.reduceLeDiff, Nat.reduceMul, Nat.reduceLT, Nat.reduceEqDiff, Int.reduceBNe, Int.reduceBEq, Int.reduceEq, Int.reduceLT, Int.reduceLE, Int.reduceGT, Int.reduceGE, mu30, List.contains_nil, List.contains_cons, Nat.reduceBEq, Bool.or_self, dlt_t, dlt_f, dle_t, dle_f, dgt_t, dgt_f, dge_t, dge_f, beq_t, beq_f, bne_t, bne_f, lt_T, le_T, nle_T, nle_F, ↓wrap_up, ↓wrap_down, ↓wrap_pred, ↓wrap_sub_nat, i64_in, i64_quo, rem_in, Int.reduceToNat, room_ok]
  refine W_count (M := (mskOf (pol1.mask 30) (pol1.gc 30) (pol1.acts 30) 0 6)) rfl g.ins.length (fun i => (⟨49, [(25, I i), (24, I g.ins.length), (1, .rf 0 1 0 0)], [.row 3 [prgAV g] 0]⟩ : St))
    (fun i => ∀ k p, k < i → g.ins[k]? = some p → okIns g.ins.length g.caps g.runes p = true) ?_ ?_ (fun k p h => by omega) _ (by first | rfl | (refine prep_cut rfl (by rfl) (by rfl) (by rfl) ?_ ?_ <;> simp [AV.underL, AV.under, MB.under, underL_plain, under_plain, plain_ints, plain_span, plain_ins, plain_prg, -List.map_take]))
  · intro i hi hg
    obtain ⟨p, hp⟩ : ∃ p, g.ins[i]? = some p := ⟨_, List.getElem?_eq_getElem hi⟩
    have hsp := hs p (List.mem_of_getElem? hp)
    have hf := f69 g p (by omega) hl hsp
    cases hok : okIns g.ins.length g.caps g.runes p
    · rw [hok] at hf
      simp +contextual (disch := omega) only [Try.f30, dd30, ty0, ty3, ty4, ty33, ty35, ty36, ty104, go_sem, ↓reduceIte, List.reduceReplicate, Nat.reduceAdd, Nat.reduceSub, reduceCtorEq, Nat.reduceLeDiff, Nat.reduceMul, Nat.reduceLT, Nat.reduceEqDiff, Int.reduceBNe, Int.reduceBEq, Int.reduceEq, Int.reduceLT, Int.reduceLE, Int.reduceGT, Int.reduceGE, mu30, List.contains_nil, List.contains_cons, Nat.reduceBEq, Bool.or_self, dlt_t, dlt_f, dle_t, dle_f, dgt_t, dgt_f, dge_t, dge_f, beq_t, beq_f, bne_t, bne_f, lt_T, le_T, nle_T, nle_F, ↓wrap_up, ↓wrap_down, ↓wrap_pred, ↓wrap_sub_nat, i64_in, i64_quo, rem_in, Int.reduceToNat, room_ok, hp, hf]
      refine ⟨by unfold dOk; kernel_rfl, fzEq rfl ?_⟩
      rw [validG_bad h1 hp hok]
    · rw [hok] at hf
      simp +contextual (disch := omega) only [Try.f30, dd30, ty0, ty3, ty4, ty33, ty35, ty36, ty104, go_sem, ↓reduceIte, List.reduceReplicate, Nat.reduceAdd, Nat.reduceSub, reduceCtorEq, Nat.reduceLeDiff, Nat.reduceMul, Nat.reduceLT, Nat.reduceEqDiff, Int.reduceBNe, Int.reduceBEq, Int.reduceEq, Int.reduceLT, Int.reduceLE, Int.reduceGT, Int.reduceGE, mu30, List.contains_nil, List.contains_cons, Nat.reduceBEq, Bool.or_self, dlt_t, dlt_f, dle_t, dle_f, dgt_t, dgt_f, dge_t, dge_f, beq_t, beq_f, bne_t, bne_f, lt_T, le_T, nle_T, nle_F, ↓wrap_up, ↓wrap_down, ↓wrap_pred, ↓wrap_sub_nat, i64_in, i64_quo, rem_in, Int.reduceToNat, room_ok, hp, hf]
      refine ⟨by unfold dOk; kernel_rfl, fun k q hk hq => ?_, (by first | rfl | (refine prep_cut rfl (by rfl) (by rfl) (by rfl) ?_ ?_ <;> simp [AV.underL, AV.under, MB.under, underL_plain, under_plain, plain_ints, plain_span, plain_ins, plain_prg, -List.map_take]))⟩
      rcases Nat.lt_or_ge k i with h | h
      · exact hg k q h hq
      · obtain rfl : k = i := by omega
        rw [hp] at hq
        obtain rfl := Option.some.inj hq
        exact hok
  · intro hg
    rw [validG_last h1 h2 (fun k p hk hp => hg k p hk hp)]
    obtain ⟨p, hp⟩ : ∃ p, g.ins[g.ins.length - 1]? = some p := ⟨_, List.getElem?_eq_getElem (by omega)⟩
    have e : lastGood g = (p.op == 0 || p.op == 2 || p.op == 3) := by simp [lastGood, hp]
    rw [e]
    simp +contextual (disch := omega) only [Try.f30, dd30, ty0, ty3, ty4, ty33, ty35, ty36, ty104, go_sem, ↓reduceIte, List.reduceReplicate, Nat.reduceAdd, Nat.reduceSub, reduceCtorEq, Nat.reduceLeDiff, Nat.reduceMul, Nat.reduceLT, Nat.reduceEqDiff, Int.reduceBNe, Int.reduceBEq, Int.reduceEq, Int.reduceLT, Int.reduceLE, Int.reduceGT, Int.reduceGE, mu30, List.contains_nil, List.contains_cons, Nat.reduceBEq, Bool.or_self, dlt_t, dlt_f, dle_t, dle_f, dgt_t, dgt_f, dge_t, dge_f, beq_t, beq_f, bne_t, bne_f, lt_T, le_T, nle_T, nle_F, ↓wrap_up, ↓wrap_down, ↓wrap_pred, ↓wrap_sub_nat, i64_in, i64_quo, rem_in, Int.reduceToNat, room_ok, hp]
    repeat' (first | intro _ | apply And.intro | refine fzEq rfl ?_)
    all_goals (congr 1 <;> simp <;> omega)

/-- The errors of Paths, in their order. -/
def checkG (g : Prg) (n : Nat) (pos most fuel : Int) : Int :=
  if validG g ≠ 0 then validG g
  else if 65536 < n then 4
  else if pos < 0 ∨ (n : Int) < pos ∨ most < -1 then 5
  else if fuel < 0 ∨ 1099511627776 < fuel then 1 else 0

theorem f58 (g : Prg) (hb : PrgB g) (t : List Int) (ht : t.length ≤ 1000000000) (pos most fuel : Int) (H : List MB) :
    call Try.prog pol1 58 [.agg [.sl false (g.ins.map insAV), I g.caps, .bool g.runes], .sl false (t.map I), I pos, I most, I fuel] H = some (I (checkG g t.length pos most fuel), H) := by
  refine call_run Try.func58 rfl rfl rfl rfl rfl rfl (fun _ => rfl) (by simp [AV.plain, AV.plainL, plain_ints, plain_span, plain_ins, plain_prg]) (by simp [AV.plain, AV.plainL, plain_ints, plain_span, plain_ins, plain_prg]) ?_ H
  have hv := f30 g hb
  unfold checkG
  by_cases h1 : validG g = 0
  · rw [h1] at hv
    rw [if_neg (by simp [h1])]
    simp +contextual (disch := omega) only [Try.f58, dd58, ty0, ty3, ty4, ty22, ty35, ty36, go_sem, ↓reduceIte, List.reduceReplicate, Nat.reduceAdd, Nat.reduceSub, reduceCtorEq, Nat.reduceLeDiff, Nat.reduceMul, Nat.reduceLT, Nat.reduceEqDiff, Int.reduceBNe, Int.reduceBEq, Int.reduceEq, Int.reduceLT, Int.reduceLE, Int.reduceGT, Int.reduceGE, mu58, List.contains_nil, List.contains_cons, Nat.reduceBEq, Bool.or_self, dlt_t, dlt_f, dle_t, dle_f, dgt_t, dgt_f, dge_t, dge_f, beq_t, beq_f, bne_t, bne_f, lt_T, le_T, nle_T, nle_F, ↓wrap_up, ↓wrap_down, ↓wrap_pred, ↓wrap_sub_nat, i64_in, i64_quo, rem_in, Int.reduceToNat, room_ok, hv]
    repeat' (first | intro _ | apply And.intro | refine fzEq rfl (congrArg (AV.int .i64) ?_))
    all_goals (repeat' split)
    all_goals first | omega | (simp_all; done) | (simp_all; omega)
  · rw [if_pos h1]
    simp +contextual (disch := omega) only [Try.f58, dd58, ty0, ty3, ty4, ty22, ty35, ty36, go_sem, ↓reduceIte, List.reduceReplicate, Nat.reduceAdd, Nat.reduceSub, reduceCtorEq, Nat.reduceLeDiff, Nat.reduceMul, Nat.reduceLT, Nat.reduceEqDiff, Int.reduceBNe, Int.reduceBEq, Int.reduceEq, Int.reduceLT, Int.reduceLE, Int.reduceGT, Int.reduceGE, mu58, List.contains_nil, List.contains_cons, Nat.reduceBEq, Bool.or_self, dlt_t, dlt_f, dle_t, dle_f, dgt_t, dgt_f, dge_t, dge_f, beq_t, beq_f, bne_t, bne_f, lt_T, le_T, nle_T, nle_F, ↓wrap_up, ↓wrap_down, ↓wrap_pred, ↓wrap_sub_nat, i64_in, i64_quo, rem_in, Int.reduceToNat, room_ok, hv]
    exact fzEq rfl rfl

theorem fz_prg (g : Prg) : fz (.rf 0 1 0 0) [.row 3 [.agg [.sl false (g.ins.map insAV), I g.caps, .bool g.runes]] 0] = some (.pt [.sl false (g.ins.map insAV), I g.caps, .bool g.runes], [.row 3 [.agg [.sl false (g.ins.map insAV), I g.caps, .bool g.runes]] 1]) := by
  have hp : AV.plainL [AV.sl false (g.ins.map insAV), I g.caps, .bool g.runes] = true := by simp [AV.plain, AV.plainL, plain_ins]
  exact fz_rf (x := .agg [.sl false (g.ins.map insAV), I g.caps, .bool g.runes]) (k := 3) (z := 0) rfl rfl rfl hp

theorem f23e (g : Prg) (hb : PrgB g) (t : List Int) (ht : t.length ≤ 1000000000) (pos most fuel : Int) (he : checkG g t.length pos most fuel ≠ 0) (H : List MB) :
    call Try.prog pol1 23 [.agg [.sl false (g.ins.map insAV), I g.caps, .bool g.runes], .sl false (t.map I), I pos, I most, I fuel] H = some (.tup [.sl false [], I (checkG g t.length pos most fuel)], H) := by
  refine call_run Try.func23 rfl rfl rfl rfl rfl rfl (fun _ => rfl) (by simp [AV.plain, AV.plainL, plain_ints, plain_span, plain_ins, plain_prg]) (by simp [AV.plain, AV.plainL, plain_ints, plain_span, plain_ins, plain_prg]) ?_ H
  have hc := f58 g hb t ht pos most fuel
  generalize checkG g t.length pos most fuel = c at *
  have hz := fz_prg g
  simp +contextual (disch := omega) only [Try.f23, dd23, ty0, ty3, ty4, ty22, ty23, ty33, ty35, ty36, ty53, ty104, ty112, ty115, ty117, ty119, ty120, ty124, go_sem, ↓reduceIte, List.reduceReplicate, Nat.reduceAdd, Nat.reduceSub, reduceCtorEq, Nat.reduceLeDiff, Nat.reduceMul, Nat.reduceLT, Nat.reduceEqDiff, Int.reduceBNe, Int.reduceBEq, Int.reduceEq, Int.reduceLT, Int.reduceLE, Int.reduceGT, Int.reduceGE, mu23, List.contains_nil, List.contains_cons, Nat.reduceBEq, Bool.or_self, dlt_t, dlt_f, dle_t, dle_f, dgt_t, dgt_f, dge_t, dge_f, beq_t, beq_f, bne_t, bne_f, lt_T, le_T, nle_T, nle_F, ↓wrap_up, ↓wrap_down, ↓wrap_pred, ↓wrap_sub_nat, i64_in, i64_quo, rem_in, Int.reduceToNat, room_ok, hc, hz, lookD, look]
  exact ⟨_, rfl⟩
end Go.Ev
namespace Go.Ev
attribute [local go_sem] eq_self bindW_some bindW_map bindW_ite bindW_iteN W_seq W_region W_draw W_cond W_ret W_skip W_exit W_scope W_label W_block blockK_norm blockK_ret blockK_exit WO_nil WO_cons WO_guard WD_nil WD_cons WD_guard guardV guardW_boolT guardW_boolF guardW_tup fpL_some fpL_none footprint thenK_norm thenK_ret thenK_exit put_some put_none ev_tmp ev_con ev_func ofK_int ofK_bool ofK_str ofK_nil evOp evBuiltin evCall evLen evAppend getElem_16 getElem_4 List.length_cons List.length_nil List.cons_append List.nil_append List.append_nil if_false if_true Bool.false_eq_true Bool.true_eq_false Option.map_some Option.map_none List.map_cons List.map_nil evBinOp evBin evUn asB_bool splitB_decide splitB_true splitB_false splitB_beq splitB_bne splitB_not endK_ret endK_norm List.getElem?_cons_zero List.getElem?_cons_succ evResults evResult packRes retK_norm retK_ret cellsAt mkVal evFieldAddr evField evIndexAddr evPart evStore evBuild evBuildSlice fillC fillE evSlice evMakeSlice evConvert getRow AV.cells List.head?_cons List.drop_zero List.drop_succ_cons List.take_zero List.take_succ_cons List.drop_nil List.take_nil List.all_cons List.all_nil AV.ok Bool.and_self Bool.and_true Bool.true_and and_self and_true true_and Nat.zero_add Nat.add_zero setCells splice pairsOk FP.apart heapEq_refl sameAt_refl Bool.or_true Bool.true_or Bool.or_false srcElems elemsOf mutDst roundK_norm roundK_exit roundK_ret List.length_map List.getElem?_map Int.toNat_natCast decide_true decide_false Bool.not_true Bool.not_false List.set set_0 set_1 set_2 set_3 set_4 look_hit look lookD_hit lookD_cons lookD_nil ins_hit ins upd_hit upd rem1_hit rem1 dropT dropSt_eq initT cfg_dd cfg_bd cfg_ra actL_nil actL_cons act1 updT_hit updT frzB retE_norm retE_ret bndO bnd evEq eqCells not_false_eq_true not_true_eq_false toList_some Array.size_empty List.length_append List.map_append endE_norm endE_ret head_take1
open Go.Proofs Go.RowKit Go.IntWalk
set_option maxRecDepth 100000
set_option linter.unusedSimpArgs false
set_option linter.unusedVariables false
set_option maxHeartbeats 4000000

theorem f62 (g : Prg) (hb : PrgB g) (t : List Int) (ht : t.length ≤ 1000000000) (pos most fuel : Int) (H : List MB) :
    call Try.prog pol1 62 [.agg [.sl false (g.ins.map insAV), I g.caps, .bool g.runes], .sl false (t.map I), I pos, I most, I fuel] H = some (I (checkG g t.length pos most fuel), H) := by
  refine call_run Try.func62 rfl rfl rfl rfl rfl rfl (fun _ => rfl) (by simp [AV.plain, AV.plainL, plain_ints, plain_span, plain_ins, plain_prg]) (by simp [AV.plain, AV.plainL, plain_ints, plain_span, plain_ins, plain_prg]) ?_ H
  have hv := f29 g hb
  unfold checkG
  by_cases h1 : validG g = 0
  · rw [h1] at hv
    rw [if_neg (by simp [h1])]
    simp +contextual (disch := omega) only [Try.f62, dd62, ty0, ty3, ty4, ty22, ty36, ty41, go_sem, ↓reduceIte, List.reduceReplicate, Nat.reduceAdd, Nat.reduceSub, reduceCtorEq, Nat.reduceLeDiff, Nat.reduceMul, Nat.reduceLT, Nat.reduceEqDiff, Int.reduceBNe, Int.reduceBEq, Int.reduceEq, Int.reduceLT, Int.reduceLE, Int.reduceGT, Int.reduceGE, mu62, List.contains_nil, List.contains_cons, Nat.reduceBEq, Bool.or_self, dlt_t, dlt_f, dle_t, dle_f, dgt_t, dgt_f, dge_t, dge_f, beq_t, beq_f, bne_t, bne_f, lt_T, le_T, nle_T, nle_F, ↓wrap_up, ↓wrap_down, ↓wrap_pred, ↓wrap_sub_nat, i64_in, i64_quo, rem_in, Int.reduceToNat, hv]
    repeat' (first | intro _ | apply And.intro | refine fzEq rfl (congrArg (AV.int .i64) ?_))
    all_goals (repeat' split)
    all_goals first | omega | (simp_all; done) | (simp_all; omega)
  · rw [if_pos h1]
    simp +contextual (disch := omega) only [Try.f62, dd62, ty0, ty3, ty4, ty22, ty36, ty41, go_sem, ↓reduceIte, List.reduceReplicate, Nat.reduceAdd, Nat.reduceSub, reduceCtorEq, Nat.reduceLeDiff, Nat.reduceMul, Nat.reduceLT, Nat.reduceEqDiff, Int.reduceBNe, Int.reduceBEq, Int.reduceEq, Int.reduceLT, Int.reduceLE, Int.reduceGT, Int.reduceGE, mu62, List.contains_nil, List.contains_cons, Nat.reduceBEq, Bool.or_self, dlt_t, dlt_f, dle_t, dle_f, dgt_t, dgt_f, dge_t, dge_f, beq_t, beq_f, bne_t, bne_f, lt_T, le_T, nle_T, nle_F, ↓wrap_up, ↓wrap_down, ↓wrap_pred, ↓wrap_sub_nat, i64_in, i64_quo, rem_in, Int.reduceToNat, hv]
    exact fzEq rfl rfl

end Go.Ev
namespace Go.Ev
attribute [local go_sem] eq_self bindW_some bindW_map bindW_ite bindW_iteN W_seq W_region W_draw W_cond W_ret W_skip W_exit W_scope W_label W_block blockK_norm blockK_ret blockK_exit WO_nil WO_cons WO_guard WD_nil WD_cons WD_guard guardV guardW_boolT guardW_boolF guardW_tup fpL_some fpL_none footprint thenK_norm thenK_ret thenK_exit put_some put_none ev_tmp ev_con ev_func ofK_int ofK_bool ofK_str ofK_nil evOp evBuiltin evCall evLen evAppend getElem_16 getElem_4 List.length_cons List.length_nil List.cons_append List.nil_append List.append_nil if_false if_true Bool.false_eq_true Bool.true_eq_false Option.map_some Option.map_none List.map_cons List.map_nil evBinOp evBin evUn asB_bool splitB_decide splitB_true splitB_false splitB_beq splitB_bne splitB_not endK_ret endK_norm List.getElem?_cons_zero List.getElem?_cons_succ evResults evResult packRes retK_norm retK_ret cellsAt mkVal evFieldAddr evField evIndexAddr evPart evStore evBuild evBuildSlice fillC fillE evSlice evMakeSlice evConvert getRow AV.cells List.head?_cons List.drop_zero List.drop_succ_cons List.take_zero List.take_succ_cons List.drop_nil List.take_nil List.all_cons List.all_nil AV.ok Bool.and_self Bool.and_true Bool.true_and and_self and_true true_and Nat.zero_add Nat.add_zero setCells splice pairsOk FP.apart heapEq_refl sameAt_refl Bool.or_true Bool.true_or Bool.or_false srcElems elemsOf mutDst roundK_norm roundK_exit roundK_ret List.length_map List.getElem?_map Int.toNat_natCast decide_true decide_false Bool.not_true Bool.not_false List.set set_0 set_1 set_2 set_3 set_4 look_hit look lookD_hit lookD_cons lookD_nil ins_hit ins upd_hit upd rem1_hit rem1 dropT dropSt_eq initT cfg_dd cfg_bd cfg_ra actL_nil actL_cons act1 updT_hit updT frzB retE_norm retE_ret bndO bnd evEq eqCells not_false_eq_true not_true_eq_false toList_some Array.size_empty List.length_append List.map_append endE_norm endE_ret head_take1
open Go.Proofs Go.RowKit Go.IntWalk
set_option maxRecDepth 100000
set_option linter.unusedSimpArgs false
set_option linter.unusedVariables false
set_option maxHeartbeats 4000000

/-- Before and behind a position: is there a symbol, and which. -/
def assertI (n : Int) (b a : Option Int) : Bool :=
  let w := fun (o : Option Int) => match o with
    | some x => wordI x
    | none => false
  let e := fun (o : Option Int) => match o with
    | some x => x == 10
    | none => true
  if n = 0 then b.isNone else if n = 1 then a.isNone else if n = 2 then e b else if n = 3 then e a else if n = 4 then w b != w a else if n = 5 then w b == w a else false
def befS (t : List Int) (k : Nat) : Option Int := if k = 0 then none else t[k - 1]?

theorem f66 (n : Int) (t : List Int) (k : Nat) (hk : k ≤ t.length) (ht : t.length ≤ 1000000000) (H : List MB) : call Try.prog pol1 66 [I n, .sl false (t.map I), I k] H = some (.bool (assertI n (befS t k) t[k]?), H) := by
  refine call_run Try.func66 rfl rfl rfl rfl rfl rfl (fun _ => rfl) (by simp [AV.plain, AV.plainL, plain_ints, plain_span, plain_ins, plain_prg]) (by simp [AV.plain, AV.plainL, plain_ints, plain_span, plain_ins, plain_prg]) ?_ H
  rcases k with _ | k
  · rcases t with _ | ⟨x, t⟩
    · simp +contextual (disch := omega) only [Try.f66, dd66, ty0, ty3, ty4, ty22, go_sem, ↓reduceIte, List.reduceReplicate, Nat.reduceAdd, Nat.reduceSub, reduceCtorEq, Nat.reduceLeDiff, Nat.reduceMul, Nat.reduceLT, Nat.reduceEqDiff, Int.reduceBNe, Int.reduceBEq, Int.reduceEq, Int.reduceLT, Int.reduceLE, Int.reduceGT, Int.reduceGE, mu66, List.contains_nil, List.contains_cons, Nat.reduceBEq, Bool.or_self, dlt_t, dlt_f, dle_t, dle_f, dgt_t, dgt_f, dge_t, dge_f, beq_t, beq_f, bne_t, bne_f, lt_T, le_T, nle_T, nle_F, ↓wrap_up, ↓wrap_down, ↓wrap_pred, ↓wrap_sub_nat, i64_in, i64_quo, rem_in, Int.reduceToNat, f118]
      repeat' (first | intro _ | apply And.intro | (unfold dOk; kernel_rfl) | (show (_ && _) = true; kernel_rfl) | (show (_ || _) = true; kernel_rfl) | refine fzEq rfl (congrArg AV.bool ?_))
      all_goals (simp_all [assertI, befS])
    · simp +contextual (disch := omega) only [Try.f66, dd66, ty0, ty3, ty4, ty22, go_sem, ↓reduceIte, List.reduceReplicate, Nat.reduceAdd, Nat.reduceSub, reduceCtorEq, Nat.reduceLeDiff, Nat.reduceMul, Nat.reduceLT, Nat.reduceEqDiff, Int.reduceBNe, Int.reduceBEq, Int.reduceEq, Int.reduceLT, Int.reduceLE, Int.reduceGT, Int.reduceGE, mu66, List.contains_nil, List.contains_cons, Nat.reduceBEq, Bool.or_self, dlt_t, dlt_f, dle_t, dle_f, dgt_t, dgt_f, dge_t, dge_f, beq_t, beq_f, bne_t, bne_f, lt_T, le_T, nle_T, nle_F, ↓wrap_up, ↓wrap_down, ↓wrap_pred, ↓wrap_sub_nat, i64_in, i64_quo, rem_in, Int.reduceToNat, f118]
      repeat' (first | intro _ | apply And.intro | (unfold dOk; kernel_rfl) | (show (_ && _) = true; kernel_rfl) | (show (_ || _) = true; kernel_rfl) | refine fzEq rfl (congrArg AV.bool ?_))
      all_goals (simp_all [assertI, befS])
  · obtain ⟨p, hp⟩ : ∃ p, t[k]? = some p := ⟨_, List.getElem?_eq_getElem (by omega)⟩
    have hbf : befS t (k + 1) = some p := by simp [befS, hp]
    rw [hbf]
    by_cases he : k + 1 = t.length
    · have hq : t[k + 1]? = none := List.getElem?_eq_none (by omega)
      rw [hq]
      simp +contextual (disch := omega) only [Try.f66, dd66, ty0, ty3, ty4, ty22, go_sem, ↓reduceIte, List.reduceReplicate, Nat.reduceAdd, Nat.reduceSub, reduceCtorEq, Nat.reduceLeDiff, Nat.reduceMul, Nat.reduceLT, Nat.reduceEqDiff, Int.reduceBNe, Int.reduceBEq, Int.reduceEq, Int.reduceLT, Int.reduceLE, Int.reduceGT, Int.reduceGE, mu66, List.contains_nil, List.contains_cons, Nat.reduceBEq, Bool.or_self, dlt_t, dlt_f, dle_t, dle_f, dgt_t, dgt_f, dge_t, dge_f, beq_t, beq_f, bne_t, bne_f, lt_T, le_T, nle_T, nle_F, ↓wrap_up, ↓wrap_down, ↓wrap_pred, ↓wrap_sub_nat, i64_in, i64_quo, rem_in, Int.reduceToNat, f118, hp]
      repeat' (first | intro _ | apply And.intro | (unfold dOk; kernel_rfl) | (show (_ && _) = true; kernel_rfl) | (show (_ || _) = true; kernel_rfl) | refine fzEq rfl (congrArg AV.bool ?_))
      all_goals (simp_all [assertI])
    · obtain ⟨q, hq⟩ : ∃ q, t[k + 1]? = some q := ⟨_, List.getElem?_eq_getElem (by omega)⟩
      rw [hq]
      simp +contextual (disch := omega) only [Try.f66, dd66, ty0, ty3, ty4, ty22, go_sem, ↓reduceIte, List.reduceReplicate, Nat.reduceAdd, Nat.reduceSub, reduceCtorEq, Nat.reduceLeDiff, Nat.reduceMul, Nat.reduceLT, Nat.reduceEqDiff, Int.reduceBNe, Int.reduceBEq, Int.reduceEq, Int.reduceLT, Int.reduceLE, Int.reduceGT, Int.reduceGE, mu66, List.contains_nil, List.contains_cons, Nat.reduceBEq, Bool.or_self, dlt_t, dlt_f, dle_t, dle_f, dgt_t, dgt_f, dge_t, dge_f, beq_t, beq_f, bne_t, bne_f, lt_T, le_T, nle_T, nle_F, ↓wrap_up, ↓wrap_down, ↓wrap_pred, ↓wrap_sub_nat, i64_in, i64_quo, rem_in, Int.reduceToNat, f118, hp, hq]
      repeat' (first | intro _ | apply And.intro | (unfold dOk; kernel_rfl) | (show (_ && _) = true; kernel_rfl) | (show (_ || _) = true; kernel_rfl) | refine fzEq rfl (congrArg AV.bool ?_))
      all_goals first | (simp_all [assertI]; done) | (simp_all [assertI]; cases wordI p <;> cases wordI q <;> rfl)
end Go.Ev
namespace Go.Ev
attribute [local go_sem] eq_self bindW_some bindW_map bindW_ite bindW_iteN W_seq W_region W_draw W_cond W_ret W_skip W_exit W_scope W_label W_block blockK_norm blockK_ret blockK_exit WO_nil WO_cons WO_guard WD_nil WD_cons WD_guard guardV guardW_boolT guardW_boolF guardW_tup fpL_some fpL_none footprint thenK_norm thenK_ret thenK_exit put_some put_none ev_tmp ev_con ev_func ofK_int ofK_bool ofK_str ofK_nil evOp evBuiltin evCall evLen evAppend getElem_16 getElem_4 List.length_cons List.length_nil List.cons_append List.nil_append List.append_nil if_false if_true Bool.false_eq_true Bool.true_eq_false Option.map_some Option.map_none List.map_cons List.map_nil evBinOp evBin evUn asB_bool splitB_decide splitB_true splitB_false splitB_beq splitB_bne splitB_not endK_ret endK_norm List.getElem?_cons_zero List.getElem?_cons_succ evResults evResult packRes retK_norm retK_ret cellsAt mkVal evFieldAddr evField evIndexAddr evPart evStore evBuild evBuildSlice fillC fillE evSlice evMakeSlice evConvert getRow AV.cells List.head?_cons List.drop_zero List.drop_succ_cons List.take_zero List.take_succ_cons List.drop_nil List.take_nil List.all_cons List.all_nil AV.ok Bool.and_self Bool.and_true Bool.true_and and_self and_true true_and Nat.zero_add Nat.add_zero setCells splice pairsOk FP.apart heapEq_refl sameAt_refl Bool.or_true Bool.true_or Bool.or_false srcElems elemsOf mutDst roundK_norm roundK_exit roundK_ret List.length_map List.getElem?_map Int.toNat_natCast decide_true decide_false Bool.not_true Bool.not_false List.set set_0 set_1 set_2 set_3 set_4 look_hit look lookD_hit lookD_cons lookD_nil ins_hit ins upd_hit upd rem1_hit rem1 dropT dropSt_eq initT cfg_dd cfg_bd cfg_ra actL_nil actL_cons act1 updT_hit updT frzB retE_norm retE_ret bndO bnd evEq eqCells not_false_eq_true not_true_eq_false toList_some Array.size_empty List.length_append List.map_append endE_norm endE_ret head_take1
open Go.Proofs Go.RowKit Go.IntWalk
set_option maxRecDepth 100000
set_option linter.unusedSimpArgs false
set_option linter.unusedVariables false
set_option maxHeartbeats 4000000

theorem f61 (n : Int) (t : List Int) (k : Nat) (hk : k ≤ t.length) (ht : t.length ≤ 1000000000) (H : List MB) : call Try.prog pol1 61 [I n, .sl false (t.map I), I k] H = some (.bool (assertI n (befS t k) t[k]?), H) := by
  refine call_run Try.func61 rfl rfl rfl rfl rfl rfl (fun _ => rfl) (by simp [AV.plain, AV.plainL, plain_ints, plain_span, plain_ins, plain_prg]) (by simp [AV.plain, AV.plainL, plain_ints, plain_span, plain_ins, plain_prg]) ?_ H
  rcases k with _ | k
  · rcases t with _ | ⟨x, t⟩
    · simp +contextual (disch := omega) only [Try.f61, dd61, ty0, ty3, ty4, ty22, go_sem, ↓reduceIte, List.reduceReplicate, Nat.reduceAdd, Nat.reduceSub, reduceCtorEq, Nat.reduceLeDiff, Nat.reduceMul, Nat.reduceLT, Nat.reduceEqDiff, Int.reduceBNe, Int.reduceBEq, Int.reduceEq, Int.reduceLT, Int.reduceLE, Int.reduceGT, Int.reduceGE, mu61, List.contains_nil, List.contains_cons, Nat.reduceBEq, Bool.or_self, dlt_t, dlt_f, dle_t, dle_f, dgt_t, dgt_f, dge_t, dge_f, beq_t, beq_f, bne_t, bne_f, lt_T, le_T, nle_T, nle_F, ↓wrap_up, ↓wrap_down, ↓wrap_pred, ↓wrap_sub_nat, i64_in, i64_quo, rem_in, Int.reduceToNat, f117]
      repeat' (first | intro _ | apply And.intro | (unfold dOk; kernel_rfl) | (show (_ && _) = true; kernel_rfl) | (show (_ || _) = true; kernel_rfl) | refine fzEq rfl (congrArg AV.bool ?_))
      all_goals (simp_all [assertI, befS])
    · simp +contextual (disch := omega) only [Try.f61, dd61, ty0, ty3, ty4, ty22, go_sem, ↓reduceIte, List.reduceReplicate, Nat.reduceAdd, Nat.reduceSub, reduceCtorEq, Nat.reduceLeDiff, Nat.reduceMul, Nat.reduceLT, Nat.reduceEqDiff, Int.reduceBNe, Int.reduceBEq, Int.reduceEq, Int.reduceLT, Int.reduceLE, Int.reduceGT, Int.reduceGE, mu61, List.contains_nil, List.contains_cons, Nat.reduceBEq, Bool.or_self, dlt_t, dlt_f, dle_t, dle_f, dgt_t, dgt_f, dge_t, dge_f, beq_t, beq_f, bne_t, bne_f, lt_T, le_T, nle_T, nle_F, ↓wrap_up, ↓wrap_down, ↓wrap_pred, ↓wrap_sub_nat, i64_in, i64_quo, rem_in, Int.reduceToNat, f117]
      repeat' (first | intro _ | apply And.intro | (unfold dOk; kernel_rfl) | (show (_ && _) = true; kernel_rfl) | (show (_ || _) = true; kernel_rfl) | refine fzEq rfl (congrArg AV.bool ?_))
      all_goals (simp_all [assertI, befS])
  · obtain ⟨p, hp⟩ : ∃ p, t[k]? = some p := ⟨_, List.getElem?_eq_getElem (by omega)⟩
    have hbf : befS t (k + 1) = some p := by simp [befS, hp]
    rw [hbf]
    by_cases he : k + 1 = t.length
    · have hq : t[k + 1]? = none := List.getElem?_eq_none (by omega)
      rw [hq]
      simp +contextual (disch := omega) only [Try.f61, dd61, ty0, ty3, ty4, ty22, go_sem, ↓reduceIte, List.reduceReplicate, Nat.reduceAdd, Nat.reduceSub, reduceCtorEq, Nat.reduceLeDiff, Nat.reduceMul, Nat.reduceLT, Nat.reduceEqDiff, Int.reduceBNe, Int.reduceBEq, Int.reduceEq, Int.reduceLT, Int.reduceLE, Int.reduceGT, Int.reduceGE, mu61, List.contains_nil, List.contains_cons, Nat.reduceBEq, Bool.or_self, dlt_t, dlt_f, dle_t, dle_f, dgt_t, dgt_f, dge_t, dge_f, beq_t, beq_f, bne_t, bne_f, lt_T, le_T, nle_T, nle_F, ↓wrap_up, ↓wrap_down, ↓wrap_pred, ↓wrap_sub_nat, i64_in, i64_quo, rem_in, Int.reduceToNat, f117, hp]
      repeat' (first | intro _ | apply And.intro | (unfold dOk; kernel_rfl) | (show (_ && _) = true; kernel_rfl) | (show (_ || _) = true; kernel_rfl) | refine fzEq rfl (congrArg AV.bool ?_))
      all_goals (simp_all [assertI])
    · obtain ⟨q, hq⟩ : ∃ q, t[k + 1]? = some q := ⟨_, List.getElem?_eq_getElem (by omega)⟩
      rw [hq]
      simp +contextual (disch := omega) only [Try.f61, dd61, ty0, ty3, ty4, ty22, go_sem, ↓reduceIte, List.reduceReplicate, Nat.reduceAdd, Nat.reduceSub, reduceCtorEq, Nat.reduceLeDiff, Nat.reduceMul, Nat.reduceLT, Nat.reduceEqDiff, Int.reduceBNe, Int.reduceBEq, Int.reduceEq, Int.reduceLT, Int.reduceLE, Int.reduceGT, Int.reduceGE, mu61, List.contains_nil, List.contains_cons, Nat.reduceBEq, Bool.or_self, dlt_t, dlt_f, dle_t, dle_f, dgt_t, dgt_f, dge_t, dge_f, beq_t, beq_f, bne_t, bne_f, lt_T, le_T, nle_T, nle_F, ↓wrap_up, ↓wrap_down, ↓wrap_pred, ↓wrap_sub_nat, i64_in, i64_quo, rem_in, Int.reduceToNat, f117, hp, hq]
      repeat' (first | intro _ | apply And.intro | (unfold dOk; kernel_rfl) | (show (_ && _) = true; kernel_rfl) | (show (_ || _) = true; kernel_rfl) | refine fzEq rfl (congrArg AV.bool ?_))
      all_goals first | (simp_all [assertI]; done) | (simp_all [assertI]; cases wordI p <;> cases wordI q <;> rfl)
end Go.Ev
namespace Go.Ev
attribute [local go_sem] eq_self bindW_some bindW_map bindW_ite bindW_iteN W_seq W_region W_draw W_cond W_ret W_skip W_exit W_scope W_label W_block blockK_norm blockK_ret blockK_exit WO_nil WO_cons WO_guard WD_nil WD_cons WD_guard guardV guardW_boolT guardW_boolF guardW_tup fpL_some fpL_none footprint thenK_norm thenK_ret thenK_exit put_some put_none ev_tmp ev_con ev_func ofK_int ofK_bool ofK_str ofK_nil evOp evBuiltin evCall evLen evAppend getElem_16 getElem_4 List.length_cons List.length_nil List.cons_append List.nil_append List.append_nil if_false if_true Bool.false_eq_true Bool.true_eq_false Option.map_some Option.map_none List.map_cons List.map_nil evBinOp evBin evUn asB_bool splitB_decide splitB_true splitB_false splitB_beq splitB_bne splitB_not endK_ret endK_norm List.getElem?_cons_zero List.getElem?_cons_succ evResults evResult packRes retK_norm retK_ret cellsAt mkVal evFieldAddr evField evIndexAddr evPart evStore evBuild evBuildSlice fillC fillE evSlice evMakeSlice evConvert getRow AV.cells List.head?_cons List.drop_zero List.drop_succ_cons List.take_zero List.take_succ_cons List.drop_nil List.take_nil List.all_cons List.all_nil AV.ok Bool.and_self Bool.and_true Bool.true_and and_self and_true true_and Nat.zero_add Nat.add_zero setCells splice pairsOk FP.apart heapEq_refl sameAt_refl Bool.or_true Bool.true_or Bool.or_false srcElems elemsOf mutDst roundK_norm roundK_exit roundK_ret List.length_map List.getElem?_map Int.toNat_natCast decide_true decide_false Bool.not_true Bool.not_false List.set set_0 set_1 set_2 set_3 set_4 look_hit look lookD_hit lookD_cons lookD_nil ins_hit ins upd_hit upd rem1_hit rem1 dropT dropSt_eq initT cfg_dd cfg_bd cfg_ra actL_nil actL_cons act1 updT_hit updT frzB retE_norm retE_ret bndO bnd evEq eqCells not_false_eq_true not_true_eq_false toList_some Array.size_empty List.length_append List.map_append tySzE List.head?_drop Nat.mul_one sameAt_zero sameAt_two sameAt_three sameAt_four sameAt_five endE_norm endE_ret head_take1
open Go.Proofs Go.RowKit Go.IntWalk
set_option maxRecDepth 100000
set_option linter.unusedSimpArgs false
set_option linter.unusedVariables false
set_option maxHeartbeats 4000000

/-- A match: where it begins, where it ends, its captures. -/
abbrev M3 := Int × Int × List (Int × Int)
abbrev mA (m : M3) : AV := matAV m.1 m.2.1 m.2.2
theorem plain_mats (l : List M3) : AV.plainL (l.map mA) = true := by
  induction l with
  | nil => rfl
  | cons a l ih => simp [AV.plainL, ih, plain_mat]

theorem f67 (a b : M3) (ha : a.2.2.length ≤ 1000) (hb : b.2.2.length ≤ 1000) (H : List MB) : call Try.prog pol1 67 [mA a, mA b] H = some (.bool (decide (a = b)), H) := by
  obtain ⟨s, e, c⟩ := a
  obtain ⟨s', e', c'⟩ := b
  simp only at ha hb
  refine call_run Try.func67 rfl rfl rfl rfl rfl rfl (fun _ => rfl) (by simp [AV.plain, AV.plainL, plain_mat]) rfl ?_ H
  by_cases h : s = s' ∧ e = e' ∧ c.length = c'.length
  · obtain ⟨rfl, rfl, hl⟩ := h
    have hl' : (c.length : Int) = (c'.length : Int) := by rw [hl]
    simp +contextual (disch := omega) only [Try.f67, dd67, ty0, ty3, ty4, ty110, ty112, ty174, go_sem, ↓reduceIte, List.reduceReplicate, Nat.reduceAdd, Nat.reduceSub, reduceCtorEq, Nat.reduceLeDiff, Nat.reduceMul, Nat.reduceLT, Nat.reduceEqDiff, Int.reduceBNe, Int.reduceBEq, Int.reduceEq, Int.reduceLT, Int.reduceLE, Int.reduceGT, Int.reduceGE, mu67, List.contains_nil, List.contains_cons, Nat.reduceBEq, Bool.or_self, dlt_t, dlt_f, dle_t, dle_f, dgt_t, dgt_f, dge_t, dge_f, beq_t, beq_f, bne_t, bne_f, lt_T, le_T, nle_T, nle_F, ↓wrap_up, ↓wrap_down, ↓wrap_pred, ↓wrap_sub_nat, i64_in, i64_quo, rem_in, Int.reduceToNat, room_ok, matAV, hl']
    refine W_count (M := (mskOf (pol1.mask 67) (pol1.gc 67) (pol1.acts 67) 0 4)) rfl c.length (fun i => (⟨45, [(5, I i), (3, .rf 1 1 0 0), (2, .rf 0 1 0 0)], [.row 3 [.agg [I s, I e, .sl false (c.map spanAV)]] 0, .row 3 [.agg [I s, I e, .sl false (c'.map spanAV)]] 0]⟩ : St))
      (fun i => ∀ k, k < i → c[k]? = c'[k]?) ?_ ?_ (fun k h => by omega) _ (by first | rfl | (simp [keepT, AV.underL, AV.under, MB.under, underL_plain, under_plain, underL_append, plain_ints, plain_span, plain_ins, plain_prg, -List.map_take, -List.map_replicate, -List.map_set]; done))
    · intro i hi hg
      obtain ⟨p, hp⟩ : ∃ p, c[i]? = some p := ⟨_, List.getElem?_eq_getElem hi⟩
      obtain ⟨q, hq⟩ : ∃ q, c'[i]? = some q := ⟨_, List.getElem?_eq_getElem (by omega)⟩
      by_cases hpq : p = q
      · subst hpq
        simp +contextual (disch := omega) only [Try.f67, dd67, ty0, ty3, ty4, ty110, ty112, ty174, go_sem, ↓reduceIte, List.reduceReplicate, Nat.reduceAdd, Nat.reduceSub, reduceCtorEq, Nat.reduceLeDiff, Nat.reduceMul, Nat.reduceLT, Nat.reduceEqDiff, Int.reduceBNe, Int.reduceBEq, Int.reduceEq, Int.reduceLT, Int.reduceLE, Int.reduceGT, Int.reduceGE, mu67, List.contains_nil, List.contains_cons, Nat.reduceBEq, Bool.or_self, dlt_t, dlt_f, dle_t, dle_f, dgt_t, dgt_f, dge_t, dge_f, beq_t, beq_f, bne_t, bne_f, lt_T, le_T, nle_T, nle_F, ↓wrap_up, ↓wrap_down, ↓wrap_pred, ↓wrap_sub_nat, i64_in, i64_quo, rem_in, Int.reduceToNat, room_ok, hp, hq, spanAV]
        refine ⟨by unfold dOk; kernel_rfl, fun k hk => ?_, (by first | rfl | (simp [keepT, AV.underL, AV.under, MB.under, underL_plain, under_plain, underL_append, plain_ints, plain_span, plain_ins, plain_prg, -List.map_take, -List.map_replicate, -List.map_set]; done))⟩
        rcases Nat.lt_or_ge k i with h | h
        · exact hg k h
        · obtain rfl : k = i := by omega
          rw [hp, hq]
      · have hne : ¬ ((s, e, c) : M3) = (s, e, c') := fun he => hpq (by
          cases he
          rw [hp] at hq
          exact Option.some.inj hq)
        have hb2 : (p.1 == q.1 && p.2 == q.2) = false := by
          rw [Bool.eq_false_iff]
          intro he
          simp at he
          exact hpq (Prod.ext he.1 he.2)
        rw [decide_eq_false hne]
        simp +contextual (disch := omega) only [Try.f67, dd67, ty0, ty3, ty4, ty110, ty112, ty174, go_sem, ↓reduceIte, List.reduceReplicate, Nat.reduceAdd, Nat.reduceSub, reduceCtorEq, Nat.reduceLeDiff, Nat.reduceMul, Nat.reduceLT, Nat.reduceEqDiff, Int.reduceBNe, Int.reduceBEq, Int.reduceEq, Int.reduceLT, Int.reduceLE, Int.reduceGT, Int.reduceGE, mu67, List.contains_nil, List.contains_cons, Nat.reduceBEq, Bool.or_self, dlt_t, dlt_f, dle_t, dle_f, dgt_t, dgt_f, dge_t, dge_f, beq_t, beq_f, bne_t, bne_f, lt_T, le_T, nle_T, nle_F, ↓wrap_up, ↓wrap_down, ↓wrap_pred, ↓wrap_sub_nat, i64_in, i64_quo, rem_in, Int.reduceToNat, room_ok, hp, hq, spanAV, hb2]
        repeat' (first | intro _ | apply And.intro | (unfold dOk; kernel_rfl) | (show (_ || _) = true; kernel_rfl) | (show (_ && _) = true; kernel_rfl))
        all_goals exact fzEq rfl rfl
    · intro hg
      have hcc : c = c' := List.ext_getElem? fun k => by
        rcases Nat.lt_or_ge k c.length with h | h
        · exact hg k h
        · rw [List.getElem?_eq_none h, List.getElem?_eq_none (by omega)]
      subst hcc
      simp +contextual (disch := omega) only [Try.f67, dd67, ty0, ty3, ty4, ty110, ty112, ty174, go_sem, ↓reduceIte, List.reduceReplicate, Nat.reduceAdd, Nat.reduceSub, reduceCtorEq, Nat.reduceLeDiff, Nat.reduceMul, Nat.reduceLT, Nat.reduceEqDiff, Int.reduceBNe, Int.reduceBEq, Int.reduceEq, Int.reduceLT, Int.reduceLE, Int.reduceGT, Int.reduceGE, mu67, List.contains_nil, List.contains_cons, Nat.reduceBEq, Bool.or_self, dlt_t, dlt_f, dle_t, dle_f, dgt_t, dgt_f, dge_t, dge_f, beq_t, beq_f, bne_t, bne_f, lt_T, le_T, nle_T, nle_F, ↓wrap_up, ↓wrap_down, ↓wrap_pred, ↓wrap_sub_nat, i64_in, i64_quo, rem_in, Int.reduceToNat, room_ok]
      exact fzEq rfl (by simp)
  · rw [decide_eq_false (fun e => h (by cases e; exact ⟨rfl, rfl, rfl⟩))]
    simp +contextual (disch := omega) only [Try.f67, dd67, ty0, ty3, ty4, ty110, ty112, ty174, go_sem, ↓reduceIte, List.reduceReplicate, Nat.reduceAdd, Nat.reduceSub, reduceCtorEq, Nat.reduceLeDiff, Nat.reduceMul, Nat.reduceLT, Nat.reduceEqDiff, Int.reduceBNe, Int.reduceBEq, Int.reduceEq, Int.reduceLT, Int.reduceLE, Int.reduceGT, Int.reduceGE, mu67, List.contains_nil, List.contains_cons, Nat.reduceBEq, Bool.or_self, dlt_t, dlt_f, dle_t, dle_f, dgt_t, dgt_f, dge_t, dge_f, beq_t, beq_f, bne_t, bne_f, lt_T, le_T, nle_T, nle_F, ↓wrap_up, ↓wrap_down, ↓wrap_pred, ↓wrap_sub_nat, i64_in, i64_quo, rem_in, Int.reduceToNat, room_ok, matAV]
    repeat' (first | intro _ | apply And.intro | (unfold dOk; kernel_rfl) | (show (_ || _) = true; kernel_rfl) | (show (_ && _) = true; kernel_rfl))
    all_goals exact fzEq rfl rfl

theorem f26 (a b : List M3) (ha : a.length ≤ 1000000) (hb : b.length ≤ 1000000) (hca : ∀ m ∈ a, m.2.2.length ≤ 1000) (hcb : ∀ m ∈ b, m.2.2.length ≤ 1000) (H : List MB) :
    call Try.prog pol1 26 [.sl false (a.map mA), .sl false (b.map mA)] H = some (.bool (decide (a = b)), H) := by
  refine call_run Try.func26 rfl rfl rfl rfl rfl rfl (fun _ => rfl) (by simp [AV.plain, AV.plainL, plain_mats]) rfl ?_ H
  by_cases hl : a.length = b.length
  · have hl' : (a.length : Int) = (b.length : Int) := by rw [hl]
    simp +contextual (disch := omega) only [Try.f26, dd26, ty0, ty3, ty4, ty53, ty112, go_sem, ↓reduceIte, List.reduceReplicate, Nat.reduceAdd, Nat.reduceSub, reduceCtorEq, Nat.reduceLeDiff, Nat.reduceMul, Nat.reduceLT, Nat.reduceEqDiff, Int.reduceBNe, Int.reduceBEq, Int.reduceEq, Int.reduceLT, Int.reduceLE, Int.reduceGT, Int.reduceGE, mu26, List.contains_nil, List.contains_cons, Nat.reduceBEq, Bool.or_self, dlt_t, dlt_f, dle_t, dle_f, dgt_t, dgt_f, dge_t, dge_f, beq_t, beq_f, bne_t, bne_f, lt_T, le_T, nle_T, nle_F, ↓wrap_up, ↓wrap_down, ↓wrap_pred, ↓wrap_sub_nat, i64_in, i64_quo, rem_in, Int.reduceToNat, room_ok, hl']
    refine W_count (M := (mskOf (pol1.mask 26) (pol1.gc 26) (pol1.acts 26) 0 4)) rfl a.length (fun i => (⟨27, [(5, I i), (1, .sl false (b.map mA)), (0, .sl false (a.map mA))], []⟩ : St))
      (fun i => ∀ k, k < i → a[k]? = b[k]?) ?_ ?_ (fun k h => by omega) _ (by first | rfl | (simp [keepT, AV.underL, AV.under, MB.under, underL_plain, under_plain, underL_append, plain_ints, plain_span, plain_ins, plain_prg, -List.map_take, -List.map_replicate, -List.map_set]; done))
    · intro i hi hg
      obtain ⟨p, hp⟩ : ∃ p, a[i]? = some p := ⟨_, List.getElem?_eq_getElem hi⟩
      obtain ⟨q, hq⟩ : ∃ q, b[i]? = some q := ⟨_, List.getElem?_eq_getElem (by omega)⟩
      have h67 := f67 p q (hca p (List.mem_of_getElem? hp)) (hcb q (List.mem_of_getElem? hq))
      by_cases hpq : p = q
      · subst hpq
        rw [decide_eq_true rfl] at h67
        have h67 := fun H => h67 H
        simp only [mA, matAV] at h67
        simp +contextual (disch := omega) only [Try.f26, dd26, ty0, ty3, ty4, ty53, ty112, go_sem, ↓reduceIte, List.reduceReplicate, Nat.reduceAdd, Nat.reduceSub, reduceCtorEq, Nat.reduceLeDiff, Nat.reduceMul, Nat.reduceLT, Nat.reduceEqDiff, Int.reduceBNe, Int.reduceBEq, Int.reduceEq, Int.reduceLT, Int.reduceLE, Int.reduceGT, Int.reduceGE, mu26, List.contains_nil, List.contains_cons, Nat.reduceBEq, Bool.or_self, dlt_t, dlt_f, dle_t, dle_f, dgt_t, dgt_f, dge_t, dge_f, beq_t, beq_f, bne_t, bne_f, lt_T, le_T, nle_T, nle_F, ↓wrap_up, ↓wrap_down, ↓wrap_pred, ↓wrap_sub_nat, i64_in, i64_quo, rem_in, Int.reduceToNat, room_ok, hp, hq, h67, mA, matAV]
        refine ⟨by unfold dOk; kernel_rfl, fun k hk => ?_, (by first | rfl | (simp [keepT, AV.underL, AV.under, MB.under, underL_plain, under_plain, underL_append, plain_ints, plain_span, plain_ins, plain_prg, -List.map_take, -List.map_replicate, -List.map_set]; done))⟩
        rcases Nat.lt_or_ge k i with h | h
        · exact hg k h
        · obtain rfl : k = i := by omega
          rw [hp, hq]
      · have hne : ¬ a = b := fun he => hpq (by
          rw [he, hq] at hp
          exact (Option.some.inj hp).symm)
        rw [decide_eq_false hne]
        rw [decide_eq_false hpq] at h67
        simp only [mA, matAV] at h67
        simp +contextual (disch := omega) only [Try.f26, dd26, ty0, ty3, ty4, ty53, ty112, go_sem, ↓reduceIte, List.reduceReplicate, Nat.reduceAdd, Nat.reduceSub, reduceCtorEq, Nat.reduceLeDiff, Nat.reduceMul, Nat.reduceLT, Nat.reduceEqDiff, Int.reduceBNe, Int.reduceBEq, Int.reduceEq, Int.reduceLT, Int.reduceLE, Int.reduceGT, Int.reduceGE, mu26, List.contains_nil, List.contains_cons, Nat.reduceBEq, Bool.or_self, dlt_t, dlt_f, dle_t, dle_f, dgt_t, dgt_f, dge_t, dge_f, beq_t, beq_f, bne_t, bne_f, lt_T, le_T, nle_T, nle_F, ↓wrap_up, ↓wrap_down, ↓wrap_pred, ↓wrap_sub_nat, i64_in, i64_quo, rem_in, Int.reduceToNat, room_ok, hp, hq, h67, mA, matAV]
        repeat' (first | intro _ | apply And.intro | (unfold dOk; kernel_rfl) | (show (_ || _) = true; kernel_rfl) | (show (_ && _) = true; kernel_rfl))
        all_goals exact fzEq rfl rfl
    · intro hg
      have hcc : a = b := List.ext_getElem? fun k => by
        rcases Nat.lt_or_ge k a.length with h | h
        · exact hg k h
        · rw [List.getElem?_eq_none h, List.getElem?_eq_none (by omega)]
      subst hcc
      simp +contextual (disch := omega) only [Try.f26, dd26, ty0, ty3, ty4, ty53, ty112, go_sem, ↓reduceIte, List.reduceReplicate, Nat.reduceAdd, Nat.reduceSub, reduceCtorEq, Nat.reduceLeDiff, Nat.reduceMul, Nat.reduceLT, Nat.reduceEqDiff, Int.reduceBNe, Int.reduceBEq, Int.reduceEq, Int.reduceLT, Int.reduceLE, Int.reduceGT, Int.reduceGE, mu26, List.contains_nil, List.contains_cons, Nat.reduceBEq, Bool.or_self, dlt_t, dlt_f, dle_t, dle_f, dgt_t, dgt_f, dge_t, dge_f, beq_t, beq_f, bne_t, bne_f, lt_T, le_T, nle_T, nle_F, ↓wrap_up, ↓wrap_down, ↓wrap_pred, ↓wrap_sub_nat, i64_in, i64_quo, rem_in, Int.reduceToNat, room_ok]
      exact fzEq rfl (by simp)
  · rw [decide_eq_false (fun e => hl (by rw [e]))]
    simp +contextual (disch := omega) only [Try.f26, dd26, ty0, ty3, ty4, ty53, ty112, go_sem, ↓reduceIte, List.reduceReplicate, Nat.reduceAdd, Nat.reduceSub, reduceCtorEq, Nat.reduceLeDiff, Nat.reduceMul, Nat.reduceLT, Nat.reduceEqDiff, Int.reduceBNe, Int.reduceBEq, Int.reduceEq, Int.reduceLT, Int.reduceLE, Int.reduceGT, Int.reduceGE, mu26, List.contains_nil, List.contains_cons, Nat.reduceBEq, Bool.or_self, dlt_t, dlt_f, dle_t, dle_f, dgt_t, dgt_f, dge_t, dge_f, beq_t, beq_f, bne_t, bne_f, lt_T, le_T, nle_T, nle_F, ↓wrap_up, ↓wrap_down, ↓wrap_pred, ↓wrap_sub_nat, i64_in, i64_quo, rem_in, Int.reduceToNat, room_ok]
    repeat' (first | intro _ | apply And.intro | (unfold dOk; kernel_rfl) | (show (_ || _) = true; kernel_rfl) | (show (_ && _) = true; kernel_rfl))
    all_goals first | exact fzEq rfl rfl | omega
end Go.Ev
namespace Go.Ev
open Go.Proofs Go.RowKit Go.IntWalk
set_option maxRecDepth 100000
set_option linter.unusedSimpArgs false
set_option linter.unusedVariables false
set_option maxHeartbeats 4000000

/-- A program over a text, as the plain walk takes it. -/
def progOf (g : Prg) (t : List Int) : Prog1 := ⟨fun pc => g.ins[pc]?, fun s k => match t[k]? with
  | some x => hasSpan s x
  | none => false, fun n k => assertI n (befS t k) t[k]?⟩

structure Okay (g : Prg) : Prop where
  len : 1 ≤ g.ins.length ∧ g.ins.length ≤ 8192
  caps : 0 ≤ g.caps ∧ g.caps ≤ 9
  ok : ∀ i ∈ g.ins, okIns g.ins.length g.caps g.runes i = true
  last : lastGood g = true
theorem okay_of {g : Prg} (h : validG g = 0) : Okay g := by
  unfold validG at h
  split at h
  · cases h
  · split at h
    · cases h
    · split at h
      · rename_i h1 h2 h3
        simp only [Bool.and_eq_true, List.all_eq_true] at h3
        exact ⟨by omega, by omega, h3.1, h3.2⟩
      · cases h
theorem ok_facts {n : Nat} {c : Int} {r : Bool} {i : Ins} (h : okIns n c r i = true) :
    (i.op = 2 → (0 ≤ i.x ∧ i.x < n) ∧ 0 ≤ i.y ∧ i.y < n) ∧ (i.op = 3 → 0 ≤ i.x ∧ i.x < n) ∧ (i.op = 4 → 0 ≤ i.n ∧ i.n < 2 * c) := by
  simp only [okIns, Bool.and_eq_true, Bool.or_eq_true, beq_iff_eq, decide_eq_true_eq] at h
  refine ⟨fun e => ?_, fun e => ?_, fun e => ?_⟩ <;> simp [e] at h <;> omega
/-- Behind an instruction that goes on there is another. -/
theorem Okay.next {g : Prg} (h : Okay g) {pc : Nat} {i : Ins} (hi : g.ins[pc]? = some i) (ho : ¬ (i.op = 0 ∨ i.op = 2 ∨ i.op = 3)) : pc + 1 < g.ins.length := by
  have hlt := (List.getElem?_eq_some_iff.1 hi).1
  rcases Nat.lt_or_ge (pc + 1) g.ins.length with hh | hh
  · exact hh
  · have hl := h.last
    have : g.ins.length - 1 = pc := by omega
    simp only [lastGood, this, hi] at hl
    simp at hl
    omega

structure WayOk (g : Prg) (t : List Int) (N : Nat) (w : Way) : Prop where
  pc : w.pc < g.ins.length
  at_ : w.at_ ≤ t.length
  regs : w.regs.length = N

theorem step_ok {g : Prg} (h : Okay g) {t : List Int} {N : Nat} {w : Way} (hw : WayOk g t N w) {l : List Way} (hs : stepW (progOf g t) w = .ways l) : ∀ v ∈ l, WayOk g t N v := by
  obtain ⟨h1, h2, h3⟩ := hw
  obtain ⟨i, hi⟩ : ∃ i, g.ins[w.pc]? = some i := ⟨_, List.getElem?_eq_getElem h1⟩
  have hok := h.ok i (List.mem_of_getElem? hi)
  have hf := ok_facts hok
  have hop := okIns_op hok
  have hp : (progOf g t).ins w.pc = some i := hi
  simp only [stepW, hp] at hs
  split at hs
  · cases hs
  · rename_i n0
    split at hs
    · rename_i e1
      split at hs
      · rename_i hhas
        cases hs
        intro v hv
        rw [List.mem_singleton.1 hv]
        refine ⟨h.next hi (by omega), ?_, h3⟩
        simp only [progOf] at hhas
        cases ht : t[w.at_]? with
        | none => rw [ht] at hhas; simp at hhas
        | some x =>
          have := (List.getElem?_eq_some_iff.1 ht).1
          show w.at_ + 1 ≤ t.length
          omega
      · cases hs; intro v hv; simp at hv
    · split at hs
      · rename_i e2
        cases hs
        have := hf.1 e2
        intro v hv
        rcases List.mem_cons.1 hv with e | e
        · rw [e]; exact ⟨by show i.x.toNat < _; omega, h2, h3⟩
        · rw [List.mem_singleton.1 e]; exact ⟨by show i.y.toNat < _; omega, h2, h3⟩
      · split at hs
        · rename_i e3
          cases hs
          have := hf.2.1 e3
          intro v hv
          rw [List.mem_singleton.1 hv]; exact ⟨by show i.x.toNat < _; omega, h2, h3⟩
        · split at hs
          · rename_i e4
            cases hs
            intro v hv
            rw [List.mem_singleton.1 hv]; exact ⟨h.next hi (by omega), h2, by simp [h3]⟩
          · split at hs
            · cases hs
              intro v hv
              rw [List.mem_singleton.1 hv]; exact ⟨h.next hi (by omega), h2, h3⟩
            · cases hs; intro v hv; simp at hv

/-- What comes out: the matches, or that the fuel is used up. -/
def matOf (pos : Int) (n : Nat) (w : Way) : M3 := (pos, w.at_, capsN w.regs n)
def resA (pos : Int) (n : Nat) : Option (List Way) → AV
  | some out => .tup [.sl false (out.map fun w => mA (matOf pos n w)), I 0]
  | none => .tup [.sl false [], I 11]
theorem plain_matOf (pos : Int) (n : Nat) (l : List Way) : AV.plainL (l.map fun w => mA (matOf pos n w)) = true := by
  rw [show (l.map fun w => mA (matOf pos n w)) = (l.map (matOf pos n)).map mA by simp]
  exact plain_mats _
theorem plain_matOf2 (pos : Int) (n : Nat) (l : List Way) : AV.plainL (l.map fun w => AV.agg [I pos, I w.at_, .sl false ((capsN w.regs n).map spanAV)]) = true := plain_matOf pos n l
theorem plain_resA (pos : Int) (n : Nat) (o : Option (List Way)) : AV.plain (resA pos n o) = true := by
  cases o with
  | none => rfl
  | some out => simp [resA, AV.plain, AV.plainL, plain_matOf]
theorem runW_nil {p : Prog1} {most : Int} {fuel : Nat} {out : List Way} : runW p most fuel [] out = some out := by unfold runW; rfl
theorem runW_full {p : Prog1} {most : Int} {fuel : Nat} {w : Way} {rest out : List Way} (h : (out.length : Int) = most) : runW p most fuel (w :: rest) out = some out := by
  unfold runW
  simp only [h, if_true]

/-- A stack of ways: the top comes last; behind it what was there before. -/
abbrev wayA (w : Way) : AV := .agg [I w.pc, I w.at_, .sl false (w.regs.map I)]
def stA {α : Type} (f : α → AV) (l : List α) : List AV := l.reverse.map f
theorem stA_len {α : Type} (f : α → AV) (l : List α) : (stA f l).length = l.length := by simp [stA]
theorem stA_cons {α : Type} (f : α → AV) (w : α) (l : List α) (j : List AV) : stA f (w :: l) ++ j = stA f l ++ (f w :: j) := by simp [stA]
theorem stA_one {α : Type} (f : α → AV) (w : α) (l : List α) : stA f (w :: l) = stA f l ++ [f w] := by simp [stA]
theorem plain_ways (l : List Way) : AV.plainL (stA wayA l) = true := by
  rw [plainL_iff]
  intro x hx
  obtain ⟨w, _, rfl⟩ := List.mem_map.1 hx
  simp [AV.plain, AV.plainL, plain_ints]
theorem get_top {A : List AV} {k : Nat} (h : A.length = k) (x : AV) (B : List AV) : (A ++ (x :: B))[k]? = some x := by
  subst h; simp
theorem take_top {A : List AV} {k : Nat} (h : A.length = k) (B : List AV) : (A ++ B).take k = A := by
  subst h; simp
theorem drop_top {A : List AV} {k : Nat} (h : A.length = k) (x : AV) (B : List AV) : (A ++ (x :: B)).drop (k + 1) = B := by
  subst h; simp [List.drop_append]
theorem drop_top2 {A : List AV} {k : Nat} (h : A.length = k) (x y : AV) (B : List AV) : (A ++ (x :: y :: B)).drop (k + 2) = B := by
  subst h; simp [List.drop_append]
end Go.Ev
