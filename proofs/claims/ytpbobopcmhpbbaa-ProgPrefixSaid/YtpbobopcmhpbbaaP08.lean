/- Functions of the program, each with what it computes; no further conditions. -/
import Derived.Test.YtpbobopcmhpbbaaP07
import Derived.Test.YtpbobopcmhpbbaaP05
set_option linter.unusedVariables false
set_option linter.unusedSimpArgs false
namespace Go.Ev
open Go.Proofs Go.RowKit Go.IntWalk
set_option maxRecDepth 100000
set_option linter.unusedSimpArgs false
set_option maxHeartbeats 2000000
theorem f136 (a b : Int) (H : List MB) : call Try.prog pol1 136 [.agg [.int .i64 a, .int .i64 b]] H = some (.bool (decide (0 ≤ a ∧ a ≤ b ∧ b ≤ 1114111)), H) := by
  refine call_run Try.func136 rfl rfl rfl rfl rfl rfl (fun _ => rfl) (by simp [AV.plain, AV.plainL, plain_ints, plain_span, plain_ins, plain_prg]) (by simp [AV.plain, AV.plainL, plain_ints, plain_span, plain_ins, plain_prg]) ?_ H
  simp only [Try.f136, dd136, ty0, ty3, ty4, ty86, ↓reduceIte, eq_self, bindW_some, bindW_map, bindW_ite, bindW_iteN, W_seq, W_region, W_draw, W_cond, W_ret, W_skip, W_exit, W_scope, W_label, W_block, blockK_norm, blockK_ret, blockK_exit, WO_nil, WO_cons, WO_guard, WD_nil, WD_cons, WD_guard, guardV, guardW_boolT, guardW_boolF, guardW_tup, fpL_some, fpL_none, footprint, thenK_norm, thenK_ret, thenK_exit, put_some, put_none, ev_tmp, ev_con, ev_func, ofK_int, ofK_bool, ofK_str, ofK_nil, evOp, evBuiltin, evCall, evLen, evAppend, getElem_16, getElem_4, List.length_cons, List.length_nil, List.reduceReplicate, Nat.reduceAdd, Nat.reduceSub, List.cons_append, List.nil_append, List.append_nil, if_false, if_true, Bool.false_eq_true, Bool.true_eq_false, reduceCtorEq, Option.map_some, Option.map_none, List.map_cons, List.map_nil, evBinOp, evBin, evUn, asB_bool, splitB_decide, splitB_true, splitB_false, splitB_beq, splitB_bne, splitB_not, endK_ret, endK_norm, List.getElem?_cons_zero, List.getElem?_cons_succ, evResults, evResult, packRes, retK_norm, retK_ret, cellsAt, mkVal, evFieldAddr, evField, evIndexAddr, evPart, evStore, evBuild, evBuildSlice, fillC, fillE, evSlice, evMakeSlice, evConvert, getRow, AV.cells, List.head?_cons, List.drop_zero, List.drop_succ_cons, List.take_zero, List.take_succ_cons, List.drop_nil, List.take_nil, List.all_cons, List.all_nil, AV.ok, Bool.and_self, Bool.and_true, Bool.true_and, and_self, and_true, true_and, Nat.reduceLeDiff, Nat.reduceMul, Nat.reduceLT, Nat.reduceEqDiff, Nat.zero_add, Nat.add_zero, setCells, splice, pairsOk, FP.apart, heapEq_refl, sameAt_refl, Bool.or_true, Bool.true_or, Bool.or_false, srcElems, elemsOf, mutDst, roundK_norm, roundK_exit, roundK_ret, List.length_map, List.getElem?_map, Int.toNat_natCast, Int.reduceBNe, Int.reduceBEq, decide_true, decide_false, Bool.not_true, Bool.not_false, List.set, set_0, set_1, set_2, set_3, set_4, look_hit, look, lookD_hit, lookD_cons, lookD_nil, ins_hit, ins, upd_hit, upd, rem1_hit, rem1, dropT, dropSt_eq, initT, cfg_dd, cfg_bd, cfg_ra, actL_nil, actL_cons, act1, updT_hit, updT, frzB, mu136, List.contains_nil, List.contains_cons, Nat.reduceBEq, Bool.or_self]
  repeat' (first | intro _ | apply And.intro | refine fzEq rfl ?_)
  all_goals (congr 1; simp only [decide_eq_decide, false_eq_decide_iff]; omega)

def badAt (l : List (Int × Int)) (i : Nat) : Bool :=
  match l[i]? with
  | some p => !decide (0 ≤ p.1 ∧ p.1 ≤ p.2 ∧ p.2 ≤ 1114111) || (match i with
    | 0 => false
    | k + 1 => match l[k]? with
      | some q => decide (p.1 - q.2 < 2)
      | none => false)
  | none => false
def refSpans (l : List (Int × Int)) : Int := if (List.range l.length).any (badAt l) then 1 else if 64 < l.length then 4 else 0

theorem refSpans_bad {l : List (Int × Int)} {i : Nat} (hi : i < l.length) (h : badAt l i = true) : refSpans l = 1 := by
  unfold refSpans
  rw [if_pos]
  exact List.any_eq_true.2 ⟨i, List.mem_range.2 hi, h⟩
theorem refSpans_good {l : List (Int × Int)} (h : ∀ k, k < l.length → badAt l k = false) : refSpans l = if 64 < l.length then 4 else 0 := by
  unfold refSpans
  rw [if_neg]
  intro h2
  obtain ⟨k, h3, h4⟩ := List.any_eq_true.1 h2
  rw [h k (List.mem_range.1 h3)] at h4
  cases h4

theorem f119 (l : List (Int × Int)) (hl : l.length ≤ 1000000) (H : List MB) : call Try.prog pol1 119 [.sl false (l.map spanAV)] H = some (I (refSpans l), H) := by
  refine call_run Try.func119 rfl rfl rfl rfl rfl rfl (fun _ => rfl) (by simp [AV.plain, AV.plainL, plain_ints, plain_span, plain_ins, plain_prg]) (by simp [AV.plain, AV.plainL, plain_ints, plain_span, plain_ins, plain_prg]) ?_ H
  simp only [Try.f119, dd119, ty0, ty3, ty4, ty23, ty36, ty86, ↓reduceIte, eq_self, bindW_some, bindW_map, bindW_ite, bindW_iteN, W_seq, W_region, W_draw, W_cond, W_ret, W_skip, W_exit, W_scope, W_label, W_block, blockK_norm, blockK_ret, blockK_exit, WO_nil, WO_cons, WO_guard, WD_nil, WD_cons, WD_guard, guardV, guardW_boolT, guardW_boolF, guardW_tup, fpL_some, fpL_none, footprint, thenK_norm, thenK_ret, thenK_exit, put_some, put_none, ev_tmp, ev_con, ev_func, ofK_int, ofK_bool, ofK_str, ofK_nil, evOp, evBuiltin, evCall, evLen, evAppend, getElem_16, getElem_4, List.length_cons, List.length_nil, List.reduceReplicate, Nat.reduceAdd, Nat.reduceSub, List.cons_append, List.nil_append, List.append_nil, if_false, if_true, Bool.false_eq_true, Bool.true_eq_false, reduceCtorEq, Option.map_some, Option.map_none, List.map_cons, List.map_nil, evBinOp, evBin, evUn, asB_bool, splitB_decide, splitB_true, splitB_false, splitB_beq, splitB_bne, splitB_not, endK_ret, endK_norm, List.getElem?_cons_zero, List.getElem?_cons_succ, evResults, evResult, packRes, retK_norm, retK_ret, cellsAt, mkVal, evFieldAddr, evField, evIndexAddr, evPart, evStore, evBuild, evBuildSlice, fillC, fillE, evSlice, evMakeSlice, evConvert, getRow, AV.cells, List.head?_cons, List.drop_zero, List.drop_succ_cons, List.take_zero, List.take_succ_cons, List.drop_nil, List.take_nil, List.all_cons, List.all_nil, AV.ok, Bool.and_self, Bool.and_true, Bool.true_and, and_self, and_true, true_and, Nat.reduceLeDiff, Nat.reduceMul, Nat.reduceLT, Nat.reduceEqDiff, Nat.zero_add, Nat.add_zero, setCells, splice, pairsOk, FP.apart, heapEq_refl, sameAt_refl, Bool.or_true, Bool.true_or, Bool.or_false, srcElems, elemsOf, mutDst, roundK_norm, roundK_exit, roundK_ret, List.length_map, List.getElem?_map, Int.toNat_natCast, Int.reduceBNe, Int.reduceBEq, decide_true, decide_false, Bool.not_true, Bool.not_false, List.set, set_0, set_1, set_2, set_3, set_4, look_hit, look, lookD_hit, lookD_cons, lookD_nil, ins_hit, ins, upd_hit, upd, rem1_hit, rem1, dropT, dropSt_eq, initT, cfg_dd, cfg_bd, cfg_ra, actL_nil, actL_cons, act1, updT_hit, updT, frzB, mu119, List.contains_nil, List.contains_cons, Nat.reduceBEq, Bool.or_self]
  refine W_count (M := (mskOf (pol1.mask 119) (pol1.gc 119) (pol1.acts 119) 0 2)) rfl l.length (fun i => (⟨40, [(3, I i), (0, .sl false (l.map spanAV))], []⟩ : St)) (fun i => ∀ k, k < i → badAt l k = false) ?_ ?_ (fun k h => by omega) _ rfl
  · intro i hlt hg
    obtain ⟨p, hp⟩ : ∃ p, l[i]? = some p := ⟨_, List.getElem?_eq_getElem hlt⟩
    have ext : badAt l i = false → ∀ k, k < i + 1 → badAt l k = false := fun h k hk => by
      rcases Nat.lt_or_ge k i with h1 | h1
      · exact hg k h1
      · obtain rfl : k = i := by omega
        exact h
    by_cases hgd : 0 ≤ p.1 ∧ p.1 ≤ p.2 ∧ p.2 ≤ 1114111
    · rcases i with _ | i
      · simp +contextual (disch := omega) only [Try.f119, dd119, ty0, ty3, ty4, ty23, ty36, ty86, ↓reduceIte, eq_self, bindW_some, bindW_map, bindW_ite, bindW_iteN, W_seq, W_region, W_draw, W_cond, W_ret, W_skip, W_exit, W_scope, W_label, W_block, blockK_norm, blockK_ret, blockK_exit, WO_nil, WO_cons, WO_guard, WD_nil, WD_cons, WD_guard, guardV, guardW_boolT, guardW_boolF, guardW_tup, fpL_some, fpL_none, footprint, thenK_norm, thenK_ret, thenK_exit, put_some, put_none, ev_tmp, ev_con, ev_func, ofK_int, ofK_bool, ofK_str, ofK_nil, evOp, evBuiltin, evCall, evLen, evAppend, getElem_16, getElem_4, List.length_cons, List.length_nil, List.reduceReplicate, Nat.reduceAdd, Nat.reduceSub, List.cons_append, List.nil_append, List.append_nil, if_false, if_true, Bool.false_eq_true, Bool.true_eq_false, reduceCtorEq, Option.map_some, Option.map_none, List.map_cons, List.map_nil, evBinOp, evBin, evUn, asB_bool, splitB_decide, splitB_true, splitB_false, splitB_beq, splitB_bne, splitB_not, endK_ret, endK_norm, List.getElem?_cons_zero, List.getElem?_cons_succ, evResults, evResult, packRes, retK_norm, retK_ret, cellsAt, mkVal, evFieldAddr, evField, evIndexAddr, evPart, evStore, evBuild, evBuildSlice, fillC, fillE, evSlice, evMakeSlice, evConvert, getRow, AV.cells, List.head?_cons, List.drop_zero, List.drop_succ_cons, List.take_zero, List.take_succ_cons, List.drop_nil, List.take_nil, List.all_cons, List.all_nil, AV.ok, Bool.and_self, Bool.and_true, Bool.true_and, and_self, and_true, true_and, Nat.reduceLeDiff, Nat.reduceMul, Nat.reduceLT, Nat.reduceEqDiff, Nat.zero_add, Nat.add_zero, setCells, splice, pairsOk, FP.apart, heapEq_refl, sameAt_refl, Bool.or_true, Bool.true_or, Bool.or_false, srcElems, elemsOf, mutDst, roundK_norm, roundK_exit, roundK_ret, List.length_map, List.getElem?_map, Int.toNat_natCast, Int.reduceBNe, Int.reduceBEq, decide_true, decide_false, Bool.not_true, Bool.not_false, List.set, set_0, set_1, set_2, set_3, set_4, look_hit, look, lookD_hit, lookD_cons, lookD_nil, ins_hit, ins, upd_hit, upd, rem1_hit, rem1, dropT, dropSt_eq, initT, cfg_dd, cfg_bd, cfg_ra, actL_nil, actL_cons, act1, updT_hit, updT, frzB, mu119, List.contains_nil, List.contains_cons, Nat.reduceBEq, Bool.or_self, dlt_t, dlt_f, dle_t, dle_f, dgt_t, dgt_f, dge_t, dge_f, beq_t, beq_f, bne_t, bne_f, lt_T, le_T, nle_T, nle_F, ↓wrap_up, ↓wrap_down, ↓wrap_pred, ↓wrap_sub_nat, i64_in, i64_quo, rem_in, Int.reduceToNat, hp, spanAV, hgd, f136]
        refine ⟨by unfold dOk; kernel_rfl, ext ?_, rfl⟩
        simp [badAt, hp, hgd]
      · obtain ⟨q, hq⟩ : ∃ q, l[i]? = some q := ⟨_, List.getElem?_eq_getElem (by omega)⟩
        have hbq := hg i (by omega)
        simp only [badAt, hq, Bool.or_eq_false_iff, Bool.not_eq_false', decide_eq_true_eq] at hbq
        replace hbq := hbq.1
        have hb : badAt l (i + 1) = decide (p.1 - q.2 < 2) := by simp [badAt, hp, hq, hgd]
        simp +contextual (disch := omega) only [Try.f119, dd119, ty0, ty3, ty4, ty23, ty36, ty86, ↓reduceIte, eq_self, bindW_some, bindW_map, bindW_ite, bindW_iteN, W_seq, W_region, W_draw, W_cond, W_ret, W_skip, W_exit, W_scope, W_label, W_block, blockK_norm, blockK_ret, blockK_exit, WO_nil, WO_cons, WO_guard, WD_nil, WD_cons, WD_guard, guardV, guardW_boolT, guardW_boolF, guardW_tup, fpL_some, fpL_none, footprint, thenK_norm, thenK_ret, thenK_exit, put_some, put_none, ev_tmp, ev_con, ev_func, ofK_int, ofK_bool, ofK_str, ofK_nil, evOp, evBuiltin, evCall, evLen, evAppend, getElem_16, getElem_4, List.length_cons, List.length_nil, List.reduceReplicate, Nat.reduceAdd, Nat.reduceSub, List.cons_append, List.nil_append, List.append_nil, if_false, if_true, Bool.false_eq_true, Bool.true_eq_false, reduceCtorEq, Option.map_some, Option.map_none, List.map_cons, List.map_nil, evBinOp, evBin, evUn, asB_bool, splitB_decide, splitB_true, splitB_false, splitB_beq, splitB_bne, splitB_not, endK_ret, endK_norm, List.getElem?_cons_zero, List.getElem?_cons_succ, evResults, evResult, packRes, retK_norm, retK_ret, cellsAt, mkVal, evFieldAddr, evField, evIndexAddr, evPart, evStore, evBuild, evBuildSlice, fillC, fillE, evSlice, evMakeSlice, evConvert, getRow, AV.cells, List.head?_cons, List.drop_zero, List.drop_succ_cons, List.take_zero, List.take_succ_cons, List.drop_nil, List.take_nil, List.all_cons, List.all_nil, AV.ok, Bool.and_self, Bool.and_true, Bool.true_and, and_self, and_true, true_and, Nat.reduceLeDiff, Nat.reduceMul, Nat.reduceLT, Nat.reduceEqDiff, Nat.zero_add, Nat.add_zero, setCells, splice, pairsOk, FP.apart, heapEq_refl, sameAt_refl, Bool.or_true, Bool.true_or, Bool.or_false, srcElems, elemsOf, mutDst, roundK_norm, roundK_exit, roundK_ret, List.length_map, List.getElem?_map, Int.toNat_natCast, Int.reduceBNe, Int.reduceBEq, decide_true, decide_false, Bool.not_true, Bool.not_false, List.set, set_0, set_1, set_2, set_3, set_4, look_hit, look, lookD_hit, lookD_cons, lookD_nil, ins_hit, ins, upd_hit, upd, rem1_hit, rem1, dropT, dropSt_eq, initT, cfg_dd, cfg_bd, cfg_ra, actL_nil, actL_cons, act1, updT_hit, updT, frzB, mu119, List.contains_nil, List.contains_cons, Nat.reduceBEq, Bool.or_self, dlt_t, dlt_f, dle_t, dle_f, dgt_t, dgt_f, dge_t, dge_f, beq_t, beq_f, bne_t, bne_f, lt_T, le_T, nle_T, nle_F, ↓wrap_up, ↓wrap_down, ↓wrap_pred, ↓wrap_sub_nat, i64_in, i64_quo, rem_in, Int.reduceToNat, hp, hq, spanAV, hgd, f136]
        refine ⟨by unfold dOk; kernel_rfl, ?_⟩
        refine ⟨fun h => fzEq rfl ?_, fun h => ⟨ext ?_, rfl⟩⟩
        · rw [refSpans_bad hlt]; simp [hb]; omega
        · simp [hb]; omega
    · simp +contextual (disch := omega) only [Try.f119, dd119, ty0, ty3, ty4, ty23, ty36, ty86, ↓reduceIte, eq_self, bindW_some, bindW_map, bindW_ite, bindW_iteN, W_seq, W_region, W_draw, W_cond, W_ret, W_skip, W_exit, W_scope, W_label, W_block, blockK_norm, blockK_ret, blockK_exit, WO_nil, WO_cons, WO_guard, WD_nil, WD_cons, WD_guard, guardV, guardW_boolT, guardW_boolF, guardW_tup, fpL_some, fpL_none, footprint, thenK_norm, thenK_ret, thenK_exit, put_some, put_none, ev_tmp, ev_con, ev_func, ofK_int, ofK_bool, ofK_str, ofK_nil, evOp, evBuiltin, evCall, evLen, evAppend, getElem_16, getElem_4, List.length_cons, List.length_nil, List.reduceReplicate, Nat.reduceAdd, Nat.reduceSub, List.cons_append, List.nil_append, List.append_nil, if_false, if_true, Bool.false_eq_true, Bool.true_eq_false, reduceCtorEq, Option.map_some, Option.map_none, List.map_cons, List.map_nil, evBinOp, evBin, evUn, asB_bool, splitB_decide, splitB_true, splitB_false, splitB_beq, splitB_bne, splitB_not, endK_ret, endK_norm, List.getElem?_cons_zero, List.getElem?_cons_succ, evResults, evResult, packRes, retK_norm, retK_ret, cellsAt, mkVal, evFieldAddr, evField, evIndexAddr, evPart, evStore, evBuild, evBuildSlice, fillC, fillE, evSlice, evMakeSlice, evConvert, getRow, AV.cells, List.head?_cons, List.drop_zero, List.drop_succ_cons, List.take_zero, List.take_succ_cons, List.drop_nil, List.take_nil, List.all_cons, List.all_nil, AV.ok, Bool.and_self, Bool.and_true, Bool.true_and, and_self, and_true, true_and, Nat.reduceLeDiff, Nat.reduceMul, Nat.reduceLT, Nat.reduceEqDiff, Nat.zero_add, Nat.add_zero, setCells, splice, pairsOk, FP.apart, heapEq_refl, sameAt_refl, Bool.or_true, Bool.true_or, Bool.or_false, srcElems, elemsOf, mutDst, roundK_norm, roundK_exit, roundK_ret, List.length_map, List.getElem?_map, Int.toNat_natCast, Int.reduceBNe, Int.reduceBEq, decide_true, decide_false, Bool.not_true, Bool.not_false, List.set, set_0, set_1, set_2, set_3, set_4, look_hit, look, lookD_hit, lookD_cons, lookD_nil, ins_hit, ins, upd_hit, upd, rem1_hit, rem1, dropT, dropSt_eq, initT, cfg_dd, cfg_bd, cfg_ra, actL_nil, actL_cons, act1, updT_hit, updT, frzB, mu119, List.contains_nil, List.contains_cons, Nat.reduceBEq, Bool.or_self, dlt_t, dlt_f, dle_t, dle_f, dgt_t, dgt_f, dge_t, dge_f, beq_t, beq_f, bne_t, bne_f, lt_T, le_T, nle_T, nle_F, ↓wrap_up, ↓wrap_down, ↓wrap_pred, ↓wrap_sub_nat, i64_in, i64_quo, rem_in, Int.reduceToNat, hp, spanAV, hgd, f136]
      refine ⟨by unfold dOk; kernel_rfl, fzEq rfl ?_⟩
      rw [refSpans_bad hlt (by simp only [badAt, hp]; simp only [hgd, decide_false, Bool.not_false, Bool.true_or])]
  · intro hg
    rw [refSpans_good hg]
    simp +contextual (disch := omega) only [Try.f119, dd119, ty0, ty3, ty4, ty23, ty36, ty86, ↓reduceIte, eq_self, bindW_some, bindW_map, bindW_ite, bindW_iteN, W_seq, W_region, W_draw, W_cond, W_ret, W_skip, W_exit, W_scope, W_label, W_block, blockK_norm, blockK_ret, blockK_exit, WO_nil, WO_cons, WO_guard, WD_nil, WD_cons, WD_guard, guardV, guardW_boolT, guardW_boolF, guardW_tup, fpL_some, fpL_none, footprint, thenK_norm, thenK_ret, thenK_exit, put_some, put_none, ev_tmp, ev_con, ev_func, ofK_int, ofK_bool, ofK_str, ofK_nil, evOp, evBuiltin, evCall, evLen, evAppend, getElem_16, getElem_4, List.length_cons, List.length_nil, List.reduceReplicate, Nat.reduceAdd, Nat.reduceSub, List.cons_append, List.nil_append, List.append_nil, if_false, if_true, Bool.false_eq_true, Bool.true_eq_false, reduceCtorEq, Option.map_some, Option.map_none, List.map_cons, List.map_nil, evBinOp, evBin, evUn, asB_bool, splitB_decide, splitB_true, splitB_false, splitB_beq, splitB_bne, splitB_not, endK_ret, endK_norm, List.getElem?_cons_zero, List.getElem?_cons_succ, evResults, evResult, packRes, retK_norm, retK_ret, cellsAt, mkVal, evFieldAddr, evField, evIndexAddr, evPart, evStore, evBuild, evBuildSlice, fillC, fillE, evSlice, evMakeSlice, evConvert, getRow, AV.cells, List.head?_cons, List.drop_zero, List.drop_succ_cons, List.take_zero, List.take_succ_cons, List.drop_nil, List.take_nil, List.all_cons, List.all_nil, AV.ok, Bool.and_self, Bool.and_true, Bool.true_and, and_self, and_true, true_and, Nat.reduceLeDiff, Nat.reduceMul, Nat.reduceLT, Nat.reduceEqDiff, Nat.zero_add, Nat.add_zero, setCells, splice, pairsOk, FP.apart, heapEq_refl, sameAt_refl, Bool.or_true, Bool.true_or, Bool.or_false, srcElems, elemsOf, mutDst, roundK_norm, roundK_exit, roundK_ret, List.length_map, List.getElem?_map, Int.toNat_natCast, Int.reduceBNe, Int.reduceBEq, decide_true, decide_false, Bool.not_true, Bool.not_false, List.set, set_0, set_1, set_2, set_3, set_4, look_hit, look, lookD_hit, lookD_cons, lookD_nil, ins_hit, ins, upd_hit, upd, rem1_hit, rem1, dropT, dropSt_eq, initT, cfg_dd, cfg_bd, cfg_ra, actL_nil, actL_cons, act1, updT_hit, updT, frzB, mu119, List.contains_nil, List.contains_cons, Nat.reduceBEq, Bool.or_self, dlt_t, dlt_f, dle_t, dle_f, dgt_t, dgt_f, dge_t, dge_f, beq_t, beq_f, bne_t, bne_f, lt_T, le_T, nle_T, nle_F, ↓wrap_up, ↓wrap_down, ↓wrap_pred, ↓wrap_sub_nat, i64_in, i64_quo, rem_in, Int.reduceToNat]
    refine ⟨fun h => fzEq rfl ?_, fun h => fzEq rfl ?_⟩
    · rw [if_pos (by omega)]
    · rw [if_neg (by omega)]
end Go.Ev
namespace Go.Ev
open Go.Proofs Go.RowKit Go.IntWalk
set_option maxRecDepth 100000
set_option linter.unusedSimpArgs false
set_option maxHeartbeats 2000000

theorem f91 (a b : Int) (H : List MB) : call Try.prog pol1 91 [.agg [.int .i64 a, .int .i64 b]] H = some (.bool (decide (0 ≤ a ∧ a ≤ b ∧ b ≤ 1114111)), H) := by
  refine call_run Try.func91 rfl rfl rfl rfl rfl rfl (fun _ => rfl) (by simp [AV.plain, AV.plainL, plain_ints, plain_span, plain_ins, plain_prg]) (by simp [AV.plain, AV.plainL, plain_ints, plain_span, plain_ins, plain_prg]) ?_ H
  simp only [Try.f91, dd91, ty0, ty3, ty4, ty86, ↓reduceIte, eq_self, bindW_some, bindW_map, bindW_ite, bindW_iteN, W_seq, W_region, W_draw, W_cond, W_ret, W_skip, W_exit, W_scope, W_label, W_block, blockK_norm, blockK_ret, blockK_exit, WO_nil, WO_cons, WO_guard, WD_nil, WD_cons, WD_guard, guardV, guardW_boolT, guardW_boolF, guardW_tup, fpL_some, fpL_none, footprint, thenK_norm, thenK_ret, thenK_exit, put_some, put_none, ev_tmp, ev_con, ev_func, ofK_int, ofK_bool, ofK_str, ofK_nil, evOp, evBuiltin, evCall, evLen, evAppend, getElem_16, getElem_4, List.length_cons, List.length_nil, List.reduceReplicate, Nat.reduceAdd, Nat.reduceSub, List.cons_append, List.nil_append, List.append_nil, if_false, if_true, Bool.false_eq_true, Bool.true_eq_false, reduceCtorEq, Option.map_some, Option.map_none, List.map_cons, List.map_nil, evBinOp, evBin, evUn, asB_bool, splitB_decide, splitB_true, splitB_false, splitB_beq, splitB_bne, splitB_not, endK_ret, endK_norm, List.getElem?_cons_zero, List.getElem?_cons_succ, evResults, evResult, packRes, retK_norm, retK_ret, cellsAt, mkVal, evFieldAddr, evField, evIndexAddr, evPart, evStore, evBuild, evBuildSlice, fillC, fillE, evSlice, evMakeSlice, evConvert, getRow, AV.cells, List.head?_cons, List.drop_zero, List.drop_succ_cons, List.take_zero, List.take_succ_cons, List.drop_nil, List.take_nil, List.all_cons, List.all_nil, AV.ok, Bool.and_self, Bool.and_true, Bool.true_and, and_self, and_true, true_and, Nat.reduceLeDiff, Nat.reduceMul, Nat.reduceLT, Nat.reduceEqDiff, Nat.zero_add, Nat.add_zero, setCells, splice, pairsOk, FP.apart, heapEq_refl, sameAt_refl, Bool.or_true, Bool.true_or, Bool.or_false, srcElems, elemsOf, mutDst, roundK_norm, roundK_exit, roundK_ret, List.length_map, List.getElem?_map, Int.toNat_natCast, Int.reduceBNe, Int.reduceBEq, decide_true, decide_false, Bool.not_true, Bool.not_false, List.set, set_0, set_1, set_2, set_3, set_4, look_hit, look, lookD_hit, lookD_cons, lookD_nil, ins_hit, ins, upd_hit, upd, rem1_hit, rem1, dropT, dropSt_eq, initT, cfg_dd, cfg_bd, cfg_ra, actL_nil, actL_cons, act1, updT_hit, updT, frzB, mu91, List.contains_nil, List.contains_cons, Nat.reduceBEq, Bool.or_self]
  repeat' (first | intro _ | apply And.intro | refine fzEq rfl ?_)
  all_goals (congr 1; simp only [decide_eq_decide, false_eq_decide_iff]; omega)

theorem f121 (l : List (Int × Int)) (hl : l.length ≤ 1000000) (H : List MB) : call Try.prog pol1 121 [.sl false (l.map spanAV)] H = some (I (refSpans l), H) := by
  refine call_run Try.func121 rfl rfl rfl rfl rfl rfl (fun _ => rfl) (by simp [AV.plain, AV.plainL, plain_ints, plain_span, plain_ins, plain_prg]) (by simp [AV.plain, AV.plainL, plain_ints, plain_span, plain_ins, plain_prg]) ?_ H
  simp only [Try.f121, dd121, ty0, ty3, ty4, ty23, ty36, ty86, ↓reduceIte, eq_self, bindW_some, bindW_map, bindW_ite, bindW_iteN, W_seq, W_region, W_draw, W_cond, W_ret, W_skip, W_exit, W_scope, W_label, W_block, blockK_norm, blockK_ret, blockK_exit, WO_nil, WO_cons, WO_guard, WD_nil, WD_cons, WD_guard, guardV, guardW_boolT, guardW_boolF, guardW_tup, fpL_some, fpL_none, footprint, thenK_norm, thenK_ret, thenK_exit, put_some, put_none, ev_tmp, ev_con, ev_func, ofK_int, ofK_bool, ofK_str, ofK_nil, evOp, evBuiltin, evCall, evLen, evAppend, getElem_16, getElem_4, List.length_cons, List.length_nil, List.reduceReplicate, Nat.reduceAdd, Nat.reduceSub, List.cons_append, List.nil_append, List.append_nil, if_false, if_true, Bool.false_eq_true, Bool.true_eq_false, reduceCtorEq, Option.map_some, Option.map_none, List.map_cons, List.map_nil, evBinOp, evBin, evUn, asB_bool, splitB_decide, splitB_true, splitB_false, splitB_beq, splitB_bne, splitB_not, endK_ret, endK_norm, List.getElem?_cons_zero, List.getElem?_cons_succ, evResults, evResult, packRes, retK_norm, retK_ret, cellsAt, mkVal, evFieldAddr, evField, evIndexAddr, evPart, evStore, evBuild, evBuildSlice, fillC, fillE, evSlice, evMakeSlice, evConvert, getRow, AV.cells, List.head?_cons, List.drop_zero, List.drop_succ_cons, List.take_zero, List.take_succ_cons, List.drop_nil, List.take_nil, List.all_cons, List.all_nil, AV.ok, Bool.and_self, Bool.and_true, Bool.true_and, and_self, and_true, true_and, Nat.reduceLeDiff, Nat.reduceMul, Nat.reduceLT, Nat.reduceEqDiff, Nat.zero_add, Nat.add_zero, setCells, splice, pairsOk, FP.apart, heapEq_refl, sameAt_refl, Bool.or_true, Bool.true_or, Bool.or_false, srcElems, elemsOf, mutDst, roundK_norm, roundK_exit, roundK_ret, List.length_map, List.getElem?_map, Int.toNat_natCast, Int.reduceBNe, Int.reduceBEq, decide_true, decide_false, Bool.not_true, Bool.not_false, List.set, set_0, set_1, set_2, set_3, set_4, look_hit, look, lookD_hit, lookD_cons, lookD_nil, ins_hit, ins, upd_hit, upd, rem1_hit, rem1, dropT, dropSt_eq, initT, cfg_dd, cfg_bd, cfg_ra, actL_nil, actL_cons, act1, updT_hit, updT, frzB, mu121, List.contains_nil, List.contains_cons, Nat.reduceBEq, Bool.or_self]
  refine W_count (M := (mskOf (pol1.mask 121) (pol1.gc 121) (pol1.acts 121) 0 2)) rfl l.length (fun i => (⟨35, [(7, I i), (6, I l.length), (5, .sl false (l.map spanAV)), (0, .sl false (l.map spanAV))], []⟩ : St)) (fun i => ∀ k, k < i → badAt l k = false) ?_ ?_ (fun k h => by omega) _ (by first | rfl | (refine prep_cut rfl (by rfl) (by rfl) (by rfl) ?_ ?_ <;> simp [AV.underL, AV.under, MB.under, underL_plain, under_plain, plain_ints, plain_span, plain_ins, plain_prg, -List.map_take]))
  · intro i hlt hg
    obtain ⟨p, hp⟩ : ∃ p, l[i]? = some p := ⟨_, List.getElem?_eq_getElem hlt⟩
    have ext : badAt l i = false → ∀ k, k < i + 1 → badAt l k = false := fun h k hk => by
      rcases Nat.lt_or_ge k i with h1 | h1
      · exact hg k h1
      · obtain rfl : k = i := by omega
        exact h
    by_cases hgd : 0 ≤ p.1 ∧ p.1 ≤ p.2 ∧ p.2 ≤ 1114111
    · rcases i with _ | i
      · simp +contextual (disch := omega) only [Try.f121, dd121, ty0, ty3, ty4, ty23, ty36, ty86, ↓reduceIte, eq_self, bindW_some, bindW_map, bindW_ite, bindW_iteN, W_seq, W_region, W_draw, W_cond, W_ret, W_skip, W_exit, W_scope, W_label, W_block, blockK_norm, blockK_ret, blockK_exit, WO_nil, WO_cons, WO_guard, WD_nil, WD_cons, WD_guard, guardV, guardW_boolT, guardW_boolF, guardW_tup, fpL_some, fpL_none, footprint, thenK_norm, thenK_ret, thenK_exit, put_some, put_none, ev_tmp, ev_con, ev_func, ofK_int, ofK_bool, ofK_str, ofK_nil, evOp, evBuiltin, evCall, evLen, evAppend, getElem_16, getElem_4, List.length_cons, List.length_nil, List.reduceReplicate, Nat.reduceAdd, Nat.reduceSub, List.cons_append, List.nil_append, List.append_nil, if_false, if_true, Bool.false_eq_true, Bool.true_eq_false, reduceCtorEq, Option.map_some, Option.map_none, List.map_cons, List.map_nil, evBinOp, evBin, evUn, asB_bool, splitB_decide, splitB_true, splitB_false, splitB_beq, splitB_bne, splitB_not, endK_ret, endK_norm, List.getElem?_cons_zero, List.getElem?_cons_succ, evResults, evResult, packRes, retK_norm, retK_ret, cellsAt, mkVal, evFieldAddr, evField, evIndexAddr, evPart, evStore, evBuild, evBuildSlice, fillC, fillE, evSlice, evMakeSlice, evConvert, getRow, AV.cells, List.head?_cons, List.drop_zero, List.drop_succ_cons, List.take_zero, List.take_succ_cons, List.drop_nil, List.take_nil, List.all_cons, List.all_nil, AV.ok, Bool.and_self, Bool.and_true, Bool.true_and, and_self, and_true, true_and, Nat.reduceLeDiff, Nat.reduceMul, Nat.reduceLT, Nat.reduceEqDiff, Nat.zero_add, Nat.add_zero, setCells, splice, pairsOk, FP.apart, heapEq_refl, sameAt_refl, Bool.or_true, Bool.true_or, Bool.or_false, srcElems, elemsOf, mutDst, roundK_norm, roundK_exit, roundK_ret, List.length_map, List.getElem?_map, Int.toNat_natCast, Int.reduceBNe, Int.reduceBEq, decide_true, decide_false, Bool.not_true, Bool.not_false, List.set, set_0, set_1, set_2, set_3, set_4, look_hit, look, lookD_hit, lookD_cons, lookD_nil, ins_hit, ins, upd_hit, upd, rem1_hit, rem1, dropT, dropSt_eq, initT, cfg_dd, cfg_bd, cfg_ra, actL_nil, actL_cons, act1, updT_hit, updT, frzB, mu121, List.contains_nil, List.contains_cons, Nat.reduceBEq, Bool.or_self, dlt_t, dlt_f, dle_t, dle_f, dgt_t, dgt_f, dge_t, dge_f, beq_t, beq_f, bne_t, bne_f, lt_T, le_T, nle_T, nle_F, ↓wrap_up, ↓wrap_down, ↓wrap_pred, ↓wrap_sub_nat, i64_in, i64_quo, rem_in, Int.reduceToNat, hp, spanAV, hgd, f91]
        refine ⟨by unfold dOk; kernel_rfl, ext ?_, (by first | rfl | (refine prep_cut rfl (by rfl) (by rfl) (by rfl) ?_ ?_ <;> simp [AV.underL, AV.under, MB.under, underL_plain, under_plain, plain_ints, plain_span, plain_ins, plain_prg, -List.map_take]))⟩
        simp [badAt, hp, hgd]
      · obtain ⟨q, hq⟩ : ∃ q, l[i]? = some q := ⟨_, List.getElem?_eq_getElem (by omega)⟩
        have hbq := hg i (by omega)
        simp only [badAt, hq, Bool.or_eq_false_iff, Bool.not_eq_false', decide_eq_true_eq] at hbq
        replace hbq := hbq.1
        have hb : badAt l (i + 1) = decide (p.1 - q.2 < 2) := by simp [badAt, hp, hq, hgd]
        simp +contextual (disch := omega) only [Try.f121, dd121, ty0, ty3, ty4, ty23, ty36, ty86, ↓reduceIte, eq_self, bindW_some, bindW_map, bindW_ite, bindW_iteN, W_seq, W_region, W_draw, W_cond, W_ret, W_skip, W_exit, W_scope, W_label, W_block, blockK_norm, blockK_ret, blockK_exit, WO_nil, WO_cons, WO_guard, WD_nil, WD_cons, WD_guard, guardV, guardW_boolT, guardW_boolF, guardW_tup, fpL_some, fpL_none, footprint, thenK_norm, thenK_ret, thenK_exit, put_some, put_none, ev_tmp, ev_con, ev_func, ofK_int, ofK_bool, ofK_str, ofK_nil, evOp, evBuiltin, evCall, evLen, evAppend, getElem_16, getElem_4, List.length_cons, List.length_nil, List.reduceReplicate, Nat.reduceAdd, Nat.reduceSub, List.cons_append, List.nil_append, List.append_nil, if_false, if_true, Bool.false_eq_true, Bool.true_eq_false, reduceCtorEq, Option.map_some, Option.map_none, List.map_cons, List.map_nil, evBinOp, evBin, evUn, asB_bool, splitB_decide, splitB_true, splitB_false, splitB_beq, splitB_bne, splitB_not, endK_ret, endK_norm, List.getElem?_cons_zero, List.getElem?_cons_succ, evResults, evResult, packRes, retK_norm, retK_ret, cellsAt, mkVal, evFieldAddr, evField, evIndexAddr, evPart, evStore, evBuild, evBuildSlice, fillC, fillE, evSlice, evMakeSlice, evConvert, getRow, AV.cells, List.head?_cons, List.drop_zero, List.drop_succ_cons, List.take_zero, List.take_succ_cons, List.drop_nil, List.take_nil, List.all_cons, List.all_nil, AV.ok, Bool.and_self, Bool.and_true, Bool.true_and, and_self, and_true, true_and, Nat.reduceLeDiff, Nat.reduceMul, Nat.reduceLT, Nat.reduceEqDiff, Nat.zero_add, Nat.add_zero, setCells, splice, pairsOk, FP.apart, heapEq_refl, sameAt_refl, Bool.or_true, Bool.true_or, Bool.or_false, srcElems, elemsOf, mutDst, roundK_norm, roundK_exit, roundK_ret, List.length_map, List.getElem?_map, Int.toNat_natCast, Int.reduceBNe, Int.reduceBEq, decide_true, decide_false, Bool.not_true, Bool.not_false, List.set, set_0, set_1, set_2, set_3, set_4, look_hit, look, lookD_hit, lookD_cons, lookD_nil, ins_hit, ins, upd_hit, upd, rem1_hit, rem1, dropT, dropSt_eq, initT, cfg_dd, cfg_bd, cfg_ra, actL_nil, actL_cons, act1, updT_hit, updT, frzB, mu121, List.contains_nil, List.contains_cons, Nat.reduceBEq, Bool.or_self, dlt_t, dlt_f, dle_t, dle_f, dgt_t, dgt_f, dge_t, dge_f, beq_t, beq_f, bne_t, bne_f, lt_T, le_T, nle_T, nle_F, ↓wrap_up, ↓wrap_down, ↓wrap_pred, ↓wrap_sub_nat, i64_in, i64_quo, rem_in, Int.reduceToNat, hp, hq, spanAV, hgd, f91]
        refine ⟨by unfold dOk; kernel_rfl, fun h => fzEq rfl ?_, fun h => ⟨ext ?_, (by first | rfl | (refine prep_cut rfl (by rfl) (by rfl) (by rfl) ?_ ?_ <;> simp [AV.underL, AV.under, MB.under, underL_plain, under_plain, plain_ints, plain_span, plain_ins, plain_prg, -List.map_take]))⟩⟩
        · rw [refSpans_bad hlt]; simp [hb]; omega
        · simp [hb]; omega
    · simp +contextual (disch := omega) only [Try.f121, dd121, ty0, ty3, ty4, ty23, ty36, ty86, ↓reduceIte, eq_self, bindW_some, bindW_map, bindW_ite, bindW_iteN, W_seq, W_region, W_draw, W_cond, W_ret, W_skip, W_exit, W_scope, W_label, W_block, blockK_norm, blockK_ret, blockK_exit, WO_nil, WO_cons, WO_guard, WD_nil, WD_cons, WD_guard, guardV, guardW_boolT, guardW_boolF, guardW_tup, fpL_some, fpL_none, footprint, thenK_norm, thenK_ret, thenK_exit, put_some, put_none, ev_tmp, ev_con, ev_func, ofK_int, ofK_bool, ofK_str, ofK_nil, evOp, evBuiltin, evCall, evLen, evAppend, getElem_16, getElem_4, List.length_cons, List.length_nil, List.reduceReplicate, Nat.reduceAdd, Nat.reduceSub, List.cons_append, List.nil_append, List.append_nil, if_false, if_true, Bool.false_eq_true, Bool.true_eq_false, reduceCtorEq, Option.map_some, Option.map_none, List.map_cons, List.map_nil, evBinOp, evBin, evUn, asB_bool, splitB_decide, splitB_true, splitB_false, splitB_beq, splitB_bne, splitB_not, endK_ret, endK_norm, List.getElem?_cons_zero, List.getElem?_cons_succ, evResults, evResult, packRes, retK_norm, retK_ret, cellsAt, mkVal, evFieldAddr, evField, evIndexAddr, evPart, evStore, evBuild, evBuildSlice, fillC, fillE, evSlice, evMakeSlice, evConvert, getRow, AV.cells, List.head?_cons, List.drop_zero, List.drop_succ_cons, List.take_zero, List.take_succ_cons, List.drop_nil, List.take_nil, List.all_cons, List.all_nil, AV.ok, Bool.and_self, Bool.and_true, Bool.true_and, and_self, and_true, true_and, Nat.reduceLeDiff, Nat.reduceMul, Nat.reduceLT, Nat.reduceEqDiff, Nat.zero_add, Nat.add_zero, setCells, splice, pairsOk, FP.apart, heapEq_refl, sameAt_refl, Bool.or_true, Bool.true_or, Bool.or_false, srcElems, elemsOf, mutDst, roundK_norm, roundK_exit, roundK_ret, List.length_map, List.getElem?_map, Int.toNat_natCast, Int.reduceBNe, Int.reduceBEq, decide_true, decide_false, Bool.not_true, Bool.not_false, List.set, set_0, set_1, set_2, set_3, set_4, look_hit, look, lookD_hit, lookD_cons, lookD_nil, ins_hit, ins, upd_hit, upd, rem1_hit, rem1, dropT, dropSt_eq, initT, cfg_dd, cfg_bd, cfg_ra, actL_nil, actL_cons, act1, updT_hit, updT, frzB, mu121, List.contains_nil, List.contains_cons, Nat.reduceBEq, Bool.or_self, dlt_t, dlt_f, dle_t, dle_f, dgt_t, dgt_f, dge_t, dge_f, beq_t, beq_f, bne_t, bne_f, lt_T, le_T, nle_T, nle_F, ↓wrap_up, ↓wrap_down, ↓wrap_pred, ↓wrap_sub_nat, i64_in, i64_quo, rem_in, Int.reduceToNat, hp, spanAV, hgd, f91]
      refine ⟨by unfold dOk; kernel_rfl, fzEq rfl ?_⟩
      rw [refSpans_bad hlt (by simp only [badAt, hp]; simp only [hgd, decide_false, Bool.not_false, Bool.true_or])]
  · intro hg
    rw [refSpans_good hg]
    simp +contextual (disch := omega) only [Try.f121, dd121, ty0, ty3, ty4, ty23, ty36, ty86, ↓reduceIte, eq_self, bindW_some, bindW_map, bindW_ite, bindW_iteN, W_seq, W_region, W_draw, W_cond, W_ret, W_skip, W_exit, W_scope, W_label, W_block, blockK_norm, blockK_ret, blockK_exit, WO_nil, WO_cons, WO_guard, WD_nil, WD_cons, WD_guard, guardV, guardW_boolT, guardW_boolF, guardW_tup, fpL_some, fpL_none, footprint, thenK_norm, thenK_ret, thenK_exit, put_some, put_none, ev_tmp, ev_con, ev_func, ofK_int, ofK_bool, ofK_str, ofK_nil, evOp, evBuiltin, evCall, evLen, evAppend, getElem_16, getElem_4, List.length_cons, List.length_nil, List.reduceReplicate, Nat.reduceAdd, Nat.reduceSub, List.cons_append, List.nil_append, List.append_nil, if_false, if_true, Bool.false_eq_true, Bool.true_eq_false, reduceCtorEq, Option.map_some, Option.map_none, List.map_cons, List.map_nil, evBinOp, evBin, evUn, asB_bool, splitB_decide, splitB_true, splitB_false, splitB_beq, splitB_bne, splitB_not, endK_ret, endK_norm, List.getElem?_cons_zero, List.getElem?_cons_succ, evResults, evResult, packRes, retK_norm, retK_ret, cellsAt, mkVal, evFieldAddr, evField, evIndexAddr, evPart, evStore, evBuild, evBuildSlice, fillC, fillE, evSlice, evMakeSlice, evConvert, getRow, AV.cells, List.head?_cons, List.drop_zero, List.drop_succ_cons, List.take_zero, List.take_succ_cons, List.drop_nil, List.take_nil, List.all_cons, List.all_nil, AV.ok, Bool.and_self, Bool.and_true, Bool.true_and, and_self, and_true, true_and, Nat.reduceLeDiff, Nat.reduceMul, Nat.reduceLT, Nat.reduceEqDiff, Nat.zero_add, Nat.add_zero, setCells, splice, pairsOk, FP.apart, heapEq_refl, sameAt_refl, Bool.or_true, Bool.true_or, Bool.or_false, srcElems, elemsOf, mutDst, roundK_norm, roundK_exit, roundK_ret, List.length_map, List.getElem?_map, Int.toNat_natCast, Int.reduceBNe, Int.reduceBEq, decide_true, decide_false, Bool.not_true, Bool.not_false, List.set, set_0, set_1, set_2, set_3, set_4, look_hit, look, lookD_hit, lookD_cons, lookD_nil, ins_hit, ins, upd_hit, upd, rem1_hit, rem1, dropT, dropSt_eq, initT, cfg_dd, cfg_bd, cfg_ra, actL_nil, actL_cons, act1, updT_hit, updT, frzB, mu121, List.contains_nil, List.contains_cons, Nat.reduceBEq, Bool.or_self, dlt_t, dlt_f, dle_t, dle_f, dgt_t, dgt_f, dge_t, dge_f, beq_t, beq_f, bne_t, bne_f, lt_T, le_T, nle_T, nle_F, ↓wrap_up, ↓wrap_down, ↓wrap_pred, ↓wrap_sub_nat, i64_in, i64_quo, rem_in, Int.reduceToNat]
    refine ⟨fun h => fzEq rfl ?_, fun h => fzEq rfl ?_⟩
    · rw [if_pos (by omega)]
    · rw [if_neg (by omega)]
end Go.Ev
namespace Go.Ev
open Go.Proofs Go.RowKit Go.IntWalk
set_option maxRecDepth 100000
set_option linter.unusedSimpArgs false
set_option maxHeartbeats 2000000

def lastOk (l : List (Int × Int)) (top : Int) : Bool :=
  match l[l.length - 1]? with
  | some p => decide (p.2 ≤ top)
  | none => true

/-- Is an instruction valid in a program of so many instructions? -/
def okIns (n : Nat) (caps : Int) (runes : Bool) (i : Ins) : Bool :=
  (i.op == 1 || i.set.length == 0) && (i.op == 2 || i.y == 0) && (i.op == 2 || i.op == 3 || i.x == 0) && (i.op == 4 || i.op == 5 || i.n == 0) &&
  (i.op == 0 || (i.op == 1 && (refSpans i.set == 0 && lastOk i.set (if runes then 1114111 else 255))) ||
   (i.op == 2 && (decide (0 ≤ i.x) && decide (i.x < n) && decide (0 ≤ i.y) && decide (i.y < n))) || (i.op == 3 && (decide (0 ≤ i.x) && decide (i.x < n))) ||
   (i.op == 4 && (decide (0 ≤ i.n) && decide (i.n < 2 * caps))) || (i.op == 5 && (decide (0 ≤ i.n) && decide (i.n ≤ 5))))

theorem f68 (g : Prg) (i : Ins) (hc : 0 ≤ g.caps ∧ g.caps ≤ 9) (hl : g.ins.length ≤ 1000000) (hs : i.set.length ≤ 1000000) (H : List MB) :
    call Try.prog pol1 68 [prgAV g, .agg [I i.op, I i.x, I i.y, I i.n, .sl false (i.set.map spanAV)]] H = some (.bool (okIns g.ins.length g.caps g.runes i), H) := by
  refine call_run Try.func68 rfl rfl rfl rfl rfl rfl (fun _ => rfl) (by simp [AV.plain, AV.plainL, plain_ints, plain_span, plain_ins, plain_prg]) (by simp [AV.plain, AV.plainL, plain_ints, plain_span, plain_ins, plain_prg]) ?_ H
  obtain ⟨op, x, y, n, set⟩ := i
  simp only [] at hs
  by_cases h1 : op = 1
  · subst h1
    rcases Nat.eq_zero_or_pos set.length with hz | hz
    · obtain rfl : set = [] := List.length_eq_zero_iff.1 hz
      have ht := f119 [] (by simp)
      have e : refSpans [] = 0 := by decide
      rw [e, List.map_nil] at ht
      cases hr : g.runes
      all_goals
        simp +contextual (disch := omega) only [Try.f68, dd68, ty0, ty3, ty4, ty23, ty36, ty39, ty41, ty86, ty108, ↓reduceIte, eq_self, bindW_some, bindW_map, bindW_ite, bindW_iteN, W_seq, W_region, W_draw, W_cond, W_ret, W_skip, W_exit, W_scope, W_label, W_block, blockK_norm, blockK_ret, blockK_exit, WO_nil, WO_cons, WO_guard, WD_nil, WD_cons, WD_guard, guardV, guardW_boolT, guardW_boolF, guardW_tup, fpL_some, fpL_none, footprint, thenK_norm, thenK_ret, thenK_exit, put_some, put_none, ev_tmp, ev_con, ev_func, ofK_int, ofK_bool, ofK_str, ofK_nil, evOp, evBuiltin, evCall, evLen, evAppend, getElem_16, getElem_4, List.length_cons, List.length_nil, List.reduceReplicate, Nat.reduceAdd, Nat.reduceSub, List.cons_append, List.nil_append, List.append_nil, if_false, if_true, Bool.false_eq_true, Bool.true_eq_false, reduceCtorEq, Option.map_some, Option.map_none, List.map_cons, List.map_nil, evBinOp, evBin, evUn, asB_bool, splitB_decide, splitB_true, splitB_false, splitB_beq, splitB_bne, splitB_not, endK_ret, endK_norm, List.getElem?_cons_zero, List.getElem?_cons_succ, evResults, evResult, packRes, retK_norm, retK_ret, cellsAt, mkVal, evFieldAddr, evField, evIndexAddr, evPart, evStore, evBuild, evBuildSlice, fillC, fillE, evSlice, evMakeSlice, evConvert, getRow, AV.cells, List.head?_cons, List.drop_zero, List.drop_succ_cons, List.take_zero, List.take_succ_cons, List.drop_nil, List.take_nil, List.all_cons, List.all_nil, AV.ok, Bool.and_self, Bool.and_true, Bool.true_and, and_self, and_true, true_and, Nat.reduceLeDiff, Nat.reduceMul, Nat.reduceLT, Nat.reduceEqDiff, Nat.zero_add, Nat.add_zero, setCells, splice, pairsOk, FP.apart, heapEq_refl, sameAt_refl, Bool.or_true, Bool.true_or, Bool.or_false, srcElems, elemsOf, mutDst, roundK_norm, roundK_exit, roundK_ret, List.length_map, List.getElem?_map, Int.toNat_natCast, Int.reduceBNe, Int.reduceBEq, decide_true, decide_false, Bool.not_true, Bool.not_false, List.set, set_0, set_1, set_2, set_3, set_4, look_hit, look, lookD_hit, lookD_cons, lookD_nil, ins_hit, ins, upd_hit, upd, rem1_hit, rem1, dropT, dropSt_eq, initT, cfg_dd, cfg_bd, cfg_ra, actL_nil, actL_cons, act1, updT_hit, updT, frzB, mu68, List.contains_nil, List.contains_cons, Nat.reduceBEq, Bool.or_self, dlt_t, dlt_f, dle_t, dle_f, dgt_t, dgt_f, dge_t, dge_f, beq_t, beq_f, bne_t, bne_f, lt_T, le_T, nle_T, nle_F, ↓wrap_up, ↓wrap_down, ↓wrap_pred, ↓wrap_sub_nat, i64_in, i64_quo, rem_in, Int.reduceToNat, prgAV, ht, hr]
        repeat' (first | intro _ | apply And.intro | refine fzEq rfl (congrArg AV.bool ?_) | (unfold dOk; kernel_rfl))
        all_goals (try rw [Bool.eq_iff_iff]; try simp_all [okIns, lastOk, -List.length_eq_zero_iff]; try omega)
    · obtain ⟨p, hp⟩ : ∃ p, set[set.length - 1]? = some p := ⟨_, List.getElem?_eq_getElem (by omega)⟩
      have ht := f119 set hs
      cases hr : g.runes
      all_goals
        simp +contextual (disch := omega) only [Try.f68, dd68, ty0, ty3, ty4, ty23, ty36, ty39, ty41, ty86, ty108, ↓reduceIte, eq_self, bindW_some, bindW_map, bindW_ite, bindW_iteN, W_seq, W_region, W_draw, W_cond, W_ret, W_skip, W_exit, W_scope, W_label, W_block, blockK_norm, blockK_ret, blockK_exit, WO_nil, WO_cons, WO_guard, WD_nil, WD_cons, WD_guard, guardV, guardW_boolT, guardW_boolF, guardW_tup, fpL_some, fpL_none, footprint, thenK_norm, thenK_ret, thenK_exit, put_some, put_none, ev_tmp, ev_con, ev_func, ofK_int, ofK_bool, ofK_str, ofK_nil, evOp, evBuiltin, evCall, evLen, evAppend, getElem_16, getElem_4, List.length_cons, List.length_nil, List.reduceReplicate, Nat.reduceAdd, Nat.reduceSub, List.cons_append, List.nil_append, List.append_nil, if_false, if_true, Bool.false_eq_true, Bool.true_eq_false, reduceCtorEq, Option.map_some, Option.map_none, List.map_cons, List.map_nil, evBinOp, evBin, evUn, asB_bool, splitB_decide, splitB_true, splitB_false, splitB_beq, splitB_bne, splitB_not, endK_ret, endK_norm, List.getElem?_cons_zero, List.getElem?_cons_succ, evResults, evResult, packRes, retK_norm, retK_ret, cellsAt, mkVal, evFieldAddr, evField, evIndexAddr, evPart, evStore, evBuild, evBuildSlice, fillC, fillE, evSlice, evMakeSlice, evConvert, getRow, AV.cells, List.head?_cons, List.drop_zero, List.drop_succ_cons, List.take_zero, List.take_succ_cons, List.drop_nil, List.take_nil, List.all_cons, List.all_nil, AV.ok, Bool.and_self, Bool.and_true, Bool.true_and, and_self, and_true, true_and, Nat.reduceLeDiff, Nat.reduceMul, Nat.reduceLT, Nat.reduceEqDiff, Nat.zero_add, Nat.add_zero, setCells, splice, pairsOk, FP.apart, heapEq_refl, sameAt_refl, Bool.or_true, Bool.true_or, Bool.or_false, srcElems, elemsOf, mutDst, roundK_norm, roundK_exit, roundK_ret, List.length_map, List.getElem?_map, Int.toNat_natCast, Int.reduceBNe, Int.reduceBEq, decide_true, decide_false, Bool.not_true, Bool.not_false, List.set, set_0, set_1, set_2, set_3, set_4, look_hit, look, lookD_hit, lookD_cons, lookD_nil, ins_hit, ins, upd_hit, upd, rem1_hit, rem1, dropT, dropSt_eq, initT, cfg_dd, cfg_bd, cfg_ra, actL_nil, actL_cons, act1, updT_hit, updT, frzB, mu68, List.contains_nil, List.contains_cons, Nat.reduceBEq, Bool.or_self, dlt_t, dlt_f, dle_t, dle_f, dgt_t, dgt_f, dge_t, dge_f, beq_t, beq_f, bne_t, bne_f, lt_T, le_T, nle_T, nle_F, ↓wrap_up, ↓wrap_down, ↓wrap_pred, ↓wrap_sub_nat, i64_in, i64_quo, rem_in, Int.reduceToNat, prgAV, ht, hr, hp, spanAV]
        repeat' (first | intro _ | apply And.intro | refine fzEq rfl (congrArg AV.bool ?_) | (unfold dOk; kernel_rfl))
        all_goals (try rw [Bool.eq_iff_iff]; try simp_all [okIns, lastOk, -List.length_eq_zero_iff]; try omega)
  by_cases h0 : op = 0
  · subst h0
    simp +contextual (disch := omega) only [Try.f68, dd68, ty0, ty3, ty4, ty23, ty36, ty39, ty41, ty86, ty108, ↓reduceIte, eq_self, bindW_some, bindW_map, bindW_ite, bindW_iteN, W_seq, W_region, W_draw, W_cond, W_ret, W_skip, W_exit, W_scope, W_label, W_block, blockK_norm, blockK_ret, blockK_exit, WO_nil, WO_cons, WO_guard, WD_nil, WD_cons, WD_guard, guardV, guardW_boolT, guardW_boolF, guardW_tup, fpL_some, fpL_none, footprint, thenK_norm, thenK_ret, thenK_exit, put_some, put_none, ev_tmp, ev_con, ev_func, ofK_int, ofK_bool, ofK_str, ofK_nil, evOp, evBuiltin, evCall, evLen, evAppend, getElem_16, getElem_4, List.length_cons, List.length_nil, List.reduceReplicate, Nat.reduceAdd, Nat.reduceSub, List.cons_append, List.nil_append, List.append_nil, if_false, if_true, Bool.false_eq_true, Bool.true_eq_false, reduceCtorEq, Option.map_some, Option.map_none, List.map_cons, List.map_nil, evBinOp, evBin, evUn, asB_bool, splitB_decide, splitB_true, splitB_false, splitB_beq, splitB_bne, splitB_not, endK_ret, endK_norm, List.getElem?_cons_zero, List.getElem?_cons_succ, evResults, evResult, packRes, retK_norm, retK_ret, cellsAt, mkVal, evFieldAddr, evField, evIndexAddr, evPart, evStore, evBuild, evBuildSlice, fillC, fillE, evSlice, evMakeSlice, evConvert, getRow, AV.cells, List.head?_cons, List.drop_zero, List.drop_succ_cons, List.take_zero, List.take_succ_cons, List.drop_nil, List.take_nil, List.all_cons, List.all_nil, AV.ok, Bool.and_self, Bool.and_true, Bool.true_and, and_self, and_true, true_and, Nat.reduceLeDiff, Nat.reduceMul, Nat.reduceLT, Nat.reduceEqDiff, Nat.zero_add, Nat.add_zero, setCells, splice, pairsOk, FP.apart, heapEq_refl, sameAt_refl, Bool.or_true, Bool.true_or, Bool.or_false, srcElems, elemsOf, mutDst, roundK_norm, roundK_exit, roundK_ret, List.length_map, List.getElem?_map, Int.toNat_natCast, Int.reduceBNe, Int.reduceBEq, decide_true, decide_false, Bool.not_true, Bool.not_false, List.set, set_0, set_1, set_2, set_3, set_4, look_hit, look, lookD_hit, lookD_cons, lookD_nil, ins_hit, ins, upd_hit, upd, rem1_hit, rem1, dropT, dropSt_eq, initT, cfg_dd, cfg_bd, cfg_ra, actL_nil, actL_cons, act1, updT_hit, updT, frzB, mu68, List.contains_nil, List.contains_cons, Nat.reduceBEq, Bool.or_self, dlt_t, dlt_f, dle_t, dle_f, dgt_t, dgt_f, dge_t, dge_f, beq_t, beq_f, bne_t, bne_f, lt_T, le_T, nle_T, nle_F, ↓wrap_up, ↓wrap_down, ↓wrap_pred, ↓wrap_sub_nat, i64_in, i64_quo, rem_in, Int.reduceToNat, prgAV]
    repeat' (first | intro _ | apply And.intro | refine fzEq rfl (congrArg AV.bool ?_))
    all_goals (rw [Bool.eq_iff_iff]; simp_all [okIns, -List.length_eq_zero_iff]; try omega)
  by_cases h2 : op = 2
  · subst h2
    simp +contextual (disch := omega) only [Try.f68, dd68, ty0, ty3, ty4, ty23, ty36, ty39, ty41, ty86, ty108, ↓reduceIte, eq_self, bindW_some, bindW_map, bindW_ite, bindW_iteN, W_seq, W_region, W_draw, W_cond, W_ret, W_skip, W_exit, W_scope, W_label, W_block, blockK_norm, blockK_ret, blockK_exit, WO_nil, WO_cons, WO_guard, WD_nil, WD_cons, WD_guard, guardV, guardW_boolT, guardW_boolF, guardW_tup, fpL_some, fpL_none, footprint, thenK_norm, thenK_ret, thenK_exit, put_some, put_none, ev_tmp, ev_con, ev_func, ofK_int, ofK_bool, ofK_str, ofK_nil, evOp, evBuiltin, evCall, evLen, evAppend, getElem_16, getElem_4, List.length_cons, List.length_nil, List.reduceReplicate, Nat.reduceAdd, Nat.reduceSub, List.cons_append, List.nil_append, List.append_nil, if_false, if_true, Bool.false_eq_true, Bool.true_eq_false, reduceCtorEq, Option.map_some, Option.map_none, List.map_cons, List.map_nil, evBinOp, evBin, evUn, asB_bool, splitB_decide, splitB_true, splitB_false, splitB_beq, splitB_bne, splitB_not, endK_ret, endK_norm, List.getElem?_cons_zero, List.getElem?_cons_succ, evResults, evResult, packRes, retK_norm, retK_ret, cellsAt, mkVal, evFieldAddr, evField, evIndexAddr, evPart, evStore, evBuild, evBuildSlice, fillC, fillE, evSlice, evMakeSlice, evConvert, getRow, AV.cells, List.head?_cons, List.drop_zero, List.drop_succ_cons, List.take_zero, List.take_succ_cons, List.drop_nil, List.take_nil, List.all_cons, List.all_nil, AV.ok, Bool.and_self, Bool.and_true, Bool.true_and, and_self, and_true, true_and, Nat.reduceLeDiff, Nat.reduceMul, Nat.reduceLT, Nat.reduceEqDiff, Nat.zero_add, Nat.add_zero, setCells, splice, pairsOk, FP.apart, heapEq_refl, sameAt_refl, Bool.or_true, Bool.true_or, Bool.or_false, srcElems, elemsOf, mutDst, roundK_norm, roundK_exit, roundK_ret, List.length_map, List.getElem?_map, Int.toNat_natCast, Int.reduceBNe, Int.reduceBEq, decide_true, decide_false, Bool.not_true, Bool.not_false, List.set, set_0, set_1, set_2, set_3, set_4, look_hit, look, lookD_hit, lookD_cons, lookD_nil, ins_hit, ins, upd_hit, upd, rem1_hit, rem1, dropT, dropSt_eq, initT, cfg_dd, cfg_bd, cfg_ra, actL_nil, actL_cons, act1, updT_hit, updT, frzB, mu68, List.contains_nil, List.contains_cons, Nat.reduceBEq, Bool.or_self, dlt_t, dlt_f, dle_t, dle_f, dgt_t, dgt_f, dge_t, dge_f, beq_t, beq_f, bne_t, bne_f, lt_T, le_T, nle_T, nle_F, ↓wrap_up, ↓wrap_down, ↓wrap_pred, ↓wrap_sub_nat, i64_in, i64_quo, rem_in, Int.reduceToNat, prgAV]
    repeat' (first | intro _ | apply And.intro | refine fzEq rfl (congrArg AV.bool ?_))
    all_goals (rw [Bool.eq_iff_iff]; simp_all [okIns, -List.length_eq_zero_iff]; try omega)
  by_cases h3 : op = 3
  · subst h3
    simp +contextual (disch := omega) only [Try.f68, dd68, ty0, ty3, ty4, ty23, ty36, ty39, ty41, ty86, ty108, ↓reduceIte, eq_self, bindW_some, bindW_map, bindW_ite, bindW_iteN, W_seq, W_region, W_draw, W_cond, W_ret, W_skip, W_exit, W_scope, W_label, W_block, blockK_norm, blockK_ret, blockK_exit, WO_nil, WO_cons, WO_guard, WD_nil, WD_cons, WD_guard, guardV, guardW_boolT, guardW_boolF, guardW_tup, fpL_some, fpL_none, footprint, thenK_norm, thenK_ret, thenK_exit, put_some, put_none, ev_tmp, ev_con, ev_func, ofK_int, ofK_bool, ofK_str, ofK_nil, evOp, evBuiltin, evCall, evLen, evAppend, getElem_16, getElem_4, List.length_cons, List.length_nil, List.reduceReplicate, Nat.reduceAdd, Nat.reduceSub, List.cons_append, List.nil_append, List.append_nil, if_false, if_true, Bool.false_eq_true, Bool.true_eq_false, reduceCtorEq, Option.map_some, Option.map_none, List.map_cons, List.map_nil, evBinOp, evBin, evUn, asB_bool, splitB_decide, splitB_true, splitB_false, splitB_beq, splitB_bne, splitB_not, endK_ret, endK_norm, List.getElem?_cons_zero, List.getElem?_cons_succ, evResults, evResult, packRes, retK_norm, retK_ret, cellsAt, mkVal, evFieldAddr, evField, evIndexAddr, evPart, evStore, evBuild, evBuildSlice, fillC, fillE, evSlice, evMakeSlice, evConvert, getRow, AV.cells, List.head?_cons, List.drop_zero, List.drop_succ_cons, List.take_zero, List.take_succ_cons, List.drop_nil, List.take_nil, List.all_cons, List.all_nil, AV.ok, Bool.and_self, Bool.and_true, Bool.true_and, and_self, and_true, true_and, Nat.reduceLeDiff, Nat.reduceMul, Nat.reduceLT, Nat.reduceEqDiff, Nat.zero_add, Nat.add_zero, setCells, splice, pairsOk, FP.apart, heapEq_refl, sameAt_refl, Bool.or_true, Bool.true_or, Bool.or_false, srcElems, elemsOf, mutDst, roundK_norm, roundK_exit, roundK_ret, List.length_map, List.getElem?_map, Int.toNat_natCast, Int.reduceBNe, Int.reduceBEq, decide_true, decide_false, Bool.not_true, Bool.not_false, List.set, set_0, set_1, set_2, set_3, set_4, look_hit, look, lookD_hit, lookD_cons, lookD_nil, ins_hit, ins, upd_hit, upd, rem1_hit, rem1, dropT, dropSt_eq, initT, cfg_dd, cfg_bd, cfg_ra, actL_nil, actL_cons, act1, updT_hit, updT, frzB, mu68, List.contains_nil, List.contains_cons, Nat.reduceBEq, Bool.or_self, dlt_t, dlt_f, dle_t, dle_f, dgt_t, dgt_f, dge_t, dge_f, beq_t, beq_f, bne_t, bne_f, lt_T, le_T, nle_T, nle_F, ↓wrap_up, ↓wrap_down, ↓wrap_pred, ↓wrap_sub_nat, i64_in, i64_quo, rem_in, Int.reduceToNat, prgAV]
    repeat' (first | intro _ | apply And.intro | refine fzEq rfl (congrArg AV.bool ?_))
    all_goals (rw [Bool.eq_iff_iff]; simp_all [okIns, -List.length_eq_zero_iff]; try omega)
  by_cases h4 : op = 4
  · subst h4
    simp +contextual (disch := omega) only [Try.f68, dd68, ty0, ty3, ty4, ty23, ty36, ty39, ty41, ty86, ty108, ↓reduceIte, eq_self, bindW_some, bindW_map, bindW_ite, bindW_iteN, W_seq, W_region, W_draw, W_cond, W_ret, W_skip, W_exit, W_scope, W_label, W_block, blockK_norm, blockK_ret, blockK_exit, WO_nil, WO_cons, WO_guard, WD_nil, WD_cons, WD_guard, guardV, guardW_boolT, guardW_boolF, guardW_tup, fpL_some, fpL_none, footprint, thenK_norm, thenK_ret, thenK_exit, put_some, put_none, ev_tmp, ev_con, ev_func, ofK_int, ofK_bool, ofK_str, ofK_nil, evOp, evBuiltin, evCall, evLen, evAppend, getElem_16, getElem_4, List.length_cons, List.length_nil, List.reduceReplicate, Nat.reduceAdd, Nat.reduceSub, List.cons_append, List.nil_append, List.append_nil, if_false, if_true, Bool.false_eq_true, Bool.true_eq_false, reduceCtorEq, Option.map_some, Option.map_none, List.map_cons, List.map_nil, evBinOp, evBin, evUn, asB_bool, splitB_decide, splitB_true, splitB_false, splitB_beq, splitB_bne, splitB_not, endK_ret, endK_norm, List.getElem?_cons_zero, List.getElem?_cons_succ, evResults, evResult, packRes, retK_norm, retK_ret, cellsAt, mkVal, evFieldAddr, evField, evIndexAddr, evPart, evStore, evBuild, evBuildSlice, fillC, fillE, evSlice, evMakeSlice, evConvert, getRow, AV.cells, List.head?_cons, List.drop_zero, List.drop_succ_cons, List.take_zero, List.take_succ_cons, List.drop_nil, List.take_nil, List.all_cons, List.all_nil, AV.ok, Bool.and_self, Bool.and_true, Bool.true_and, and_self, and_true, true_and, Nat.reduceLeDiff, Nat.reduceMul, Nat.reduceLT, Nat.reduceEqDiff, Nat.zero_add, Nat.add_zero, setCells, splice, pairsOk, FP.apart, heapEq_refl, sameAt_refl, Bool.or_true, Bool.true_or, Bool.or_false, srcElems, elemsOf, mutDst, roundK_norm, roundK_exit, roundK_ret, List.length_map, List.getElem?_map, Int.toNat_natCast, Int.reduceBNe, Int.reduceBEq, decide_true, decide_false, Bool.not_true, Bool.not_false, List.set, set_0, set_1, set_2, set_3, set_4, look_hit, look, lookD_hit, lookD_cons, lookD_nil, ins_hit, ins, upd_hit, upd, rem1_hit, rem1, dropT, dropSt_eq, initT, cfg_dd, cfg_bd, cfg_ra, actL_nil, actL_cons, act1, updT_hit, updT, frzB, mu68, List.contains_nil, List.contains_cons, Nat.reduceBEq, Bool.or_self, dlt_t, dlt_f, dle_t, dle_f, dgt_t, dgt_f, dge_t, dge_f, beq_t, beq_f, bne_t, bne_f, lt_T, le_T, nle_T, nle_F, ↓wrap_up, ↓wrap_down, ↓wrap_pred, ↓wrap_sub_nat, i64_in, i64_quo, rem_in, Int.reduceToNat, prgAV]
    repeat' (first | intro _ | apply And.intro | refine fzEq rfl (congrArg AV.bool ?_))
    all_goals (rw [Bool.eq_iff_iff]; simp_all [okIns, -List.length_eq_zero_iff]; try omega)
  by_cases h5 : op = 5
  · subst h5
    simp +contextual (disch := omega) only [Try.f68, dd68, ty0, ty3, ty4, ty23, ty36, ty39, ty41, ty86, ty108, ↓reduceIte, eq_self, bindW_some, bindW_map, bindW_ite, bindW_iteN, W_seq, W_region, W_draw, W_cond, W_ret, W_skip, W_exit, W_scope, W_label, W_block, blockK_norm, blockK_ret, blockK_exit, WO_nil, WO_cons, WO_guard, WD_nil, WD_cons, WD_guard, guardV, guardW_boolT, guardW_boolF, guardW_tup, fpL_some, fpL_none, footprint, thenK_norm, thenK_ret, thenK_exit, put_some, put_none, ev_tmp, ev_con, ev_func, ofK_int, ofK_bool, ofK_str, ofK_nil, evOp, evBuiltin, evCall, evLen, evAppend, getElem_16, getElem_4, List.length_cons, List.length_nil, List.reduceReplicate, Nat.reduceAdd, Nat.reduceSub, List.cons_append, List.nil_append, List.append_nil, if_false, if_true, Bool.false_eq_true, Bool.true_eq_false, reduceCtorEq, Option.map_some, Option.map_none, List.map_cons, List.map_nil, evBinOp, evBin, evUn, asB_bool, splitB_decide, splitB_true, splitB_false, splitB_beq, splitB_bne, splitB_not, endK_ret, endK_norm, List.getElem?_cons_zero, List.getElem?_cons_succ, evResults, evResult, packRes, retK_norm, retK_ret, cellsAt, mkVal, evFieldAddr, evField, evIndexAddr, evPart, evStore, evBuild, evBuildSlice, fillC, fillE, evSlice, evMakeSlice, evConvert, getRow, AV.cells, List.head?_cons, List.drop_zero, List.drop_succ_cons, List.take_zero, List.take_succ_cons, List.drop_nil, List.take_nil, List.all_cons, List.all_nil, AV.ok, Bool.and_self, Bool.and_true, Bool.true_and, and_self, and_true, true_and, Nat.reduceLeDiff, Nat.reduceMul, Nat.reduceLT, Nat.reduceEqDiff, Nat.zero_add, Nat.add_zero, setCells, splice, pairsOk, FP.apart, heapEq_refl, sameAt_refl, Bool.or_true, Bool.true_or, Bool.or_false, srcElems, elemsOf, mutDst, roundK_norm, roundK_exit, roundK_ret, List.length_map, List.getElem?_map, Int.toNat_natCast, Int.reduceBNe, Int.reduceBEq, decide_true, decide_false, Bool.not_true, Bool.not_false, List.set, set_0, set_1, set_2, set_3, set_4, look_hit, look, lookD_hit, lookD_cons, lookD_nil, ins_hit, ins, upd_hit, upd, rem1_hit, rem1, dropT, dropSt_eq, initT, cfg_dd, cfg_bd, cfg_ra, actL_nil, actL_cons, act1, updT_hit, updT, frzB, mu68, List.contains_nil, List.contains_cons, Nat.reduceBEq, Bool.or_self, dlt_t, dlt_f, dle_t, dle_f, dgt_t, dgt_f, dge_t, dge_f, beq_t, beq_f, bne_t, bne_f, lt_T, le_T, nle_T, nle_F, ↓wrap_up, ↓wrap_down, ↓wrap_pred, ↓wrap_sub_nat, i64_in, i64_quo, rem_in, Int.reduceToNat, prgAV]
    repeat' (first | intro _ | apply And.intro | refine fzEq rfl (congrArg AV.bool ?_))
    all_goals (rw [Bool.eq_iff_iff]; simp_all [okIns, -List.length_eq_zero_iff]; try omega)
  simp +contextual (disch := omega) only [Try.f68, dd68, ty0, ty3, ty4, ty23, ty36, ty39, ty41, ty86, ty108, ↓reduceIte, eq_self, bindW_some, bindW_map, bindW_ite, bindW_iteN, W_seq, W_region, W_draw, W_cond, W_ret, W_skip, W_exit, W_scope, W_label, W_block, blockK_norm, blockK_ret, blockK_exit, WO_nil, WO_cons, WO_guard, WD_nil, WD_cons, WD_guard, guardV, guardW_boolT, guardW_boolF, guardW_tup, fpL_some, fpL_none, footprint, thenK_norm, thenK_ret, thenK_exit, put_some, put_none, ev_tmp, ev_con, ev_func, ofK_int, ofK_bool, ofK_str, ofK_nil, evOp, evBuiltin, evCall, evLen, evAppend, getElem_16, getElem_4, List.length_cons, List.length_nil, List.reduceReplicate, Nat.reduceAdd, Nat.reduceSub, List.cons_append, List.nil_append, List.append_nil, if_false, if_true, Bool.false_eq_true, Bool.true_eq_false, reduceCtorEq, Option.map_some, Option.map_none, List.map_cons, List.map_nil, evBinOp, evBin, evUn, asB_bool, splitB_decide, splitB_true, splitB_false, splitB_beq, splitB_bne, splitB_not, endK_ret, endK_norm, List.getElem?_cons_zero, List.getElem?_cons_succ, evResults, evResult, packRes, retK_norm, retK_ret, cellsAt, mkVal, evFieldAddr, evField, evIndexAddr, evPart, evStore, evBuild, evBuildSlice, fillC, fillE, evSlice, evMakeSlice, evConvert, getRow, AV.cells, List.head?_cons, List.drop_zero, List.drop_succ_cons, List.take_zero, List.take_succ_cons, List.drop_nil, List.take_nil, List.all_cons, List.all_nil, AV.ok, Bool.and_self, Bool.and_true, Bool.true_and, and_self, and_true, true_and, Nat.reduceLeDiff, Nat.reduceMul, Nat.reduceLT, Nat.reduceEqDiff, Nat.zero_add, Nat.add_zero, setCells, splice, pairsOk, FP.apart, heapEq_refl, sameAt_refl, Bool.or_true, Bool.true_or, Bool.or_false, srcElems, elemsOf, mutDst, roundK_norm, roundK_exit, roundK_ret, List.length_map, List.getElem?_map, Int.toNat_natCast, Int.reduceBNe, Int.reduceBEq, decide_true, decide_false, Bool.not_true, Bool.not_false, List.set, set_0, set_1, set_2, set_3, set_4, look_hit, look, lookD_hit, lookD_cons, lookD_nil, ins_hit, ins, upd_hit, upd, rem1_hit, rem1, dropT, dropSt_eq, initT, cfg_dd, cfg_bd, cfg_ra, actL_nil, actL_cons, act1, updT_hit, updT, frzB, mu68, List.contains_nil, List.contains_cons, Nat.reduceBEq, Bool.or_self, dlt_t, dlt_f, dle_t, dle_f, dgt_t, dgt_f, dge_t, dge_f, beq_t, beq_f, bne_t, bne_f, lt_T, le_T, nle_T, nle_F, ↓wrap_up, ↓wrap_down, ↓wrap_pred, ↓wrap_sub_nat, i64_in, i64_quo, rem_in, Int.reduceToNat, prgAV]
  repeat' (first | intro _ | apply And.intro | refine fzEq rfl (congrArg AV.bool ?_))
  all_goals (rw [Bool.eq_iff_iff]; simp_all [okIns, -List.length_eq_zero_iff]; try omega)

end Go.Ev
namespace Go.Ev
open Go.Proofs Go.RowKit Go.IntWalk
set_option maxRecDepth 100000
set_option linter.unusedSimpArgs false
set_option linter.unusedVariables false
set_option maxHeartbeats 4000000

def PrgB (g : Prg) : Prop := g.ins.length ≤ 1000000 ∧ ∀ i ∈ g.ins, i.set.length ≤ 1000000
def lastGood (g : Prg) : Bool := match g.ins[g.ins.length - 1]? with
  | some i => i.op == 0 || i.op == 2 || i.op == 3
  | none => false
/-- The error of a program. -/
def validG (g : Prg) : Int :=
  if 8192 < g.ins.length then 4
  else if g.ins.length = 0 ∨ g.caps < 0 ∨ 9 < g.caps then 1
  else if g.ins.all (okIns g.ins.length g.caps g.runes) && lastGood g then 0 else 1

theorem validG_bad {g : Prg} (h1 : ¬ 8192 < g.ins.length) {k : Nat} {i : Ins} (hk : g.ins[k]? = some i) (hb : okIns g.ins.length g.caps g.runes i = false) : validG g = 1 := by
  have : (g.ins.all (okIns g.ins.length g.caps g.runes)) = false := by
    rw [List.all_eq_false]
    exact ⟨i, List.mem_of_getElem? hk, by simp [hb]⟩
  simp [validG, h1, this]
theorem validG_last {g : Prg} (h1 : ¬ 8192 < g.ins.length) (h2 : ¬(g.ins.length = 0 ∨ g.caps < 0 ∨ 9 < g.caps)) (ha : ∀ k i, k < g.ins.length → g.ins[k]? = some i → okIns g.ins.length g.caps g.runes i = true) :
    validG g = if lastGood g then 0 else 1 := by
  have : (g.ins.all (okIns g.ins.length g.caps g.runes)) = true := by
    rw [List.all_eq_true]
    intro i hi
    obtain ⟨k, hk, e⟩ := List.getElem_of_mem hi
    exact ha k i hk (by rw [← e]; exact List.getElem?_eq_getElem hk)
  unfold validG
  rw [if_neg h1, if_neg h2, this, Bool.true_and]
theorem okIns_op {n : Nat} {c : Int} {r : Bool} {i : Ins} (h : okIns n c r i = true) : i.op = 0 ∨ i.op = 1 ∨ i.op = 2 ∨ i.op = 3 ∨ i.op = 4 ∨ i.op = 5 := by
  simp only [okIns, Bool.and_eq_true, Bool.or_eq_true, beq_iff_eq] at h
  omega

theorem f29 (g : Prg) (hb : PrgB g) (H : List MB) : call Try.prog pol1 29 [.agg [.sl false (g.ins.map insAV), I g.caps, .bool g.runes]] H = some (I (validG g), H) := by
  obtain ⟨hl, hs⟩ := hb
  refine call_run Try.func29 rfl rfl rfl rfl rfl rfl (fun _ => rfl) (by simp [AV.plain, AV.plainL, plain_ints, plain_span, plain_ins, plain_prg]) (by simp [AV.plain, AV.plainL, plain_ints, plain_span, plain_ins, plain_prg]) ?_ H
  by_cases h1 : 8192 < g.ins.length
  · have e : validG g = 4 := by simp [validG, h1]
    rw [e]
    simp +contextual (disch := omega) only [Try.f29, dd29, ty0, ty3, ty4, ty36, ty39, ty41, ty108, ↓reduceIte, eq_self, bindW_some, bindW_map, bindW_ite, bindW_iteN, W_seq, W_region, W_draw, W_cond, W_ret, W_skip, W_exit, W_scope, W_label, W_block, blockK_norm, blockK_ret, blockK_exit, WO_nil, WO_cons, WO_guard, WD_nil, WD_cons, WD_guard, guardV, guardW_boolT, guardW_boolF, guardW_tup, fpL_some, fpL_none, footprint, thenK_norm, thenK_ret, thenK_exit, put_some, put_none, ev_tmp, ev_con, ev_func, ofK_int, ofK_bool, ofK_str, ofK_nil, evOp, evBuiltin, evCall, evLen, evAppend, getElem_16, getElem_4, List.length_cons, List.length_nil, List.reduceReplicate, Nat.reduceAdd, Nat.reduceSub, List.cons_append, List.nil_append, List.append_nil, if_false, if_true, Bool.false_eq_true, Bool.true_eq_false, reduceCtorEq, Option.map_some, Option.map_none, List.map_cons, List.map_nil, evBinOp, evBin, evUn, asB_bool, splitB_decide, splitB_true, splitB_false, splitB_beq, splitB_bne, splitB_not, endK_ret, endK_norm, List.getElem?_cons_zero, List.getElem?_cons_succ, evResults, evResult, packRes, retK_norm, retK_ret, cellsAt, mkVal, evFieldAddr, evField, evIndexAddr, evPart, evStore, evBuild, evBuildSlice, fillC, fillE, evSlice, evMakeSlice, evConvert, getRow, AV.cells, List.head?_cons, List.drop_zero, List.drop_succ_cons, List.take_zero, List.take_succ_cons, List.drop_nil, List.take_nil, List.all_cons, List.all_nil, AV.ok, Bool.and_self, Bool.and_true, Bool.true_and, and_self, and_true, true_and, Nat.reduceLeDiff, Nat.reduceMul, Nat.reduceLT, Nat.reduceEqDiff, Nat.zero_add, Nat.add_zero, setCells, splice, pairsOk, FP.apart, heapEq_refl, sameAt_refl, Bool.or_true, Bool.true_or, Bool.or_false, srcElems, elemsOf, mutDst, roundK_norm, roundK_exit, roundK_ret, List.length_map, List.getElem?_map, Int.toNat_natCast, Int.reduceBNe, Int.reduceBEq, decide_true, decide_false, Bool.not_true, Bool.not_false, List.set, set_0, set_1, set_2, set_3, set_4, look_hit, look, lookD_hit, lookD_cons, lookD_nil, ins_hit, ins, upd_hit, upd, rem1_hit, rem1, dropT, dropSt_eq, initT, cfg_dd, cfg_bd, cfg_ra, actL_nil, actL_cons, act1, updT_hit, updT, frzB, retE_norm, retE_ret, bndO, bnd, evEq, eqCells, Int.reduceEq, Int.reduceLT, Int.reduceLE, Int.reduceGT, Int.reduceGE, not_false_eq_true, not_true_eq_false, toList_some, Array.size_empty, List.length_append, List.map_append, mu29, List.contains_nil, List.contains_cons, Nat.reduceBEq, Bool.or_self, dlt_t, dlt_f, dle_t, dle_f, dgt_t, dgt_f, dge_t, dge_f, beq_t, beq_f, bne_t, bne_f, lt_T, le_T, nle_T, nle_F, ↓wrap_up, ↓wrap_down, ↓wrap_pred, ↓wrap_sub_nat, i64_in, i64_quo, rem_in, Int.reduceToNat]
    exact fzEq rfl rfl
  by_cases h2 : g.ins.length = 0 ∨ g.caps < 0 ∨ 9 < g.caps
  · have e : validG g = 1 := by unfold validG; rw [if_neg h1, if_pos h2]
    rw [e]
    simp +contextual (disch := omega) only [Try.f29, dd29, ty0, ty3, ty4, ty36, ty39, ty41, ty108, ↓reduceIte, eq_self, bindW_some, bindW_map, bindW_ite, bindW_iteN, W_seq, W_region, W_draw, W_cond, W_ret, W_skip, W_exit, W_scope, W_label, W_block, blockK_norm, blockK_ret, blockK_exit, WO_nil, WO_cons, WO_guard, WD_nil, WD_cons, WD_guard, guardV, guardW_boolT, guardW_boolF, guardW_tup, fpL_some, fpL_none, footprint, thenK_norm, thenK_ret, thenK_exit, put_some, put_none, ev_tmp, ev_con, ev_func, ofK_int, ofK_bool, ofK_str, ofK_nil, evOp, evBuiltin, evCall, evLen, evAppend, getElem_16, getElem_4, List.length_cons, List.length_nil, List.reduceReplicate, Nat.reduceAdd, Nat.reduceSub, List.cons_append, List.nil_append, List.append_nil, if_false, if_true, Bool.false_eq_true, Bool.true_eq_false, reduceCtorEq, Option.map_some, Option.map_none, List.map_cons, List.map_nil, evBinOp, evBin, evUn, asB_bool, splitB_decide, splitB_true, splitB_false, splitB_beq, splitB_bne, splitB_not, endK_ret, endK_norm, List.getElem?_cons_zero, List.getElem?_cons_succ, evResults, evResult, packRes, retK_norm, retK_ret, cellsAt, mkVal, evFieldAddr, evField, evIndexAddr, evPart, evStore, evBuild, evBuildSlice, fillC, fillE, evSlice, evMakeSlice, evConvert, getRow, AV.cells, List.head?_cons, List.drop_zero, List.drop_succ_cons, List.take_zero, List.take_succ_cons, List.drop_nil, List.take_nil, List.all_cons, List.all_nil, AV.ok, Bool.and_self, Bool.and_true, Bool.true_and, and_self, and_true, true_and, Nat.reduceLeDiff, Nat.reduceMul, Nat.reduceLT, Nat.reduceEqDiff, Nat.zero_add, Nat.add_zero, setCells, splice, pairsOk, FP.apart, heapEq_refl, sameAt_refl, Bool.or_true, Bool.true_or, Bool.or_false, srcElems, elemsOf, mutDst, roundK_norm, roundK_exit, roundK_ret, List.length_map, List.getElem?_map, Int.toNat_natCast, Int.reduceBNe, Int.reduceBEq, decide_true, decide_false, Bool.not_true, Bool.not_false, List.set, set_0, set_1, set_2, set_3, set_4, look_hit, look, lookD_hit, lookD_cons, lookD_nil, ins_hit, ins, upd_hit, upd, rem1_hit, rem1, dropT, dropSt_eq, initT, cfg_dd, cfg_bd, cfg_ra, actL_nil, actL_cons, act1, updT_hit, updT, frzB, retE_norm, retE_ret, bndO, bnd, evEq, eqCells, Int.reduceEq, Int.reduceLT, Int.reduceLE, Int.reduceGT, Int.reduceGE, not_false_eq_true, not_true_eq_false, toList_some, Array.size_empty, List.length_append, List.map_append, mu29, List.contains_nil, List.contains_cons, Nat.reduceBEq, Bool.or_self, dlt_t, dlt_f, dle_t, dle_f, dgt_t, dgt_f, dge_t, dge_f, beq_t, beq_f, bne_t, bne_f, lt_T, le_T, nle_T, nle_F, ↓wrap_up, ↓wrap_down, ↓wrap_pred, ↓wrap_sub_nat, i64_in, i64_quo, rem_in, Int.reduceToNat]
    repeat' (first | intro _ | apply And.intro | exact fzEq rfl rfl)
    all_goals (exfalso; omega)
  simp +contextual (disch := omega) only [Try.f29, dd29, ty0, ty3, ty4, ty36, ty39, ty41, ty108, ↓reduceIte, eq_self, bindW_some, bindW_map, bindW_ite, bindW_iteN, W_seq, W_region, W_draw, W_cond, W_ret, W_skip, W_exit, W_scope, W_label, W_block, blockK_norm, blockK_ret, blockK_exit, WO_nil, WO_cons, WO_guard, WD_nil, WD_cons, WD_guard, guardV, guardW_boolT, guardW_boolF, guardW_tup, fpL_some, fpL_none, footprint, thenK_norm, thenK_ret, thenK_exit, put_some, put_none, ev_tmp, ev_con, ev_func, ofK_int, ofK_bool, ofK_str, ofK_nil, evOp, evBuiltin, evCall, evLen, evAppend, getElem_16, getElem_4, List.length_cons, List.length_nil, List.reduceReplicate, Nat.reduceAdd, Nat.reduceSub, List.cons_append, List.nil_append, List.append_nil, if_false, if_true, Bool.false_eq_true, Bool.true_eq_false, reduceCtorEq, Option.map_some, Option.map_none, List.map_cons, List.map_nil, evBinOp, evBin, evUn, asB_bool, splitB_decide, splitB_true, splitB_false, splitB_beq, splitB_bne, splitB_not, endK_ret, endK_norm, List.getElem?_cons_zero, List.getElem?_cons_succ, evResults, evResult, packRes, retK_norm, retK_ret, cellsAt, mkVal, evFieldAddr, evField, evIndexAddr, evPart, evStore, evBuild, evBuildSlice, fillC, fillE, evSlice, evMakeSlice, evConvert, getRow, AV.cells, List.head?_cons, List.drop_zero, List.drop_succ_cons, List.take_zero, List.take_succ_cons, List.drop_nil, List.take_nil, List.all_cons, List.all_nil, AV.ok, Bool.and_self, Bool.and_true, Bool.true_and, and_self, and_true, true_and, Nat.reduceLeDiff, Nat.reduceMul, Nat.reduceLT, Nat.reduceEqDiff, Nat.zero_add, Nat.add_zero, setCells, splice, pairsOk, FP.apart, heapEq_refl, sameAt_refl, Bool.or_true, Bool.true_or, Bool.or_false, srcElems, elemsOf, mutDst, roundK_norm, roundK_exit, roundK_ret, List.length_map, List.getElem?_map, Int.toNat_natCast, Int.reduceBNe, Int.reduceBEq, decide_true, decide_false, Bool.not_true, Bool.not_false, List.set, set_0, set_1, set_2, set_3, set_4, look_hit, look, lookD_hit, lookD_cons, lookD_nil, ins_hit, ins, upd_hit, upd, rem1_hit, rem1, dropT, dropSt_eq, initT, cfg_dd, cfg_bd, cfg_ra, actL_nil, actL_cons, act1, updT_hit, updT, frzB, retE_norm, retE_ret, bndO, bnd, evEq, eqCells, Int.reduceEq, Int.reduceLT, Int.reduceLE, Int.reduceGT, Int.reduceGE, not_false_eq_true, not_true_eq_false, toList_some, Array.size_empty, List.length_append, List.map_append, mu29, List.contains_nil, List.contains_cons, Nat.reduceBEq, Bool.or_self, dlt_t, dlt_f, dle_t, dle_f, dgt_t, dgt_f, dge_t, dge_f, beq_t, beq_f, bne_t, bne_f, lt_T, le_T, nle_T, nle_F, ↓wrap_up, ↓wrap_down, ↓wrap_pred, ↓wrap_sub_nat, i64_in, i64_quo, rem_in, Int.reduceToNat]
  refine W_count (M := (mskOf (pol1.mask 29) (pol1.gc 29) (pol1.acts 29) 0 6)) rfl g.ins.length (fun i => (⟨55, [(3, I i), (1, .rf 0 1 0 0)], [.row 3 [prgAV g] 0]⟩ : St))
    (fun i => ∀ k p, k < i → g.ins[k]? = some p → okIns g.ins.length g.caps g.runes p = true) ?_ ?_ (fun k p h => by omega) _ (by first | rfl | (refine prep_cut rfl (by rfl) (by rfl) (by rfl) ?_ ?_ <;> simp [AV.underL, AV.under, MB.under, underL_plain, under_plain, plain_ints, plain_span, plain_ins, plain_prg, -List.map_take]))
  · intro i hi hg
    obtain ⟨p, hp⟩ : ∃ p, g.ins[i]? = some p := ⟨_, List.getElem?_eq_getElem hi⟩
    have hsp := hs p (List.mem_of_getElem? hp)
    have hf := f68 g p (by omega) hl hsp
    cases hok : okIns g.ins.length g.caps g.runes p
    · rw [hok] at hf
      simp +contextual (disch := omega) only [Try.f29, dd29, ty0, ty3, ty4, ty36, ty39, ty41, ty108, ↓reduceIte, eq_self, bindW_some, bindW_map, bindW_ite, bindW_iteN, W_seq, W_region, W_draw, W_cond, W_ret, W_skip, W_exit, W_scope, W_label, W_block, blockK_norm, blockK_ret, blockK_exit, WO_nil, WO_cons, WO_guard, WD_nil, WD_cons, WD_guard, guardV, guardW_boolT, guardW_boolF, guardW_tup, fpL_some, fpL_none, footprint, thenK_norm, thenK_ret, thenK_exit, put_some, put_none, ev_tmp, ev_con, ev_func, ofK_int, ofK_bool, ofK_str, ofK_nil, evOp, evBuiltin, evCall, evLen, evAppend, getElem_16, getElem_4, List.length_cons, List.length_nil, List.reduceReplicate, Nat.reduceAdd, Nat.reduceSub, List.cons_append, List.nil_append, List.append_nil, if_false, if_true, Bool.false_eq_true, Bool.true_eq_false, reduceCtorEq, Option.map_some, Option.map_none, List.map_cons, List.map_nil, evBinOp, evBin, evUn, asB_bool, splitB_decide, splitB_true, splitB_false, splitB_beq, splitB_bne, splitB_not, endK_ret, endK_norm, List.getElem?_cons_zero, List.getElem?_cons_succ, evResults, evResult, packRes, retK_norm, retK_ret, cellsAt, mkVal, evFieldAddr, evField, evIndexAddr, evPart, evStore, evBuild, evBuildSlice, fillC, fillE, evSlice, evMakeSlice, evConvert, getRow, AV.cells, List.head?_cons, List.drop_zero, List.drop_succ_cons, List.take_zero, List.take_succ_cons, List.drop_nil, List.take_nil, List.all_cons, List.all_nil, AV.ok, Bool.and_self, Bool.and_true, Bool.true_and, and_self, and_true, true_and, Nat.reduceLeDiff, Nat.reduceMul, Nat.reduceLT, Nat.reduceEqDiff, Nat.zero_add, Nat.add_zero, setCells, splice, pairsOk, FP.apart, heapEq_refl, sameAt_refl, Bool.or_true, Bool.true_or, Bool.or_false, srcElems, elemsOf, mutDst, roundK_norm, roundK_exit, roundK_ret, List.length_map, List.getElem?_map, Int.toNat_natCast, Int.reduceBNe, Int.reduceBEq, decide_true, decide_false, Bool.not_true, Bool.not_false, List.set, set_0, set_1, set_2, set_3, set_4, look_hit, look, lookD_hit, lookD_cons, lookD_nil, ins_hit, ins, upd_hit, upd, rem1_hit, rem1, dropT, dropSt_eq, initT, cfg_dd, cfg_bd, cfg_ra, actL_nil, actL_cons, act1, updT_hit, updT, frzB, retE_norm, retE_ret, bndO, bnd, evEq, eqCells, Int.reduceEq, Int.reduceLT, Int.reduceLE, Int.reduceGT, Int.reduceGE, not_false_eq_true, not_true_eq_false, toList_some, Array.size_empty, List.length_append, List.map_append, mu29, List.contains_nil, List.contains_cons, Nat.reduceBEq, Bool.or_self, dlt_t, dlt_f, dle_t, dle_f, dgt_t, dgt_f, dge_t, dge_f, beq_t, beq_f, bne_t, bne_f, lt_T, le_T, nle_T, nle_F, ↓wrap_up, ↓wrap_down, ↓wrap_pred, ↓wrap_sub_nat, i64_in, i64_quo, rem_in, Int.reduceToNat, hp, hf]
      refine ⟨by unfold dOk; kernel_rfl, fzEq rfl ?_⟩
      rw [validG_bad h1 hp hok]
    · rw [hok] at hf
      simp +contextual (disch := omega) only [Try.f29, dd29, ty0, ty3, ty4, ty36, ty39, ty41, ty108, ↓reduceIte, eq_self, bindW_some, bindW_map, bindW_ite, bindW_iteN, W_seq, W_region, W_draw, W_cond, W_ret, W_skip, W_exit, W_scope, W_label, W_block, blockK_norm, blockK_ret, blockK_exit, WO_nil, WO_cons, WO_guard, WD_nil, WD_cons, WD_guard, guardV, guardW_boolT, guardW_boolF, guardW_tup, fpL_some, fpL_none, footprint, thenK_norm, thenK_ret, thenK_exit, put_some, put_none, ev_tmp, ev_con, ev_func, ofK_int, ofK_bool, ofK_str, ofK_nil, evOp, evBuiltin, evCall, evLen, evAppend, getElem_16, getElem_4, List.length_cons, List.length_nil, List.reduceReplicate, Nat.reduceAdd, Nat.reduceSub, List.cons_append, List.nil_append, List.append_nil, if_false, if_true, Bool.false_eq_true, Bool.true_eq_false, reduceCtorEq, Option.map_some, Option.map_none, List.map_cons, List.map_nil, evBinOp, evBin, evUn, asB_bool, splitB_decide, splitB_true, splitB_false, splitB_beq, splitB_bne, splitB_not, endK_ret, endK_norm, List.getElem?_cons_zero, List.getElem?_cons_succ, evResults, evResult, packRes, retK_norm, retK_ret, cellsAt, mkVal, evFieldAddr, evField, evIndexAddr, evPart, evStore, evBuild, evBuildSlice, fillC, fillE, evSlice, evMakeSlice, evConvert, getRow, AV.cells, List.head?_cons, List.drop_zero, List.drop_succ_cons, List.take_zero, List.take_succ_cons, List.drop_nil, List.take_nil, List.all_cons, List.all_nil, AV.ok, Bool.and_self, Bool.and_true, Bool.true_and, and_self, and_true, true_and, Nat.reduceLeDiff, Nat.reduceMul, Nat.reduceLT, Nat.reduceEqDiff, Nat.zero_add, Nat.add_zero, setCells, splice, pairsOk, FP.apart, heapEq_refl, sameAt_refl, Bool.or_true, Bool.true_or, Bool.or_false, srcElems, elemsOf, mutDst, roundK_norm, roundK_exit, roundK_ret, List.length_map, List.getElem?_map, Int.toNat_natCast, Int.reduceBNe, Int.reduceBEq, decide_true, decide_false, Bool.not_true, Bool.not_false, List.set, set_0, set_1, set_2, set_3, set_4, look_hit, look, lookD_hit, lookD_cons, lookD_nil, ins_hit, ins, upd_hit, upd, rem1_hit, rem1, dropT, dropSt_eq, initT, cfg_dd, cfg_bd, cfg_ra, actL_nil, actL_cons, act1, updT_hit, updT, frzB, retE_norm, retE_ret, bndO, bnd, evEq, eqCells, Int.reduceEq, Int.reduceLT, Int.reduceLE, Int.reduceGT, Int.reduceGE, not_false_eq_true, not_true_eq_false, toList_some, Array.size_empty, List.length_append, List.map_append, mu29, List.contains_nil, List.contains_cons, Nat.reduceBEq, Bool.or_self, dlt_t, dlt_f, dle_t, dle_f, dgt_t, dgt_f, dge_t, dge_f, beq_t, beq_f, bne_t, bne_f, lt_T, le_T, nle_T, nle_F, ↓wrap_up, ↓wrap_down, ↓wrap_pred, ↓wrap_sub_nat, i64_in, i64_quo, rem_in, Int.reduceToNat, hp, hf]
      refine ⟨by unfold dOk; kernel_rfl, fun k q hk hq => ?_, (by first | rfl | (refine prep_cut rfl (by rfl) (by rfl) (by rfl) ?_ ?_ <;> simp [AV.underL, AV.under, MB.under, underL_plain, under_plain, plain_ints, plain_span, plain_ins, plain_prg, -List.map_take]))⟩
      rcases Nat.lt_or_ge k i with h | h
      · exact hg k q h hq
      · obtain rfl : k = i := by omega
        rw [hp] at hq
        obtain rfl := Option.some.inj hq
        exact hok
  · intro hg
    rw [validG_last h1 h2 (fun k p hk hp => hg k p hk hp)]
    obtain ⟨p, hp⟩ : ∃ p, g.ins[g.ins.length - 1]? = some p := ⟨_, List.getElem?_eq_getElem (by omega)⟩
    have hop := okIns_op (hg _ p (by omega) hp)
    have e : lastGood g = (p.op == 0 || p.op == 2 || p.op == 3) := by simp [lastGood, hp]
    rw [e]
    simp +contextual (disch := omega) only [Try.f29, dd29, ty0, ty3, ty4, ty36, ty39, ty41, ty108, ↓reduceIte, eq_self, bindW_some, bindW_map, bindW_ite, bindW_iteN, W_seq, W_region, W_draw, W_cond, W_ret, W_skip, W_exit, W_scope, W_label, W_block, blockK_norm, blockK_ret, blockK_exit, WO_nil, WO_cons, WO_guard, WD_nil, WD_cons, WD_guard, guardV, guardW_boolT, guardW_boolF, guardW_tup, fpL_some, fpL_none, footprint, thenK_norm, thenK_ret, thenK_exit, put_some, put_none, ev_tmp, ev_con, ev_func, ofK_int, ofK_bool, ofK_str, ofK_nil, evOp, evBuiltin, evCall, evLen, evAppend, getElem_16, getElem_4, List.length_cons, List.length_nil, List.reduceReplicate, Nat.reduceAdd, Nat.reduceSub, List.cons_append, List.nil_append, List.append_nil, if_false, if_true, Bool.false_eq_true, Bool.true_eq_false, reduceCtorEq, Option.map_some, Option.map_none, List.map_cons, List.map_nil, evBinOp, evBin, evUn, asB_bool, splitB_decide, splitB_true, splitB_false, splitB_beq, splitB_bne, splitB_not, endK_ret, endK_norm, List.getElem?_cons_zero, List.getElem?_cons_succ, evResults, evResult, packRes, retK_norm, retK_ret, cellsAt, mkVal, evFieldAddr, evField, evIndexAddr, evPart, evStore, evBuild, evBuildSlice, fillC, fillE, evSlice, evMakeSlice, evConvert, getRow, AV.cells, List.head?_cons, List.drop_zero, List.drop_succ_cons, List.take_zero, List.take_succ_cons, List.drop_nil, List.take_nil, List.all_cons, List.all_nil, AV.ok, Bool.and_self, Bool.and_true, Bool.true_and, and_self, and_true, true_and, Nat.reduceLeDiff, Nat.reduceMul, Nat.reduceLT, Nat.reduceEqDiff, Nat.zero_add, Nat.add_zero, setCells, splice, pairsOk, FP.apart, heapEq_refl, sameAt_refl, Bool.or_true, Bool.true_or, Bool.or_false, srcElems, elemsOf, mutDst, roundK_norm, roundK_exit, roundK_ret, List.length_map, List.getElem?_map, Int.toNat_natCast, Int.reduceBNe, Int.reduceBEq, decide_true, decide_false, Bool.not_true, Bool.not_false, List.set, set_0, set_1, set_2, set_3, set_4, look_hit, look, lookD_hit, lookD_cons, lookD_nil, ins_hit, ins, upd_hit, upd, rem1_hit, rem1, dropT, dropSt_eq, initT, cfg_dd, cfg_bd, cfg_ra, actL_nil, actL_cons, act1, updT_hit, updT, frzB, retE_norm, retE_ret, bndO, bnd, evEq, eqCells, Int.reduceEq, Int.reduceLT, Int.reduceLE, Int.reduceGT, Int.reduceGE, not_false_eq_true, not_true_eq_false, toList_some, Array.size_empty, List.length_append, List.map_append, mu29, List.contains_nil, List.contains_cons, Nat.reduceBEq, Bool.or_self, dlt_t, dlt_f, dle_t, dle_f, dgt_t, dgt_f, dge_t, dge_f, beq_t, beq_f, bne_t, bne_f, lt_T, le_T, nle_T, nle_F, ↓wrap_up, ↓wrap_down, ↓wrap_pred, ↓wrap_sub_nat, i64_in, i64_quo, rem_in, Int.reduceToNat, hp]
    repeat' (first | intro _ | apply And.intro | refine fzEq rfl ?_)
    all_goals (congr 1 <;> simp <;> omega)
end Go.Ev
namespace Go.Ev

structure Way where
  pc : Nat
  at_ : Nat
  regs : List Int

/-- What one instruction makes of the way that is on top: a result, or the ways that go on (the first is taken next). -/
inductive Out where
  | done
  | ways (l : List Way)

/-- One instruction; `has`, `holds`: do a set's spans have the text's symbol here; does an assertion hold here. -/
structure Prog1 where
  ins : Nat → Option Ins
  has : List (Int × Int) → Nat → Bool
  holds : Int → Nat → Bool

def stepW (p : Prog1) (w : Way) : Out :=
  match p.ins w.pc with
  | none => .ways []
  | some i =>
    if i.op = 0 then .done
    else if i.op = 1 then (if p.has i.set w.at_ then .ways [⟨w.pc + 1, w.at_ + 1, w.regs⟩] else .ways [])
    else if i.op = 2 then .ways [⟨i.x.toNat, w.at_, w.regs⟩, ⟨i.y.toNat, w.at_, w.regs⟩]
    else if i.op = 3 then .ways [⟨i.x.toNat, w.at_, w.regs⟩]
    else if i.op = 4 then .ways [⟨w.pc + 1, w.at_, w.regs.set i.n.toNat w.at_⟩]
    else (if p.holds i.n w.at_ then .ways [⟨w.pc + 1, w.at_, w.regs⟩] else .ways [])

/-- The run: fuel, the ways that are left (the first is next), the results so far; `none`: the fuel is used up. -/
def runW (p : Prog1) (most : Int) : Nat → List Way → List Way → Option (List Way)
  | fuel, todo, out =>
    match todo with
    | [] => some out
    | w :: rest =>
      if (out.length : Int) = most then some out
      else
        match fuel with
        | 0 => none
        | fuel + 1 =>
          match stepW p w with
          | .done => runW p most fuel rest (out ++ [w])
          | .ways l => runW p most fuel (l ++ rest) out

/-- Alike but for the registers. -/
def Way.like (a b : Way) : Prop := a.pc = b.pc ∧ a.at_ = b.at_
def likeL : List Way → List Way → Prop
  | [], [] => True
  | a :: l, b :: m => a.like b ∧ likeL l m
  | _, _ => False
theorem likeL_refl : ∀ l, likeL l l
  | [] => trivial
  | a :: l => ⟨⟨rfl, rfl⟩, likeL_refl l⟩
theorem likeL_append : ∀ {a b c d : List Way}, likeL a b → likeL c d → likeL (a ++ c) (b ++ d)
  | [], [], _, _, _, h => h
  | _ :: _, _ :: _, _, _, h1, h2 => ⟨h1.1, likeL_append h1.2 h2⟩
  | [], _ :: _, _, _, h, _ => h.elim
  | _ :: _, [], _, _, h, _ => h.elim

def likeO : Out → Out → Prop
  | .done, .done => True
  | .ways l, .ways m => likeL l m
  | _, _ => False
theorem stepW_like (p : Prog1) {a b : Way} (h : a.like b) : likeO (stepW p a) (stepW p b) := by
  obtain ⟨h1, h2⟩ := h
  unfold stepW
  rw [h1, h2]
  cases p.ins b.pc with
  | none => exact trivial
  | some i =>
    simp only []
    repeat' split
    all_goals first | exact trivial | exact ⟨⟨rfl, rfl⟩, trivial⟩ | exact ⟨⟨rfl, rfl⟩, ⟨rfl, rfl⟩, trivial⟩

/-- From one way on top, in so many steps that never look below it, to another one on top of others; so many results are found. -/
inductive Reach (p : Prog1) : Way → Way → List Way → Nat → Nat → Prop where
  | refl (w : Way) : Reach p w w [] 0 0
  | on {w0 w w' : Way} {E l : List Way} {d m : Nat} (h : Reach p w0 w E d m) (hs : stepW p w = .ways (w' :: l)) : Reach p w0 w' (l ++ E) d (m + 1)
  | pop {w0 w e : Way} {E : List Way} {d m : Nat} (h : Reach p w0 w (e :: E) d m) (hs : stepW p w = .ways []) : Reach p w0 e E d (m + 1)
  | found {w0 w e : Way} {E : List Way} {d m : Nat} (h : Reach p w0 w (e :: E) d m) (hs : stepW p w = .done) : Reach p w0 e E (d + 1) (m + 1)

theorem Reach.like {p : Prog1} {w0 w : Way} {E : List Way} {d m : Nat} (h : Reach p w0 w E d m) {v0 : Way} (hv : w0.like v0) : ∃ v F, w.like v ∧ likeL E F ∧ Reach p v0 v F d m := by
  induction h with
  | refl => exact ⟨v0, [], hv, trivial, .refl v0⟩
  | on h hs ih =>
    obtain ⟨v, F, h1, h2, h3⟩ := ih
    have h4 := stepW_like p h1
    rw [hs] at h4
    cases hq : stepW p v with
    | done => rw [hq] at h4; exact h4.elim
    | ways l2 =>
      rw [hq] at h4
      cases l2 with
      | nil => exact h4.elim
      | cons a l2 => exact ⟨a, l2 ++ F, h4.1, likeL_append h4.2 h2, .on h3 hq⟩
  | pop h hs ih =>
    obtain ⟨v, F, h1, h2, h3⟩ := ih
    have h4 := stepW_like p h1
    rw [hs] at h4
    cases hq : stepW p v with
    | done => rw [hq] at h4; exact h4.elim
    | ways l2 =>
      rw [hq] at h4
      cases l2 with
      | nil =>
        cases F with
        | nil => exact h2.elim
        | cons f F => exact ⟨f, F, h2.1, h2.2, .pop h3 hq⟩
      | cons a l2 => exact h4.elim
  | found h hs ih =>
    obtain ⟨v, F, h1, h2, h3⟩ := ih
    have h4 := stepW_like p h1
    rw [hs] at h4
    cases hq : stepW p v with
    | done =>
      cases F with
      | nil => exact h2.elim
      | cons f F => exact ⟨f, F, h2.1, h2.2, .found h3 hq⟩
    | ways l2 => rw [hq] at h4; exact h4.elim

theorem runW_step {p : Prog1} {most : Int} {fuel : Nat} {w : Way} {rest out : List Way} (h : ¬ (out.length : Int) = most) :
    runW p most (fuel + 1) (w :: rest) out = match stepW p w with
      | .done => runW p most fuel rest (out ++ [w])
      | .ways l => runW p most fuel (l ++ rest) out := by
  conv => lhs; unfold runW
  simp only [h, if_false]
theorem runW_zero {p : Prog1} {most : Int} {w : Way} {rest out : List Way} (h : ¬ (out.length : Int) = most) : runW p most 0 (w :: rest) out = none := by
  unfold runW
  simp only [h, if_false]

/-- The run follows. -/
theorem Reach.run {p : Prog1} {most : Int} {w0 w : Way} {E : List Way} {d m : Nat} (h : Reach p w0 w E d m) (S out : List Way) (hm : most = -1 ∨ (d = 0 ∧ ¬ (out.length : Int) = most)) (fuel : Nat) :
    ∃ out', out'.length = out.length + d ∧ runW p most (m + fuel) (w0 :: S) out = runW p most fuel (w :: (E ++ S)) out' := by
  induction h generalizing fuel with
  | refl => exact ⟨out, rfl, by rw [Nat.zero_add]; rfl⟩
  | @on w w' E l d m h hs ih =>
    obtain ⟨out', h1, h2⟩ := ih hm (fuel + 1)
    refine ⟨out', h1, ?_⟩
    rw [show m + 1 + fuel = m + (fuel + 1) by omega, h2, runW_step (by rcases hm with h | ⟨h, h'⟩ <;> omega), hs]
    simp only [List.cons_append, List.append_assoc]
  | @pop w e E d m h hs ih =>
    obtain ⟨out', h1, h2⟩ := ih hm (fuel + 1)
    refine ⟨out', h1, ?_⟩
    rw [show m + 1 + fuel = m + (fuel + 1) by omega, h2, runW_step (by rcases hm with h | ⟨h, h'⟩ <;> omega), hs]
    rfl
  | @found w e E d m h hs ih =>
    rcases hm with hm | hm
    · obtain ⟨out', h1, h2⟩ := ih (.inl hm) (fuel + 1)
      refine ⟨out' ++ [w], by simp; omega, ?_⟩
      rw [show m + 1 + fuel = m + (fuel + 1) by omega, h2, runW_step (by omega), hs]
      rfl
    · omega

/-- With too little fuel for it, the run ends without. -/
theorem Reach.short {p : Prog1} {most : Int} {w0 w : Way} {E : List Way} {d m : Nat} (h : Reach p w0 w E d m) (S out : List Way) (hm : most = -1 ∨ (d = 0 ∧ ¬ (out.length : Int) = most)) (fuel : Nat) (hf : fuel < m) :
    runW p most fuel (w0 :: S) out = none := by
  induction h generalizing fuel with
  | refl => omega
  | @on w w' E l d m h hs ih =>
    rcases Nat.lt_or_ge fuel m with h1 | h1
    · exact ih hm fuel h1
    · obtain rfl : fuel = m := by omega
      obtain ⟨out', h2, h3⟩ := h.run S out hm 0
      rw [Nat.add_zero] at h3
      rw [h3, runW_zero (by rcases hm with h | ⟨h, h'⟩ <;> omega)]
  | @pop w e E d m h hs ih =>
    rcases Nat.lt_or_ge fuel m with h1 | h1
    · exact ih hm fuel h1
    · obtain rfl : fuel = m := by omega
      obtain ⟨out', h2, h3⟩ := h.run S out hm 0
      rw [Nat.add_zero] at h3
      rw [h3, runW_zero (by rcases hm with h | ⟨h, h'⟩ <;> omega)]
  | @found w e E d m h hs ih =>
    rcases hm with hm | hm
    · rcases Nat.lt_or_ge fuel m with h1 | h1
      · exact ih (.inl hm) fuel h1
      · obtain rfl : fuel = m := by omega
        obtain ⟨out', h2, h3⟩ := h.run S out (.inl hm) 0
        rw [Nat.add_zero] at h3
        rw [h3, runW_zero (by omega)]
    · omega

/-- A way that comes round again is never left. -/
theorem circle {p : Prog1} {most : Int} {w0 w : Way} {E : List Way} {d m : Nat} (h : Reach p w0 w E d (m + 1)) (hl : w0.like w) : ∀ (fuel : Nat) (v0 : Way) (S out : List Way), w0.like v0 → (most = -1 ∨ (d = 0 ∧ ¬ (out.length : Int) = most)) →
    runW p most fuel (v0 :: S) out = none := by
  intro fuel
  induction fuel using Nat.strongRecOn with
  | ind fuel ih =>
    intro v0 S out hv hm
    obtain ⟨v, F, h1, h2, h3⟩ := h.like hv
    rcases Nat.lt_or_ge fuel (m + 1) with hf | hf
    · exact h3.short S out hm fuel hf
    · obtain ⟨out', o1, o2⟩ := h3.run S out hm (fuel - (m + 1))
      rw [show m + 1 + (fuel - (m + 1)) = fuel by omega] at o2
      rw [o2]
      refine ih _ (by omega) v (F ++ S) out' ⟨hl.1.trans h1.1, hl.2.trans h1.2⟩ ?_
      rcases hm with hm | ⟨hm, hm'⟩
      · exact .inl hm
      · exact .inr ⟨hm, by omega⟩

end Go.Ev
