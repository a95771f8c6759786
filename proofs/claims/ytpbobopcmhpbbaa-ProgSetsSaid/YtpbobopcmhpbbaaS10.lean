/- Functions of the program, each with what it computes; no further conditions. -/
import Derived.Test.YtpbobopcmhpbbaaS09
import Derived.Test.YtpbobopcmhpbbaaS05
set_option linter.unusedVariables false
set_option linter.unusedSimpArgs false
namespace Go.Ev
open Go.Proofs Go.RowKit Go.IntWalk
set_option maxRecDepth 100000
set_option linter.unusedSimpArgs false
set_option maxHeartbeats 2000000

def badAt (l : List (Int × Int)) (i : Nat) : Bool :=
  match l[i]? with
  | some p => !decide (0 ≤ p.1 ∧ p.1 ≤ p.2 ∧ p.2 ≤ 1114111) || (match i with
    | 0 => false
    | k + 1 => match l[k]? with
      | some q => decide (p.1 - q.2 < 2)
      | none => false)
  | none => false
def refSpans (l : List (Int × Int)) : Int := if (List.range l.length).any (badAt l) then 1 else if 64 < l.length then 4 else 0

theorem refSpans_bad {l : List (Int × Int)} {i : Nat} (hi : i < l.length) (h : badAt l i = true) : refSpans l = 1 := by
  unfold refSpans
  rw [if_pos]
  exact List.any_eq_true.2 ⟨i, List.mem_range.2 hi, h⟩
theorem refSpans_good {l : List (Int × Int)} (h : ∀ k, k < l.length → badAt l k = false) : refSpans l = if 64 < l.length then 4 else 0 := by
  unfold refSpans
  rw [if_neg]
  intro h2
  obtain ⟨k, h3, h4⟩ := List.any_eq_true.1 h2
  rw [h k (List.mem_range.1 h3)] at h4
  cases h4

end Go.Ev
namespace Go.Ev
open Go.Proofs Go.RowKit Go.IntWalk
set_option maxRecDepth 100000
set_option linter.unusedSimpArgs false
set_option maxHeartbeats 2000000

theorem f91 (a b : Int) (H : List MB) : call Try.prog pol1 91 [.agg [.int .i64 a, .int .i64 b]] H = some (.bool (decide (0 ≤ a ∧ a ≤ b ∧ b ≤ 1114111)), H) := by
  refine call_run Try.func91 rfl rfl rfl rfl rfl rfl (fun _ => rfl) (by simp [AV.plain, AV.plainL, plain_ints, plain_span, plain_ins, plain_prg]) (by simp [AV.plain, AV.plainL, plain_ints, plain_span, plain_ins, plain_prg]) ?_ H
  simp only [Try.f91, dd91, ty0, ty3, ty4, ty86, ↓reduceIte, eq_self, bindW_some, bindW_map, bindW_ite, bindW_iteN, W_seq, W_region, W_draw, W_cond, W_condK, W_ret, W_skip, W_exit, W_scope, W_label, W_block, blockK_norm, blockK_ret, blockK_exit, WO_nil, WO_cons, WO_guard, WD_nil, WD_cons, WD_guard, guardV, guardW_boolT, guardW_boolF, guardW_tup, fpL_some, fpL_none, footprint, thenK_norm, thenK_ret, thenK_exit, put_some, put_none, ev_tmp, ev_con, ev_func, ofK_int, ofK_bool, ofK_str, ofK_nil, evOp, evBuiltin, evCall, evLen, evAppend, getElem_16, getElem_4, List.length_cons, List.length_nil, List.reduceReplicate, Nat.reduceAdd, Nat.reduceSub, List.cons_append, List.nil_append, List.append_nil, if_false, if_true, Bool.false_eq_true, Bool.true_eq_false, reduceCtorEq, Option.map_some, Option.map_none, List.map_cons, List.map_nil, evBinOp, evBin, evUn, asB_bool, splitB_decide, splitB_true, splitB_false, splitB_beq, splitB_bne, splitB_not, endK_ret, endK_norm, List.getElem?_cons_zero, List.getElem?_cons_succ, evResults, evResult, packRes, retK_norm, retK_ret, cellsAt, mkVal, evFieldAddr, evField, evIndexAddr, evPart, evStore, evBuild, evBuildSlice, fillC, fillE, evSlice, evMakeSlice, evConvert, getRow, AV.cells, List.head?_cons, List.drop_zero, List.drop_succ_cons, List.take_zero, List.take_succ_cons, List.drop_nil, List.take_nil, List.all_cons, List.all_nil, AV.ok, Bool.and_self, Bool.and_true, Bool.true_and, and_self, and_true, true_and, Nat.reduceLeDiff, Nat.reduceMul, Nat.reduceLT, Nat.reduceEqDiff, Nat.zero_add, Nat.add_zero, setCells, splice, pairsOk, pairsX, altW_none, altW_some, cfg_al, WI_nil, WI_cons, FP.apart, heapEq_refl, sameAt_refl, Bool.or_true, Bool.true_or, Bool.or_false, srcElems, elemsOf, mutDst, roundK_norm, roundK_exit, roundK_ret, List.length_map, List.getElem?_map, Int.toNat_natCast, Int.reduceBNe, Int.reduceBEq, decide_true, decide_false, Bool.not_true, Bool.not_false, List.set, set_0, set_1, set_2, set_3, set_4, look_hit, look, lookD_hit, lookD_cons, lookD_nil, ins_hit, ins, upd_hit, upd, rem1_hit, rem1, dropT, dropSt_eq, initT, cfg_dd, cfg_bd, cfg_ra, actL_nil, actL_cons, act1, updT_hit, updT, frzB, mu91, List.contains_nil, List.contains_cons, Nat.reduceBEq, Bool.or_self]
  repeat' (first | intro _ | apply And.intro | refine fzEq rfl ?_)
  all_goals (congr 1; simp only [decide_eq_decide, false_eq_decide_iff]; omega)

theorem f121 (l : List (Int × Int)) (hl : l.length ≤ 1000000) (H : List MB) : call Try.prog pol1 121 [.sl false (l.map spanAV)] H = some (I (refSpans l), H) := by
  refine call_run Try.func121 rfl rfl rfl rfl rfl rfl (fun _ => rfl) (by simp [AV.plain, AV.plainL, plain_ints, plain_span, plain_ins, plain_prg]) (by simp [AV.plain, AV.plainL, plain_ints, plain_span, plain_ins, plain_prg]) ?_ H
  simp only [Try.f121, dd121, ty0, ty3, ty4, ty23, ty36, ty86, ↓reduceIte, eq_self, bindW_some, bindW_map, bindW_ite, bindW_iteN, W_seq, W_region, W_draw, W_cond, W_condK, W_ret, W_skip, W_exit, W_scope, W_label, W_block, blockK_norm, blockK_ret, blockK_exit, WO_nil, WO_cons, WO_guard, WD_nil, WD_cons, WD_guard, guardV, guardW_boolT, guardW_boolF, guardW_tup, fpL_some, fpL_none, footprint, thenK_norm, thenK_ret, thenK_exit, put_some, put_none, ev_tmp, ev_con, ev_func, ofK_int, ofK_bool, ofK_str, ofK_nil, evOp, evBuiltin, evCall, evLen, evAppend, getElem_16, getElem_4, List.length_cons, List.length_nil, List.reduceReplicate, Nat.reduceAdd, Nat.reduceSub, List.cons_append, List.nil_append, List.append_nil, if_false, if_true, Bool.false_eq_true, Bool.true_eq_false, reduceCtorEq, Option.map_some, Option.map_none, List.map_cons, List.map_nil, evBinOp, evBin, evUn, asB_bool, splitB_decide, splitB_true, splitB_false, splitB_beq, splitB_bne, splitB_not, endK_ret, endK_norm, List.getElem?_cons_zero, List.getElem?_cons_succ, evResults, evResult, packRes, retK_norm, retK_ret, cellsAt, mkVal, evFieldAddr, evField, evIndexAddr, evPart, evStore, evBuild, evBuildSlice, fillC, fillE, evSlice, evMakeSlice, evConvert, getRow, AV.cells, List.head?_cons, List.drop_zero, List.drop_succ_cons, List.take_zero, List.take_succ_cons, List.drop_nil, List.take_nil, List.all_cons, List.all_nil, AV.ok, Bool.and_self, Bool.and_true, Bool.true_and, and_self, and_true, true_and, Nat.reduceLeDiff, Nat.reduceMul, Nat.reduceLT, Nat.reduceEqDiff, Nat.zero_add, Nat.add_zero, setCells, splice, pairsOk, pairsX, altW_none, altW_some, cfg_al, WI_nil, WI_cons, FP.apart, heapEq_refl, sameAt_refl, Bool.or_true, Bool.true_or, Bool.or_false, srcElems, elemsOf, mutDst, roundK_norm, roundK_exit, roundK_ret, List.length_map, List.getElem?_map, Int.toNat_natCast, Int.reduceBNe, Int.reduceBEq, decide_true, decide_false, Bool.not_true, Bool.not_false, List.set, set_0, set_1, set_2, set_3, set_4, look_hit, look, lookD_hit, lookD_cons, lookD_nil, ins_hit, ins, upd_hit, upd, rem1_hit, rem1, dropT, dropSt_eq, initT, cfg_dd, cfg_bd, cfg_ra, actL_nil, actL_cons, act1, updT_hit, updT, frzB, mu121, List.contains_nil, List.contains_cons, Nat.reduceBEq, Bool.or_self]
  refine W_count (M := (mskOf (pol1.mask 121) (pol1.gc 121) (pol1.acts 121) 0 2)) rfl l.length (fun i => (⟨35, [(7, I i), (6, I l.length), (5, .sl false (l.map spanAV)), (0, .sl false (l.map spanAV))], []⟩ : St)) (fun i => ∀ k, k < i → badAt l k = false) ?_ ?_ (fun k h => by omega) _ (by first | rfl | (refine prep_cut rfl (by rfl) (by rfl) (by rfl) ?_ ?_ <;> simp [AV.underL, AV.under, MB.under, underL_plain, under_plain, plain_ints, plain_span, plain_ins, plain_prg, -List.map_take]))
  · intro i hlt hg
    obtain ⟨p, hp⟩ : ∃ p, l[i]? = some p := ⟨_, List.getElem?_eq_getElem hlt⟩
    have ext : badAt l i = false → ∀ k, k < i + 1 → badAt l k = false := fun h k hk => by
      rcases Nat.lt_or_ge k i with h1 | h1
      · exact hg k h1
      · obtain rfl : k = i := by omega
        exact h
    by_cases hgd : 0 ≤ p.1 ∧ p.1 ≤ p.2 ∧ p.2 ≤ 1114111
    · rcases i with _ | i
      · simp +contextual (disch := omega) only [Try.f121, dd121, ty0, ty3, ty4, ty23, ty36, ty86, ↓reduceIte, eq_self, bindW_some, bindW_map, bindW_ite, bindW_iteN, W_seq, W_region, W_draw, W_cond, W_condK, W_ret, W_skip, W_exit, W_scope, W_label, W_block, blockK_norm, blockK_ret, blockK_exit, WO_nil, WO_cons, WO_guard, WD_nil, WD_cons, WD_guard, guardV, guardW_boolT, guardW_boolF, guardW_tup, fpL_some, fpL_none, footprint, thenK_norm, thenK_ret, thenK_exit, put_some, put_none, ev_tmp, ev_con, ev_func, ofK_int, ofK_bool, ofK_str, ofK_nil, evOp, evBuiltin, evCall, evLen, evAppend, getElem_16, getElem_4, List.length_cons, List.length_nil, List.reduceReplicate, Nat.reduceAdd, Nat.reduceSub, List.cons_append, List.nil_append, List.append_nil, if_false, if_true, Bool.false_eq_true, Bool.true_eq_false, reduceCtorEq, Option.map_some, Option.map_none, List.map_cons, List.map_nil, evBinOp, evBin, evUn, asB_bool, splitB_decide, splitB_true, splitB_false, splitB_beq, splitB_bne, splitB_not, endK_ret, endK_norm, List.getElem?_cons_zero, List.getElem?_cons_succ, evResults, evResult, packRes, retK_norm, retK_ret, cellsAt, mkVal, evFieldAddr, evField, evIndexAddr, evPart, evStore, evBuild, evBuildSlice, fillC, fillE, evSlice, evMakeSlice, evConvert, getRow, AV.cells, List.head?_cons, List.drop_zero, List.drop_succ_cons, List.take_zero, List.take_succ_cons, List.drop_nil, List.take_nil, List.all_cons, List.all_nil, AV.ok, Bool.and_self, Bool.and_true, Bool.true_and, and_self, and_true, true_and, Nat.reduceLeDiff, Nat.reduceMul, Nat.reduceLT, Nat.reduceEqDiff, Nat.zero_add, Nat.add_zero, setCells, splice, pairsOk, pairsX, altW_none, altW_some, cfg_al, WI_nil, WI_cons, FP.apart, heapEq_refl, sameAt_refl, Bool.or_true, Bool.true_or, Bool.or_false, srcElems, elemsOf, mutDst, roundK_norm, roundK_exit, roundK_ret, List.length_map, List.getElem?_map, Int.toNat_natCast, Int.reduceBNe, Int.reduceBEq, decide_true, decide_false, Bool.not_true, Bool.not_false, List.set, set_0, set_1, set_2, set_3, set_4, look_hit, look, lookD_hit, lookD_cons, lookD_nil, ins_hit, ins, upd_hit, upd, rem1_hit, rem1, dropT, dropSt_eq, initT, cfg_dd, cfg_bd, cfg_ra, actL_nil, actL_cons, act1, updT_hit, updT, frzB, mu121, List.contains_nil, List.contains_cons, Nat.reduceBEq, Bool.or_self, dlt_t, dlt_f, dle_t, dle_f, dgt_t, dgt_f, dge_t, dge_f, beq_t, beq_f, bne_t, bne_f, lt_T, le_T, nle_T, nle_F, ↓wrap_up, ↓wrap_down, ↓wrap_pred, ↓wrap_sub_nat, i64_in, i64_quo, rem_in, Int.reduceToNat, hp, spanAV, hgd, f91]
        refine ⟨by unfold dOk; kernel_rfl, ext ?_, (by first | rfl | (refine prep_cut rfl (by rfl) (by rfl) (by rfl) ?_ ?_ <;> simp [AV.underL, AV.under, MB.under, underL_plain, under_plain, plain_ints, plain_span, plain_ins, plain_prg, -List.map_take]))⟩
        simp [badAt, hp, hgd]
      · obtain ⟨q, hq⟩ : ∃ q, l[i]? = some q := ⟨_, List.getElem?_eq_getElem (by omega)⟩
        have hbq := hg i (by omega)
        simp only [badAt, hq, Bool.or_eq_false_iff, Bool.not_eq_false', decide_eq_true_eq] at hbq
        replace hbq := hbq.1
        have hb : badAt l (i + 1) = decide (p.1 - q.2 < 2) := by simp [badAt, hp, hq, hgd]
        simp +contextual (disch := omega) only [Try.f121, dd121, ty0, ty3, ty4, ty23, ty36, ty86, ↓reduceIte, eq_self, bindW_some, bindW_map, bindW_ite, bindW_iteN, W_seq, W_region, W_draw, W_cond, W_condK, W_ret, W_skip, W_exit, W_scope, W_label, W_block, blockK_norm, blockK_ret, blockK_exit, WO_nil, WO_cons, WO_guard, WD_nil, WD_cons, WD_guard, guardV, guardW_boolT, guardW_boolF, guardW_tup, fpL_some, fpL_none, footprint, thenK_norm, thenK_ret, thenK_exit, put_some, put_none, ev_tmp, ev_con, ev_func, ofK_int, ofK_bool, ofK_str, ofK_nil, evOp, evBuiltin, evCall, evLen, evAppend, getElem_16, getElem_4, List.length_cons, List.length_nil, List.reduceReplicate, Nat.reduceAdd, Nat.reduceSub, List.cons_append, List.nil_append, List.append_nil, if_false, if_true, Bool.false_eq_true, Bool.true_eq_false, reduceCtorEq, Option.map_some, Option.map_none, List.map_cons, List.map_nil, evBinOp, evBin, evUn, asB_bool, splitB_decide, splitB_true, splitB_false, splitB_beq, splitB_bne, splitB_not, endK_ret, endK_norm, List.getElem?_cons_zero, List.getElem?_cons_succ, evResults, evResult, packRes, retK_norm, retK_ret, cellsAt, mkVal, evFieldAddr, evField, evIndexAddr, evPart, evStore, evBuild, evBuildSlice, fillC, fillE, evSlice, evMakeSlice, evConvert, getRow, AV.cells, List.head?_cons, List.drop_zero, List.drop_succ_cons, List.take_zero, List.take_succ_cons, List.drop_nil, List.take_nil, List.all_cons, List.all_nil, AV.ok, Bool.and_self, Bool.and_true, Bool.true_and, and_self, and_true, true_and, Nat.reduceLeDiff, Nat.reduceMul, Nat.reduceLT, Nat.reduceEqDiff, Nat.zero_add, Nat.add_zero, setCells, splice, pairsOk, pairsX, altW_none, altW_some, cfg_al, WI_nil, WI_cons, FP.apart, heapEq_refl, sameAt_refl, Bool.or_true, Bool.true_or, Bool.or_false, srcElems, elemsOf, mutDst, roundK_norm, roundK_exit, roundK_ret, List.length_map, List.getElem?_map, Int.toNat_natCast, Int.reduceBNe, Int.reduceBEq, decide_true, decide_false, Bool.not_true, Bool.not_false, List.set, set_0, set_1, set_2, set_3, set_4, look_hit, look, lookD_hit, lookD_cons, lookD_nil, ins_hit, ins, upd_hit, upd, rem1_hit, rem1, dropT, dropSt_eq, initT, cfg_dd, cfg_bd, cfg_ra, actL_nil, actL_cons, act1, updT_hit, updT, frzB, mu121, List.contains_nil, List.contains_cons, Nat.reduceBEq, Bool.or_self, dlt_t, dlt_f, dle_t, dle_f, dgt_t, dgt_f, dge_t, dge_f, beq_t, beq_f, bne_t, bne_f, lt_T, le_T, nle_T, nle_F, ↓wrap_up, ↓wrap_down, ↓wrap_pred, ↓wrap_sub_nat, i64_in, i64_quo, rem_in, Int.reduceToNat, hp, hq, spanAV, hgd, f91]
        refine ⟨by unfold dOk; kernel_rfl, fun h => fzEq rfl ?_, fun h => ⟨ext ?_, (by first | rfl | (refine prep_cut rfl (by rfl) (by rfl) (by rfl) ?_ ?_ <;> simp [AV.underL, AV.under, MB.under, underL_plain, under_plain, plain_ints, plain_span, plain_ins, plain_prg, -List.map_take]))⟩⟩
        · rw [refSpans_bad hlt]; simp [hb]; omega
        · simp [hb]; omega
    · simp +contextual (disch := omega) only [Try.f121, dd121, ty0, ty3, ty4, ty23, ty36, ty86, ↓reduceIte, eq_self, bindW_some, bindW_map, bindW_ite, bindW_iteN, W_seq, W_region, W_draw, W_cond, W_condK, W_ret, W_skip, W_exit, W_scope, W_label, W_block, blockK_norm, blockK_ret, blockK_exit, WO_nil, WO_cons, WO_guard, WD_nil, WD_cons, WD_guard, guardV, guardW_boolT, guardW_boolF, guardW_tup, fpL_some, fpL_none, footprint, thenK_norm, thenK_ret, thenK_exit, put_some, put_none, ev_tmp, ev_con, ev_func, ofK_int, ofK_bool, ofK_str, ofK_nil, evOp, evBuiltin, evCall, evLen, evAppend, getElem_16, getElem_4, List.length_cons, List.length_nil, List.reduceReplicate, Nat.reduceAdd, Nat.reduceSub, List.cons_append, List.nil_append, List.append_nil, if_false, if_true, Bool.false_eq_true, Bool.true_eq_false, reduceCtorEq, Option.map_some, Option.map_none, List.map_cons, List.map_nil, evBinOp, evBin, evUn, asB_bool, splitB_decide, splitB_true, splitB_false, splitB_beq, splitB_bne, splitB_not, endK_ret, endK_norm, List.getElem?_cons_zero, List.getElem?_cons_succ, evResults, evResult, packRes, retK_norm, retK_ret, cellsAt, mkVal, evFieldAddr, evField, evIndexAddr, evPart, evStore, evBuild, evBuildSlice, fillC, fillE, evSlice, evMakeSlice, evConvert, getRow, AV.cells, List.head?_cons, List.drop_zero, List.drop_succ_cons, List.take_zero, List.take_succ_cons, List.drop_nil, List.take_nil, List.all_cons, List.all_nil, AV.ok, Bool.and_self, Bool.and_true, Bool.true_and, and_self, and_true, true_and, Nat.reduceLeDiff, Nat.reduceMul, Nat.reduceLT, Nat.reduceEqDiff, Nat.zero_add, Nat.add_zero, setCells, splice, pairsOk, pairsX, altW_none, altW_some, cfg_al, WI_nil, WI_cons, FP.apart, heapEq_refl, sameAt_refl, Bool.or_true, Bool.true_or, Bool.or_false, srcElems, elemsOf, mutDst, roundK_norm, roundK_exit, roundK_ret, List.length_map, List.getElem?_map, Int.toNat_natCast, Int.reduceBNe, Int.reduceBEq, decide_true, decide_false, Bool.not_true, Bool.not_false, List.set, set_0, set_1, set_2, set_3, set_4, look_hit, look, lookD_hit, lookD_cons, lookD_nil, ins_hit, ins, upd_hit, upd, rem1_hit, rem1, dropT, dropSt_eq, initT, cfg_dd, cfg_bd, cfg_ra, actL_nil, actL_cons, act1, updT_hit, updT, frzB, mu121, List.contains_nil, List.contains_cons, Nat.reduceBEq, Bool.or_self, dlt_t, dlt_f, dle_t, dle_f, dgt_t, dgt_f, dge_t, dge_f, beq_t, beq_f, bne_t, bne_f, lt_T, le_T, nle_T, nle_F, ↓wrap_up, ↓wrap_down, ↓wrap_pred, ↓wrap_sub_nat, i64_in, i64_quo, rem_in, Int.reduceToNat, hp, spanAV, hgd, f91]
      refine ⟨by unfold dOk; kernel_rfl, fzEq rfl ?_⟩
      rw [refSpans_bad hlt (by simp only [badAt, hp]; simp only [hgd, decide_false, Bool.not_false, Bool.true_or])]
  · intro hg
    rw [refSpans_good hg]
    simp +contextual (disch := omega) only [Try.f121, dd121, ty0, ty3, ty4, ty23, ty36, ty86, ↓reduceIte, eq_self, bindW_some, bindW_map, bindW_ite, bindW_iteN, W_seq, W_region, W_draw, W_cond, W_condK, W_ret, W_skip, W_exit, W_scope, W_label, W_block, blockK_norm, blockK_ret, blockK_exit, WO_nil, WO_cons, WO_guard, WD_nil, WD_cons, WD_guard, guardV, guardW_boolT, guardW_boolF, guardW_tup, fpL_some, fpL_none, footprint, thenK_norm, thenK_ret, thenK_exit, put_some, put_none, ev_tmp, ev_con, ev_func, ofK_int, ofK_bool, ofK_str, ofK_nil, evOp, evBuiltin, evCall, evLen, evAppend, getElem_16, getElem_4, List.length_cons, List.length_nil, List.reduceReplicate, Nat.reduceAdd, Nat.reduceSub, List.cons_append, List.nil_append, List.append_nil, if_false, if_true, Bool.false_eq_true, Bool.true_eq_false, reduceCtorEq, Option.map_some, Option.map_none, List.map_cons, List.map_nil, evBinOp, evBin, evUn, asB_bool, splitB_decide, splitB_true, splitB_false, splitB_beq, splitB_bne, splitB_not, endK_ret, endK_norm, List.getElem?_cons_zero, List.getElem?_cons_succ, evResults, evResult, packRes, retK_norm, retK_ret, cellsAt, mkVal, evFieldAddr, evField, evIndexAddr, evPart, evStore, evBuild, evBuildSlice, fillC, fillE, evSlice, evMakeSlice, evConvert, getRow, AV.cells, List.head?_cons, List.drop_zero, List.drop_succ_cons, List.take_zero, List.take_succ_cons, List.drop_nil, List.take_nil, List.all_cons, List.all_nil, AV.ok, Bool.and_self, Bool.and_true, Bool.true_and, and_self, and_true, true_and, Nat.reduceLeDiff, Nat.reduceMul, Nat.reduceLT, Nat.reduceEqDiff, Nat.zero_add, Nat.add_zero, setCells, splice, pairsOk, pairsX, altW_none, altW_some, cfg_al, WI_nil, WI_cons, FP.apart, heapEq_refl, sameAt_refl, Bool.or_true, Bool.true_or, Bool.or_false, srcElems, elemsOf, mutDst, roundK_norm, roundK_exit, roundK_ret, List.length_map, List.getElem?_map, Int.toNat_natCast, Int.reduceBNe, Int.reduceBEq, decide_true, decide_false, Bool.not_true, Bool.not_false, List.set, set_0, set_1, set_2, set_3, set_4, look_hit, look, lookD_hit, lookD_cons, lookD_nil, ins_hit, ins, upd_hit, upd, rem1_hit, rem1, dropT, dropSt_eq, initT, cfg_dd, cfg_bd, cfg_ra, actL_nil, actL_cons, act1, updT_hit, updT, frzB, mu121, List.contains_nil, List.contains_cons, Nat.reduceBEq, Bool.or_self, dlt_t, dlt_f, dle_t, dle_f, dgt_t, dgt_f, dge_t, dge_f, beq_t, beq_f, bne_t, bne_f, lt_T, le_T, nle_T, nle_F, ↓wrap_up, ↓wrap_down, ↓wrap_pred, ↓wrap_sub_nat, i64_in, i64_quo, rem_in, Int.reduceToNat]
    refine ⟨fun h => fzEq rfl ?_, fun h => fzEq rfl ?_⟩
    · rw [if_pos (by omega)]
    · rw [if_neg (by omega)]
end Go.Ev
namespace Go.Ev
open Go.Proofs Go.RowKit Go.IntWalk
set_option maxRecDepth 100000
set_option linter.unusedSimpArgs false
set_option linter.unusedVariables false
set_option maxHeartbeats 4000000

def aroundI (n m : Int) : Int := (if n < 0 then - (n + 1) else n) % m
def In64 (n : Int) : Prop := -9223372036854775808 ≤ n ∧ n ≤ 9223372036854775807
theorem around_lt {n m : Int} (h : 0 < m) : 0 ≤ aroundI n m ∧ aroundI n m < m := by
  unfold aroundI
  have : 0 ≤ (if n < 0 then - (n + 1) else n) := by split <;> omega
  exact ⟨Int.emod_nonneg _ (by omega), Int.emod_lt_of_pos _ h⟩
theorem f12 (n m : Int) (hn : In64 n) (hm : m ≠ 0) (H : List MB) : call Try.prog pol1 12 [.int .i64 n, .int .i64 m] H = some (I (aroundI n m), H) := by
  obtain ⟨h1, h2⟩ := hn
  refine call_run Try.func12 rfl rfl rfl rfl rfl rfl (fun _ => rfl) (by simp [AV.plain, AV.plainL, plain_ints, plain_span, plain_ins, plain_prg]) (by simp [AV.plain, AV.plainL, plain_ints, plain_span, plain_ins, plain_prg]) ?_ H
  simp +contextual (disch := omega) only [Try.f12, dd12, ty3, ty4, ↓reduceIte, eq_self, bindW_some, bindW_map, bindW_ite, bindW_iteN, W_seq, W_region, W_draw, W_cond, W_condK, W_ret, W_skip, W_exit, W_scope, W_label, W_block, blockK_norm, blockK_ret, blockK_exit, WO_nil, WO_cons, WO_guard, WD_nil, WD_cons, WD_guard, guardV, guardW_boolT, guardW_boolF, guardW_tup, fpL_some, fpL_none, footprint, thenK_norm, thenK_ret, thenK_exit, put_some, put_none, ev_tmp, ev_con, ev_func, ofK_int, ofK_bool, ofK_str, ofK_nil, evOp, evBuiltin, evCall, evLen, evAppend, getElem_16, getElem_4, List.length_cons, List.length_nil, List.reduceReplicate, Nat.reduceAdd, Nat.reduceSub, List.cons_append, List.nil_append, List.append_nil, if_false, if_true, Bool.false_eq_true, Bool.true_eq_false, reduceCtorEq, Option.map_some, Option.map_none, List.map_cons, List.map_nil, evBinOp, evBin, evUn, asB_bool, splitB_decide, splitB_true, splitB_false, splitB_beq, splitB_bne, splitB_not, endK_ret, endK_norm, List.getElem?_cons_zero, List.getElem?_cons_succ, evResults, evResult, packRes, retK_norm, retK_ret, cellsAt, mkVal, evFieldAddr, evField, evIndexAddr, evPart, evStore, evBuild, evBuildSlice, fillC, fillE, evSlice, evMakeSlice, evConvert, getRow, AV.cells, List.head?_cons, List.drop_zero, List.drop_succ_cons, List.take_zero, List.take_succ_cons, List.drop_nil, List.take_nil, List.all_cons, List.all_nil, AV.ok, Bool.and_self, Bool.and_true, Bool.true_and, and_self, and_true, true_and, Nat.reduceLeDiff, Nat.reduceMul, Nat.reduceLT, Nat.reduceEqDiff, Nat.zero_add, Nat.add_zero, setCells, splice, pairsOk, pairsX, altW_none, altW_some, cfg_al, WI_nil, WI_cons, FP.apart, heapEq_refl, sameAt_refl, Bool.or_true, Bool.true_or, Bool.or_false, srcElems, elemsOf, mutDst, roundK_norm, roundK_exit, roundK_ret, List.length_map, List.getElem?_map, Int.toNat_natCast, Int.reduceBNe, Int.reduceBEq, decide_true, decide_false, Bool.not_true, Bool.not_false, List.set, set_0, set_1, set_2, set_3, set_4, look_hit, look, lookD_hit, lookD_cons, lookD_nil, ins_hit, ins, upd_hit, upd, rem1_hit, rem1, dropT, dropSt_eq, initT, cfg_dd, cfg_bd, cfg_ra, actL_nil, actL_cons, act1, updT_hit, updT, frzB, mu12, List.contains_nil, List.contains_cons, Nat.reduceBEq, Bool.or_self, dlt_t, dlt_f, dle_t, dle_f, dgt_t, dgt_f, dge_t, dge_f, beq_t, beq_f, bne_t, bne_f, lt_T, le_T, nle_T, nle_F, ↓wrap_up, ↓wrap_down, ↓wrap_pred, ↓wrap_sub_nat, i64_in, i64_quo, rem_in, Int.reduceToNat]
  unfold aroundI
  refine ⟨fun h => ⟨hm, fzEq rfl ?_⟩, fun h => ⟨hm, fzEq rfl ?_⟩⟩
  · rw [if_pos h]; try (congr 2; omega)
  · rw [if_neg h]

end Go.Ev
namespace Go.Ev
open Go.Proofs Go.RowKit Go.IntWalk
set_option maxRecDepth 100000
set_option linter.unusedSimpArgs false
set_option maxHeartbeats 2000000

def lastOk (l : List (Int × Int)) (top : Int) : Bool :=
  match l[l.length - 1]? with
  | some p => decide (p.2 ≤ top)
  | none => true

/-- Is an instruction valid in a program of so many instructions? -/
def okIns (n : Nat) (caps : Int) (runes : Bool) (i : Ins) : Bool :=
  (i.op == 1 || i.set.length == 0) && (i.op == 2 || i.y == 0) && (i.op == 2 || i.op == 3 || i.x == 0) && (i.op == 4 || i.op == 5 || i.n == 0) &&
  (i.op == 0 || (i.op == 1 && (refSpans i.set == 0 && lastOk i.set (if runes then 1114111 else 255))) ||
   (i.op == 2 && (decide (0 ≤ i.x) && decide (i.x < n) && decide (0 ≤ i.y) && decide (i.y < n))) || (i.op == 3 && (decide (0 ≤ i.x) && decide (i.x < n))) ||
   (i.op == 4 && (decide (0 ≤ i.n) && decide (i.n < 2 * caps))) || (i.op == 5 && (decide (0 ≤ i.n) && decide (i.n ≤ 5))))


end Go.Ev
namespace Go.Ev
attribute [local go_sem] eq_self bindW_some bindW_map bindW_ite bindW_iteN W_seq W_region W_draw W_cond W_condK W_ret W_skip W_exit W_scope W_label W_block blockK_norm blockK_ret blockK_exit WO_nil WO_cons WO_guard WD_nil WD_cons WD_guard guardV guardW_boolT guardW_boolF guardW_tup fpL_some fpL_none footprint thenK_norm thenK_ret thenK_exit put_some put_none ev_tmp ev_con ev_func ofK_int ofK_bool ofK_str ofK_nil evOp evBuiltin evCall evLen evAppend getElem_16 getElem_4 List.length_cons List.length_nil List.cons_append List.nil_append List.append_nil if_false if_true Bool.false_eq_true Bool.true_eq_false Option.map_some Option.map_none List.map_cons List.map_nil evBinOp evBin evUn asB_bool splitB_decide splitB_true splitB_false splitB_beq splitB_bne splitB_not endK_ret endK_norm List.getElem?_cons_zero List.getElem?_cons_succ evResults evResult packRes retK_norm retK_ret cellsAt mkVal evFieldAddr evField evIndexAddr evPart evStore evBuild evBuildSlice fillC fillE evSlice evMakeSlice evConvert getRow AV.cells List.head?_cons List.drop_zero List.drop_succ_cons List.take_zero List.take_succ_cons List.drop_nil List.take_nil List.all_cons List.all_nil AV.ok Bool.and_self Bool.and_true Bool.true_and and_self and_true true_and Nat.zero_add Nat.add_zero setCells splice pairsOk pairsX altW_none altW_some cfg_al WI_nil WI_cons FP.apart heapEq_refl sameAt_refl Bool.or_true Bool.true_or Bool.or_false srcElems elemsOf mutDst roundK_norm roundK_exit roundK_ret List.length_map List.getElem?_map Int.toNat_natCast decide_true decide_false Bool.not_true Bool.not_false List.set set_0 set_1 set_2 set_3 set_4 look_hit look lookD_hit lookD_cons lookD_nil ins_hit ins upd_hit upd rem1_hit rem1 dropT dropSt_eq initT cfg_dd cfg_bd cfg_ra actL_nil actL_cons act1 updT_hit updT frzB retE_norm retE_ret bndO bnd evEq eqCells not_false_eq_true not_true_eq_false toList_some Array.size_empty List.length_append List.map_append endE_norm endE_ret head_take1
section

open Go.Proofs Go.RowKit Go.IntWalk
set_option maxRecDepth 100000
set_option linter.unusedSimpArgs false
set_option linter.unusedVariables false
set_option maxHeartbeats 4000000

def PrgB (g : Prg) : Prop := g.ins.length ≤ 1000000 ∧ ∀ i ∈ g.ins, i.set.length ≤ 1000000
def lastGood (g : Prg) : Bool := match g.ins[g.ins.length - 1]? with
  | some i => i.op == 0 || i.op == 2 || i.op == 3
  | none => false
/-- The error of a program. -/
def validG (g : Prg) : Int :=
  if 8192 < g.ins.length then 4
  else if g.ins.length = 0 ∨ g.caps < 0 ∨ 9 < g.caps then 1
  else if g.ins.all (okIns g.ins.length g.caps g.runes) && lastGood g then 0 else 1

theorem validG_bad {g : Prg} (h1 : ¬ 8192 < g.ins.length) {k : Nat} {i : Ins} (hk : g.ins[k]? = some i) (hb : okIns g.ins.length g.caps g.runes i = false) : validG g = 1 := by
  have : (g.ins.all (okIns g.ins.length g.caps g.runes)) = false := by
    rw [List.all_eq_false]
    exact ⟨i, List.mem_of_getElem? hk, by simp [hb]⟩
  simp [validG, h1, this]
theorem validG_last {g : Prg} (h1 : ¬ 8192 < g.ins.length) (h2 : ¬(g.ins.length = 0 ∨ g.caps < 0 ∨ 9 < g.caps)) (ha : ∀ k i, k < g.ins.length → g.ins[k]? = some i → okIns g.ins.length g.caps g.runes i = true) :
    validG g = if lastGood g then 0 else 1 := by
  have : (g.ins.all (okIns g.ins.length g.caps g.runes)) = true := by
    rw [List.all_eq_true]
    intro i hi
    obtain ⟨k, hk, e⟩ := List.getElem_of_mem hi
    exact ha k i hk (by rw [← e]; exact List.getElem?_eq_getElem hk)
  unfold validG
  rw [if_neg h1, if_neg h2, this, Bool.true_and]
theorem okIns_op {n : Nat} {c : Int} {r : Bool} {i : Ins} (h : okIns n c r i = true) : i.op = 0 ∨ i.op = 1 ∨ i.op = 2 ∨ i.op = 3 ∨ i.op = 4 ∨ i.op = 5 := by
  simp only [okIns, Bool.and_eq_true, Bool.or_eq_true, beq_iff_eq] at h
  omega

end
section

open Go.Proofs Go.RowKit Go.IntWalk
set_option maxRecDepth 100000
set_option linter.unusedSimpArgs false
set_option linter.unusedVariables false
set_option maxHeartbeats 4000000

def hasSpan (l : List (Int × Int)) (x : Int) : Bool := l.any fun p => decide (p.1 ≤ x) && decide (x ≤ p.2)
theorem hasSpan_at {l : List (Int × Int)} {x : Int} {i : Nat} {p : Int × Int} (h : l[i]? = some p) (hp : p.1 ≤ x ∧ x ≤ p.2) : hasSpan l x = true := by
  unfold hasSpan
  exact List.any_eq_true.2 ⟨p, List.mem_of_getElem? h, by simp [hp]⟩
theorem hasSpan_no {l : List (Int × Int)} {x : Int} (h : ∀ k p, k < l.length → l[k]? = some p → ¬ (p.1 ≤ x ∧ x ≤ p.2)) : hasSpan l x = false := by
  unfold hasSpan
  rw [List.any_eq_false]
  intro p hp
  obtain ⟨k, hk, e⟩ := List.getElem_of_mem hp
  have := h k p hk (by rw [← e]; exact List.getElem?_eq_getElem hk)
  simpa using this

theorem f43 (l : List (Int × Int)) (x : Int) (hl : l.length ≤ 1000000) (H : List MB) : call Try.prog pol1 43 [.sl false (l.map spanAV), I x] H = some (.bool (hasSpan l x), H) := by
  refine call_run Try.func43 rfl rfl rfl rfl rfl rfl (fun _ => rfl) (by simp [AV.plain, AV.plainL, plain_ints, plain_span, plain_ins, plain_prg]) (by simp [AV.plain, AV.plainL, plain_ints, plain_span, plain_ins, plain_prg]) ?_ H
  simp +contextual (disch := omega) only [Try.f43, dd43, ty0, ty3, ty4, ty23, ty86, go_sem, ↓reduceIte, List.reduceReplicate, Nat.reduceAdd, Nat.reduceSub, reduceCtorEq, Nat.reduceLeDiff, Nat.reduceMul, Nat.reduceLT, Nat.reduceEqDiff, Int.reduceBNe, Int.reduceBEq, Int.reduceEq, Int.reduceLT, Int.reduceLE, Int.reduceGT, Int.reduceGE, mu43, List.contains_nil, List.contains_cons, Nat.reduceBEq, Bool.or_self, dlt_t, dlt_f, dle_t, dle_f, dgt_t, dgt_f, dge_t, dge_f, beq_t, beq_f, bne_t, bne_f, lt_T, le_T, nle_T, nle_F, ↓wrap_up, ↓wrap_down, ↓wrap_pred, ↓wrap_sub_nat, i64_in, i64_quo, rem_in, Int.reduceToNat]
  refine W_count (M := (mskOf (pol1.mask 43) (pol1.gc 43) (pol1.acts 43) 0 2)) rfl l.length (fun i => (⟨24, [(9, I i), (8, I l.length), (7, .sl false (l.map spanAV)), (1, I x)], []⟩ : St)) (fun i => ∀ k p, k < i → l[k]? = some p → ¬ (p.1 ≤ x ∧ x ≤ p.2)) ?_ ?_ (fun k p h => by omega) _ (by first | rfl | (refine prep_cut rfl (by rfl) (by rfl) (by rfl) ?_ ?_ <;> simp [AV.underL, AV.under, MB.under, underL_plain, under_plain, plain_ints, plain_span, plain_ins, plain_prg, -List.map_take]))
  · intro i hi hg
    obtain ⟨p, hp⟩ : ∃ p, l[i]? = some p := ⟨_, List.getElem?_eq_getElem hi⟩
    by_cases hin : p.1 ≤ x ∧ x ≤ p.2
    · rw [hasSpan_at hp hin]
      simp +contextual (disch := omega) only [Try.f43, dd43, ty0, ty3, ty4, ty23, ty86, go_sem, ↓reduceIte, List.reduceReplicate, Nat.reduceAdd, Nat.reduceSub, reduceCtorEq, Nat.reduceLeDiff, Nat.reduceMul, Nat.reduceLT, Nat.reduceEqDiff, Int.reduceBNe, Int.reduceBEq, Int.reduceEq, Int.reduceLT, Int.reduceLE, Int.reduceGT, Int.reduceGE, mu43, List.contains_nil, List.contains_cons, Nat.reduceBEq, Bool.or_self, dlt_t, dlt_f, dle_t, dle_f, dgt_t, dgt_f, dge_t, dge_f, beq_t, beq_f, bne_t, bne_f, lt_T, le_T, nle_T, nle_F, ↓wrap_up, ↓wrap_down, ↓wrap_pred, ↓wrap_sub_nat, i64_in, i64_quo, rem_in, Int.reduceToNat, hp, spanAV]
      exact fzEq rfl rfl
    · have ext : ∀ k q, k < i + 1 → l[k]? = some q → ¬ (q.1 ≤ x ∧ x ≤ q.2) := fun k q hk hq => by
        rcases Nat.lt_or_ge k i with h | h
        · exact hg k q h hq
        · obtain rfl : k = i := by omega
          rw [hp] at hq
          obtain rfl := Option.some.inj hq
          exact hin
      by_cases h1 : p.1 ≤ x
      · simp +contextual (disch := omega) only [Try.f43, dd43, ty0, ty3, ty4, ty23, ty86, go_sem, ↓reduceIte, List.reduceReplicate, Nat.reduceAdd, Nat.reduceSub, reduceCtorEq, Nat.reduceLeDiff, Nat.reduceMul, Nat.reduceLT, Nat.reduceEqDiff, Int.reduceBNe, Int.reduceBEq, Int.reduceEq, Int.reduceLT, Int.reduceLE, Int.reduceGT, Int.reduceGE, mu43, List.contains_nil, List.contains_cons, Nat.reduceBEq, Bool.or_self, dlt_t, dlt_f, dle_t, dle_f, dgt_t, dgt_f, dge_t, dge_f, beq_t, beq_f, bne_t, bne_f, lt_T, le_T, nle_T, nle_F, ↓wrap_up, ↓wrap_down, ↓wrap_pred, ↓wrap_sub_nat, i64_in, i64_quo, rem_in, Int.reduceToNat, hp, spanAV]
        exact ⟨ext, (by first | rfl | (refine prep_cut rfl (by rfl) (by rfl) (by rfl) ?_ ?_ <;> simp [AV.underL, AV.under, MB.under, underL_plain, under_plain, plain_ints, plain_span, plain_ins, plain_prg, -List.map_take]))⟩
      · simp +contextual (disch := omega) only [Try.f43, dd43, ty0, ty3, ty4, ty23, ty86, go_sem, ↓reduceIte, List.reduceReplicate, Nat.reduceAdd, Nat.reduceSub, reduceCtorEq, Nat.reduceLeDiff, Nat.reduceMul, Nat.reduceLT, Nat.reduceEqDiff, Int.reduceBNe, Int.reduceBEq, Int.reduceEq, Int.reduceLT, Int.reduceLE, Int.reduceGT, Int.reduceGE, mu43, List.contains_nil, List.contains_cons, Nat.reduceBEq, Bool.or_self, dlt_t, dlt_f, dle_t, dle_f, dgt_t, dgt_f, dge_t, dge_f, beq_t, beq_f, bne_t, bne_f, lt_T, le_T, nle_T, nle_F, ↓wrap_up, ↓wrap_down, ↓wrap_pred, ↓wrap_sub_nat, i64_in, i64_quo, rem_in, Int.reduceToNat, hp, spanAV]
        exact ⟨ext, (by first | rfl | (refine prep_cut rfl (by rfl) (by rfl) (by rfl) ?_ ?_ <;> simp [AV.underL, AV.under, MB.under, underL_plain, under_plain, plain_ints, plain_span, plain_ins, plain_prg, -List.map_take]))⟩
  · intro hg
    rw [hasSpan_no hg]
    simp +contextual (disch := omega) only [Try.f43, dd43, ty0, ty3, ty4, ty23, ty86, go_sem, ↓reduceIte, List.reduceReplicate, Nat.reduceAdd, Nat.reduceSub, reduceCtorEq, Nat.reduceLeDiff, Nat.reduceMul, Nat.reduceLT, Nat.reduceEqDiff, Int.reduceBNe, Int.reduceBEq, Int.reduceEq, Int.reduceLT, Int.reduceLE, Int.reduceGT, Int.reduceGE, mu43, List.contains_nil, List.contains_cons, Nat.reduceBEq, Bool.or_self, dlt_t, dlt_f, dle_t, dle_f, dgt_t, dgt_f, dge_t, dge_f, beq_t, beq_f, bne_t, bne_f, lt_T, le_T, nle_T, nle_F, ↓wrap_up, ↓wrap_down, ↓wrap_pred, ↓wrap_sub_nat, i64_in, i64_quo, rem_in, Int.reduceToNat]
    exact fzEq rfl rfl

def wordI (x : Int) : Bool := (decide (97 ≤ x) && decide (x ≤ 122)) || (decide (65 ≤ x) && decide (x ≤ 90)) || (decide (48 ≤ x) && decide (x ≤ 57)) || x == 95
theorem f117 (x : Int) (H : List MB) : call Try.prog pol1 117 [I x] H = some (.bool (wordI x), H) := by
  refine call_run Try.func117 rfl rfl rfl rfl rfl rfl (fun _ => rfl) (by simp [AV.plain, AV.plainL, plain_ints, plain_span, plain_ins, plain_prg]) (by simp [AV.plain, AV.plainL, plain_ints, plain_span, plain_ins, plain_prg]) ?_ H
  simp +contextual (disch := omega) only [Try.f117, dd117, ty3, ty4, go_sem, ↓reduceIte, List.reduceReplicate, Nat.reduceAdd, Nat.reduceSub, reduceCtorEq, Nat.reduceLeDiff, Nat.reduceMul, Nat.reduceLT, Nat.reduceEqDiff, Int.reduceBNe, Int.reduceBEq, Int.reduceEq, Int.reduceLT, Int.reduceLE, Int.reduceGT, Int.reduceGE, mu117, List.contains_nil, List.contains_cons, Nat.reduceBEq, Bool.or_self, dlt_t, dlt_f, dle_t, dle_f, dgt_t, dgt_f, dge_t, dge_f, beq_t, beq_f, bne_t, bne_f, lt_T, le_T, nle_T, nle_F, ↓wrap_up, ↓wrap_down, ↓wrap_pred, ↓wrap_sub_nat, i64_in, i64_quo, rem_in, Int.reduceToNat]
  repeat' (first | intro _ | apply And.intro | refine fzEq rfl (congrArg AV.bool ?_))
  all_goals (rw [Bool.eq_iff_iff]; simp [wordI] <;> omega)
end
end Go.Ev
namespace Go.Ev
set_option linter.unusedSimpArgs false
set_option linter.unusedVariables false

/-- Where the spans begin. -/
def loAt (L : List (Int × Int)) (a : Nat) : Int := (L.getD a (0, 0)).1
theorem loAt_of {L : List (Int × Int)} {a : Nat} {p : Int × Int} (h : L[a]? = some p) : loAt L a = p.1 := by simp [loAt, List.getD_eq_getElem?_getD, h]
def SortTo (L : List (Int × Int)) (i : Nat) : Prop := ∀ a b, a < b → b ≤ i → loAt L a ≤ loAt L b
/-- In the middle of putting number i into its place: it has come to j. -/
structure InsI (l L : List (Int × Int)) (i j : Nat) : Prop where
  perm : L.Perm l
  ji : j ≤ i
  il : i < L.length
  old : ∀ a b, a < b → b ≤ i → a ≠ j → b ≠ j → loAt L a ≤ loAt L b
  up : ∀ b, j < b → b ≤ i → loAt L j ≤ loAt L b
theorem InsI.start {l L : List (Int × Int)} {i : Nat} (hp : L.Perm l) (hi : i < L.length) (h : 0 < i → SortTo L (i - 1)) : InsI l L i i :=
  ⟨hp, Nat.le_refl _, hi, fun a b h1 h2 h3 h4 => h (by omega) a b h1 (by omega), fun b h1 h2 => by omega⟩
abbrev swp (L : List (Int × Int)) (j : Nat) (p q : Int × Int) : List (Int × Int) := (L.set (j + 1) p).set j q
theorem lo_swp {L : List (Int × Int)} {j : Nat} {p q : Int × Int} (h : j + 1 < L.length) (a : Nat) : loAt (swp L j p q) a = if a = j then q.1 else if a = j + 1 then p.1 else loAt L a := by
  unfold loAt swp
  simp only [List.getD_eq_getElem?_getD, List.getElem?_set, List.length_set]
  by_cases h1 : a = j
  · subst h1; simp; rw [if_pos (by omega)]; rfl
  · by_cases h2 : a = j + 1
    · subst h2; simp [h]
    · simp [h1, h2, Ne.symm h1, Ne.symm h2]
theorem InsI.step {l L : List (Int × Int)} {i j : Nat} {p q : Int × Int} (h : InsI l L i (j + 1)) (hp : L[j]? = some p) (hq : L[j + 1]? = some q) (hlt : q.1 < p.1) : InsI l (swp L j p q) i j := by
  have hj := h.ji
  have hi := h.il
  have lo := lo_swp (L := L) (j := j) (p := p) (q := q) (by omega)
  have ep := loAt_of hp
  have eq := loAt_of hq
  refine ⟨?_, by omega, by simp [swp]; exact hi, fun a b h1 h2 h3 h4 => ?_, fun b h1 h2 => ?_⟩
  · have h1 := (List.getElem?_eq_some_iff.1 hp)
    have h2 := (List.getElem?_eq_some_iff.1 hq)
    have := List.set_set_perm (show j + 1 < L.length by omega) (show j < L.length by omega)
    rw [h1.2, h2.2] at this
    exact this.trans h.perm
  · rw [lo a, lo b, if_neg h3, if_neg h4]
    by_cases e1 : a = j + 1
    · rw [if_pos e1, if_neg (by omega), ← ep]
      exact h.old j b (by omega) h2 (by omega) (by omega)
    · rw [if_neg e1]
      by_cases e2 : b = j + 1
      · rw [if_pos e2, ← ep]
        exact h.old a j (by omega) (by omega) e1 (by omega)
      · rw [if_neg e2]
        exact h.old a b h1 h2 e1 e2
  · rw [lo j, lo b, if_pos rfl, if_neg (by omega)]
    by_cases e2 : b = j + 1
    · rw [if_pos e2]; omega
    · rw [if_neg e2, ← eq]
      exact h.up b (by omega) h2
theorem InsI.stop {l L : List (Int × Int)} {i j : Nat} (h : InsI l L i j) (hs : j = 0 ∨ ∃ k p q, j = k + 1 ∧ L[k]? = some p ∧ L[k + 1]? = some q ∧ p.1 ≤ q.1) : SortTo L i := by
  intro a b h1 h2
  by_cases ea : a = j
  · subst ea; exact h.up b h1 h2
  · by_cases eb : b = j
    · subst eb
      rcases hs with hs | ⟨k, p, q, hk, hp, hq, hle⟩
      · omega
      · subst hk
        rw [loAt_of hq]
        refine Int.le_trans ?_ hle
        rw [← loAt_of hp]
        by_cases e : a = k
        · rw [e]; exact Int.le_refl _
        · exact h.old a k (by omega) (by omega) ea (by omega)
    · exact h.old a b h1 h2 ea eb

theorem hasSpan_append (a b : List (Int × Int)) (x : Int) : hasSpan (a ++ b) x = (hasSpan a x || hasSpan b x) := by simp [hasSpan]
/-- One span more, behind. -/
def addI (O : List (Int × Int)) (p : Int × Int) : List (Int × Int) :=
  match O.getLast? with
  | some q => if p.1 ≤ q.2 + 1 then O.dropLast ++ [(q.1, max q.2 p.2)] else O ++ [p]
  | none => [p]
theorem addI_nil (p : Int × Int) : addI [] p = [p] := rfl
theorem addI_snoc (O : List (Int × Int)) (q p : Int × Int) : addI (O ++ [q]) p = if p.1 ≤ q.2 + 1 then O ++ [(q.1, max q.2 p.2)] else O ++ [q] ++ [p] := by
  simp [addI]
def goodS (p : Int × Int) : Prop := 0 ≤ p.1 ∧ p.1 ≤ p.2 ∧ p.2 ≤ 1114111
structure SetOk (s O : List (Int × Int)) : Prop where
  sep : O.Pairwise fun p q => p.2 + 2 ≤ q.1
  good : ∀ p ∈ O, goodS p
  has : ∀ x, hasSpan O x = hasSpan s x
  len : O.length ≤ s.length
  last : ∀ q, O.getLast? = some q → ∃ p ∈ s, p.1 = q.1
theorem SetOk.nil : SetOk [] [] := ⟨.nil, fun _ h => by simp at h, fun _ => rfl, Nat.le_refl _, fun _ h => by simp at h⟩
theorem SetOk.add {s O : List (Int × Int)} (h : SetOk s O) {p : Int × Int} (hg : goodS p) (hle : ∀ q ∈ s, q.1 ≤ p.1) : SetOk (s ++ [p]) (addI O p) := by
  obtain ⟨hg0, hg1, hg2⟩ := hg
  rcases List.eq_nil_or_concat O with rfl | ⟨O', q, rfl⟩
  · rw [addI_nil]
    have h0 := h.has
    refine ⟨List.pairwise_singleton _ _, fun r hr => by rw [List.mem_singleton.1 hr]; exact ⟨hg0, hg1, hg2⟩, fun x => ?_, by simp, fun q hq => ⟨p, by simp, by simp at hq; rw [hq]⟩⟩
    rw [hasSpan_append, ← h0 x]
    simp [hasSpan]
  · rw [List.concat_eq_append] at *
    obtain ⟨p0, hp0, e0⟩ := h.last q (by simp)
    have hqp := hle p0 hp0
    have hgq := h.good q (by simp)
    obtain ⟨k1, k2, k3⟩ := hgq
    have hsep := List.pairwise_append.1 h.sep
    rw [addI_snoc]
    split
    · rename_i hm
      refine ⟨List.pairwise_append.2 ⟨hsep.1, List.pairwise_singleton _ _, fun a ha b hb => ?_⟩, fun r hr => ?_, fun x => ?_, ?_, fun r hr => ⟨p0, by simp [hp0], by simp at hr; rw [← hr]; exact e0⟩⟩
      · rw [List.mem_singleton.1 hb]; exact hsep.2.2 a ha q (by simp)
      · rcases List.mem_append.1 hr with hr | hr
        · exact h.good r (by simp [hr])
        · rw [List.mem_singleton.1 hr]
          exact ⟨k1, by show q.1 ≤ max q.2 p.2; omega, by show max q.2 p.2 ≤ _; omega⟩
      · have := h.has x
        rw [hasSpan_append] at this ⊢
        rw [hasSpan_append, ← this, Bool.or_assoc]
        congr 1
        rw [Bool.eq_iff_iff]
        simp [hasSpan]
        omega
      · have := h.len
        simp at this ⊢; omega
    · rename_i hm
      refine ⟨List.pairwise_append.2 ⟨h.sep, List.pairwise_singleton _ _, fun a ha b hb => ?_⟩, fun r hr => ?_, fun x => ?_, ?_, fun r hr => ⟨p, by simp, by simp at hr; rw [hr]⟩⟩
      · rw [List.mem_singleton.1 hb]
        rcases List.mem_append.1 ha with ha | ha
        · have := hsep.2.2 a ha q (by simp)
          omega
        · rw [List.mem_singleton.1 ha]; omega
      · rcases List.mem_append.1 hr with hr | hr
        · exact h.good r hr
        · rw [List.mem_singleton.1 hr]; exact ⟨hg0, hg1, hg2⟩
      · rw [hasSpan_append, h.has x, hasSpan_append]
      · have := h.len
        simp at this ⊢; omega
def addAll (s : List (Int × Int)) : List (Int × Int) := s.foldl addI []
theorem addAll_snoc (s : List (Int × Int)) (p : Int × Int) : addAll (s ++ [p]) = addI (addAll s) p := by simp [addAll]
theorem addAll_take {s : List (Int × Int)} {i : Nat} {p : Int × Int} (h : s[i]? = some p) : addAll (s.take (i + 1)) = addI (addAll (s.take i)) p := by
  rw [List.take_add_one, h]; exact addAll_snoc _ _
theorem addAll_ok {s : List (Int × Int)} (hs : s.Pairwise fun p q => p.1 ≤ q.1) (hg : ∀ p ∈ s, goodS p) : SetOk s (addAll s) := by
  have key : ∀ i, i ≤ s.length → SetOk (s.take i) (addAll (s.take i)) := by
    intro i
    induction i with
    | zero => intro _; exact SetOk.nil
    | succ i ih =>
      intro hi
      obtain ⟨p, hp⟩ : ∃ p, s[i]? = some p := ⟨_, List.getElem?_eq_getElem (by omega)⟩
      have hpm := List.mem_of_getElem? hp
      have := (ih (by omega)).add (p := p) (hg p hpm) (fun q hq => by
        obtain ⟨k, hk, e⟩ := List.getElem_of_mem hq
        simp at hk e
        have h1 := List.pairwise_iff_getElem.1 hs k i (by omega) (by omega) (by omega)
        rw [(List.getElem?_eq_some_iff.1 hp).2, e] at h1
        exact h1)
      rw [List.take_add_one, hp]
      simpa [addAll_snoc] using this
  have := key s.length (Nat.le_refl _)
  rwa [List.take_length] at this
theorem sorted_of {L : List (Int × Int)} (h : SortTo L (L.length - 1)) : L.Pairwise fun p q => p.1 ≤ q.1 := by
  rw [List.pairwise_iff_getElem]
  intro i j hi hj hij
  have := h i j hij (by omega)
  rwa [loAt_of (List.getElem?_eq_getElem hi), loAt_of (List.getElem?_eq_getElem hj)] at this
end Go.Ev
namespace Go.Ev
attribute [local go_sem] eq_self bindW_some bindW_map bindW_ite bindW_iteN W_seq W_region W_draw W_cond W_condK W_ret W_skip W_exit W_scope W_label W_block blockK_norm blockK_ret blockK_exit WO_nil WO_cons WO_guard WD_nil WD_cons WD_guard guardV guardW_boolT guardW_boolF guardW_tup fpL_some fpL_none footprint thenK_norm thenK_ret thenK_exit put_some put_none ev_tmp ev_con ev_func ofK_int ofK_bool ofK_str ofK_nil evOp evBuiltin evCall evLen evAppend getElem_16 getElem_4 List.length_cons List.length_nil List.cons_append List.nil_append List.append_nil if_false if_true Bool.false_eq_true Bool.true_eq_false Option.map_some Option.map_none List.map_cons List.map_nil evBinOp evBin evUn asB_bool splitB_decide splitB_true splitB_false splitB_beq splitB_bne splitB_not endK_ret endK_norm List.getElem?_cons_zero List.getElem?_cons_succ evResults evResult packRes retK_norm retK_ret cellsAt mkVal evFieldAddr evField evIndexAddr evPart evStore evBuild evBuildSlice fillC fillE evSlice evMakeSlice evConvert getRow AV.cells List.head?_cons List.drop_zero List.drop_succ_cons List.take_zero List.take_succ_cons List.drop_nil List.take_nil List.all_cons List.all_nil AV.ok Bool.and_self Bool.and_true Bool.true_and and_self and_true true_and Nat.zero_add Nat.add_zero setCells splice pairsOk pairsX altW_none altW_some cfg_al WI_nil WI_cons FP.apart heapEq_refl sameAt_refl Bool.or_true Bool.true_or Bool.or_false srcElems elemsOf mutDst roundK_norm roundK_exit roundK_ret List.length_map List.getElem?_map Int.toNat_natCast decide_true decide_false Bool.not_true Bool.not_false List.set set_0 set_1 set_2 set_3 set_4 look_hit look lookD_hit lookD_cons lookD_nil ins_hit ins upd_hit upd rem1_hit rem1 dropT dropSt_eq initT cfg_dd cfg_bd cfg_ra actL_nil actL_cons act1 updT_hit updT frzB retE_norm retE_ret bndO bnd evEq eqCells not_false_eq_true not_true_eq_false toList_some Array.size_empty List.length_append List.map_append endE_norm endE_ret head_take1
section
attribute [local go_sem] tySzE List.head?_drop Nat.mul_one sameAt_zero sameAt_two sameAt_three sameAt_four sameAt_five
open Go.Proofs Go.RowKit Go.IntWalk
set_option maxRecDepth 100000
set_option linter.unusedSimpArgs false
set_option linter.unusedVariables false
set_option maxHeartbeats 8000000

theorem f94 (a b c d : Int) (h : In64 (a - c)) (H : List MB) : call Try.prog pol1 94 [.agg [I a, I b], .agg [I c, I d]] H = some (I (a - c), H) := by
  refine call_run Try.func94 rfl rfl rfl rfl rfl rfl (fun _ => rfl) (by simp [AV.plain, AV.plainL, plain_ints, plain_span, plain_ins, plain_prg]) (by simp [AV.plain, AV.plainL, plain_ints, plain_span, plain_ins, plain_prg]) ?_ H
  have hw : IntKind.i64.wrap (a - c) = a - c := i64_in _ h
  simp +contextual (disch := omega) only [Try.f94, dd94, ty0, ty3, ty86, go_sem, ↓reduceIte, List.reduceReplicate, Nat.reduceAdd, Nat.reduceSub, reduceCtorEq, Nat.reduceLeDiff, Nat.reduceMul, Nat.reduceLT, Nat.reduceEqDiff, Int.reduceBNe, Int.reduceBEq, Int.reduceEq, Int.reduceLT, Int.reduceLE, Int.reduceGT, Int.reduceGE, mu94, List.contains_nil, List.contains_cons, Nat.reduceBEq, Bool.or_self, dlt_t, dlt_f, dle_t, dle_f, dgt_t, dgt_f, dge_t, dge_f, beq_t, beq_f, bne_t, bne_f, lt_T, le_T, nle_T, nle_F, ↓wrap_up, ↓wrap_down, ↓wrap_pred, ↓wrap_sub_nat, i64_in, i64_quo, rem_in, Int.reduceToNat, room_ok, hw]
  repeat' (first | intro _ | apply And.intro | (unfold dOk; kernel_rfl) | exact St.beq_refl _ | (show altO _ _ _ _ = true; kernel_rfl) | (show (_ || _) = true; kernel_rfl) | (show (_ && _) = true; kernel_rfl))
  exact fzEq rfl rfl

theorem f130 (n : Nat) (hn : n ≤ 6) (H : List MB) : ∃ k : Int, call Try.prog pol1 130 [.int .u64 n] H = some (I k, H) := by
  have : n = 0 ∨ n = 1 ∨ n = 2 ∨ n = 3 ∨ n = 4 ∨ n = 5 ∨ n = 6 := by omega
  rcases this with rfl | rfl | rfl | rfl | rfl | rfl | rfl
  · exact ⟨0, call_of_evF (n := 2) 3 130 _ _ _ (by kernel_rfl)⟩
  · exact ⟨1, call_of_evF (n := 2) 3 130 _ _ _ (by kernel_rfl)⟩
  · exact ⟨2, call_of_evF (n := 2) 3 130 _ _ _ (by kernel_rfl)⟩
  · exact ⟨2, call_of_evF (n := 2) 3 130 _ _ _ (by kernel_rfl)⟩
  · exact ⟨3, call_of_evF (n := 2) 3 130 _ _ _ (by kernel_rfl)⟩
  · exact ⟨3, call_of_evF (n := 2) 3 130 _ _ _ (by kernel_rfl)⟩
  · exact ⟨3, call_of_evF (n := 2) 3 130 _ _ _ (by kernel_rfl)⟩

theorem f96 (l : List (Int × Int)) (hl : l.length ≤ 64) (H : List MB) : call Try.prog pol1 96 [.sl false (l.map spanAV)] H = some (.tup [.sl false (l.map spanAV), I 0], H) := by
  refine call_run Try.func96 rfl rfl rfl rfl rfl rfl (fun _ => rfl) (by simp [AV.plain, AV.plainL, plain_span]) (by simp [AV.plain, AV.plainL, plain_span]) ?_ H
  simp +contextual (disch := omega) only [Try.f96, dd96, ty3, ty4, ty23, ty36, go_sem, ↓reduceIte, List.reduceReplicate, Nat.reduceAdd, Nat.reduceSub, reduceCtorEq, Nat.reduceLeDiff, Nat.reduceMul, Nat.reduceLT, Nat.reduceEqDiff, Int.reduceBNe, Int.reduceBEq, Int.reduceEq, Int.reduceLT, Int.reduceLE, Int.reduceGT, Int.reduceGE, mu96, List.contains_nil, List.contains_cons, Nat.reduceBEq, Bool.or_self, dlt_t, dlt_f, dle_t, dle_f, dgt_t, dgt_f, dge_t, dge_f, beq_t, beq_f, bne_t, bne_f, lt_T, le_T, nle_T, nle_F, ↓wrap_up, ↓wrap_down, ↓wrap_pred, ↓wrap_sub_nat, i64_in, i64_quo, rem_in, Int.reduceToNat, room_ok]
  exact fzEq (by simp [AV.plain, AV.plainL, plain_span]) rfl

/-- Sorting by insertion, over the one block of spans. -/
theorem f140 (l : List (Int × Int)) (hl : l.length ≤ 1000) (hg : ∀ p ∈ l, goodS p) :
    ∃ L : List (Int × Int), (L.Perm l ∧ L.Pairwise fun p q => p.1 ≤ q.1) ∧ call Try.prog pol1 140 [.ms 0 2 l.length 0 l.length, I 0, I l.length, .clo 94 []] [.row 2 (l.map spanAV) 0] = some (.tup [], [.row 2 (L.map spanAV) 0]) := by
  have fr : frzArgs pol1 140 0 [.ms 0 2 l.length 0 l.length, I 0, I l.length, .clo 94 []] [.row 2 (l.map spanAV) 0] = some ([.ms 0 2 l.length 0 l.length, I 0, I l.length, .clo 94 []], [.row 2 (l.map spanAV) 0]) := frzArgs_mix _ _ _ rfl
  suffices h : ∃ r : AV × List MB, (∃ L : List (Int × Int), (L.Perm l ∧ L.Pairwise fun p q => p.1 ≤ q.1) ∧ r = (.tup [], [.row 2 (L.map spanAV) 0])) ∧ call Try.prog pol1 140 [.ms 0 2 l.length 0 l.length, I 0, I l.length, .clo 94 []] [.row 2 (l.map spanAV) 0] = some r by
    obtain ⟨_, ⟨L, hL, rfl⟩, h⟩ := h
    exact ⟨L, hL, h⟩
  refine call_run2E (pol := pol1) Try.func140 rfl rfl rfl rfl fr ?_
  generalize hn : l.length = n
  have hc94 := f94
  have hin : ∀ L : List (Int × Int), L.Perm l → ∀ p ∈ L, goodS p := fun L h p hp => hg p (h.mem_iff.1 hp)
  simp +contextual (disch := omega) only [Try.f140, dd140, ty0, ty3, ty4, ty23, ty86, ty161, go_sem, ↓reduceIte, List.reduceReplicate, Nat.reduceAdd, Nat.reduceSub, reduceCtorEq, Nat.reduceLeDiff, Nat.reduceMul, Nat.reduceLT, Nat.reduceEqDiff, Int.reduceBNe, Int.reduceBEq, Int.reduceEq, Int.reduceLT, Int.reduceLE, Int.reduceGT, Int.reduceGE, mu140, List.contains_nil, List.contains_cons, Nat.reduceBEq, Bool.or_self, dlt_t, dlt_f, dle_t, dle_f, dgt_t, dgt_f, dge_t, dge_f, beq_t, beq_f, bne_t, bne_f, lt_T, le_T, nle_T, nle_F, ↓wrap_up, ↓wrap_down, ↓wrap_pred, ↓wrap_sub_nat, i64_in, i64_quo, rem_in, Int.reduceToNat, room_ok]
  refine W_for (σ := List (Int × Int) × Nat) (M := (mskOf (pol1.mask 140) (pol1.gc 140) (pol1.acts 140) 0 1)) rfl (fun x => (⟨53, [(8, I ((x.2 + 1 : Nat) : Int)), (3, .clo 94 []), (2, I n), (1, I 0), (0, .ms 0 2 n 0 n)], [.row 2 (x.1.map spanAV) 0]⟩ : St)) (fun x => x.1.Perm l ∧ (x.2 = 0 ∨ x.2 < n) ∧ SortTo x.1 x.2) (fun x => n - x.2) (l, 0) ?_ ⟨List.Perm.refl l, .inl rfl, fun a b h1 h2 => by omega⟩ _ ?_
  · rintro ⟨L, i⟩ ⟨hp, hi, hs⟩
    simp only at hp hi hs ⊢
    have hL : L.length = n := by rw [hp.length_eq, hn]
    by_cases hin2 : i + 1 < n
    · have hst := InsI.start hp (i := i + 1) (by omega) (fun _ => hs)
      simp +contextual (disch := omega) only [Try.f140, dd140, ty0, ty3, ty4, ty23, ty86, ty161, go_sem, ↓reduceIte, List.reduceReplicate, Nat.reduceAdd, Nat.reduceSub, reduceCtorEq, Nat.reduceLeDiff, Nat.reduceMul, Nat.reduceLT, Nat.reduceEqDiff, Int.reduceBNe, Int.reduceBEq, Int.reduceEq, Int.reduceLT, Int.reduceLE, Int.reduceGT, Int.reduceGE, mu140, List.contains_nil, List.contains_cons, Nat.reduceBEq, Bool.or_self, dlt_t, dlt_f, dle_t, dle_f, dgt_t, dgt_f, dge_t, dge_f, beq_t, beq_f, bne_t, bne_f, lt_T, le_T, nle_T, nle_F, ↓wrap_up, ↓wrap_down, ↓wrap_pred, ↓wrap_sub_nat, i64_in, i64_quo, rem_in, Int.reduceToNat, room_ok, id]
      refine W_for (σ := List (Int × Int) × Nat) (M := (mskOf (pol1.mask 140) (pol1.gc 140) (pol1.acts 140) 0 4)) rfl (fun x => (⟨53, [(9, I (x.2 : Nat)), (8, I ((i + 1 : Nat) : Int)), (3, .clo 94 []), (2, I n), (1, I 0), (0, .ms 0 2 n 0 n)], [.row 2 (x.1.map spanAV) 0]⟩ : St)) (fun x => InsI l x.1 (i + 1) x.2) (fun x => x.2) (L, i + 1) ?_ hst _ (by first | rfl | (refine prep_cut rfl (by rfl) (by rfl) (by rfl) ?_ ?_ <;> simp [AV.underL, AV.under, MB.under, underL_plain, under_plain, plain_ints, plain_span, plain_ins, plain_prg, -List.map_take]))
      rintro ⟨L, j⟩ h
      simp only at h ⊢
      have hLn : L.length = n := by rw [h.perm.length_eq, hn]
      have hji := h.ji
      rcases j with _ | j
      · simp +contextual (disch := omega) only [Try.f140, dd140, ty0, ty3, ty4, ty23, ty86, ty161, go_sem, ↓reduceIte, List.reduceReplicate, Nat.reduceAdd, Nat.reduceSub, reduceCtorEq, Nat.reduceLeDiff, Nat.reduceMul, Nat.reduceLT, Nat.reduceEqDiff, Int.reduceBNe, Int.reduceBEq, Int.reduceEq, Int.reduceLT, Int.reduceLE, Int.reduceGT, Int.reduceGE, mu140, List.contains_nil, List.contains_cons, Nat.reduceBEq, Bool.or_self, dlt_t, dlt_f, dle_t, dle_f, dgt_t, dgt_f, dge_t, dge_f, beq_t, beq_f, bne_t, bne_f, lt_T, le_T, nle_T, nle_F, ↓wrap_up, ↓wrap_down, ↓wrap_pred, ↓wrap_sub_nat, i64_in, i64_quo, rem_in, Int.reduceToNat, room_ok]
        repeat' (first | intro _ | apply And.intro | (unfold dOk; kernel_rfl) | exact St.beq_refl _ | (show altO _ _ _ _ = true; kernel_rfl) | (show (_ || _) = true; kernel_rfl) | (show (_ && _) = true; kernel_rfl))
        exact ⟨(L, i + 1), ⟨h.perm, .inr hin2, h.stop (.inl rfl)⟩, by show n - (i + 1) < n - i; omega, (by first | rfl | (refine prep_cut rfl (by rfl) (by rfl) (by rfl) ?_ ?_ <;> simp [AV.underL, AV.under, MB.under, underL_plain, under_plain, plain_ints, plain_span, plain_ins, plain_prg, -List.map_take]))⟩
      · obtain ⟨p, hp⟩ : ∃ p, L[j]? = some p := ⟨_, List.getElem?_eq_getElem (by omega)⟩
        obtain ⟨q, hq⟩ : ∃ q, L[j + 1]? = some q := ⟨_, List.getElem?_eq_getElem (by omega)⟩
        have hgp := hin _ h.perm p (List.mem_of_getElem? hp)
        have hgq := hin _ h.perm q (List.mem_of_getElem? hq)
        unfold goodS at hgp hgq
        have h94 := f94 q.1 q.2 p.1 p.2 ⟨by omega, by omega⟩
        by_cases hlt : q.1 < p.1
        · have hset : ∀ y, ((List.map spanAV L).set (j + 1) y)[j]? = some (spanAV p) := fun y => by
            rw [List.getElem?_set_ne (by omega), List.getElem?_map, hp]; rfl
          simp +contextual (disch := omega) only [Try.f140, dd140, ty0, ty3, ty4, ty23, ty86, ty161, go_sem, ↓reduceIte, List.reduceReplicate, Nat.reduceAdd, Nat.reduceSub, reduceCtorEq, Nat.reduceLeDiff, Nat.reduceMul, Nat.reduceLT, Nat.reduceEqDiff, Int.reduceBNe, Int.reduceBEq, Int.reduceEq, Int.reduceLT, Int.reduceLE, Int.reduceGT, Int.reduceGE, mu140, List.contains_nil, List.contains_cons, Nat.reduceBEq, Bool.or_self, dlt_t, dlt_f, dle_t, dle_f, dgt_t, dgt_f, dge_t, dge_f, beq_t, beq_f, bne_t, bne_f, lt_T, le_T, nle_T, nle_F, ↓wrap_up, ↓wrap_down, ↓wrap_pred, ↓wrap_sub_nat, i64_in, i64_quo, rem_in, Int.reduceToNat, room_ok, hp, hq, spanAV, h94, hLn, List.length_set, hset]
          repeat' (first | intro _ | apply And.intro | (unfold dOk; kernel_rfl) | exact St.beq_refl _ | (show altO _ _ _ _ = true; kernel_rfl) | (show (_ || _) = true; kernel_rfl) | (show (_ && _) = true; kernel_rfl))
          refine ⟨(swp L j p q, j), h.step hp hq hlt, Nat.lt_succ_self _, ?_⟩
          simp only [swp, List.map_set]
          exact (by first | rfl | (refine prep_cut rfl (by rfl) (by rfl) (by rfl) ?_ ?_ <;> simp [AV.underL, AV.under, MB.under, underL_plain, under_plain, plain_ints, plain_span, plain_ins, plain_prg, -List.map_take]))
        · simp +contextual (disch := omega) only [Try.f140, dd140, ty0, ty3, ty4, ty23, ty86, ty161, go_sem, ↓reduceIte, List.reduceReplicate, Nat.reduceAdd, Nat.reduceSub, reduceCtorEq, Nat.reduceLeDiff, Nat.reduceMul, Nat.reduceLT, Nat.reduceEqDiff, Int.reduceBNe, Int.reduceBEq, Int.reduceEq, Int.reduceLT, Int.reduceLE, Int.reduceGT, Int.reduceGE, mu140, List.contains_nil, List.contains_cons, Nat.reduceBEq, Bool.or_self, dlt_t, dlt_f, dle_t, dle_f, dgt_t, dgt_f, dge_t, dge_f, beq_t, beq_f, bne_t, bne_f, lt_T, le_T, nle_T, nle_F, ↓wrap_up, ↓wrap_down, ↓wrap_pred, ↓wrap_sub_nat, i64_in, i64_quo, rem_in, Int.reduceToNat, room_ok, hp, hq, spanAV, h94, hLn, List.length_set]
          repeat' (first | intro _ | apply And.intro | (unfold dOk; kernel_rfl) | exact St.beq_refl _ | (show altO _ _ _ _ = true; kernel_rfl) | (show (_ || _) = true; kernel_rfl) | (show (_ && _) = true; kernel_rfl))
          exact ⟨(L, i + 1), ⟨h.perm, .inr hin2, h.stop (.inr ⟨j, p, q, rfl, hp, hq, by omega⟩)⟩, by show n - (i + 1) < n - i; omega, (by first | rfl | (refine prep_cut rfl (by rfl) (by rfl) (by rfl) ?_ ?_ <;> simp [AV.underL, AV.under, MB.under, underL_plain, under_plain, plain_ints, plain_span, plain_ins, plain_prg, -List.map_take]))⟩
    · simp +contextual (disch := omega) only [Try.f140, dd140, ty0, ty3, ty4, ty23, ty86, ty161, go_sem, ↓reduceIte, List.reduceReplicate, Nat.reduceAdd, Nat.reduceSub, reduceCtorEq, Nat.reduceLeDiff, Nat.reduceMul, Nat.reduceLT, Nat.reduceEqDiff, Int.reduceBNe, Int.reduceBEq, Int.reduceEq, Int.reduceLT, Int.reduceLE, Int.reduceGT, Int.reduceGE, mu140, List.contains_nil, List.contains_cons, Nat.reduceBEq, Bool.or_self, dlt_t, dlt_f, dle_t, dle_f, dgt_t, dgt_f, dge_t, dge_f, beq_t, beq_f, bne_t, bne_f, lt_T, le_T, nle_T, nle_F, ↓wrap_up, ↓wrap_down, ↓wrap_pred, ↓wrap_sub_nat, i64_in, i64_quo, rem_in, Int.reduceToNat, room_ok]
      refine ⟨_, ⟨L, ⟨hp, sorted_of ?_⟩, rfl⟩, retPol_keep rfl rfl rfl (by simp [keptOk, MB.under, underL_plain, plain_span]) (by simp)⟩
      intro a b h1 h2
      exact hs a b h1 (by omega)
  · exact (by first | rfl | (refine prep_cut rfl (by rfl) (by rfl) (by rfl) ?_ ?_ <;> simp [AV.underL, AV.under, MB.under, underL_plain, under_plain, plain_ints, plain_span, plain_ins, plain_prg, -List.map_take]))
/-- One span more, behind the others. -/
theorem f95 (O : List (Int × Int)) (p : Int × Int) (hO : O.length ≤ 1000) (hg : ∀ q ∈ O, goodS q) (hp : goodS p) (A C : MB) (n : Nat) (hn : O.length = n) :
    call Try.prog pol1 95 [.ms 1 2 n 0 n, .agg [I p.1, I p.2]] [A, .row 2 (O.map spanAV) 0, C] =
      some (.ms 1 2 (addI O p).length 0 (addI O p).length, [A, .row 2 ((addI O p).map spanAV) 0, C, .row 2 [spanAV p] 0]) := by
  have fr : frzArgs pol1 95 0 [.ms 1 2 n 0 n, .agg [I p.1, I p.2]] [A, .row 2 (O.map spanAV) 0, C] = some ([.ms 1 2 n 0 n, .agg [I p.1, I p.2]], [A, .row 2 (O.map spanAV) 0, C]) := frzArgs_mix _ _ _ rfl
  refine call_run2 (pol := pol1) Try.func95 rfl rfl rfl rfl fr ?_
  have rp : ∀ H1 r H, retPol pol1 95 H1 r H = some (r, H) := fun H1 r H => rfl
  rcases List.eq_nil_or_concat O with rfl | ⟨O', q, rfl⟩
  · subst hn
    simp +contextual (disch := omega) only [Try.f95, dd95, ty0, ty3, ty4, ty23, ty86, go_sem, ↓reduceIte, List.reduceReplicate, Nat.reduceAdd, Nat.reduceSub, reduceCtorEq, Nat.reduceLeDiff, Nat.reduceMul, Nat.reduceLT, Nat.reduceEqDiff, Int.reduceBNe, Int.reduceBEq, Int.reduceEq, Int.reduceLT, Int.reduceLE, Int.reduceGT, Int.reduceGE, mu95, List.contains_nil, List.contains_cons, Nat.reduceBEq, Bool.or_self, dlt_t, dlt_f, dle_t, dle_f, dgt_t, dgt_f, dge_t, dge_f, beq_t, beq_f, bne_t, bne_f, lt_T, le_T, nle_T, nle_F, ↓wrap_up, ↓wrap_down, ↓wrap_pred, ↓wrap_sub_nat, i64_in, i64_quo, rem_in, Int.reduceToNat, room_ok]
    repeat' (first | intro _ | apply And.intro | (unfold dOk; kernel_rfl) | exact St.beq_refl _ | (show altO _ _ _ _ = true; kernel_rfl) | (show (_ || _) = true; kernel_rfl) | (show (_ && _) = true; kernel_rfl))
    rfl
  · rw [List.concat_eq_append] at *
    have hgq := hg q (by simp)
    unfold goodS at hgq hp
    obtain rfl : n = O'.length + 1 := by simpa using hn.symm
    rw [addI_snoc]
    have hget : (List.map spanAV O' ++ [spanAV q])[O'.length]? = some (spanAV q) := by simp
    by_cases hm : p.1 ≤ q.2 + 1
    · rw [if_pos hm]
      have hmx : (if p.2 > q.2 then p.2 else q.2) = max q.2 p.2 := by split <;> omega
      have hst : ∀ y, (List.map spanAV O' ++ [spanAV q]).set O'.length y = List.map spanAV O' ++ [y] := fun y => by simp [List.set_append]
      simp +contextual (disch := omega) only [Try.f95, dd95, ty0, ty3, ty4, ty23, ty86, go_sem, ↓reduceIte, List.reduceReplicate, Nat.reduceAdd, Nat.reduceSub, reduceCtorEq, Nat.reduceLeDiff, Nat.reduceMul, Nat.reduceLT, Nat.reduceEqDiff, Int.reduceBNe, Int.reduceBEq, Int.reduceEq, Int.reduceLT, Int.reduceLE, Int.reduceGT, Int.reduceGE, mu95, List.contains_nil, List.contains_cons, Nat.reduceBEq, Bool.or_self, dlt_t, dlt_f, dle_t, dle_f, dgt_t, dgt_f, dge_t, dge_f, beq_t, beq_f, bne_t, bne_f, lt_T, le_T, nle_T, nle_F, ↓wrap_up, ↓wrap_down, ↓wrap_pred, ↓wrap_sub_nat, i64_in, i64_quo, rem_in, Int.reduceToNat, room_ok, hget, evMax, hmx]
      repeat' (first | intro _ | apply And.intro | (unfold dOk; kernel_rfl) | exact St.beq_refl _ | (show altO _ _ _ _ = true; kernel_rfl) | (show (_ || _) = true; kernel_rfl) | (show (_ && _) = true; kernel_rfl))
      rw [hst, rp]
    · rw [if_neg hm]
      have hst : List.take (O'.length + 1) (List.map spanAV O' ++ [spanAV q]) = List.map spanAV O' ++ [spanAV q] := List.take_of_length_le (by simp)
      simp +contextual (disch := omega) only [Try.f95, dd95, ty0, ty3, ty4, ty23, ty86, go_sem, ↓reduceIte, List.reduceReplicate, Nat.reduceAdd, Nat.reduceSub, reduceCtorEq, Nat.reduceLeDiff, Nat.reduceMul, Nat.reduceLT, Nat.reduceEqDiff, Int.reduceBNe, Int.reduceBEq, Int.reduceEq, Int.reduceLT, Int.reduceLE, Int.reduceGT, Int.reduceGE, mu95, List.contains_nil, List.contains_cons, Nat.reduceBEq, Bool.or_self, dlt_t, dlt_f, dle_t, dle_f, dgt_t, dgt_f, dge_t, dge_f, beq_t, beq_f, bne_t, bne_f, lt_T, le_T, nle_T, nle_F, ↓wrap_up, ↓wrap_down, ↓wrap_pred, ↓wrap_sub_nat, i64_in, i64_quo, rem_in, Int.reduceToNat, room_ok, hget]
      repeat' (first | intro _ | apply And.intro | (unfold dOk; kernel_rfl) | exact St.beq_refl _ | (show altO _ _ _ _ = true; kernel_rfl) | (show (_ || _) = true; kernel_rfl) | (show (_ && _) = true; kernel_rfl))
      rw [hst, rp]
end
section
attribute [local go_sem] tySzE List.head?_drop Nat.mul_one sameAt_zero sameAt_two sameAt_three sameAt_four sameAt_five
open Go.Proofs Go.RowKit Go.IntWalk
set_option maxRecDepth 100000
set_option linter.unusedSimpArgs false
set_option linter.unusedVariables false
set_option maxHeartbeats 8000000

theorem f93e : call Try.prog pol1 93 [.sl false [], .clo 94 []] [] = some (.tup [], []) := call_of_evF (n := 2) 5 93 _ _ _ (by kernel_rfl)

theorem f129 (l : List (Int × Int)) (lim : Int) (hl : l.length ≤ 12) (hg : ∀ p ∈ l, goodS p) :
    ∃ L : List (Int × Int), (L.Perm l ∧ L.Pairwise fun p q => p.1 ≤ q.1) ∧ call Try.prog pol1 129 [.ms 0 2 l.length 0 l.length, I 0, I l.length, I lim, .clo 94 []] [.row 2 (l.map spanAV) 0] = some (.tup [], [.row 2 (L.map spanAV) 0]) := by
  obtain ⟨L, hL, h⟩ := f140 l (by omega) hg
  refine ⟨L, hL, ?_⟩
  generalize l.length = n at *
  have fr : frzArgs pol1 129 0 [.ms 0 2 n 0 n, I 0, I n, I lim, .clo 94 []] [.row 2 (l.map spanAV) 0] = some ([.ms 0 2 n 0 n, I 0, I n, I lim, .clo 94 []], [.row 2 (l.map spanAV) 0]) := frzArgs_mix _ _ _ rfl
  refine call_run2 (pol := pol1) Try.func129 rfl rfl rfl rfl fr ?_
  have hw : ((n : Int) - 0) = n := by omega
  have hw2 : IntKind.i64.wrap ((n : Int) - 0) = n := by rw [i64_in] <;> omega
  simp +contextual (disch := omega) only [Try.f129, dd129, ty0, ty3, ty4, ty23, ty86, ty161, ty202, ty203, ty207, go_sem, ↓reduceIte, List.reduceReplicate, Nat.reduceAdd, Nat.reduceSub, reduceCtorEq, Nat.reduceLeDiff, Nat.reduceMul, Nat.reduceLT, Nat.reduceEqDiff, Int.reduceBNe, Int.reduceBEq, Int.reduceEq, Int.reduceLT, Int.reduceLE, Int.reduceGT, Int.reduceGE, mu129, List.contains_nil, List.contains_cons, Nat.reduceBEq, Bool.or_self, dlt_t, dlt_f, dle_t, dle_f, dgt_t, dgt_f, dge_t, dge_f, beq_t, beq_f, bne_t, bne_f, lt_T, le_T, nle_T, nle_F, ↓wrap_up, ↓wrap_down, ↓wrap_pred, ↓wrap_sub_nat, i64_in, i64_quo, rem_in, Int.reduceToNat, room_ok]
  refine W_for (σ := Unit) (M := (mskOf (pol1.mask 129) (pol1.gc 129) (pol1.acts 129) 0 2)) rfl (fun _ => (⟨148, [(11, .bool true), (10, .bool true), (4, .clo 94 []), (3, I lim), (2, I n), (1, I 0), (0, .ms 0 2 n 0 n)], [.row 2 (l.map spanAV) 0]⟩ : St)) (fun _ => True) (fun _ => 0) () ?_ trivial _ (by first | rfl | (refine prep_cut rfl (by rfl) (by rfl) (by rfl) ?_ ?_ <;> simp [AV.underL, AV.under, MB.under, underL_plain, under_plain, plain_ints, plain_span, plain_ins, plain_prg, -List.map_take]))
  rintro ⟨⟩ _
  simp +contextual (disch := omega) only [Try.f129, dd129, ty0, ty3, ty4, ty23, ty86, ty161, ty202, ty203, ty207, go_sem, ↓reduceIte, List.reduceReplicate, Nat.reduceAdd, Nat.reduceSub, reduceCtorEq, Nat.reduceLeDiff, Nat.reduceMul, Nat.reduceLT, Nat.reduceEqDiff, Int.reduceBNe, Int.reduceBEq, Int.reduceEq, Int.reduceLT, Int.reduceLE, Int.reduceGT, Int.reduceGE, mu129, List.contains_nil, List.contains_cons, Nat.reduceBEq, Bool.or_self, dlt_t, dlt_f, dle_t, dle_f, dgt_t, dgt_f, dge_t, dge_f, beq_t, beq_f, bne_t, bne_f, lt_T, le_T, nle_T, nle_F, ↓wrap_up, ↓wrap_down, ↓wrap_pred, ↓wrap_sub_nat, i64_in, i64_quo, rem_in, Int.reduceToNat, room_ok, h, hw2]
  exact retPol_keep rfl rfl rfl (by simp [keptOk, MB.under, underL_plain, plain_span]) (by simp)

theorem f93 (l : List (Int × Int)) (hl : l.length ≤ 6) (hg : ∀ p ∈ l, goodS p) :
    ∃ L : List (Int × Int), (L.Perm l ∧ L.Pairwise fun p q => p.1 ≤ q.1) ∧ call Try.prog pol1 93 [.ms 0 2 l.length 0 l.length, .clo 94 []] [.row 2 (l.map spanAV) 0] = some (.tup [], [.row 2 (L.map spanAV) 0]) := by
  obtain ⟨k, h130⟩ := f130 l.length hl [.row 2 (l.map spanAV) 0]
  obtain ⟨L, hL, h⟩ := f129 l k (by omega) hg
  refine ⟨L, hL, ?_⟩
  generalize l.length = n at *
  have fr : frzArgs pol1 93 0 [.ms 0 2 n 0 n, .clo 94 []] [.row 2 (l.map spanAV) 0] = some ([.ms 0 2 n 0 n, .clo 94 []], [.row 2 (l.map spanAV) 0]) := frzArgs_mix _ _ _ rfl
  refine call_run2 (pol := pol1) Try.func93 rfl rfl rfl rfl fr ?_
  have hw : IntKind.u64.wrap ((n : Int)) = n := by
    have : n = 0 ∨ n = 1 ∨ n = 2 ∨ n = 3 ∨ n = 4 ∨ n = 5 ∨ n = 6 := by omega
    rcases this with rfl | rfl | rfl | rfl | rfl | rfl | rfl <;> rfl
  simp +contextual (disch := omega) only [Try.f93, dd93, ty0, ty3, ty23, ty161, ty183, go_sem, ↓reduceIte, List.reduceReplicate, Nat.reduceAdd, Nat.reduceSub, reduceCtorEq, Nat.reduceLeDiff, Nat.reduceMul, Nat.reduceLT, Nat.reduceEqDiff, Int.reduceBNe, Int.reduceBEq, Int.reduceEq, Int.reduceLT, Int.reduceLE, Int.reduceGT, Int.reduceGE, mu93, List.contains_nil, List.contains_cons, Nat.reduceBEq, Bool.or_self, dlt_t, dlt_f, dle_t, dle_f, dgt_t, dgt_f, dge_t, dge_f, beq_t, beq_f, bne_t, bne_f, lt_T, le_T, nle_T, nle_F, ↓wrap_up, ↓wrap_down, ↓wrap_pred, ↓wrap_sub_nat, i64_in, i64_quo, rem_in, Int.reduceToNat, room_ok, h, h130, hw]
  exact retPol_keep rfl rfl rfl (by simp [keptOk, MB.under, underL_plain, plain_span]) (by simp)
end
section
attribute [local go_sem] tySzE List.head?_drop Nat.mul_one sameAt_zero sameAt_two sameAt_three sameAt_four sameAt_five
open Go.Proofs Go.RowKit Go.IntWalk
set_option maxRecDepth 100000
set_option linter.unusedSimpArgs false
set_option linter.unusedVariables false
set_option maxHeartbeats 4000000

end
section
attribute [local go_sem] tySzE List.head?_drop Nat.mul_one sameAt_zero sameAt_two sameAt_three sameAt_four sameAt_five
open Go.Proofs Go.RowKit Go.IntWalk
set_option maxRecDepth 100000
set_option linter.unusedSimpArgs false
set_option linter.unusedVariables false
set_option maxHeartbeats 4000000

theorem f102 (r : Bool) (H : List MB) : call Try.prog pol1 102 [.bool r] H = some (I (if r then 1114111 else 255), H) := by
  cases r
  · refine call_run Try.func102 rfl rfl rfl rfl rfl rfl (fun _ => rfl) (by simp [AV.plain, AV.plainL, plain_ints, plain_span, plain_ins, plain_prg]) (by simp [AV.plain, AV.plainL, plain_ints, plain_span, plain_ins, plain_prg]) ?_ H
    simp +contextual (disch := omega) only [Try.f102, dd102, ty3, ty4, go_sem, ↓reduceIte, List.reduceReplicate, Nat.reduceAdd, Nat.reduceSub, reduceCtorEq, Nat.reduceLeDiff, Nat.reduceMul, Nat.reduceLT, Nat.reduceEqDiff, Int.reduceBNe, Int.reduceBEq, Int.reduceEq, Int.reduceLT, Int.reduceLE, Int.reduceGT, Int.reduceGE, mu102, List.contains_nil, List.contains_cons, Nat.reduceBEq, Bool.or_self, dlt_t, dlt_f, dle_t, dle_f, dgt_t, dgt_f, dge_t, dge_f, beq_t, beq_f, bne_t, bne_f, lt_T, le_T, nle_T, nle_F, ↓wrap_up, ↓wrap_down, ↓wrap_pred, ↓wrap_sub_nat, i64_in, i64_quo, rem_in, Int.reduceToNat, room_ok]
    exact fzEq rfl rfl
  · refine call_run Try.func102 rfl rfl rfl rfl rfl rfl (fun _ => rfl) (by simp [AV.plain, AV.plainL, plain_ints, plain_span, plain_ins, plain_prg]) (by simp [AV.plain, AV.plainL, plain_ints, plain_span, plain_ins, plain_prg]) ?_ H
    simp +contextual (disch := omega) only [Try.f102, dd102, ty3, ty4, go_sem, ↓reduceIte, List.reduceReplicate, Nat.reduceAdd, Nat.reduceSub, reduceCtorEq, Nat.reduceLeDiff, Nat.reduceMul, Nat.reduceLT, Nat.reduceEqDiff, Int.reduceBNe, Int.reduceBEq, Int.reduceEq, Int.reduceLT, Int.reduceLE, Int.reduceGT, Int.reduceGE, mu102, List.contains_nil, List.contains_cons, Nat.reduceBEq, Bool.or_self, dlt_t, dlt_f, dle_t, dle_f, dgt_t, dgt_f, dge_t, dge_f, beq_t, beq_f, bne_t, bne_f, lt_T, le_T, nle_T, nle_F, ↓wrap_up, ↓wrap_down, ↓wrap_pred, ↓wrap_sub_nat, i64_in, i64_quo, rem_in, Int.reduceToNat, room_ok]
    exact fzEq rfl rfl

theorem badS_lt {l : List (Int × Int)} {top : Int} {i : Nat} {p : Int × Int} (hp : l[i]? = some p) (h : p.1 < 0 ∨ p.2 < p.1 ∨ top < p.2) : badS l top i = true := by
  simp only [badS, hp]
  rcases h with h | h | h <;> simp [h]
theorem badS_zero {l : List (Int × Int)} {top : Int} {p : Int × Int} (hp : l[0]? = some p) (h : ¬ (p.1 < 0 ∨ p.2 < p.1 ∨ top < p.2)) : badS l top 0 = false := by
  have h1 : ¬ p.1 < 0 := fun e => h (.inl e)
  have h2 : ¬ p.2 < p.1 := fun e => h (.inr (.inl e))
  have h3 : ¬ top < p.2 := fun e => h (.inr (.inr e))
  simp [badS, hp, h1, h2, h3]
theorem badS_succ {l : List (Int × Int)} {top : Int} {i : Nat} {p q : Int × Int} (hp : l[i + 1]? = some p) (hq : l[i]? = some q) (h : ¬ (p.1 < 0 ∨ p.2 < p.1 ∨ top < p.2)) : badS l top (i + 1) = decide (p.1 < q.2 + 2) := by
  have h1 : ¬ p.1 < 0 := fun e => h (.inl e)
  have h2 : ¬ p.2 < p.1 := fun e => h (.inr (.inl e))
  have h3 : ¬ top < p.2 := fun e => h (.inr (.inr e))
  simp [badS, hp, hq, h1, h2, h3]
theorem badS_hi {l : List (Int × Int)} {top : Int} {i : Nat} {q : Int × Int} (hq : l[i]? = some q) (h : badS l top i = false) : 0 ≤ q.1 ∧ q.1 ≤ q.2 ∧ q.2 ≤ top := by
  simp only [badS, hq, Bool.or_eq_false_iff, decide_eq_false_iff_not] at h
  omega

theorem f131 (l : List (Int × Int)) (top : Int) (ht : top ≤ 1114111) (hl : l.length ≤ 1000000) (H : List MB) : call Try.prog pol1 131 [.sl false (l.map spanAV), I top] H = some (.bool (spansG l top), H) := by
  refine call_run Try.func131 rfl rfl rfl rfl rfl rfl (fun _ => rfl) (by simp [AV.plain, AV.plainL, plain_span]) rfl ?_ H
  by_cases h64 : 64 < l.length
  · rw [spansG_long h64]
    simp +contextual (disch := omega) only [Try.f131, dd131, ty0, ty3, ty4, ty23, ty86, go_sem, ↓reduceIte, List.reduceReplicate, Nat.reduceAdd, Nat.reduceSub, reduceCtorEq, Nat.reduceLeDiff, Nat.reduceMul, Nat.reduceLT, Nat.reduceEqDiff, Int.reduceBNe, Int.reduceBEq, Int.reduceEq, Int.reduceLT, Int.reduceLE, Int.reduceGT, Int.reduceGE, mu131, List.contains_nil, List.contains_cons, Nat.reduceBEq, Bool.or_self, dlt_t, dlt_f, dle_t, dle_f, dgt_t, dgt_f, dge_t, dge_f, beq_t, beq_f, bne_t, bne_f, lt_T, le_T, nle_T, nle_F, ↓wrap_up, ↓wrap_down, ↓wrap_pred, ↓wrap_sub_nat, i64_in, i64_quo, rem_in, Int.reduceToNat, room_ok]
    exact fzEq rfl rfl
  · simp +contextual (disch := omega) only [Try.f131, dd131, ty0, ty3, ty4, ty23, ty86, go_sem, ↓reduceIte, List.reduceReplicate, Nat.reduceAdd, Nat.reduceSub, reduceCtorEq, Nat.reduceLeDiff, Nat.reduceMul, Nat.reduceLT, Nat.reduceEqDiff, Int.reduceBNe, Int.reduceBEq, Int.reduceEq, Int.reduceLT, Int.reduceLE, Int.reduceGT, Int.reduceGE, mu131, List.contains_nil, List.contains_cons, Nat.reduceBEq, Bool.or_self, dlt_t, dlt_f, dle_t, dle_f, dgt_t, dgt_f, dge_t, dge_f, beq_t, beq_f, bne_t, bne_f, lt_T, le_T, nle_T, nle_F, ↓wrap_up, ↓wrap_down, ↓wrap_pred, ↓wrap_sub_nat, i64_in, i64_quo, rem_in, Int.reduceToNat, room_ok]
    refine W_count (M := (mskOf (pol1.mask 131) (pol1.gc 131) (pol1.acts 131) 0 4)) rfl l.length (fun i => (⟨50, [(12, I i), (11, I l.length), (10, .sl false (l.map spanAV)), (1, I top), (0, .sl false (l.map spanAV))], []⟩ : St)) (fun i => ∀ k, k < i → badS l top k = false) ?_ ?_ (fun k h => by omega) _ (by first | rfl | (refine prep_to (n := 0) (m := ⟨some [12, 11, 10, 1, 0], some 0, []⟩) rfl rfl ?_ ?_ ?_ <;> first | rfl | (simp [keepT, AV.underL, AV.under, MB.under, underL_plain, under_plain, underL_append, plain_ints, plain_span, plain_ins, plain_prg, -List.map_take, -List.map_replicate, -List.map_set]; done) | (simp [keepT, AV.underL, AV.under, MB.under, underL_plain, under_plain, underL_append, plain_ints, plain_span, plain_ins, plain_prg, -List.map_take, -List.map_replicate, -List.map_set]; omega)))
    · intro i hlt hg
      obtain ⟨p, hp⟩ : ∃ p, l[i]? = some p := ⟨_, List.getElem?_eq_getElem hlt⟩
      have ext : badS l top i = false → ∀ k, k < i + 1 → badS l top k = false := fun h k hk => by
        rcases Nat.lt_or_ge k i with h1 | h1
        · exact hg k h1
        · obtain rfl : k = i := by omega
          exact h
      by_cases hgd : p.1 < 0 ∨ p.2 < p.1 ∨ top < p.2
      · rw [spansG_bad hlt (badS_lt hp hgd)]
        have hgd' : p.1 < 0 ∨ (¬ p.1 < 0 ∧ p.2 < p.1) ∨ (¬ p.1 < 0 ∧ ¬ p.2 < p.1 ∧ top < p.2) := by omega
        rcases hgd' with h | ⟨h, h'⟩ | ⟨h, h', h''⟩
        all_goals (
          simp +contextual (disch := omega) only [Try.f131, dd131, ty0, ty3, ty4, ty23, ty86, go_sem, ↓reduceIte, List.reduceReplicate, Nat.reduceAdd, Nat.reduceSub, reduceCtorEq, Nat.reduceLeDiff, Nat.reduceMul, Nat.reduceLT, Nat.reduceEqDiff, Int.reduceBNe, Int.reduceBEq, Int.reduceEq, Int.reduceLT, Int.reduceLE, Int.reduceGT, Int.reduceGE, mu131, List.contains_nil, List.contains_cons, Nat.reduceBEq, Bool.or_self, dlt_t, dlt_f, dle_t, dle_f, dgt_t, dgt_f, dge_t, dge_f, beq_t, beq_f, bne_t, bne_f, lt_T, le_T, nle_T, nle_F, ↓wrap_up, ↓wrap_down, ↓wrap_pred, ↓wrap_sub_nat, i64_in, i64_quo, rem_in, Int.reduceToNat, room_ok, hp, spanAV]
          repeat' (first | intro _ | apply And.intro | (unfold dOk; kernel_rfl) | exact St.beq_refl _ | (show altO _ _ _ _ = true; kernel_rfl) | (show (_ || _) = true; kernel_rfl) | (show (_ && _) = true; kernel_rfl))
          all_goals exact fzEq rfl rfl)
      · rcases i with _ | i
        · simp +contextual (disch := omega) only [Try.f131, dd131, ty0, ty3, ty4, ty23, ty86, go_sem, ↓reduceIte, List.reduceReplicate, Nat.reduceAdd, Nat.reduceSub, reduceCtorEq, Nat.reduceLeDiff, Nat.reduceMul, Nat.reduceLT, Nat.reduceEqDiff, Int.reduceBNe, Int.reduceBEq, Int.reduceEq, Int.reduceLT, Int.reduceLE, Int.reduceGT, Int.reduceGE, mu131, List.contains_nil, List.contains_cons, Nat.reduceBEq, Bool.or_self, dlt_t, dlt_f, dle_t, dle_f, dgt_t, dgt_f, dge_t, dge_f, beq_t, beq_f, bne_t, bne_f, lt_T, le_T, nle_T, nle_F, ↓wrap_up, ↓wrap_down, ↓wrap_pred, ↓wrap_sub_nat, i64_in, i64_quo, rem_in, Int.reduceToNat, room_ok, hp, spanAV]
          repeat' (first | intro _ | apply And.intro | (unfold dOk; kernel_rfl) | exact St.beq_refl _ | (show altO _ _ _ _ = true; kernel_rfl) | (show (_ || _) = true; kernel_rfl) | (show (_ && _) = true; kernel_rfl))
          · exact ext (badS_zero hp hgd) _ ‹_›
          · exact (by first | rfl | (refine prep_to (n := 0) (m := ⟨some [12, 11, 10, 1, 0], some 0, []⟩) rfl rfl ?_ ?_ ?_ <;> first | rfl | (simp [keepT, AV.underL, AV.under, MB.under, underL_plain, under_plain, underL_append, plain_ints, plain_span, plain_ins, plain_prg, -List.map_take, -List.map_replicate, -List.map_set]; done) | (simp [keepT, AV.underL, AV.under, MB.under, underL_plain, under_plain, underL_append, plain_ints, plain_span, plain_ins, plain_prg, -List.map_take, -List.map_replicate, -List.map_set]; omega)))
        · obtain ⟨q, hq⟩ : ∃ q, l[i]? = some q := ⟨_, List.getElem?_eq_getElem (by omega)⟩
          have hqb := badS_hi hq (hg i (by omega))
          have hb := badS_succ hp hq hgd
          by_cases h2 : p.1 < q.2 + 2
          · rw [spansG_bad hlt (by rw [hb]; simp [h2])]
            simp +contextual (disch := omega) only [Try.f131, dd131, ty0, ty3, ty4, ty23, ty86, go_sem, ↓reduceIte, List.reduceReplicate, Nat.reduceAdd, Nat.reduceSub, reduceCtorEq, Nat.reduceLeDiff, Nat.reduceMul, Nat.reduceLT, Nat.reduceEqDiff, Int.reduceBNe, Int.reduceBEq, Int.reduceEq, Int.reduceLT, Int.reduceLE, Int.reduceGT, Int.reduceGE, mu131, List.contains_nil, List.contains_cons, Nat.reduceBEq, Bool.or_self, dlt_t, dlt_f, dle_t, dle_f, dgt_t, dgt_f, dge_t, dge_f, beq_t, beq_f, bne_t, bne_f, lt_T, le_T, nle_T, nle_F, ↓wrap_up, ↓wrap_down, ↓wrap_pred, ↓wrap_sub_nat, i64_in, i64_quo, rem_in, Int.reduceToNat, room_ok, hp, hq, spanAV]
            repeat' (first | intro _ | apply And.intro | (unfold dOk; kernel_rfl) | exact St.beq_refl _ | (show altO _ _ _ _ = true; kernel_rfl) | (show (_ || _) = true; kernel_rfl) | (show (_ && _) = true; kernel_rfl))
            all_goals exact fzEq rfl rfl
          · simp +contextual (disch := omega) only [Try.f131, dd131, ty0, ty3, ty4, ty23, ty86, go_sem, ↓reduceIte, List.reduceReplicate, Nat.reduceAdd, Nat.reduceSub, reduceCtorEq, Nat.reduceLeDiff, Nat.reduceMul, Nat.reduceLT, Nat.reduceEqDiff, Int.reduceBNe, Int.reduceBEq, Int.reduceEq, Int.reduceLT, Int.reduceLE, Int.reduceGT, Int.reduceGE, mu131, List.contains_nil, List.contains_cons, Nat.reduceBEq, Bool.or_self, dlt_t, dlt_f, dle_t, dle_f, dgt_t, dgt_f, dge_t, dge_f, beq_t, beq_f, bne_t, bne_f, lt_T, le_T, nle_T, nle_F, ↓wrap_up, ↓wrap_down, ↓wrap_pred, ↓wrap_sub_nat, i64_in, i64_quo, rem_in, Int.reduceToNat, room_ok, hp, hq, spanAV]
            repeat' (first | intro _ | apply And.intro | (unfold dOk; kernel_rfl) | exact St.beq_refl _ | (show altO _ _ _ _ = true; kernel_rfl) | (show (_ || _) = true; kernel_rfl) | (show (_ && _) = true; kernel_rfl))
            · exact ext (by rw [hb]; simp [h2]) _ ‹_›
            · exact (by first | rfl | (refine prep_to (n := 0) (m := ⟨some [12, 11, 10, 1, 0], some 0, []⟩) rfl rfl ?_ ?_ ?_ <;> first | rfl | (simp [keepT, AV.underL, AV.under, MB.under, underL_plain, under_plain, underL_append, plain_ints, plain_span, plain_ins, plain_prg, -List.map_take, -List.map_replicate, -List.map_set]; done) | (simp [keepT, AV.underL, AV.under, MB.under, underL_plain, under_plain, underL_append, plain_ints, plain_span, plain_ins, plain_prg, -List.map_take, -List.map_replicate, -List.map_set]; omega)))
    · intro hg
      rw [spansG_good (by omega) hg]
      simp +contextual (disch := omega) only [Try.f131, dd131, ty0, ty3, ty4, ty23, ty86, go_sem, ↓reduceIte, List.reduceReplicate, Nat.reduceAdd, Nat.reduceSub, reduceCtorEq, Nat.reduceLeDiff, Nat.reduceMul, Nat.reduceLT, Nat.reduceEqDiff, Int.reduceBNe, Int.reduceBEq, Int.reduceEq, Int.reduceLT, Int.reduceLE, Int.reduceGT, Int.reduceGE, mu131, List.contains_nil, List.contains_cons, Nat.reduceBEq, Bool.or_self, dlt_t, dlt_f, dle_t, dle_f, dgt_t, dgt_f, dge_t, dge_f, beq_t, beq_f, bne_t, bne_f, lt_T, le_T, nle_T, nle_F, ↓wrap_up, ↓wrap_down, ↓wrap_pred, ↓wrap_sub_nat, i64_in, i64_quo, rem_in, Int.reduceToNat, room_ok]
      exact fzEq rfl rfl
end
end Go.Ev
