/- Functions of the program, each with what it computes; no further conditions. -/
import Derived.Test.YtpbobopcmhpbbaaP05
import Derived.Test.YtpbobopcmhpbbaaP15
set_option linter.unusedVariables false
set_option linter.unusedSimpArgs false
namespace Go.Ev
open Go.Proofs Go.RowKit Go.IntWalk
set_option maxRecDepth 100000
set_option linter.unusedSimpArgs false
set_option linter.unusedVariables false
set_option maxHeartbeats 8000000

/-- From the beginning of a text, with so many results: what the law compares. -/
theorem prefix_law {g : Prg} (hg : SomeOk g) (t : List Int) (ht : t.length ≤ 65536) (k f d : Nat) (hf : f + d ≤ 1000000) :
    ∃ (a b c : List M3) (ea eb ec : Int), resP g t 0 k f = (a, ea) ∧ resP g t 0 ((k + 1 : Nat) : Int) f = (b, eb) ∧ resP g t 0 k ((f : Int) + d) = (c, ec) ∧ a.length ≤ k ∧ (ea = 0 ∨ ea = 11) ∧ (eb = 0 ∨ eb = 11) ∧
      (eb = 0 → ea = 0 ∧ a.length ≤ b.length ∧ b.take a.length = a) ∧ (ea = 0 → ec = 0 ∧ c = a) := by
  have hv : validG g = 0 := by
    unfold validG
    have h1 := hg.len
    have h2 := hg.caps
    have h3 : (g.ins.all (okIns g.ins.length g.caps g.runes)) = true := by rw [List.all_eq_true]; exact hg.ok
    rw [if_neg (by omega), if_neg (by omega), h3, hg.last]
    rfl
  have hck : ∀ (mo fu : Int), 0 ≤ mo → 0 ≤ fu → fu ≤ 1000000 → checkG g t.length 0 mo fu = 0 := by
    intro mo fu h1 h2 h3
    unfold checkG
    rw [if_neg (by simp [hv]), if_neg (by omega), if_neg (by omega), if_neg (by omega)]
  unfold resP
  rw [hck k f (by omega) (by omega) (by omega), hck ((k + 1 : Nat) : Int) f (by omega) (by omega) (by omega), hck k ((f : Int) + d) (by omega) (by omega) (by omega)]
  simp only [ne_eq, not_true_eq_false, if_false]
  rw [show ((f : Int) + (d : Int)).toNat = f + d by omega, Int.toNat_natCast]
  generalize hw : (⟨0, Int.toNat 0, List.replicate (2 * g.caps.toNat) (-1)⟩ : Way) = w
  cases hb : runW (progOf g t) ((k + 1 : Nat) : Int) f [w] [] with
  | some ob =>
    obtain ⟨oa, h1, h2, h3⟩ := run_fewer f [w] [] ob (Nat.zero_le _) hb
    rw [h1, run_more d f [w] [] oa h1]
    refine ⟨_, _, _, _, _, _, rfl, rfl, rfl, by simpa using h3, .inl rfl, .inl rfl, fun _ => ⟨rfl, ?_, ?_⟩, fun _ => ⟨rfl, rfl⟩⟩
    · simpa using h2.length_le
    · rw [List.length_map, ← List.map_take, (List.prefix_iff_eq_take.1 h2).symm]
  | none =>
    cases ha : runW (progOf g t) (k : Int) f [w] [] with
    | some oa =>
      rw [run_more d f [w] [] oa ha]
      refine ⟨_, _, _, _, _, _, rfl, rfl, rfl, ?_, .inl rfl, .inr rfl, fun h => by omega, fun _ => ⟨rfl, rfl⟩⟩
      simpa using run_most f [w] [] oa (Nat.zero_le _) ha
    | none =>
      cases hc : runW (progOf g t) (k : Int) (f + d) [w] [] with
      | some oc => exact ⟨_, _, _, _, _, _, rfl, rfl, rfl, by simp, .inr rfl, .inr rfl, fun h => by omega, fun h => by omega⟩
      | none => exact ⟨_, _, _, _, _, _, rfl, rfl, rfl, by simp, .inr rfl, .inr rfl, fun h => by omega, fun h => by omega⟩

theorem f7 (l m : List Int) (most fuel more : Int) (hl : ∀ x ∈ l, In64 x) (hm : ∀ x ∈ m, In64 x) (h2 : In64 most) (h3 : In64 fuel) (h4 : In64 more)
    (lives : ∀ H, call Try.prog pol1 18 [] H = some (.bool true, H)) (H : List MB) :
    call Try.prog pol1 7 [.sl false (l.map I), .sl false (m.map I), I most, I fuel, I more] H = some (.bool true, H) := by
  refine call_run Try.func7 rfl rfl rfl rfl rfl rfl (fun _ => rfl) (by simp [AV.plain, AV.plainL, plain_ints]) rfl ?_ H
  obtain ⟨_, ⟨g, hg, rfl⟩, c1⟩ := f21 l hl
  have hgb := someB hg
  have hgc := hg.caps
  have hgl := hg.len
  have c2 : ∀ H, call Try.prog pol1 22 [.sl false (m.map I), I 10, .bool true] H = some (.sl false ((textI m 10 true).map I), H) := f22 m hm 10 (by omega) true
  have htl := textI_len m 10 true
  generalize textI m 10 true = t at *
  have c3 := f12 fuel 300 h3 (by omega)
  have c4 := f12 most 5 h2 (by omega)
  have c5 := f12 more 300 h4 (by omega)
  have a3 := around_lt (n := fuel) (m := 300) (by omega)
  have a4 := around_lt (n := most) (m := 5) (by omega)
  have a5 := around_lt (n := more) (m := 300) (by omega)
  obtain ⟨f, hf⟩ : ∃ f : Nat, aroundI fuel 300 = f := ⟨(aroundI fuel 300).toNat, by omega⟩
  obtain ⟨k, hk⟩ : ∃ k : Nat, aroundI most 5 = k := ⟨(aroundI most 5).toNat, by omega⟩
  obtain ⟨d, hd⟩ : ∃ d : Nat, aroundI more 300 = d := ⟨(aroundI more 300).toNat, by omega⟩
  rw [hf] at c3 a3
  rw [hk] at c4 a4
  rw [hd] at c5 a5
  have c24 := f24 g (by omega)
  obtain ⟨a, b, c, ea, eb, ec, ra, rb, rc, q1, q2, q3, q4, q5⟩ := prefix_law hg t (by omega) k f d (by omega)
  have p1 := paths23 g hgb t (by omega) 0 k f (by omega)
  have p2 := paths23 g hgb t (by omega) 0 ((k + 1 : Nat) : Int) f (by omega)
  have p3 := paths23 g hgb t (by omega) 0 k ((f : Int) + d) (by omega)
  have s1 := resP_small g t 0 k f (by omega) (by omega)
  have s2 := resP_small g t 0 ((k + 1 : Nat) : Int) f (by omega) (by omega)
  rw [ra] at p1 s1
  rw [rb] at p2 s2
  rw [rc] at p3
  simp only at s1 s2
  have eqs : ∀ x : List M3, x = a → ∀ H, call Try.prog pol1 26 [.sl false (a.map mA), .sl false (x.map mA)] H = some (.bool true, H) := fun x hx H => by
    subst hx
    have := f26 _ _ s1.1 s1.1 s1.2 s1.2 H
    simpa using this
  have w1 : IntKind.i64.wrap ((k : Int) + 1) = (k : Int) + 1 := by rw [i64_in] <;> omega
  have w2 : IntKind.i64.wrap ((f : Int) + (d : Int)) = (f : Int) + d := by rw [i64_in] <;> omega
  have e1 := eqs a rfl
  have e2 := fun h => eqs c (q5 h).2
  have hal : ((b.map mA).all fun y => decide (y.cells.length = 3)) = true := by simp [AV.cells, matAV]
  have e3 : eb = 0 → ∀ H, call Try.prog pol1 26 [.sl false (a.map mA), .sl false ((b.map mA).take a.length)] H = some (.bool true, H) := fun h H => by
    rw [← List.map_take, (q4 h).2.2]
    exact e1 H
  have hal2 : ((b.map mA).all fun y => decide ((match y with | .agg cs => cs | x => [x]).length = 3)) = true := hal
  rcases q3 with rfl | rfl
  · obtain ⟨rfl, hle, htk⟩ := q4 rfl
    obtain ⟨rfl, rfl⟩ := q5 rfl
    have e3 := e3 rfl
    simp +contextual (disch := omega) only [Try.f7, dd7, ty0, ty3, ty4, ty22, ty35, ty36, ty41, ty53, ty54, ↓reduceIte, eq_self, bindW_some, bindW_map, bindW_ite, bindW_iteN, W_seq, W_region, W_draw, W_cond, W_ret, W_skip, W_exit, W_scope, W_label, W_block, blockK_norm, blockK_ret, blockK_exit, WO_nil, WO_cons, WO_guard, WD_nil, WD_cons, WD_guard, guardV, guardW_boolT, guardW_boolF, guardW_tup, fpL_some, fpL_none, footprint, thenK_norm, thenK_ret, thenK_exit, put_some, put_none, ev_tmp, ev_con, ev_func, ofK_int, ofK_bool, ofK_str, ofK_nil, evOp, evBuiltin, evCall, evLen, evAppend, getElem_16, getElem_4, List.length_cons, List.length_nil, List.reduceReplicate, Nat.reduceAdd, Nat.reduceSub, List.cons_append, List.nil_append, List.append_nil, if_false, if_true, Bool.false_eq_true, Bool.true_eq_false, reduceCtorEq, Option.map_some, Option.map_none, List.map_cons, List.map_nil, evBinOp, evBin, evUn, asB_bool, splitB_decide, splitB_true, splitB_false, splitB_beq, splitB_bne, splitB_not, endK_ret, endK_norm, List.getElem?_cons_zero, List.getElem?_cons_succ, evResults, evResult, packRes, retK_norm, retK_ret, cellsAt, mkVal, evFieldAddr, evField, evIndexAddr, evPart, evStore, evBuild, evBuildSlice, fillC, fillE, evSlice, evMakeSlice, evConvert, getRow, AV.cells, List.head?_cons, List.drop_zero, List.drop_succ_cons, List.take_zero, List.take_succ_cons, List.drop_nil, List.take_nil, List.all_cons, List.all_nil, AV.ok, Bool.and_self, Bool.and_true, Bool.true_and, and_self, and_true, true_and, Nat.reduceLeDiff, Nat.reduceMul, Nat.reduceLT, Nat.reduceEqDiff, Nat.zero_add, Nat.add_zero, setCells, splice, pairsOk, FP.apart, heapEq_refl, sameAt_refl, Bool.or_true, Bool.true_or, Bool.or_false, srcElems, elemsOf, mutDst, roundK_norm, roundK_exit, roundK_ret, List.length_map, List.getElem?_map, Int.toNat_natCast, Int.reduceBNe, Int.reduceBEq, decide_true, decide_false, Bool.not_true, Bool.not_false, List.set, set_0, set_1, set_2, set_3, set_4, look_hit, look, lookD_hit, lookD_cons, lookD_nil, ins_hit, ins, upd_hit, upd, rem1_hit, rem1, dropT, dropSt_eq, initT, cfg_dd, cfg_bd, cfg_ra, actL_nil, actL_cons, act1, updT_hit, updT, frzB, retE_norm, retE_ret, bndO, bnd, evEq, eqCells, Int.reduceEq, Int.reduceLT, Int.reduceLE, Int.reduceGT, Int.reduceGE, not_false_eq_true, not_true_eq_false, toList_some, Array.size_empty, List.length_append, List.map_append, tySzE, List.head?_drop, Nat.mul_one, sameAt_zero, sameAt_two, sameAt_three, sameAt_four, sameAt_five, mu7, List.contains_nil, List.contains_cons, Nat.reduceBEq, Bool.or_self, dlt_t, dlt_f, dle_t, dle_f, dgt_t, dgt_f, dge_t, dge_f, beq_t, beq_f, bne_t, bne_f, lt_T, le_T, nle_T, nle_F, ↓wrap_up, ↓wrap_down, ↓wrap_pred, ↓wrap_sub_nat, i64_in, i64_quo, rem_in, Int.reduceToNat, room_ok, c1, c2, c3, c4, c5, c24, p1, p2, p3, w2, e1, e3, lives, ty112, Bool.false_and]
    repeat' (first | intro _ | apply And.intro | (unfold dOk; kernel_rfl) | (show (_ || _) = true; kernel_rfl) | (show (_ && _) = true; kernel_rfl))
    all_goals first | exact hal | exact fzEq rfl rfl
  · rcases q2 with rfl | rfl
    · obtain ⟨rfl, rfl⟩ := q5 rfl
      simp +contextual (disch := omega) only [Try.f7, dd7, ty0, ty3, ty4, ty22, ty35, ty36, ty41, ty53, ty54, ↓reduceIte, eq_self, bindW_some, bindW_map, bindW_ite, bindW_iteN, W_seq, W_region, W_draw, W_cond, W_ret, W_skip, W_exit, W_scope, W_label, W_block, blockK_norm, blockK_ret, blockK_exit, WO_nil, WO_cons, WO_guard, WD_nil, WD_cons, WD_guard, guardV, guardW_boolT, guardW_boolF, guardW_tup, fpL_some, fpL_none, footprint, thenK_norm, thenK_ret, thenK_exit, put_some, put_none, ev_tmp, ev_con, ev_func, ofK_int, ofK_bool, ofK_str, ofK_nil, evOp, evBuiltin, evCall, evLen, evAppend, getElem_16, getElem_4, List.length_cons, List.length_nil, List.reduceReplicate, Nat.reduceAdd, Nat.reduceSub, List.cons_append, List.nil_append, List.append_nil, if_false, if_true, Bool.false_eq_true, Bool.true_eq_false, reduceCtorEq, Option.map_some, Option.map_none, List.map_cons, List.map_nil, evBinOp, evBin, evUn, asB_bool, splitB_decide, splitB_true, splitB_false, splitB_beq, splitB_bne, splitB_not, endK_ret, endK_norm, List.getElem?_cons_zero, List.getElem?_cons_succ, evResults, evResult, packRes, retK_norm, retK_ret, cellsAt, mkVal, evFieldAddr, evField, evIndexAddr, evPart, evStore, evBuild, evBuildSlice, fillC, fillE, evSlice, evMakeSlice, evConvert, getRow, AV.cells, List.head?_cons, List.drop_zero, List.drop_succ_cons, List.take_zero, List.take_succ_cons, List.drop_nil, List.take_nil, List.all_cons, List.all_nil, AV.ok, Bool.and_self, Bool.and_true, Bool.true_and, and_self, and_true, true_and, Nat.reduceLeDiff, Nat.reduceMul, Nat.reduceLT, Nat.reduceEqDiff, Nat.zero_add, Nat.add_zero, setCells, splice, pairsOk, FP.apart, heapEq_refl, sameAt_refl, Bool.or_true, Bool.true_or, Bool.or_false, srcElems, elemsOf, mutDst, roundK_norm, roundK_exit, roundK_ret, List.length_map, List.getElem?_map, Int.toNat_natCast, Int.reduceBNe, Int.reduceBEq, decide_true, decide_false, Bool.not_true, Bool.not_false, List.set, set_0, set_1, set_2, set_3, set_4, look_hit, look, lookD_hit, lookD_cons, lookD_nil, ins_hit, ins, upd_hit, upd, rem1_hit, rem1, dropT, dropSt_eq, initT, cfg_dd, cfg_bd, cfg_ra, actL_nil, actL_cons, act1, updT_hit, updT, frzB, retE_norm, retE_ret, bndO, bnd, evEq, eqCells, Int.reduceEq, Int.reduceLT, Int.reduceLE, Int.reduceGT, Int.reduceGE, not_false_eq_true, not_true_eq_false, toList_some, Array.size_empty, List.length_append, List.map_append, tySzE, List.head?_drop, Nat.mul_one, sameAt_zero, sameAt_two, sameAt_three, sameAt_four, sameAt_five, mu7, List.contains_nil, List.contains_cons, Nat.reduceBEq, Bool.or_self, dlt_t, dlt_f, dle_t, dle_f, dgt_t, dgt_f, dge_t, dge_f, beq_t, beq_f, bne_t, bne_f, lt_T, le_T, nle_T, nle_F, ↓wrap_up, ↓wrap_down, ↓wrap_pred, ↓wrap_sub_nat, i64_in, i64_quo, rem_in, Int.reduceToNat, room_ok, c1, c2, c3, c4, c5, c24, p1, p2, p3, w2, e1, lives]
      repeat' (first | intro _ | apply And.intro | (unfold dOk; kernel_rfl) | (show (_ || _) = true; kernel_rfl) | (show (_ && _) = true; kernel_rfl))
      all_goals exact fzEq rfl rfl
    · simp +contextual (disch := omega) only [Try.f7, dd7, ty0, ty3, ty4, ty22, ty35, ty36, ty41, ty53, ty54, ↓reduceIte, eq_self, bindW_some, bindW_map, bindW_ite, bindW_iteN, W_seq, W_region, W_draw, W_cond, W_ret, W_skip, W_exit, W_scope, W_label, W_block, blockK_norm, blockK_ret, blockK_exit, WO_nil, WO_cons, WO_guard, WD_nil, WD_cons, WD_guard, guardV, guardW_boolT, guardW_boolF, guardW_tup, fpL_some, fpL_none, footprint, thenK_norm, thenK_ret, thenK_exit, put_some, put_none, ev_tmp, ev_con, ev_func, ofK_int, ofK_bool, ofK_str, ofK_nil, evOp, evBuiltin, evCall, evLen, evAppend, getElem_16, getElem_4, List.length_cons, List.length_nil, List.reduceReplicate, Nat.reduceAdd, Nat.reduceSub, List.cons_append, List.nil_append, List.append_nil, if_false, if_true, Bool.false_eq_true, Bool.true_eq_false, reduceCtorEq, Option.map_some, Option.map_none, List.map_cons, List.map_nil, evBinOp, evBin, evUn, asB_bool, splitB_decide, splitB_true, splitB_false, splitB_beq, splitB_bne, splitB_not, endK_ret, endK_norm, List.getElem?_cons_zero, List.getElem?_cons_succ, evResults, evResult, packRes, retK_norm, retK_ret, cellsAt, mkVal, evFieldAddr, evField, evIndexAddr, evPart, evStore, evBuild, evBuildSlice, fillC, fillE, evSlice, evMakeSlice, evConvert, getRow, AV.cells, List.head?_cons, List.drop_zero, List.drop_succ_cons, List.take_zero, List.take_succ_cons, List.drop_nil, List.take_nil, List.all_cons, List.all_nil, AV.ok, Bool.and_self, Bool.and_true, Bool.true_and, and_self, and_true, true_and, Nat.reduceLeDiff, Nat.reduceMul, Nat.reduceLT, Nat.reduceEqDiff, Nat.zero_add, Nat.add_zero, setCells, splice, pairsOk, FP.apart, heapEq_refl, sameAt_refl, Bool.or_true, Bool.true_or, Bool.or_false, srcElems, elemsOf, mutDst, roundK_norm, roundK_exit, roundK_ret, List.length_map, List.getElem?_map, Int.toNat_natCast, Int.reduceBNe, Int.reduceBEq, decide_true, decide_false, Bool.not_true, Bool.not_false, List.set, set_0, set_1, set_2, set_3, set_4, look_hit, look, lookD_hit, lookD_cons, lookD_nil, ins_hit, ins, upd_hit, upd, rem1_hit, rem1, dropT, dropSt_eq, initT, cfg_dd, cfg_bd, cfg_ra, actL_nil, actL_cons, act1, updT_hit, updT, frzB, retE_norm, retE_ret, bndO, bnd, evEq, eqCells, Int.reduceEq, Int.reduceLT, Int.reduceLE, Int.reduceGT, Int.reduceGE, not_false_eq_true, not_true_eq_false, toList_some, Array.size_empty, List.length_append, List.map_append, tySzE, List.head?_drop, Nat.mul_one, sameAt_zero, sameAt_two, sameAt_three, sameAt_four, sameAt_five, mu7, List.contains_nil, List.contains_cons, Nat.reduceBEq, Bool.or_self, dlt_t, dlt_f, dle_t, dle_f, dgt_t, dgt_f, dge_t, dge_f, beq_t, beq_f, bne_t, bne_f, lt_T, le_T, nle_T, nle_F, ↓wrap_up, ↓wrap_down, ↓wrap_pred, ↓wrap_sub_nat, i64_in, i64_quo, rem_in, Int.reduceToNat, room_ok, c1, c2, c3, c4, c5, c24, p1, p2, p3, w2, e1, lives]
      repeat' (first | intro _ | apply And.intro | (unfold dOk; kernel_rfl) | (show (_ || _) = true; kernel_rfl) | (show (_ && _) = true; kernel_rfl))
      all_goals exact fzEq rfl rfl
end Go.Ev
