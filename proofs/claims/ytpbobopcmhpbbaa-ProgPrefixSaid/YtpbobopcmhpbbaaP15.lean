/- Functions of the program, each with what it computes; no further conditions. -/
import Derived.Test.YtpbobopcmhpbbaaP05
import Derived.Test.YtpbobopcmhpbbaaP08
import Derived.Test.YtpbobopcmhpbbaaP14
import Derived.Test.YtpbobopcmhpbbaaP13
import Derived.Test.YtpbobopcmhpbbaaP07
set_option linter.unusedVariables false
set_option linter.unusedSimpArgs false
namespace Go.Ev
open Go.Proofs Go.RowKit Go.IntWalk
set_option maxRecDepth 100000
set_option linter.unusedSimpArgs false
set_option linter.unusedVariables false
set_option maxHeartbeats 4000000

abbrev insAVt (i : Ins) : AV := .agg [I i.op, I i.x, I i.y, I i.n, .sl true (i.set.map spanAV)]
def T21 (l : List Int) (n caps : Int) (runes : Bool) : List Ins → St
  | [] => (⟨119, [(5, I ((0 : Nat) : Int)), (4, .rf 1 1 0 0), (3, I n), (2, .rf 0 1 0 0), (0, .sl false (l.map I))], [.row 3 [.agg [.sl true [], I 0, .bool false]] 0, .row 3 [.agg [.sl true [], I caps, .bool runes]] 0]⟩ : St)
  | x :: xs => (⟨119, [(5, I ((xs.length + 1 : Nat) : Int)), (4, .rf 1 1 0 0), (3, I n), (2, .rf 0 1 0 0), (0, .sl false (l.map I))], [.row 3 [.agg [.sl true [], I 0, .bool false]] 0, .row 3 [.agg [.ms 3 5 (xs.length + 1) 0 (xs.length + 1), I caps, .bool runes]] 0, .row 5 [insAVt x] 0, .row 5 (insAVt x :: xs.map insAVt) 0]⟩ : St)

/-- What `Some` returns is valid, and small. -/
structure SomeOk (g : Prg) : Prop where
  len : 1 ≤ g.ins.length ∧ g.ins.length ≤ 12
  caps : 0 ≤ g.caps ∧ g.caps ≤ 2
  ok : ∀ i ∈ g.ins, okIns g.ins.length g.caps g.runes i = true
  last : lastGood g = true
  sets : ∀ i ∈ g.ins, i.set.length ≤ 1

theorem underL_insT (n : Nat) (l : List Ins) : AV.underL n (l.map insAVt) = true := by
  induction l with
  | nil => rfl
  | cons a l ih => simp [AV.underL, AV.under, underL_plain, plain_span, ih]
theorem fzT_one (j : List AV → List MB → Option (List AV × List MB)) (i : Ins) (H : List MB) : fzA j (insAVt i) H = some (insAV i, H) := by
  simp only [fzA_agg, fzL, fzA_int, fzA_sl, fzL_plain _ _ _ (plain_span i.set)]
theorem fz_allT {id tot : Nat} {ins : List Ins} {caps : Int} {runes : Bool} {H : List MB} (hr : getRow H id = some (5, ins.map insAVt, 0)) (hn : tot = ins.length) :
    ∃ H', fz (.agg [.ms id 5 tot 0 tot, I caps, .bool runes]) H = some (prgAV ⟨ins, caps, runes⟩, H') := by
  subst hn
  simp only [fz, fzA_agg, fzL]
  rw [fzA_ms (n := 5) (k := 5) (ys := ins.map insAV) hr (by simp) (by simp) (by
    rw [List.drop_zero, List.take_of_length_le (by simp)]; exact fzL_map (fun i H => fzT_one _ i H) _ _)]
  exact ⟨_, rfl⟩
theorem lastGood_app (xs : List Ins) (x : Ins) (c : Int) (r : Bool) (h : x.op = 0 ∨ x.op = 2 ∨ x.op = 3) : lastGood ⟨xs ++ [x], c, r⟩ = true := by
  simp [lastGood]; omega
theorem ok_zero (n : Nat) (c : Int) (r : Bool) : okIns n c r ⟨0, 0, 0, 0, []⟩ = true := by simp [okIns]
theorem next21 {n : Nat} {caps : Int} {runes : Bool} {xs : List Ins} {x : Ins} (h1 : xs.length < n) (h2 : ∀ i ∈ xs, okIns n caps runes i = true ∧ i.set.length ≤ 1) (hx : okIns n caps runes x = true ∧ x.set.length ≤ 1)
    (hl : xs.length + 1 = n → x.op = 0 ∨ x.op = 2 ∨ x.op = 3) :
    (xs ++ [x]).length ≤ n ∧ (∀ i ∈ xs ++ [x], okIns n caps runes i = true ∧ i.set.length ≤ 1) ∧ ((xs ++ [x]).length = n → lastGood ⟨xs ++ [x], caps, runes⟩ = true) :=
  ⟨by simp; omega, fun i hi => by
    rcases List.mem_append.1 hi with h | h
    · exact h2 i h
    · rw [List.mem_singleton.1 h]; exact hx, fun h => lastGood_app _ _ _ _ (hl (by simpa using h))⟩

theorem f21 (l : List Int) (hl : ∀ x ∈ l, In64 x) : ∃ r, (∃ g, SomeOk g ∧ r = prgAV g) ∧ ∀ H, call Try.prog pol1 21 [.sl false (l.map I)] H = some (r, H) := by
  obtain ⟨n, hn1, hn2, hn3⟩ : ∃ n : Nat, (n : Int) = 1 + pickI l 0 12 ∧ 1 ≤ n ∧ n ≤ 12 := by
    have := pick_lt (l := l) (i := 0) (m := 12) (by omega)
    exact ⟨(1 + pickI l 0 12).toNat, by omega, by omega, by omega⟩
  have hw : IntKind.i64.wrap (1 + pickI l 0 12) = n := by rw [i64_in] <;> omega
  have hcaps := pick_lt (l := l) (i := 1) (m := 3) (by omega)
  refine call_runA Try.func21 rfl rfl rfl rfl rfl rfl (fun _ => rfl) (by simp [AV.plain, AV.plainL, plain_ints, plain_span, plain_ins, plain_prg]) ?_ ?_
  · rintro _ ⟨g, _, rfl⟩; exact plain_prg g
  have hP := fun i m h => f57 l i m hl h
  simp +contextual (disch := omega) only [Try.f21, dd21, ty0, ty3, ty4, ty22, ty23, ty39, ty41, ty86, ty108, ↓reduceIte, eq_self, bindW_some, bindW_map, bindW_ite, bindW_iteN, W_seq, W_region, W_draw, W_cond, W_ret, W_skip, W_exit, W_scope, W_label, W_block, blockK_norm, blockK_ret, blockK_exit, WO_nil, WO_cons, WO_guard, WD_nil, WD_cons, WD_guard, guardV, guardW_boolT, guardW_boolF, guardW_tup, fpL_some, fpL_none, footprint, thenK_norm, thenK_ret, thenK_exit, put_some, put_none, ev_tmp, ev_con, ev_func, ofK_int, ofK_bool, ofK_str, ofK_nil, evOp, evBuiltin, evCall, evLen, evAppend, getElem_16, getElem_4, List.length_cons, List.length_nil, List.reduceReplicate, Nat.reduceAdd, Nat.reduceSub, List.cons_append, List.nil_append, List.append_nil, if_false, if_true, Bool.false_eq_true, Bool.true_eq_false, reduceCtorEq, Option.map_some, Option.map_none, List.map_cons, List.map_nil, evBinOp, evBin, evUn, asB_bool, splitB_decide, splitB_true, splitB_false, splitB_beq, splitB_bne, splitB_not, endK_ret, endK_norm, List.getElem?_cons_zero, List.getElem?_cons_succ, evResults, evResult, packRes, retK_norm, retK_ret, cellsAt, mkVal, evFieldAddr, evField, evIndexAddr, evPart, evStore, evBuild, evBuildSlice, fillC, fillE, evSlice, evMakeSlice, evConvert, getRow, AV.cells, List.head?_cons, List.drop_zero, List.drop_succ_cons, List.take_zero, List.take_succ_cons, List.drop_nil, List.take_nil, List.all_cons, List.all_nil, AV.ok, Bool.and_self, Bool.and_true, Bool.true_and, and_self, and_true, true_and, Nat.reduceLeDiff, Nat.reduceMul, Nat.reduceLT, Nat.reduceEqDiff, Nat.zero_add, Nat.add_zero, setCells, splice, pairsOk, FP.apart, heapEq_refl, sameAt_refl, Bool.or_true, Bool.true_or, Bool.or_false, srcElems, elemsOf, mutDst, roundK_norm, roundK_exit, roundK_ret, List.length_map, List.getElem?_map, Int.toNat_natCast, Int.reduceBNe, Int.reduceBEq, decide_true, decide_false, Bool.not_true, Bool.not_false, List.set, set_0, set_1, set_2, set_3, set_4, look_hit, look, lookD_hit, lookD_cons, lookD_nil, ins_hit, ins, upd_hit, upd, rem1_hit, rem1, dropT, dropSt_eq, initT, cfg_dd, cfg_bd, cfg_ra, actL_nil, actL_cons, act1, updT_hit, updT, frzB, retE_norm, retE_ret, bndO, bnd, evEq, eqCells, Int.reduceEq, Int.reduceLT, Int.reduceLE, Int.reduceGT, Int.reduceGE, not_false_eq_true, not_true_eq_false, toList_some, Array.size_empty, List.length_append, List.map_append, mu21, List.contains_nil, List.contains_cons, Nat.reduceBEq, Bool.or_self, dlt_t, dlt_f, dle_t, dle_f, dgt_t, dgt_f, dge_t, dge_f, beq_t, beq_f, bne_t, bne_f, lt_T, le_T, nle_T, nle_F, ↓wrap_up, ↓wrap_down, ↓wrap_pred, ↓wrap_sub_nat, i64_in, i64_quo, rem_in, Int.reduceToNat, hP 0 12 (by omega), hP 1 3 (by omega), hP 2 3 (by omega), hw]
  generalize pickI l 1 3 = caps at *
  generalize (pickI l 2 3 == 0) = runes at *
  refine W_for (M := (mskOf (pol1.mask 21) (pol1.gc 21) (pol1.acts 21) 0 4)) rfl (T21 l n caps runes) (fun xs => xs.length ≤ n ∧ (∀ i ∈ xs, okIns n caps runes i = true ∧ i.set.length ≤ 1) ∧ (xs.length = n → lastGood ⟨xs, caps, runes⟩ = true)) (fun xs => n - xs.length) [] ?_ ⟨by simp, by simp, by simp; omega⟩ _ (by first | rfl | (refine prep_cut rfl (by rfl) (by rfl) (by rfl) ?_ ?_ <;> simp [AV.underL, AV.under, MB.under, underL_plain, under_plain, plain_ints, plain_span, plain_ins, plain_prg, -List.map_take]))
  rintro xs ⟨h1, h2, h3⟩
  by_cases hlt : xs.length < n
  · have hk := pick_lt (l := l) (i := 3 + xs.length) (m := 1048576) (by omega)
    have hPk := hP (3 + xs.length) 1048576 (by omega)
    generalize pickI l (3 + xs.length) 1048576 = k at *
    have hm3 : ∀ z : Int, 0 < caps → 0 ≤ z % (2 * caps) ∧ z % (2 * caps) < 2 * caps := fun z h => ⟨Int.emod_nonneg _ (by omega), Int.emod_lt_of_pos _ (by omega)⟩
    have hmod : ∀ z : Int, 0 ≤ z % n ∧ z % n < n := fun z => ⟨Int.emod_nonneg _ (by omega), Int.emod_lt_of_pos _ (by omega)⟩
    have hm1 := fun z => (hmod z).1
    have hm2 := fun z => (hmod z).2
    cases xs with
    | nil =>
      simp only [T21]
      simp only [List.length_nil] at hPk hlt
      simp +contextual (disch := omega) only [Try.f21, dd21, ty0, ty3, ty4, ty22, ty23, ty39, ty41, ty86, ty108, ↓reduceIte, eq_self, bindW_some, bindW_map, bindW_ite, bindW_iteN, W_seq, W_region, W_draw, W_cond, W_ret, W_skip, W_exit, W_scope, W_label, blockK_norm, blockK_ret, blockK_exit, WO_nil, WO_cons, WO_guard, WD_nil, WD_cons, WD_guard, guardV, guardW_boolT, guardW_boolF, guardW_tup, fpL_some, fpL_none, footprint, thenK_norm, thenK_ret, thenK_exit, put_some, put_none, ev_tmp, ev_con, ev_func, ofK_int, ofK_bool, ofK_str, ofK_nil, evOp, evBuiltin, evCall, evLen, evAppend, getElem_16, getElem_4, List.length_cons, List.length_nil, List.reduceReplicate, Nat.reduceAdd, Nat.reduceSub, List.cons_append, List.nil_append, List.append_nil, if_false, if_true, Bool.false_eq_true, Bool.true_eq_false, reduceCtorEq, Option.map_some, Option.map_none, List.map_cons, List.map_nil, evBinOp, evBin, evUn, asB_bool, splitB_decide, splitB_true, splitB_false, splitB_beq, splitB_bne, splitB_not, endK_ret, endK_norm, List.getElem?_cons_zero, List.getElem?_cons_succ, evResults, evResult, packRes, retK_norm, retK_ret, cellsAt, mkVal, evFieldAddr, evField, evIndexAddr, evPart, evStore, evBuild, evBuildSlice, fillC, fillE, evSlice, evMakeSlice, evConvert, getRow, AV.cells, List.head?_cons, List.drop_zero, List.drop_succ_cons, List.take_zero, List.take_succ_cons, List.drop_nil, List.take_nil, List.all_cons, List.all_nil, AV.ok, Bool.and_self, Bool.and_true, Bool.true_and, and_self, and_true, true_and, Nat.reduceLeDiff, Nat.reduceMul, Nat.reduceLT, Nat.reduceEqDiff, Nat.zero_add, Nat.add_zero, setCells, splice, pairsOk, FP.apart, heapEq_refl, sameAt_refl, Bool.or_true, Bool.true_or, Bool.or_false, srcElems, elemsOf, mutDst, roundK_norm, roundK_exit, roundK_ret, List.length_map, List.getElem?_map, Int.toNat_natCast, Int.reduceBNe, Int.reduceBEq, decide_true, decide_false, Bool.not_true, Bool.not_false, List.set, set_0, set_1, set_2, set_3, set_4, look_hit, look, lookD_hit, lookD_cons, lookD_nil, ins_hit, ins, upd_hit, upd, rem1_hit, rem1, dropT, dropSt_eq, initT, cfg_dd, cfg_bd, cfg_ra, actL_nil, actL_cons, act1, updT_hit, updT, frzB, retE_norm, retE_ret, bndO, bnd, evEq, eqCells, Int.reduceEq, Int.reduceLT, Int.reduceLE, Int.reduceGT, Int.reduceGE, not_false_eq_true, not_true_eq_false, toList_some, Array.size_empty, List.length_append, List.map_append, mu21, List.contains_nil, List.contains_cons, Nat.reduceBEq, Bool.or_self, dlt_t, dlt_f, dle_t, dle_f, dgt_t, dgt_f, dge_t, dge_f, beq_t, beq_f, bne_t, bne_f, lt_T, le_T, nle_T, nle_F, ↓wrap_up, ↓wrap_down, ↓wrap_pred, ↓wrap_sub_nat, i64_in, i64_quo, rem_in, Int.reduceToNat, W_block (id := 1), hPk]
      refine W_cut (fun s => ∃ x : Ins, x.set.length ≤ 1 ∧ okIns n caps runes x = true ∧ s = ⟨119, [(7, .rf 2 1 0 0), (5, I ((0 : Nat) : Int)), (4, .rf 1 1 0 0), (3, I n), (2, .rf 0 1 0 0), (0, .sl false (l.map I))],
        [.row 3 [.agg [.sl true [], I 0, .bool false]] 0, .row 3 [.agg [.sl true [], I caps, .bool runes]] 0, .row 5 [insAVt x] 0]⟩) ?_ ?_
      · simp +contextual (disch := omega) only [Try.f21, dd21, ty0, ty3, ty4, ty22, ty23, ty39, ty41, ty86, ty108, ↓reduceIte, eq_self, bindW_some, bindW_map, bindW_ite, bindW_iteN, W_seq, W_region, W_draw, W_cond, W_ret, W_skip, W_exit, W_scope, W_label, W_block, blockK_norm, blockK_ret, blockK_exit, WO_nil, WO_cons, WO_guard, WD_nil, WD_cons, WD_guard, guardV, guardW_boolT, guardW_boolF, guardW_tup, fpL_some, fpL_none, footprint, thenK_norm, thenK_ret, thenK_exit, put_some, put_none, ev_tmp, ev_con, ev_func, ofK_int, ofK_bool, ofK_str, ofK_nil, evOp, evBuiltin, evCall, evLen, evAppend, getElem_16, getElem_4, List.length_cons, List.length_nil, List.reduceReplicate, Nat.reduceAdd, Nat.reduceSub, List.cons_append, List.nil_append, List.append_nil, if_false, if_true, Bool.false_eq_true, Bool.true_eq_false, reduceCtorEq, Option.map_some, Option.map_none, List.map_cons, List.map_nil, evBinOp, evBin, evUn, asB_bool, splitB_decide, splitB_true, splitB_false, splitB_beq, splitB_bne, splitB_not, endK_ret, endK_norm, List.getElem?_cons_zero, List.getElem?_cons_succ, evResults, evResult, packRes, retK_norm, retK_ret, cellsAt, mkVal, evFieldAddr, evField, evIndexAddr, evPart, evStore, evBuild, evBuildSlice, fillC, fillE, evSlice, evMakeSlice, evConvert, getRow, AV.cells, List.head?_cons, List.drop_zero, List.drop_succ_cons, List.take_zero, List.take_succ_cons, List.drop_nil, List.take_nil, List.all_cons, List.all_nil, AV.ok, Bool.and_self, Bool.and_true, Bool.true_and, and_self, and_true, true_and, Nat.reduceLeDiff, Nat.reduceMul, Nat.reduceLT, Nat.reduceEqDiff, Nat.zero_add, Nat.add_zero, setCells, splice, pairsOk, FP.apart, heapEq_refl, sameAt_refl, Bool.or_true, Bool.true_or, Bool.or_false, srcElems, elemsOf, mutDst, roundK_norm, roundK_exit, roundK_ret, List.length_map, List.getElem?_map, Int.toNat_natCast, Int.reduceBNe, Int.reduceBEq, decide_true, decide_false, Bool.not_true, Bool.not_false, List.set, set_0, set_1, set_2, set_3, set_4, look_hit, look, lookD_hit, lookD_cons, lookD_nil, ins_hit, ins, upd_hit, upd, rem1_hit, rem1, dropT, dropSt_eq, initT, cfg_dd, cfg_bd, cfg_ra, actL_nil, actL_cons, act1, updT_hit, updT, frzB, retE_norm, retE_ret, bndO, bnd, evEq, eqCells, Int.reduceEq, Int.reduceLT, Int.reduceLE, Int.reduceGT, Int.reduceGE, not_false_eq_true, not_true_eq_false, toList_some, Array.size_empty, List.length_append, List.map_append, mu21, List.contains_nil, List.contains_cons, Nat.reduceBEq, Bool.or_self, dlt_t, dlt_f, dle_t, dle_f, dgt_t, dgt_f, dge_t, dge_f, beq_t, beq_f, bne_t, bne_f, lt_T, le_T, nle_T, nle_F, ↓wrap_up, ↓wrap_down, ↓wrap_pred, ↓wrap_sub_nat, i64_in, i64_quo, rem_in, Int.reduceToNat, cut_norm]
        repeat' (first | intro _ | apply And.intro)
        all_goals first
          | omega
          | (unfold dOk; kernel_rfl)
          | kernel_rfl
          | (refine ⟨⟨_, _, _, _, []⟩, ?_, ?_, rfl⟩ <;> simp [okIns, refSpans, badAt, lastOk, hm1, hm2] <;> done)
          | (refine ⟨⟨_, _, _, _, []⟩, ?_, ?_, rfl⟩ <;> simp [okIns, refSpans, badAt, lastOk, hm1, hm2] <;> omega)
          | (refine ⟨⟨_, _, _, _, []⟩, ?_, ?_, rfl⟩
             · simp
             · have q := hm3 (k / 8) (by omega)
               simp [okIns, refSpans, badAt, lastOk]
               omega)
          | (refine ⟨⟨_, _, _, _, [(97, _)]⟩, ?_, ?_, rfl⟩
             · simp
             · simp [okIns, refSpans, badAt, lastOk]
               (try split) <;> omega)
      · rintro _ ⟨z, hz1, hz2, rfl⟩
        have hop := okIns_op hz2
        by_cases h1n : 0 + 1 = n
        · by_cases ha : z.op = 1
          · simp +contextual (disch := omega) only [Try.f21, dd21, ty0, ty3, ty4, ty22, ty23, ty39, ty41, ty86, ty108, ↓reduceIte, eq_self, bindW_some, bindW_map, bindW_ite, bindW_iteN, W_seq, W_region, W_draw, W_cond, W_ret, W_skip, W_exit, W_scope, W_label, W_block, blockK_norm, blockK_ret, blockK_exit, WO_nil, WO_cons, WO_guard, WD_nil, WD_cons, WD_guard, guardV, guardW_boolT, guardW_boolF, guardW_tup, fpL_some, fpL_none, footprint, thenK_norm, thenK_ret, thenK_exit, put_some, put_none, ev_tmp, ev_con, ev_func, ofK_int, ofK_bool, ofK_str, ofK_nil, evOp, evBuiltin, evCall, evLen, evAppend, getElem_16, getElem_4, List.length_cons, List.length_nil, List.reduceReplicate, Nat.reduceAdd, Nat.reduceSub, List.cons_append, List.nil_append, List.append_nil, if_false, if_true, Bool.false_eq_true, Bool.true_eq_false, reduceCtorEq, Option.map_some, Option.map_none, List.map_cons, List.map_nil, evBinOp, evBin, evUn, asB_bool, splitB_decide, splitB_true, splitB_false, splitB_beq, splitB_bne, splitB_not, endK_ret, endK_norm, List.getElem?_cons_zero, List.getElem?_cons_succ, evResults, evResult, packRes, retK_norm, retK_ret, cellsAt, mkVal, evFieldAddr, evField, evIndexAddr, evPart, evStore, evBuild, evBuildSlice, fillC, fillE, evSlice, evMakeSlice, evConvert, getRow, AV.cells, List.head?_cons, List.drop_zero, List.drop_succ_cons, List.take_zero, List.take_succ_cons, List.drop_nil, List.take_nil, List.all_cons, List.all_nil, AV.ok, Bool.and_self, Bool.and_true, Bool.true_and, and_self, and_true, true_and, Nat.reduceLeDiff, Nat.reduceMul, Nat.reduceLT, Nat.reduceEqDiff, Nat.zero_add, Nat.add_zero, setCells, splice, pairsOk, FP.apart, heapEq_refl, sameAt_refl, Bool.or_true, Bool.true_or, Bool.or_false, srcElems, elemsOf, mutDst, roundK_norm, roundK_exit, roundK_ret, List.length_map, List.getElem?_map, Int.toNat_natCast, Int.reduceBNe, Int.reduceBEq, decide_true, decide_false, Bool.not_true, Bool.not_false, List.set, set_0, set_1, set_2, set_3, set_4, look_hit, look, lookD_hit, lookD_cons, lookD_nil, ins_hit, ins, upd_hit, upd, rem1_hit, rem1, dropT, dropSt_eq, initT, cfg_dd, cfg_bd, cfg_ra, actL_nil, actL_cons, act1, updT_hit, updT, frzB, retE_norm, retE_ret, bndO, bnd, evEq, eqCells, Int.reduceEq, Int.reduceLT, Int.reduceLE, Int.reduceGT, Int.reduceGE, not_false_eq_true, not_true_eq_false, toList_some, Array.size_empty, List.length_append, List.map_append, mu21, List.contains_nil, List.contains_cons, Nat.reduceBEq, Bool.or_self, dlt_t, dlt_f, dle_t, dle_f, dgt_t, dgt_f, dge_t, dge_f, beq_t, beq_f, bne_t, bne_f, lt_T, le_T, nle_T, nle_F, ↓wrap_up, ↓wrap_down, ↓wrap_pred, ↓wrap_sub_nat, i64_in, i64_quo, rem_in, Int.reduceToNat]
            refine ⟨by simp [roomFor], [] ++ [⟨0, 0, 0, 0, []⟩], next21 (by simpa using hlt) h2 ⟨ok_zero _ _ _, by simp⟩ (fun h => by simp only [List.length_nil, List.length_cons] at h; first | exact Or.inl rfl | omega), by simp; omega, ?_⟩
            exact (by first | rfl | (refine prep_cut rfl (by rfl) (by rfl) (by rfl) ?_ ?_ <;> simp [AV.underL, AV.under, MB.under, underL_plain, under_plain, plain_ints, plain_span, plain_ins, plain_prg, -List.map_take, underL_insT]))
          · by_cases hb : 4 ≤ z.op
            · simp +contextual (disch := omega) only [Try.f21, dd21, ty0, ty3, ty4, ty22, ty23, ty39, ty41, ty86, ty108, ↓reduceIte, eq_self, bindW_some, bindW_map, bindW_ite, bindW_iteN, W_seq, W_region, W_draw, W_cond, W_ret, W_skip, W_exit, W_scope, W_label, W_block, blockK_norm, blockK_ret, blockK_exit, WO_nil, WO_cons, WO_guard, WD_nil, WD_cons, WD_guard, guardV, guardW_boolT, guardW_boolF, guardW_tup, fpL_some, fpL_none, footprint, thenK_norm, thenK_ret, thenK_exit, put_some, put_none, ev_tmp, ev_con, ev_func, ofK_int, ofK_bool, ofK_str, ofK_nil, evOp, evBuiltin, evCall, evLen, evAppend, getElem_16, getElem_4, List.length_cons, List.length_nil, List.reduceReplicate, Nat.reduceAdd, Nat.reduceSub, List.cons_append, List.nil_append, List.append_nil, if_false, if_true, Bool.false_eq_true, Bool.true_eq_false, reduceCtorEq, Option.map_some, Option.map_none, List.map_cons, List.map_nil, evBinOp, evBin, evUn, asB_bool, splitB_decide, splitB_true, splitB_false, splitB_beq, splitB_bne, splitB_not, endK_ret, endK_norm, List.getElem?_cons_zero, List.getElem?_cons_succ, evResults, evResult, packRes, retK_norm, retK_ret, cellsAt, mkVal, evFieldAddr, evField, evIndexAddr, evPart, evStore, evBuild, evBuildSlice, fillC, fillE, evSlice, evMakeSlice, evConvert, getRow, AV.cells, List.head?_cons, List.drop_zero, List.drop_succ_cons, List.take_zero, List.take_succ_cons, List.drop_nil, List.take_nil, List.all_cons, List.all_nil, AV.ok, Bool.and_self, Bool.and_true, Bool.true_and, and_self, and_true, true_and, Nat.reduceLeDiff, Nat.reduceMul, Nat.reduceLT, Nat.reduceEqDiff, Nat.zero_add, Nat.add_zero, setCells, splice, pairsOk, FP.apart, heapEq_refl, sameAt_refl, Bool.or_true, Bool.true_or, Bool.or_false, srcElems, elemsOf, mutDst, roundK_norm, roundK_exit, roundK_ret, List.length_map, List.getElem?_map, Int.toNat_natCast, Int.reduceBNe, Int.reduceBEq, decide_true, decide_false, Bool.not_true, Bool.not_false, List.set, set_0, set_1, set_2, set_3, set_4, look_hit, look, lookD_hit, lookD_cons, lookD_nil, ins_hit, ins, upd_hit, upd, rem1_hit, rem1, dropT, dropSt_eq, initT, cfg_dd, cfg_bd, cfg_ra, actL_nil, actL_cons, act1, updT_hit, updT, frzB, retE_norm, retE_ret, bndO, bnd, evEq, eqCells, Int.reduceEq, Int.reduceLT, Int.reduceLE, Int.reduceGT, Int.reduceGE, not_false_eq_true, not_true_eq_false, toList_some, Array.size_empty, List.length_append, List.map_append, mu21, List.contains_nil, List.contains_cons, Nat.reduceBEq, Bool.or_self, dlt_t, dlt_f, dle_t, dle_f, dgt_t, dgt_f, dge_t, dge_f, beq_t, beq_f, bne_t, bne_f, lt_T, le_T, nle_T, nle_F, ↓wrap_up, ↓wrap_down, ↓wrap_pred, ↓wrap_sub_nat, i64_in, i64_quo, rem_in, Int.reduceToNat]
              refine ⟨by simp [roomFor], [] ++ [⟨0, 0, 0, 0, []⟩], next21 (by simpa using hlt) h2 ⟨ok_zero _ _ _, by simp⟩ (fun h => by simp only [List.length_nil, List.length_cons] at h; first | exact Or.inl rfl | omega), by simp; omega, ?_⟩
              exact (by first | rfl | (refine prep_cut rfl (by rfl) (by rfl) (by rfl) ?_ ?_ <;> simp [AV.underL, AV.under, MB.under, underL_plain, under_plain, plain_ints, plain_span, plain_ins, plain_prg, -List.map_take, underL_insT]))
            · simp +contextual (disch := omega) only [Try.f21, dd21, ty0, ty3, ty4, ty22, ty23, ty39, ty41, ty86, ty108, ↓reduceIte, eq_self, bindW_some, bindW_map, bindW_ite, bindW_iteN, W_seq, W_region, W_draw, W_cond, W_ret, W_skip, W_exit, W_scope, W_label, W_block, blockK_norm, blockK_ret, blockK_exit, WO_nil, WO_cons, WO_guard, WD_nil, WD_cons, WD_guard, guardV, guardW_boolT, guardW_boolF, guardW_tup, fpL_some, fpL_none, footprint, thenK_norm, thenK_ret, thenK_exit, put_some, put_none, ev_tmp, ev_con, ev_func, ofK_int, ofK_bool, ofK_str, ofK_nil, evOp, evBuiltin, evCall, evLen, evAppend, getElem_16, getElem_4, List.length_cons, List.length_nil, List.reduceReplicate, Nat.reduceAdd, Nat.reduceSub, List.cons_append, List.nil_append, List.append_nil, if_false, if_true, Bool.false_eq_true, Bool.true_eq_false, reduceCtorEq, Option.map_some, Option.map_none, List.map_cons, List.map_nil, evBinOp, evBin, evUn, asB_bool, splitB_decide, splitB_true, splitB_false, splitB_beq, splitB_bne, splitB_not, endK_ret, endK_norm, List.getElem?_cons_zero, List.getElem?_cons_succ, evResults, evResult, packRes, retK_norm, retK_ret, cellsAt, mkVal, evFieldAddr, evField, evIndexAddr, evPart, evStore, evBuild, evBuildSlice, fillC, fillE, evSlice, evMakeSlice, evConvert, getRow, AV.cells, List.head?_cons, List.drop_zero, List.drop_succ_cons, List.take_zero, List.take_succ_cons, List.drop_nil, List.take_nil, List.all_cons, List.all_nil, AV.ok, Bool.and_self, Bool.and_true, Bool.true_and, and_self, and_true, true_and, Nat.reduceLeDiff, Nat.reduceMul, Nat.reduceLT, Nat.reduceEqDiff, Nat.zero_add, Nat.add_zero, setCells, splice, pairsOk, FP.apart, heapEq_refl, sameAt_refl, Bool.or_true, Bool.true_or, Bool.or_false, srcElems, elemsOf, mutDst, roundK_norm, roundK_exit, roundK_ret, List.length_map, List.getElem?_map, Int.toNat_natCast, Int.reduceBNe, Int.reduceBEq, decide_true, decide_false, Bool.not_true, Bool.not_false, List.set, set_0, set_1, set_2, set_3, set_4, look_hit, look, lookD_hit, lookD_cons, lookD_nil, ins_hit, ins, upd_hit, upd, rem1_hit, rem1, dropT, dropSt_eq, initT, cfg_dd, cfg_bd, cfg_ra, actL_nil, actL_cons, act1, updT_hit, updT, frzB, retE_norm, retE_ret, bndO, bnd, evEq, eqCells, Int.reduceEq, Int.reduceLT, Int.reduceLE, Int.reduceGT, Int.reduceGE, not_false_eq_true, not_true_eq_false, toList_some, Array.size_empty, List.length_append, List.map_append, mu21, List.contains_nil, List.contains_cons, Nat.reduceBEq, Bool.or_self, dlt_t, dlt_f, dle_t, dle_f, dgt_t, dgt_f, dge_t, dge_f, beq_t, beq_f, bne_t, bne_f, lt_T, le_T, nle_T, nle_F, ↓wrap_up, ↓wrap_down, ↓wrap_pred, ↓wrap_sub_nat, i64_in, i64_quo, rem_in, Int.reduceToNat]
              refine ⟨by simp [roomFor], [] ++ [z], next21 (by simpa using hlt) h2 ⟨hz2, hz1⟩ (fun h => by simp only [List.length_nil, List.length_cons] at h; first | exact Or.inl rfl | omega), by simp; omega, ?_⟩
              exact (by first | rfl | (refine prep_cut rfl (by rfl) (by rfl) (by rfl) ?_ ?_ <;> simp [AV.underL, AV.under, MB.under, underL_plain, under_plain, plain_ints, plain_span, plain_ins, plain_prg, -List.map_take, underL_insT]))
        · simp +contextual (disch := omega) only [Try.f21, dd21, ty0, ty3, ty4, ty22, ty23, ty39, ty41, ty86, ty108, ↓reduceIte, eq_self, bindW_some, bindW_map, bindW_ite, bindW_iteN, W_seq, W_region, W_draw, W_cond, W_ret, W_skip, W_exit, W_scope, W_label, W_block, blockK_norm, blockK_ret, blockK_exit, WO_nil, WO_cons, WO_guard, WD_nil, WD_cons, WD_guard, guardV, guardW_boolT, guardW_boolF, guardW_tup, fpL_some, fpL_none, footprint, thenK_norm, thenK_ret, thenK_exit, put_some, put_none, ev_tmp, ev_con, ev_func, ofK_int, ofK_bool, ofK_str, ofK_nil, evOp, evBuiltin, evCall, evLen, evAppend, getElem_16, getElem_4, List.length_cons, List.length_nil, List.reduceReplicate, Nat.reduceAdd, Nat.reduceSub, List.cons_append, List.nil_append, List.append_nil, if_false, if_true, Bool.false_eq_true, Bool.true_eq_false, reduceCtorEq, Option.map_some, Option.map_none, List.map_cons, List.map_nil, evBinOp, evBin, evUn, asB_bool, splitB_decide, splitB_true, splitB_false, splitB_beq, splitB_bne, splitB_not, endK_ret, endK_norm, List.getElem?_cons_zero, List.getElem?_cons_succ, evResults, evResult, packRes, retK_norm, retK_ret, cellsAt, mkVal, evFieldAddr, evField, evIndexAddr, evPart, evStore, evBuild, evBuildSlice, fillC, fillE, evSlice, evMakeSlice, evConvert, getRow, AV.cells, List.head?_cons, List.drop_zero, List.drop_succ_cons, List.take_zero, List.take_succ_cons, List.drop_nil, List.take_nil, List.all_cons, List.all_nil, AV.ok, Bool.and_self, Bool.and_true, Bool.true_and, and_self, and_true, true_and, Nat.reduceLeDiff, Nat.reduceMul, Nat.reduceLT, Nat.reduceEqDiff, Nat.zero_add, Nat.add_zero, setCells, splice, pairsOk, FP.apart, heapEq_refl, sameAt_refl, Bool.or_true, Bool.true_or, Bool.or_false, srcElems, elemsOf, mutDst, roundK_norm, roundK_exit, roundK_ret, List.length_map, List.getElem?_map, Int.toNat_natCast, Int.reduceBNe, Int.reduceBEq, decide_true, decide_false, Bool.not_true, Bool.not_false, List.set, set_0, set_1, set_2, set_3, set_4, look_hit, look, lookD_hit, lookD_cons, lookD_nil, ins_hit, ins, upd_hit, upd, rem1_hit, rem1, dropT, dropSt_eq, initT, cfg_dd, cfg_bd, cfg_ra, actL_nil, actL_cons, act1, updT_hit, updT, frzB, retE_norm, retE_ret, bndO, bnd, evEq, eqCells, Int.reduceEq, Int.reduceLT, Int.reduceLE, Int.reduceGT, Int.reduceGE, not_false_eq_true, not_true_eq_false, toList_some, Array.size_empty, List.length_append, List.map_append, mu21, List.contains_nil, List.contains_cons, Nat.reduceBEq, Bool.or_self, dlt_t, dlt_f, dle_t, dle_f, dgt_t, dgt_f, dge_t, dge_f, beq_t, beq_f, bne_t, bne_f, lt_T, le_T, nle_T, nle_F, ↓wrap_up, ↓wrap_down, ↓wrap_pred, ↓wrap_sub_nat, i64_in, i64_quo, rem_in, Int.reduceToNat]
          refine ⟨by simp [roomFor], [] ++ [z], next21 (by simpa using hlt) h2 ⟨hz2, hz1⟩ (fun h => by simp only [List.length_nil, List.length_cons] at h; first | exact Or.inl rfl | omega), by simp; omega, ?_⟩
          exact (by first | rfl | (refine prep_cut rfl (by rfl) (by rfl) (by rfl) ?_ ?_ <;> simp [AV.underL, AV.under, MB.under, underL_plain, under_plain, plain_ints, plain_span, plain_ins, plain_prg, -List.map_take, underL_insT]))
    | cons x xs =>
      simp only [T21]
      simp only [List.length_cons] at hPk hlt
      simp +contextual (disch := omega) only [Try.f21, dd21, ty0, ty3, ty4, ty22, ty23, ty39, ty41, ty86, ty108, ↓reduceIte, eq_self, bindW_some, bindW_map, bindW_ite, bindW_iteN, W_seq, W_region, W_draw, W_cond, W_ret, W_skip, W_exit, W_scope, W_label, blockK_norm, blockK_ret, blockK_exit, WO_nil, WO_cons, WO_guard, WD_nil, WD_cons, WD_guard, guardV, guardW_boolT, guardW_boolF, guardW_tup, fpL_some, fpL_none, footprint, thenK_norm, thenK_ret, thenK_exit, put_some, put_none, ev_tmp, ev_con, ev_func, ofK_int, ofK_bool, ofK_str, ofK_nil, evOp, evBuiltin, evCall, evLen, evAppend, getElem_16, getElem_4, List.length_cons, List.length_nil, List.reduceReplicate, Nat.reduceAdd, Nat.reduceSub, List.cons_append, List.nil_append, List.append_nil, if_false, if_true, Bool.false_eq_true, Bool.true_eq_false, reduceCtorEq, Option.map_some, Option.map_none, List.map_cons, List.map_nil, evBinOp, evBin, evUn, asB_bool, splitB_decide, splitB_true, splitB_false, splitB_beq, splitB_bne, splitB_not, endK_ret, endK_norm, List.getElem?_cons_zero, List.getElem?_cons_succ, evResults, evResult, packRes, retK_norm, retK_ret, cellsAt, mkVal, evFieldAddr, evField, evIndexAddr, evPart, evStore, evBuild, evBuildSlice, fillC, fillE, evSlice, evMakeSlice, evConvert, getRow, AV.cells, List.head?_cons, List.drop_zero, List.drop_succ_cons, List.take_zero, List.take_succ_cons, List.drop_nil, List.take_nil, List.all_cons, List.all_nil, AV.ok, Bool.and_self, Bool.and_true, Bool.true_and, and_self, and_true, true_and, Nat.reduceLeDiff, Nat.reduceMul, Nat.reduceLT, Nat.reduceEqDiff, Nat.zero_add, Nat.add_zero, setCells, splice, pairsOk, FP.apart, heapEq_refl, sameAt_refl, Bool.or_true, Bool.true_or, Bool.or_false, srcElems, elemsOf, mutDst, roundK_norm, roundK_exit, roundK_ret, List.length_map, List.getElem?_map, Int.toNat_natCast, Int.reduceBNe, Int.reduceBEq, decide_true, decide_false, Bool.not_true, Bool.not_false, List.set, set_0, set_1, set_2, set_3, set_4, look_hit, look, lookD_hit, lookD_cons, lookD_nil, ins_hit, ins, upd_hit, upd, rem1_hit, rem1, dropT, dropSt_eq, initT, cfg_dd, cfg_bd, cfg_ra, actL_nil, actL_cons, act1, updT_hit, updT, frzB, retE_norm, retE_ret, bndO, bnd, evEq, eqCells, Int.reduceEq, Int.reduceLT, Int.reduceLE, Int.reduceGT, Int.reduceGE, not_false_eq_true, not_true_eq_false, toList_some, Array.size_empty, List.length_append, List.map_append, mu21, List.contains_nil, List.contains_cons, Nat.reduceBEq, Bool.or_self, dlt_t, dlt_f, dle_t, dle_f, dgt_t, dgt_f, dge_t, dge_f, beq_t, beq_f, bne_t, bne_f, lt_T, le_T, nle_T, nle_F, ↓wrap_up, ↓wrap_down, ↓wrap_pred, ↓wrap_sub_nat, i64_in, i64_quo, rem_in, Int.reduceToNat, W_block (id := 1), hPk]
      refine W_cut (fun s => ∃ z : Ins, z.set.length ≤ 1 ∧ okIns n caps runes z = true ∧ s = ⟨119, [(7, .rf 4 1 0 0), (5, I ((xs.length + 1 : Nat) : Int)), (4, .rf 1 1 0 0), (3, I n), (2, .rf 0 1 0 0), (0, .sl false (l.map I))],
        [.row 3 [.agg [.sl true [], I 0, .bool false]] 0, .row 3 [.agg [.ms 3 5 (xs.length + 1) 0 (xs.length + 1), I caps, .bool runes]] 0, .row 5 [insAVt x] 0, .row 5 (insAVt x :: xs.map insAVt) 0, .row 5 [insAVt z] 0]⟩) ?_ ?_
      · simp +contextual (disch := omega) only [Try.f21, dd21, ty0, ty3, ty4, ty22, ty23, ty39, ty41, ty86, ty108, ↓reduceIte, eq_self, bindW_some, bindW_map, bindW_ite, bindW_iteN, W_seq, W_region, W_draw, W_cond, W_ret, W_skip, W_exit, W_scope, W_label, W_block, blockK_norm, blockK_ret, blockK_exit, WO_nil, WO_cons, WO_guard, WD_nil, WD_cons, WD_guard, guardV, guardW_boolT, guardW_boolF, guardW_tup, fpL_some, fpL_none, footprint, thenK_norm, thenK_ret, thenK_exit, put_some, put_none, ev_tmp, ev_con, ev_func, ofK_int, ofK_bool, ofK_str, ofK_nil, evOp, evBuiltin, evCall, evLen, evAppend, getElem_16, getElem_4, List.length_cons, List.length_nil, List.reduceReplicate, Nat.reduceAdd, Nat.reduceSub, List.cons_append, List.nil_append, List.append_nil, if_false, if_true, Bool.false_eq_true, Bool.true_eq_false, reduceCtorEq, Option.map_some, Option.map_none, List.map_cons, List.map_nil, evBinOp, evBin, evUn, asB_bool, splitB_decide, splitB_true, splitB_false, splitB_beq, splitB_bne, splitB_not, endK_ret, endK_norm, List.getElem?_cons_zero, List.getElem?_cons_succ, evResults, evResult, packRes, retK_norm, retK_ret, cellsAt, mkVal, evFieldAddr, evField, evIndexAddr, evPart, evStore, evBuild, evBuildSlice, fillC, fillE, evSlice, evMakeSlice, evConvert, getRow, AV.cells, List.head?_cons, List.drop_zero, List.drop_succ_cons, List.take_zero, List.take_succ_cons, List.drop_nil, List.take_nil, List.all_cons, List.all_nil, AV.ok, Bool.and_self, Bool.and_true, Bool.true_and, and_self, and_true, true_and, Nat.reduceLeDiff, Nat.reduceMul, Nat.reduceLT, Nat.reduceEqDiff, Nat.zero_add, Nat.add_zero, setCells, splice, pairsOk, FP.apart, heapEq_refl, sameAt_refl, Bool.or_true, Bool.true_or, Bool.or_false, srcElems, elemsOf, mutDst, roundK_norm, roundK_exit, roundK_ret, List.length_map, List.getElem?_map, Int.toNat_natCast, Int.reduceBNe, Int.reduceBEq, decide_true, decide_false, Bool.not_true, Bool.not_false, List.set, set_0, set_1, set_2, set_3, set_4, look_hit, look, lookD_hit, lookD_cons, lookD_nil, ins_hit, ins, upd_hit, upd, rem1_hit, rem1, dropT, dropSt_eq, initT, cfg_dd, cfg_bd, cfg_ra, actL_nil, actL_cons, act1, updT_hit, updT, frzB, retE_norm, retE_ret, bndO, bnd, evEq, eqCells, Int.reduceEq, Int.reduceLT, Int.reduceLE, Int.reduceGT, Int.reduceGE, not_false_eq_true, not_true_eq_false, toList_some, Array.size_empty, List.length_append, List.map_append, mu21, List.contains_nil, List.contains_cons, Nat.reduceBEq, Bool.or_self, dlt_t, dlt_f, dle_t, dle_f, dgt_t, dgt_f, dge_t, dge_f, beq_t, beq_f, bne_t, bne_f, lt_T, le_T, nle_T, nle_F, ↓wrap_up, ↓wrap_down, ↓wrap_pred, ↓wrap_sub_nat, i64_in, i64_quo, rem_in, Int.reduceToNat, cut_norm]
        repeat' (first | intro _ | apply And.intro)
        all_goals first
          | omega
          | (unfold dOk; kernel_rfl)
          | kernel_rfl
          | (refine ⟨⟨_, _, _, _, []⟩, ?_, ?_, rfl⟩ <;> simp [okIns, refSpans, badAt, lastOk, hm1, hm2] <;> done)
          | (refine ⟨⟨_, _, _, _, []⟩, ?_, ?_, rfl⟩ <;> simp [okIns, refSpans, badAt, lastOk, hm1, hm2] <;> omega)
          | (refine ⟨⟨_, _, _, _, []⟩, ?_, ?_, rfl⟩
             · simp
             · have q := hm3 (k / 8) (by omega)
               simp [okIns, refSpans, badAt, lastOk]
               omega)
          | (refine ⟨⟨_, _, _, _, [(97, _)]⟩, ?_, ?_, rfl⟩
             · simp
             · simp [okIns, refSpans, badAt, lastOk]
               (try split) <;> omega)
      · rintro _ ⟨z, hz1, hz2, rfl⟩
        have hop := okIns_op hz2
        by_cases h1n : xs.length + 1 + 1 = n
        · by_cases ha : z.op = 1
          · simp +contextual (disch := omega) only [Try.f21, dd21, ty0, ty3, ty4, ty22, ty23, ty39, ty41, ty86, ty108, ↓reduceIte, eq_self, bindW_some, bindW_map, bindW_ite, bindW_iteN, W_seq, W_region, W_draw, W_cond, W_ret, W_skip, W_exit, W_scope, W_label, W_block, blockK_norm, blockK_ret, blockK_exit, WO_nil, WO_cons, WO_guard, WD_nil, WD_cons, WD_guard, guardV, guardW_boolT, guardW_boolF, guardW_tup, fpL_some, fpL_none, footprint, thenK_norm, thenK_ret, thenK_exit, put_some, put_none, ev_tmp, ev_con, ev_func, ofK_int, ofK_bool, ofK_str, ofK_nil, evOp, evBuiltin, evCall, evLen, evAppend, getElem_16, getElem_4, List.length_cons, List.length_nil, List.reduceReplicate, Nat.reduceAdd, Nat.reduceSub, List.cons_append, List.nil_append, List.append_nil, if_false, if_true, Bool.false_eq_true, Bool.true_eq_false, reduceCtorEq, Option.map_some, Option.map_none, List.map_cons, List.map_nil, evBinOp, evBin, evUn, asB_bool, splitB_decide, splitB_true, splitB_false, splitB_beq, splitB_bne, splitB_not, endK_ret, endK_norm, List.getElem?_cons_zero, List.getElem?_cons_succ, evResults, evResult, packRes, retK_norm, retK_ret, cellsAt, mkVal, evFieldAddr, evField, evIndexAddr, evPart, evStore, evBuild, evBuildSlice, fillC, fillE, evSlice, evMakeSlice, evConvert, getRow, AV.cells, List.head?_cons, List.drop_zero, List.drop_succ_cons, List.take_zero, List.take_succ_cons, List.drop_nil, List.take_nil, List.all_cons, List.all_nil, AV.ok, Bool.and_self, Bool.and_true, Bool.true_and, and_self, and_true, true_and, Nat.reduceLeDiff, Nat.reduceMul, Nat.reduceLT, Nat.reduceEqDiff, Nat.zero_add, Nat.add_zero, setCells, splice, pairsOk, FP.apart, heapEq_refl, sameAt_refl, Bool.or_true, Bool.true_or, Bool.or_false, srcElems, elemsOf, mutDst, roundK_norm, roundK_exit, roundK_ret, List.length_map, List.getElem?_map, Int.toNat_natCast, Int.reduceBNe, Int.reduceBEq, decide_true, decide_false, Bool.not_true, Bool.not_false, List.set, set_0, set_1, set_2, set_3, set_4, look_hit, look, lookD_hit, lookD_cons, lookD_nil, ins_hit, ins, upd_hit, upd, rem1_hit, rem1, dropT, dropSt_eq, initT, cfg_dd, cfg_bd, cfg_ra, actL_nil, actL_cons, act1, updT_hit, updT, frzB, retE_norm, retE_ret, bndO, bnd, evEq, eqCells, Int.reduceEq, Int.reduceLT, Int.reduceLE, Int.reduceGT, Int.reduceGE, not_false_eq_true, not_true_eq_false, toList_some, Array.size_empty, List.length_append, List.map_append, mu21, List.contains_nil, List.contains_cons, Nat.reduceBEq, Bool.or_self, dlt_t, dlt_f, dle_t, dle_f, dgt_t, dgt_f, dge_t, dge_f, beq_t, beq_f, bne_t, bne_f, lt_T, le_T, nle_T, nle_F, ↓wrap_up, ↓wrap_down, ↓wrap_pred, ↓wrap_sub_nat, i64_in, i64_quo, rem_in, Int.reduceToNat]
            refine ⟨by simp [roomFor]; omega, (x :: xs) ++ [⟨0, 0, 0, 0, []⟩], next21 (by simpa using hlt) h2 ⟨ok_zero _ _ _, by simp⟩ (fun h => by simp only [List.length_nil, List.length_cons] at h; first | exact Or.inl rfl | omega), by simp; omega, ?_⟩
            simp only [List.cons_append, T21, List.length_append, List.length_cons, List.length_nil, Nat.zero_add]
            refine prep_cut (n := 4) rfl (by rfl) rfl ?_ ?_ ?_
            · simp [List.take_of_length_le]
            · simp [AV.underL, AV.under, underL_plain, plain_ints]
            · simp [AV.underL, AV.under, MB.under, underL_plain, plain_span, underL_insT, underL_append]
          · by_cases hb : 4 ≤ z.op
            · simp +contextual (disch := omega) only [Try.f21, dd21, ty0, ty3, ty4, ty22, ty23, ty39, ty41, ty86, ty108, ↓reduceIte, eq_self, bindW_some, bindW_map, bindW_ite, bindW_iteN, W_seq, W_region, W_draw, W_cond, W_ret, W_skip, W_exit, W_scope, W_label, W_block, blockK_norm, blockK_ret, blockK_exit, WO_nil, WO_cons, WO_guard, WD_nil, WD_cons, WD_guard, guardV, guardW_boolT, guardW_boolF, guardW_tup, fpL_some, fpL_none, footprint, thenK_norm, thenK_ret, thenK_exit, put_some, put_none, ev_tmp, ev_con, ev_func, ofK_int, ofK_bool, ofK_str, ofK_nil, evOp, evBuiltin, evCall, evLen, evAppend, getElem_16, getElem_4, List.length_cons, List.length_nil, List.reduceReplicate, Nat.reduceAdd, Nat.reduceSub, List.cons_append, List.nil_append, List.append_nil, if_false, if_true, Bool.false_eq_true, Bool.true_eq_false, reduceCtorEq, Option.map_some, Option.map_none, List.map_cons, List.map_nil, evBinOp, evBin, evUn, asB_bool, splitB_decide, splitB_true, splitB_false, splitB_beq, splitB_bne, splitB_not, endK_ret, endK_norm, List.getElem?_cons_zero, List.getElem?_cons_succ, evResults, evResult, packRes, retK_norm, retK_ret, cellsAt, mkVal, evFieldAddr, evField, evIndexAddr, evPart, evStore, evBuild, evBuildSlice, fillC, fillE, evSlice, evMakeSlice, evConvert, getRow, AV.cells, List.head?_cons, List.drop_zero, List.drop_succ_cons, List.take_zero, List.take_succ_cons, List.drop_nil, List.take_nil, List.all_cons, List.all_nil, AV.ok, Bool.and_self, Bool.and_true, Bool.true_and, and_self, and_true, true_and, Nat.reduceLeDiff, Nat.reduceMul, Nat.reduceLT, Nat.reduceEqDiff, Nat.zero_add, Nat.add_zero, setCells, splice, pairsOk, FP.apart, heapEq_refl, sameAt_refl, Bool.or_true, Bool.true_or, Bool.or_false, srcElems, elemsOf, mutDst, roundK_norm, roundK_exit, roundK_ret, List.length_map, List.getElem?_map, Int.toNat_natCast, Int.reduceBNe, Int.reduceBEq, decide_true, decide_false, Bool.not_true, Bool.not_false, List.set, set_0, set_1, set_2, set_3, set_4, look_hit, look, lookD_hit, lookD_cons, lookD_nil, ins_hit, ins, upd_hit, upd, rem1_hit, rem1, dropT, dropSt_eq, initT, cfg_dd, cfg_bd, cfg_ra, actL_nil, actL_cons, act1, updT_hit, updT, frzB, retE_norm, retE_ret, bndO, bnd, evEq, eqCells, Int.reduceEq, Int.reduceLT, Int.reduceLE, Int.reduceGT, Int.reduceGE, not_false_eq_true, not_true_eq_false, toList_some, Array.size_empty, List.length_append, List.map_append, mu21, List.contains_nil, List.contains_cons, Nat.reduceBEq, Bool.or_self, dlt_t, dlt_f, dle_t, dle_f, dgt_t, dgt_f, dge_t, dge_f, beq_t, beq_f, bne_t, bne_f, lt_T, le_T, nle_T, nle_F, ↓wrap_up, ↓wrap_down, ↓wrap_pred, ↓wrap_sub_nat, i64_in, i64_quo, rem_in, Int.reduceToNat]
              refine ⟨by simp [roomFor]; omega, (x :: xs) ++ [⟨0, 0, 0, 0, []⟩], next21 (by simpa using hlt) h2 ⟨ok_zero _ _ _, by simp⟩ (fun h => by simp only [List.length_nil, List.length_cons] at h; first | exact Or.inl rfl | omega), by simp; omega, ?_⟩
              simp only [List.cons_append, T21, List.length_append, List.length_cons, List.length_nil, Nat.zero_add]
              refine prep_cut (n := 4) rfl (by rfl) rfl ?_ ?_ ?_
              · simp [List.take_of_length_le]
              · simp [AV.underL, AV.under, underL_plain, plain_ints]
              · simp [AV.underL, AV.under, MB.under, underL_plain, plain_span, underL_insT, underL_append]
            · simp +contextual (disch := omega) only [Try.f21, dd21, ty0, ty3, ty4, ty22, ty23, ty39, ty41, ty86, ty108, ↓reduceIte, eq_self, bindW_some, bindW_map, bindW_ite, bindW_iteN, W_seq, W_region, W_draw, W_cond, W_ret, W_skip, W_exit, W_scope, W_label, W_block, blockK_norm, blockK_ret, blockK_exit, WO_nil, WO_cons, WO_guard, WD_nil, WD_cons, WD_guard, guardV, guardW_boolT, guardW_boolF, guardW_tup, fpL_some, fpL_none, footprint, thenK_norm, thenK_ret, thenK_exit, put_some, put_none, ev_tmp, ev_con, ev_func, ofK_int, ofK_bool, ofK_str, ofK_nil, evOp, evBuiltin, evCall, evLen, evAppend, getElem_16, getElem_4, List.length_cons, List.length_nil, List.reduceReplicate, Nat.reduceAdd, Nat.reduceSub, List.cons_append, List.nil_append, List.append_nil, if_false, if_true, Bool.false_eq_true, Bool.true_eq_false, reduceCtorEq, Option.map_some, Option.map_none, List.map_cons, List.map_nil, evBinOp, evBin, evUn, asB_bool, splitB_decide, splitB_true, splitB_false, splitB_beq, splitB_bne, splitB_not, endK_ret, endK_norm, List.getElem?_cons_zero, List.getElem?_cons_succ, evResults, evResult, packRes, retK_norm, retK_ret, cellsAt, mkVal, evFieldAddr, evField, evIndexAddr, evPart, evStore, evBuild, evBuildSlice, fillC, fillE, evSlice, evMakeSlice, evConvert, getRow, AV.cells, List.head?_cons, List.drop_zero, List.drop_succ_cons, List.take_zero, List.take_succ_cons, List.drop_nil, List.take_nil, List.all_cons, List.all_nil, AV.ok, Bool.and_self, Bool.and_true, Bool.true_and, and_self, and_true, true_and, Nat.reduceLeDiff, Nat.reduceMul, Nat.reduceLT, Nat.reduceEqDiff, Nat.zero_add, Nat.add_zero, setCells, splice, pairsOk, FP.apart, heapEq_refl, sameAt_refl, Bool.or_true, Bool.true_or, Bool.or_false, srcElems, elemsOf, mutDst, roundK_norm, roundK_exit, roundK_ret, List.length_map, List.getElem?_map, Int.toNat_natCast, Int.reduceBNe, Int.reduceBEq, decide_true, decide_false, Bool.not_true, Bool.not_false, List.set, set_0, set_1, set_2, set_3, set_4, look_hit, look, lookD_hit, lookD_cons, lookD_nil, ins_hit, ins, upd_hit, upd, rem1_hit, rem1, dropT, dropSt_eq, initT, cfg_dd, cfg_bd, cfg_ra, actL_nil, actL_cons, act1, updT_hit, updT, frzB, retE_norm, retE_ret, bndO, bnd, evEq, eqCells, Int.reduceEq, Int.reduceLT, Int.reduceLE, Int.reduceGT, Int.reduceGE, not_false_eq_true, not_true_eq_false, toList_some, Array.size_empty, List.length_append, List.map_append, mu21, List.contains_nil, List.contains_cons, Nat.reduceBEq, Bool.or_self, dlt_t, dlt_f, dle_t, dle_f, dgt_t, dgt_f, dge_t, dge_f, beq_t, beq_f, bne_t, bne_f, lt_T, le_T, nle_T, nle_F, ↓wrap_up, ↓wrap_down, ↓wrap_pred, ↓wrap_sub_nat, i64_in, i64_quo, rem_in, Int.reduceToNat]
              refine ⟨by simp [roomFor]; omega, (x :: xs) ++ [z], next21 (by simpa using hlt) h2 ⟨hz2, hz1⟩ (fun h => by simp only [List.length_nil, List.length_cons] at h; first | exact Or.inl rfl | omega), by simp; omega, ?_⟩
              simp only [List.cons_append, T21, List.length_append, List.length_cons, List.length_nil, Nat.zero_add]
              refine prep_cut (n := 4) rfl (by rfl) rfl ?_ ?_ ?_
              · simp [List.take_of_length_le]
              · simp [AV.underL, AV.under, underL_plain, plain_ints]
              · simp [AV.underL, AV.under, MB.under, underL_plain, plain_span, underL_insT, underL_append]
        · simp +contextual (disch := omega) only [Try.f21, dd21, ty0, ty3, ty4, ty22, ty23, ty39, ty41, ty86, ty108, ↓reduceIte, eq_self, bindW_some, bindW_map, bindW_ite, bindW_iteN, W_seq, W_region, W_draw, W_cond, W_ret, W_skip, W_exit, W_scope, W_label, W_block, blockK_norm, blockK_ret, blockK_exit, WO_nil, WO_cons, WO_guard, WD_nil, WD_cons, WD_guard, guardV, guardW_boolT, guardW_boolF, guardW_tup, fpL_some, fpL_none, footprint, thenK_norm, thenK_ret, thenK_exit, put_some, put_none, ev_tmp, ev_con, ev_func, ofK_int, ofK_bool, ofK_str, ofK_nil, evOp, evBuiltin, evCall, evLen, evAppend, getElem_16, getElem_4, List.length_cons, List.length_nil, List.reduceReplicate, Nat.reduceAdd, Nat.reduceSub, List.cons_append, List.nil_append, List.append_nil, if_false, if_true, Bool.false_eq_true, Bool.true_eq_false, reduceCtorEq, Option.map_some, Option.map_none, List.map_cons, List.map_nil, evBinOp, evBin, evUn, asB_bool, splitB_decide, splitB_true, splitB_false, splitB_beq, splitB_bne, splitB_not, endK_ret, endK_norm, List.getElem?_cons_zero, List.getElem?_cons_succ, evResults, evResult, packRes, retK_norm, retK_ret, cellsAt, mkVal, evFieldAddr, evField, evIndexAddr, evPart, evStore, evBuild, evBuildSlice, fillC, fillE, evSlice, evMakeSlice, evConvert, getRow, AV.cells, List.head?_cons, List.drop_zero, List.drop_succ_cons, List.take_zero, List.take_succ_cons, List.drop_nil, List.take_nil, List.all_cons, List.all_nil, AV.ok, Bool.and_self, Bool.and_true, Bool.true_and, and_self, and_true, true_and, Nat.reduceLeDiff, Nat.reduceMul, Nat.reduceLT, Nat.reduceEqDiff, Nat.zero_add, Nat.add_zero, setCells, splice, pairsOk, FP.apart, heapEq_refl, sameAt_refl, Bool.or_true, Bool.true_or, Bool.or_false, srcElems, elemsOf, mutDst, roundK_norm, roundK_exit, roundK_ret, List.length_map, List.getElem?_map, Int.toNat_natCast, Int.reduceBNe, Int.reduceBEq, decide_true, decide_false, Bool.not_true, Bool.not_false, List.set, set_0, set_1, set_2, set_3, set_4, look_hit, look, lookD_hit, lookD_cons, lookD_nil, ins_hit, ins, upd_hit, upd, rem1_hit, rem1, dropT, dropSt_eq, initT, cfg_dd, cfg_bd, cfg_ra, actL_nil, actL_cons, act1, updT_hit, updT, frzB, retE_norm, retE_ret, bndO, bnd, evEq, eqCells, Int.reduceEq, Int.reduceLT, Int.reduceLE, Int.reduceGT, Int.reduceGE, not_false_eq_true, not_true_eq_false, toList_some, Array.size_empty, List.length_append, List.map_append, mu21, List.contains_nil, List.contains_cons, Nat.reduceBEq, Bool.or_self, dlt_t, dlt_f, dle_t, dle_f, dgt_t, dgt_f, dge_t, dge_f, beq_t, beq_f, bne_t, bne_f, lt_T, le_T, nle_T, nle_F, ↓wrap_up, ↓wrap_down, ↓wrap_pred, ↓wrap_sub_nat, i64_in, i64_quo, rem_in, Int.reduceToNat]
          refine ⟨by simp [roomFor]; omega, (x :: xs) ++ [z], next21 (by simpa using hlt) h2 ⟨hz2, hz1⟩ (fun h => by simp only [List.length_nil, List.length_cons] at h; first | exact Or.inl rfl | omega), by simp; omega, ?_⟩
          simp only [List.cons_append, T21, List.length_append, List.length_cons, List.length_nil, Nat.zero_add]
          refine prep_cut (n := 4) rfl (by rfl) rfl ?_ ?_ ?_
          · simp [List.take_of_length_le]
          · simp [AV.underL, AV.under, underL_plain, plain_ints]
          · simp [AV.underL, AV.under, MB.under, underL_plain, plain_span, underL_insT, underL_append]
  · have hn' : xs.length = n := by omega
    cases xs with
    | nil => simp at hn'; omega
    | cons x xs =>
      simp only [T21]
      simp only [List.length_cons] at hn'
      simp +contextual (disch := omega) only [Try.f21, dd21, ty0, ty3, ty4, ty22, ty23, ty39, ty41, ty86, ty108, ↓reduceIte, eq_self, bindW_some, bindW_map, bindW_ite, bindW_iteN, W_seq, W_region, W_draw, W_cond, W_ret, W_skip, W_exit, W_scope, W_label, W_block, blockK_norm, blockK_ret, blockK_exit, WO_nil, WO_cons, WO_guard, WD_nil, WD_cons, WD_guard, guardV, guardW_boolT, guardW_boolF, guardW_tup, fpL_some, fpL_none, footprint, thenK_norm, thenK_ret, thenK_exit, put_some, put_none, ev_tmp, ev_con, ev_func, ofK_int, ofK_bool, ofK_str, ofK_nil, evOp, evBuiltin, evCall, evLen, evAppend, getElem_16, getElem_4, List.length_cons, List.length_nil, List.reduceReplicate, Nat.reduceAdd, Nat.reduceSub, List.cons_append, List.nil_append, List.append_nil, if_false, if_true, Bool.false_eq_true, Bool.true_eq_false, reduceCtorEq, Option.map_some, Option.map_none, List.map_cons, List.map_nil, evBinOp, evBin, evUn, asB_bool, splitB_decide, splitB_true, splitB_false, splitB_beq, splitB_bne, splitB_not, endK_ret, endK_norm, List.getElem?_cons_zero, List.getElem?_cons_succ, evResults, evResult, packRes, retK_norm, retK_ret, cellsAt, mkVal, evFieldAddr, evField, evIndexAddr, evPart, evStore, evBuild, evBuildSlice, fillC, fillE, evSlice, evMakeSlice, evConvert, getRow, AV.cells, List.head?_cons, List.drop_zero, List.drop_succ_cons, List.take_zero, List.take_succ_cons, List.drop_nil, List.take_nil, List.all_cons, List.all_nil, AV.ok, Bool.and_self, Bool.and_true, Bool.true_and, and_self, and_true, true_and, Nat.reduceLeDiff, Nat.reduceMul, Nat.reduceLT, Nat.reduceEqDiff, Nat.zero_add, Nat.add_zero, setCells, splice, pairsOk, FP.apart, heapEq_refl, sameAt_refl, Bool.or_true, Bool.true_or, Bool.or_false, srcElems, elemsOf, mutDst, roundK_norm, roundK_exit, roundK_ret, List.length_map, List.getElem?_map, Int.toNat_natCast, Int.reduceBNe, Int.reduceBEq, decide_true, decide_false, Bool.not_true, Bool.not_false, List.set, set_0, set_1, set_2, set_3, set_4, look_hit, look, lookD_hit, lookD_cons, lookD_nil, ins_hit, ins, upd_hit, upd, rem1_hit, rem1, dropT, dropSt_eq, initT, cfg_dd, cfg_bd, cfg_ra, actL_nil, actL_cons, act1, updT_hit, updT, frzB, retE_norm, retE_ret, bndO, bnd, evEq, eqCells, Int.reduceEq, Int.reduceLT, Int.reduceLE, Int.reduceGT, Int.reduceGE, not_false_eq_true, not_true_eq_false, toList_some, Array.size_empty, List.length_append, List.map_append, mu21, List.contains_nil, List.contains_cons, Nat.reduceBEq, Bool.or_self, dlt_t, dlt_f, dle_t, dle_f, dgt_t, dgt_f, dge_t, dge_f, beq_t, beq_f, bne_t, bne_f, lt_T, le_T, nle_T, nle_F, ↓wrap_up, ↓wrap_down, ↓wrap_pred, ↓wrap_sub_nat, i64_in, i64_quo, rem_in, Int.reduceToNat]
      exact ⟨_, ⟨⟨x :: xs, caps, runes⟩, ⟨by simp; omega, by simp only []; omega, fun i hi => by simp only [List.length_cons, hn']; exact (h2 i hi).1, h3 hn', fun i hi => (h2 i hi).2⟩, rfl⟩, fz_allT (ins := x :: xs) rfl (by simp)⟩
end Go.Ev
namespace Go.Ev
open Go.Proofs Go.RowKit Go.IntWalk
set_option maxRecDepth 100000
set_option linter.unusedSimpArgs false
set_option linter.unusedVariables false
set_option maxHeartbeats 8000000

theorem f25e (g : Prg) (hb : PrgB g) (t : List Int) (ht : t.length ≤ 1000000000) (pos most fuel : Int) (he : checkG g t.length pos most fuel ≠ 0) (H : List MB) :
    call Try.prog pol1 25 [.agg [.sl false (g.ins.map insAV), I g.caps, .bool g.runes], .sl false (t.map I), I pos, I most, I fuel] H = some (.tup [.sl false [], I (checkG g t.length pos most fuel)], H) := by
  refine call_run Try.func25 rfl rfl rfl rfl rfl rfl (fun _ => rfl) (by simp [AV.plain, AV.plainL, plain_ints, plain_span, plain_ins, plain_prg]) (by simp [AV.plain, AV.plainL, plain_ints, plain_span, plain_ins, plain_prg]) ?_ H
  have hc := f62 g hb t ht pos most fuel
  generalize checkG g t.length pos most fuel = c at *
  simp +contextual (disch := omega) only [Try.f25, dd25, ty0, ty3, ty4, ty22, ty23, ty36, ty39, ty41, ty53, ty108, ty112, ty129, ty130, ↓reduceIte, eq_self, bindW_some, bindW_map, bindW_ite, bindW_iteN, W_seq, W_region, W_draw, W_cond, W_ret, W_skip, W_exit, W_scope, W_label, W_block, blockK_norm, blockK_ret, blockK_exit, WO_nil, WO_cons, WO_guard, WD_nil, WD_cons, WD_guard, guardV, guardW_boolT, guardW_boolF, guardW_tup, fpL_some, fpL_none, footprint, thenK_norm, thenK_ret, thenK_exit, put_some, put_none, ev_tmp, ev_con, ev_func, ofK_int, ofK_bool, ofK_str, ofK_nil, evOp, evBuiltin, evCall, evLen, evAppend, getElem_16, getElem_4, List.length_cons, List.length_nil, List.reduceReplicate, Nat.reduceAdd, Nat.reduceSub, List.cons_append, List.nil_append, List.append_nil, if_false, if_true, Bool.false_eq_true, Bool.true_eq_false, reduceCtorEq, Option.map_some, Option.map_none, List.map_cons, List.map_nil, evBinOp, evBin, evUn, asB_bool, splitB_decide, splitB_true, splitB_false, splitB_beq, splitB_bne, splitB_not, endK_ret, endK_norm, List.getElem?_cons_zero, List.getElem?_cons_succ, evResults, evResult, packRes, retK_norm, retK_ret, cellsAt, mkVal, evFieldAddr, evField, evIndexAddr, evPart, evStore, evBuild, evBuildSlice, fillC, fillE, evSlice, evMakeSlice, evConvert, getRow, AV.cells, List.head?_cons, List.drop_zero, List.drop_succ_cons, List.take_zero, List.take_succ_cons, List.drop_nil, List.take_nil, List.all_cons, List.all_nil, AV.ok, Bool.and_self, Bool.and_true, Bool.true_and, and_self, and_true, true_and, Nat.reduceLeDiff, Nat.reduceMul, Nat.reduceLT, Nat.reduceEqDiff, Nat.zero_add, Nat.add_zero, setCells, splice, pairsOk, FP.apart, heapEq_refl, sameAt_refl, Bool.or_true, Bool.true_or, Bool.or_false, srcElems, elemsOf, mutDst, roundK_norm, roundK_exit, roundK_ret, List.length_map, List.getElem?_map, Int.toNat_natCast, Int.reduceBNe, Int.reduceBEq, decide_true, decide_false, Bool.not_true, Bool.not_false, List.set, set_0, set_1, set_2, set_3, set_4, look_hit, look, lookD_hit, lookD_cons, lookD_nil, ins_hit, ins, upd_hit, upd, rem1_hit, rem1, dropT, dropSt_eq, initT, cfg_dd, cfg_bd, cfg_ra, actL_nil, actL_cons, act1, updT_hit, updT, frzB, retE_norm, retE_ret, bndO, bnd, evEq, eqCells, Int.reduceEq, Int.reduceLT, Int.reduceLE, Int.reduceGT, Int.reduceGE, not_false_eq_true, not_true_eq_false, toList_some, Array.size_empty, List.length_append, List.map_append, tySzE, List.head?_drop, Nat.mul_one, sameAt_zero, sameAt_two, sameAt_three, sameAt_four, sameAt_five, mu25, List.contains_nil, List.contains_cons, Nat.reduceBEq, Bool.or_self, dlt_t, dlt_f, dle_t, dle_f, dgt_t, dgt_f, dge_t, dge_f, beq_t, beq_f, bne_t, bne_f, lt_T, le_T, nle_T, nle_F, ↓wrap_up, ↓wrap_down, ↓wrap_pred, ↓wrap_sub_nat, i64_in, i64_quo, rem_in, Int.reduceToNat, room_ok, hc]
  exact ⟨_, rfl⟩

theorem step_pc {g : Prg} (h : Okay g) {t : List Int} {w : Way} (hw : w.pc < g.ins.length) {l : List Way} (hs : stepW (progOf g t) w = .ways l) : ∀ v ∈ l, v.pc < g.ins.length := by
  obtain ⟨i, hi⟩ : ∃ i, g.ins[w.pc]? = some i := ⟨_, List.getElem?_eq_getElem hw⟩
  have hok := h.ok i (List.mem_of_getElem? hi)
  have hf := ok_facts hok
  have hop := okIns_op hok
  have hn := h.next hi
  have hp : (progOf g t).ins w.pc = some i := hi
  simp only [stepW, hp] at hs
  repeat' split at hs
  all_goals first
    | (cases hs; done)
    | (cases hs; intro v hv; simp at hv; done)
    | (cases hs; intro v hv; rw [List.mem_singleton.1 hv]; exact hn (by omega))
    | (cases hs; rename_i e; have := hf.2.1 e; intro v hv; rw [List.mem_singleton.1 hv]; show i.x.toNat < _; omega)
    | (cases hs; rename_i e; have := hf.1 e; intro v hv; rcases List.mem_cons.1 hv with e | e
       · rw [e]; show i.x.toNat < _; omega
       · rw [List.mem_singleton.1 e]; show i.y.toNat < _; omega)

/-- What Paths returns: the matches, the error. -/
def resP (g : Prg) (t : List Int) (pos most fuel : Int) : List M3 × Int :=
  if checkG g t.length pos most fuel ≠ 0 then ([], checkG g t.length pos most fuel)
  else match runW (progOf g t) most fuel.toNat [⟨0, pos.toNat, List.replicate (2 * g.caps.toNat) (-1)⟩] [] with
    | some out => (out.map (matOf pos g.caps.toNat), 0)
    | none => ([], 11)
abbrev resPA (r : List M3 × Int) : AV := .tup [.sl false (r.1.map mA), I r.2]

theorem resA_eq (pos : Int) (n : Nat) (o : Option (List Way)) : resA pos n o = match matsOf pos n o with
    | some l => .tup [.sl false (l.map mA), I 0]
    | none => .tup [.sl false [], I 11] := by
  cases o with
  | none => rfl
  | some out =>
    simp only [resA, matsOf, Option.map_some, List.map_map]
    rfl

theorem paths25 (g : Prg) (hb : PrgB g) (t : List Int) (ht : t.length ≤ 1000000000) (pos most fuel : Int) (hf : fuel ≤ 1000000) (H : List MB) :
    call Try.prog pol1 25 [.agg [.sl false (g.ins.map insAV), I g.caps, .bool g.runes], .sl false (t.map I), I pos, I most, I fuel] H = some (resPA (resP g t pos most fuel), H) := by
  by_cases hc : checkG g t.length pos most fuel = 0
  · have hv : validG g = 0 := by
      unfold checkG at hc
      split at hc
      · rename_i h; exact absurd hc h
      · rename_i h; simpa using h
    have hk := (okay_of hv).caps
    have h1 := f25 g hb t pos most fuel g.caps.toNat (by omega) hc hf H
    rw [show prgAV g = .agg [.sl false (g.ins.map insAV), I g.caps, .bool g.runes] from rfl] at h1
    rw [h1, resA_eq]
    unfold resP
    rw [if_neg (by simp [hc])]
    cases runW (progOf g t) most fuel.toNat [⟨0, pos.toNat, List.replicate (2 * g.caps.toNat) (-1)⟩] [] <;> rfl
  · rw [f25e g hb t ht pos most fuel hc H]
    unfold resP
    rw [if_pos hc]
    rfl

theorem paths23 (g : Prg) (hb : PrgB g) (t : List Int) (ht : t.length ≤ 1000000000) (pos most fuel : Int) (hf : fuel ≤ 1000000) (H : List MB) :
    call Try.prog pol1 23 [.agg [.sl false (g.ins.map insAV), I g.caps, .bool g.runes], .sl false (t.map I), I pos, I most, I fuel] H = some (resPA (resP g t pos most fuel), H) := by
  by_cases hc : checkG g t.length pos most fuel = 0
  · have hv : validG g = 0 := by
      unfold checkG at hc
      split at hc
      · rename_i h; exact absurd hc h
      · rename_i h; simpa using h
    have hok := okay_of hv
    have hk := hok.caps
    have hl := hok.len
    have h1 := f23 g hb t pos most fuel g.caps.toNat (by omega) hc hf H
    rw [show prgAV g = .agg [.sl false (g.ins.map insAV), I g.caps, .bool g.runes] from rfl] at h1
    have hpos : 0 ≤ pos ∧ pos ≤ t.length := by
      unfold checkG at hc
      split at hc
      · rename_i h; exact absurd hc h
      · split at hc
        · cases hc
        · split at hc
          · cases hc
          · omega
    have hcl : ∀ w l, w.pc < g.ins.length → stepW (progOf g t) w = .ways l → ∀ v ∈ l, v.pc < g.ins.length := by
      intro w l hw hs v hv
      exact step_pc hok hw hs v hv
    rw [h1, runI_eq hcl most fuel.toNat ⟨0, pos.toNat, m1s⟩ (by show 0 < _; omega), resA_eq]
    have hsame : Way.same g.caps.toNat ⟨0, pos.toNat, m1s⟩ ⟨0, pos.toNat, List.replicate (2 * g.caps.toNat) (-1)⟩ := by
      refine ⟨rfl, rfl, ?_⟩
      show (List.replicate 18 (-1 : Int)).take _ = (List.replicate _ (-1)).take _
      rw [List.take_replicate, List.take_replicate]
      congr 1
      omega
    rw [matsOf_same pos fuel.toNat _ _ hsame]
    unfold resP
    rw [if_neg (by simp [hc])]
    cases runW (progOf g t) most fuel.toNat [⟨0, pos.toNat, List.replicate (2 * g.caps.toNat) (-1)⟩] [] <;> rfl
  · rw [f23e g hb t ht pos most fuel hc H]
    unfold resP
    rw [if_pos hc]
    rfl

theorem resP_small (g : Prg) (t : List Int) (pos most fuel : Int) (hf : fuel ≤ 1000000) (hc : g.caps ≤ 9) : (resP g t pos most fuel).1.length ≤ 1000000 ∧ ∀ m ∈ (resP g t pos most fuel).1, m.2.2.length ≤ 1000 := by
  unfold resP
  split
  · exact ⟨by simp, fun m h => by simp at h⟩
  · cases hr : runW (progOf g t) most fuel.toNat [⟨0, pos.toNat, List.replicate (2 * g.caps.toNat) (-1)⟩] [] with
    | none => exact ⟨by simp, fun m h => by simp at h⟩
    | some out =>
      have := (run_front _ _ _ _ hr).2
      simp only [List.length_nil] at this
      refine ⟨by simp; omega, fun m hm => ?_⟩
      obtain ⟨w, _, rfl⟩ := List.mem_map.1 hm
      simp only [matOf, capsN_len]
      omega
end Go.Ev
namespace Go.Ev
open Go.Proofs Go.RowKit Go.IntWalk
set_option maxRecDepth 100000
set_option linter.unusedSimpArgs false
set_option linter.unusedVariables false
set_option maxHeartbeats 8000000

theorem someB {g : Prg} (h : SomeOk g) : PrgB g := ⟨by have := h.len; omega, fun i hi => by have := h.sets i hi; omega⟩
theorem textI_len (l : List Int) (n : Nat) (r : Bool) : (textI l n r).length ≤ n := by simp [textI]; omega

theorem f5 (l m : List Int) (pos most fuel : Int) (raw : List Int) (hl : ∀ x ∈ l, In64 x) (hm : ∀ x ∈ m, In64 x) (h1 : In64 pos) (h2 : In64 most) (h3 : In64 fuel) (h5 : ∀ x ∈ raw, In64 x)
    (lives : ∀ H, call Try.prog pol1 18 [] H = some (.bool true, H)) (H : List MB) :
    call Try.prog pol1 5 [.sl false (l.map I), .sl false (m.map I), I pos, I most, I fuel, .sl false (raw.map I)] H = some (.bool true, H) := by
  refine call_run Try.func5 rfl rfl rfl rfl rfl rfl (fun _ => rfl) (by simp [AV.plain, AV.plainL, plain_ints]) rfl ?_ H
  obtain ⟨_, ⟨g, hg, rfl⟩, c1⟩ := f21 l hl
  have hgb := someB hg
  have hgc := hg.caps
  have hgl := hg.len
  have c2 : ∀ H, call Try.prog pol1 22 [.sl false (m.map I), I 12, .bool true] H = some (.sl false ((textI m 12 true).map I), H) := f22 m hm 12 (by omega) true
  have htl := textI_len m 12 true
  generalize textI m 12 true = t at *
  have c3 := f12 fuel 60 h3 (by omega)
  have c4 := f12 most 6 h2 (by omega)
  have a3 := around_lt (n := fuel) (m := 60) (by omega)
  have a4 := around_lt (n := most) (m := 6) (by omega)
  have c5 := f12 pos ((t.length : Int) + 2) h1 (by omega)
  have a5 := around_lt (n := pos) (m := (t.length : Int) + 2) (by omega)
  have c24 := f24 g (by omega)
  have c27 : ∀ H, call Try.prog pol1 27 [.sl false (raw.map I), I 9] H = some (.sl false ((raw.take 9).map I), H) := f27 raw 9 (by omega)
  have p23 := fun k mo f hf => paths23 g hgb t (by omega) k mo f hf
  have p25 := fun k mo f hf => paths25 g hgb t (by omega) k mo f hf
  have q23 := fun k mo f hf => paths23 g hgb (raw.take 9) (by simp; omega) k mo f hf
  have q25 := fun k mo f hf => paths25 g hgb (raw.take 9) (by simp; omega) k mo f hf
  have small := fun t k mo f (hf : f ≤ 1000000) => resP_small g t k mo f hf (by omega)
  have eqs : ∀ t k mo f, f ≤ 1000000 → ∀ H, call Try.prog pol1 26 [.sl false ((resP g t k mo f).1.map mA), .sl false ((resP g t k mo f).1.map mA)] H = some (.bool true, H) := fun t k mo f hf H => by
    have hs := small t k mo f hf
    have := f26 _ _ hs.1 hs.1 hs.2 hs.2 H
    simpa using this
  have eqT := eqs t
  have eqR := eqs (raw.take 9)
  clear eqs small
  generalize resP g t = rt at *
  generalize resP g (raw.take 9) = rr at *
  generalize aroundI fuel 60 = fu at *
  generalize aroundI most 6 = mo at *
  generalize aroundI pos ((t.length : Int) + 2) = po at *
  simp +contextual (disch := omega) only [Try.f5, dd5, ty0, ty3, ty4, ty22, ty35, ty36, ty41, ty53, ty54, ↓reduceIte, eq_self, bindW_some, bindW_map, bindW_ite, bindW_iteN, W_seq, W_region, W_draw, W_cond, W_ret, W_skip, W_exit, W_scope, W_label, W_block, blockK_norm, blockK_ret, blockK_exit, WO_nil, WO_cons, WO_guard, WD_nil, WD_cons, WD_guard, guardV, guardW_boolT, guardW_boolF, guardW_tup, fpL_some, fpL_none, footprint, thenK_norm, thenK_ret, thenK_exit, put_some, put_none, ev_tmp, ev_con, ev_func, ofK_int, ofK_bool, ofK_str, ofK_nil, evOp, evBuiltin, evCall, evLen, evAppend, getElem_16, getElem_4, List.length_cons, List.length_nil, List.reduceReplicate, Nat.reduceAdd, Nat.reduceSub, List.cons_append, List.nil_append, List.append_nil, if_false, if_true, Bool.false_eq_true, Bool.true_eq_false, reduceCtorEq, Option.map_some, Option.map_none, List.map_cons, List.map_nil, evBinOp, evBin, evUn, asB_bool, splitB_decide, splitB_true, splitB_false, splitB_beq, splitB_bne, splitB_not, endK_ret, endK_norm, List.getElem?_cons_zero, List.getElem?_cons_succ, evResults, evResult, packRes, retK_norm, retK_ret, cellsAt, mkVal, evFieldAddr, evField, evIndexAddr, evPart, evStore, evBuild, evBuildSlice, fillC, fillE, evSlice, evMakeSlice, evConvert, getRow, AV.cells, List.head?_cons, List.drop_zero, List.drop_succ_cons, List.take_zero, List.take_succ_cons, List.drop_nil, List.take_nil, List.all_cons, List.all_nil, AV.ok, Bool.and_self, Bool.and_true, Bool.true_and, and_self, and_true, true_and, Nat.reduceLeDiff, Nat.reduceMul, Nat.reduceLT, Nat.reduceEqDiff, Nat.zero_add, Nat.add_zero, setCells, splice, pairsOk, FP.apart, heapEq_refl, sameAt_refl, Bool.or_true, Bool.true_or, Bool.or_false, srcElems, elemsOf, mutDst, roundK_norm, roundK_exit, roundK_ret, List.length_map, List.getElem?_map, Int.toNat_natCast, Int.reduceBNe, Int.reduceBEq, decide_true, decide_false, Bool.not_true, Bool.not_false, List.set, set_0, set_1, set_2, set_3, set_4, look_hit, look, lookD_hit, lookD_cons, lookD_nil, ins_hit, ins, upd_hit, upd, rem1_hit, rem1, dropT, dropSt_eq, initT, cfg_dd, cfg_bd, cfg_ra, actL_nil, actL_cons, act1, updT_hit, updT, frzB, retE_norm, retE_ret, bndO, bnd, evEq, eqCells, Int.reduceEq, Int.reduceLT, Int.reduceLE, Int.reduceGT, Int.reduceGE, not_false_eq_true, not_true_eq_false, toList_some, Array.size_empty, List.length_append, List.map_append, tySzE, List.head?_drop, Nat.mul_one, sameAt_zero, sameAt_two, sameAt_three, sameAt_four, sameAt_five, mu5, List.contains_nil, List.contains_cons, Nat.reduceBEq, Bool.or_self, dlt_t, dlt_f, dle_t, dle_f, dgt_t, dgt_f, dge_t, dge_f, beq_t, beq_f, bne_t, bne_f, lt_T, le_T, nle_T, nle_F, ↓wrap_up, ↓wrap_down, ↓wrap_pred, ↓wrap_sub_nat, i64_in, i64_quo, rem_in, Int.reduceToNat, room_ok, c1, c2, c3, c4]
  refine W_count (M := (mskOf (pol1.mask 5) (pol1.gc 5) (pol1.acts 5) 0 6)) rfl 3 (fun i => (⟨117, [(17, I i), (16, .sl true [I (-1), I (mo - 1), I 3]), (15, .sl true [I 400, I fu, I fuel]), (14, .sl false (t.map I)), (13, .rf 0 1 0 0), (5, .sl false (raw.map I)), (2, I pos)], [.row 3 [prgAV g] 0]⟩ : St)) (fun _ => True) ?_ ?_ trivial _ ?_
  · intro i hi _
    have hi3 : i = 0 ∨ i = 1 ∨ i = 2 := by omega
    rcases hi3 with rfl | rfl | rfl
    · simp +contextual (disch := omega) only [Try.f5, dd5, ty0, ty3, ty4, ty22, ty35, ty36, ty41, ty53, ty54, ↓reduceIte, eq_self, bindW_some, bindW_map, bindW_ite, bindW_iteN, W_seq, W_region, W_draw, W_cond, W_ret, W_skip, W_exit, W_scope, W_label, W_block, blockK_norm, blockK_ret, blockK_exit, WO_nil, WO_cons, WO_guard, WD_nil, WD_cons, WD_guard, guardV, guardW_boolT, guardW_boolF, guardW_tup, fpL_some, fpL_none, footprint, thenK_norm, thenK_ret, thenK_exit, put_some, put_none, ev_tmp, ev_con, ev_func, ofK_int, ofK_bool, ofK_str, ofK_nil, evOp, evBuiltin, evCall, evLen, evAppend, getElem_16, getElem_4, List.length_cons, List.length_nil, List.reduceReplicate, Nat.reduceAdd, Nat.reduceSub, List.cons_append, List.nil_append, List.append_nil, if_false, if_true, Bool.false_eq_true, Bool.true_eq_false, reduceCtorEq, Option.map_some, Option.map_none, List.map_cons, List.map_nil, evBinOp, evBin, evUn, asB_bool, splitB_decide, splitB_true, splitB_false, splitB_beq, splitB_bne, splitB_not, endK_ret, endK_norm, List.getElem?_cons_zero, List.getElem?_cons_succ, evResults, evResult, packRes, retK_norm, retK_ret, cellsAt, mkVal, evFieldAddr, evField, evIndexAddr, evPart, evStore, evBuild, evBuildSlice, fillC, fillE, evSlice, evMakeSlice, evConvert, getRow, AV.cells, List.head?_cons, List.drop_zero, List.drop_succ_cons, List.take_zero, List.take_succ_cons, List.drop_nil, List.take_nil, List.all_cons, List.all_nil, AV.ok, Bool.and_self, Bool.and_true, Bool.true_and, and_self, and_true, true_and, Nat.reduceLeDiff, Nat.reduceMul, Nat.reduceLT, Nat.reduceEqDiff, Nat.zero_add, Nat.add_zero, setCells, splice, pairsOk, FP.apart, heapEq_refl, sameAt_refl, Bool.or_true, Bool.true_or, Bool.or_false, srcElems, elemsOf, mutDst, roundK_norm, roundK_exit, roundK_ret, List.length_map, List.getElem?_map, Int.toNat_natCast, Int.reduceBNe, Int.reduceBEq, decide_true, decide_false, Bool.not_true, Bool.not_false, List.set, set_0, set_1, set_2, set_3, set_4, look_hit, look, lookD_hit, lookD_cons, lookD_nil, ins_hit, ins, upd_hit, upd, rem1_hit, rem1, dropT, dropSt_eq, initT, cfg_dd, cfg_bd, cfg_ra, actL_nil, actL_cons, act1, updT_hit, updT, frzB, retE_norm, retE_ret, bndO, bnd, evEq, eqCells, Int.reduceEq, Int.reduceLT, Int.reduceLE, Int.reduceGT, Int.reduceGE, not_false_eq_true, not_true_eq_false, toList_some, Array.size_empty, List.length_append, List.map_append, tySzE, List.head?_drop, Nat.mul_one, sameAt_zero, sameAt_two, sameAt_three, sameAt_four, sameAt_five, mu5, List.contains_nil, List.contains_cons, Nat.reduceBEq, Bool.or_self, dlt_t, dlt_f, dle_t, dle_f, dgt_t, dgt_f, dge_t, dge_f, beq_t, beq_f, bne_t, bne_f, lt_T, le_T, nle_T, nle_F, ↓wrap_up, ↓wrap_down, ↓wrap_pred, ↓wrap_sub_nat, i64_in, i64_quo, rem_in, Int.reduceToNat, room_ok, c24, c5, p23, p25, eqT, evMin]
      repeat' (first | intro _ | apply And.intro | (unfold dOk; kernel_rfl) | (show (_ || _) = true; kernel_rfl) | (show (_ && _) = true; kernel_rfl))
      all_goals exact (by first | rfl | (simp [keepT, AV.underL, AV.under, MB.under, underL_plain, under_plain, underL_append, plain_ints, plain_span, plain_ins, plain_prg, -List.map_take, -List.map_replicate, -List.map_set]; done))
    · simp +contextual (disch := omega) only [Try.f5, dd5, ty0, ty3, ty4, ty22, ty35, ty36, ty41, ty53, ty54, ↓reduceIte, eq_self, bindW_some, bindW_map, bindW_ite, bindW_iteN, W_seq, W_region, W_draw, W_cond, W_ret, W_skip, W_exit, W_scope, W_label, W_block, blockK_norm, blockK_ret, blockK_exit, WO_nil, WO_cons, WO_guard, WD_nil, WD_cons, WD_guard, guardV, guardW_boolT, guardW_boolF, guardW_tup, fpL_some, fpL_none, footprint, thenK_norm, thenK_ret, thenK_exit, put_some, put_none, ev_tmp, ev_con, ev_func, ofK_int, ofK_bool, ofK_str, ofK_nil, evOp, evBuiltin, evCall, evLen, evAppend, getElem_16, getElem_4, List.length_cons, List.length_nil, List.reduceReplicate, Nat.reduceAdd, Nat.reduceSub, List.cons_append, List.nil_append, List.append_nil, if_false, if_true, Bool.false_eq_true, Bool.true_eq_false, reduceCtorEq, Option.map_some, Option.map_none, List.map_cons, List.map_nil, evBinOp, evBin, evUn, asB_bool, splitB_decide, splitB_true, splitB_false, splitB_beq, splitB_bne, splitB_not, endK_ret, endK_norm, List.getElem?_cons_zero, List.getElem?_cons_succ, evResults, evResult, packRes, retK_norm, retK_ret, cellsAt, mkVal, evFieldAddr, evField, evIndexAddr, evPart, evStore, evBuild, evBuildSlice, fillC, fillE, evSlice, evMakeSlice, evConvert, getRow, AV.cells, List.head?_cons, List.drop_zero, List.drop_succ_cons, List.take_zero, List.take_succ_cons, List.drop_nil, List.take_nil, List.all_cons, List.all_nil, AV.ok, Bool.and_self, Bool.and_true, Bool.true_and, and_self, and_true, true_and, Nat.reduceLeDiff, Nat.reduceMul, Nat.reduceLT, Nat.reduceEqDiff, Nat.zero_add, Nat.add_zero, setCells, splice, pairsOk, FP.apart, heapEq_refl, sameAt_refl, Bool.or_true, Bool.true_or, Bool.or_false, srcElems, elemsOf, mutDst, roundK_norm, roundK_exit, roundK_ret, List.length_map, List.getElem?_map, Int.toNat_natCast, Int.reduceBNe, Int.reduceBEq, decide_true, decide_false, Bool.not_true, Bool.not_false, List.set, set_0, set_1, set_2, set_3, set_4, look_hit, look, lookD_hit, lookD_cons, lookD_nil, ins_hit, ins, upd_hit, upd, rem1_hit, rem1, dropT, dropSt_eq, initT, cfg_dd, cfg_bd, cfg_ra, actL_nil, actL_cons, act1, updT_hit, updT, frzB, retE_norm, retE_ret, bndO, bnd, evEq, eqCells, Int.reduceEq, Int.reduceLT, Int.reduceLE, Int.reduceGT, Int.reduceGE, not_false_eq_true, not_true_eq_false, toList_some, Array.size_empty, List.length_append, List.map_append, tySzE, List.head?_drop, Nat.mul_one, sameAt_zero, sameAt_two, sameAt_three, sameAt_four, sameAt_five, mu5, List.contains_nil, List.contains_cons, Nat.reduceBEq, Bool.or_self, dlt_t, dlt_f, dle_t, dle_f, dgt_t, dgt_f, dge_t, dge_f, beq_t, beq_f, bne_t, bne_f, lt_T, le_T, nle_T, nle_F, ↓wrap_up, ↓wrap_down, ↓wrap_pred, ↓wrap_sub_nat, i64_in, i64_quo, rem_in, Int.reduceToNat, room_ok, c24, c5, p23, p25, eqT, evMin]
      repeat' (first | intro _ | apply And.intro | (unfold dOk; kernel_rfl) | (show (_ || _) = true; kernel_rfl) | (show (_ && _) = true; kernel_rfl))
      all_goals exact (by first | rfl | (simp [keepT, AV.underL, AV.under, MB.under, underL_plain, under_plain, underL_append, plain_ints, plain_span, plain_ins, plain_prg, -List.map_take, -List.map_replicate, -List.map_set]; done))
    · simp +contextual (disch := omega) only [Try.f5, dd5, ty0, ty3, ty4, ty22, ty35, ty36, ty41, ty53, ty54, ↓reduceIte, eq_self, bindW_some, bindW_map, bindW_ite, bindW_iteN, W_seq, W_region, W_draw, W_cond, W_ret, W_skip, W_exit, W_scope, W_label, W_block, blockK_norm, blockK_ret, blockK_exit, WO_nil, WO_cons, WO_guard, WD_nil, WD_cons, WD_guard, guardV, guardW_boolT, guardW_boolF, guardW_tup, fpL_some, fpL_none, footprint, thenK_norm, thenK_ret, thenK_exit, put_some, put_none, ev_tmp, ev_con, ev_func, ofK_int, ofK_bool, ofK_str, ofK_nil, evOp, evBuiltin, evCall, evLen, evAppend, getElem_16, getElem_4, List.length_cons, List.length_nil, List.reduceReplicate, Nat.reduceAdd, Nat.reduceSub, List.cons_append, List.nil_append, List.append_nil, if_false, if_true, Bool.false_eq_true, Bool.true_eq_false, reduceCtorEq, Option.map_some, Option.map_none, List.map_cons, List.map_nil, evBinOp, evBin, evUn, asB_bool, splitB_decide, splitB_true, splitB_false, splitB_beq, splitB_bne, splitB_not, endK_ret, endK_norm, List.getElem?_cons_zero, List.getElem?_cons_succ, evResults, evResult, packRes, retK_norm, retK_ret, cellsAt, mkVal, evFieldAddr, evField, evIndexAddr, evPart, evStore, evBuild, evBuildSlice, fillC, fillE, evSlice, evMakeSlice, evConvert, getRow, AV.cells, List.head?_cons, List.drop_zero, List.drop_succ_cons, List.take_zero, List.take_succ_cons, List.drop_nil, List.take_nil, List.all_cons, List.all_nil, AV.ok, Bool.and_self, Bool.and_true, Bool.true_and, and_self, and_true, true_and, Nat.reduceLeDiff, Nat.reduceMul, Nat.reduceLT, Nat.reduceEqDiff, Nat.zero_add, Nat.add_zero, setCells, splice, pairsOk, FP.apart, heapEq_refl, sameAt_refl, Bool.or_true, Bool.true_or, Bool.or_false, srcElems, elemsOf, mutDst, roundK_norm, roundK_exit, roundK_ret, List.length_map, List.getElem?_map, Int.toNat_natCast, Int.reduceBNe, Int.reduceBEq, decide_true, decide_false, Bool.not_true, Bool.not_false, List.set, set_0, set_1, set_2, set_3, set_4, look_hit, look, lookD_hit, lookD_cons, lookD_nil, ins_hit, ins, upd_hit, upd, rem1_hit, rem1, dropT, dropSt_eq, initT, cfg_dd, cfg_bd, cfg_ra, actL_nil, actL_cons, act1, updT_hit, updT, frzB, retE_norm, retE_ret, bndO, bnd, evEq, eqCells, Int.reduceEq, Int.reduceLT, Int.reduceLE, Int.reduceGT, Int.reduceGE, not_false_eq_true, not_true_eq_false, toList_some, Array.size_empty, List.length_append, List.map_append, tySzE, List.head?_drop, Nat.mul_one, sameAt_zero, sameAt_two, sameAt_three, sameAt_four, sameAt_five, mu5, List.contains_nil, List.contains_cons, Nat.reduceBEq, Bool.or_self, dlt_t, dlt_f, dle_t, dle_f, dgt_t, dgt_f, dge_t, dge_f, beq_t, beq_f, bne_t, bne_f, lt_T, le_T, nle_T, nle_F, ↓wrap_up, ↓wrap_down, ↓wrap_pred, ↓wrap_sub_nat, i64_in, i64_quo, rem_in, Int.reduceToNat, room_ok, c24, c5, p23, p25, eqT, evMin]
      repeat' (first | intro _ | apply And.intro | (unfold dOk; kernel_rfl) | (show (_ || _) = true; kernel_rfl) | (show (_ && _) = true; kernel_rfl))
      all_goals exact (by first | rfl | (simp [keepT, AV.underL, AV.under, MB.under, underL_plain, under_plain, underL_append, plain_ints, plain_span, plain_ins, plain_prg, -List.map_take, -List.map_replicate, -List.map_set]; done))
  · intro _
    simp +contextual (disch := omega) only [Try.f5, dd5, ty0, ty3, ty4, ty22, ty35, ty36, ty41, ty53, ty54, ↓reduceIte, eq_self, bindW_some, bindW_map, bindW_ite, bindW_iteN, W_seq, W_region, W_draw, W_cond, W_ret, W_skip, W_exit, W_scope, W_label, W_block, blockK_norm, blockK_ret, blockK_exit, WO_nil, WO_cons, WO_guard, WD_nil, WD_cons, WD_guard, guardV, guardW_boolT, guardW_boolF, guardW_tup, fpL_some, fpL_none, footprint, thenK_norm, thenK_ret, thenK_exit, put_some, put_none, ev_tmp, ev_con, ev_func, ofK_int, ofK_bool, ofK_str, ofK_nil, evOp, evBuiltin, evCall, evLen, evAppend, getElem_16, getElem_4, List.length_cons, List.length_nil, List.reduceReplicate, Nat.reduceAdd, Nat.reduceSub, List.cons_append, List.nil_append, List.append_nil, if_false, if_true, Bool.false_eq_true, Bool.true_eq_false, reduceCtorEq, Option.map_some, Option.map_none, List.map_cons, List.map_nil, evBinOp, evBin, evUn, asB_bool, splitB_decide, splitB_true, splitB_false, splitB_beq, splitB_bne, splitB_not, endK_ret, endK_norm, List.getElem?_cons_zero, List.getElem?_cons_succ, evResults, evResult, packRes, retK_norm, retK_ret, cellsAt, mkVal, evFieldAddr, evField, evIndexAddr, evPart, evStore, evBuild, evBuildSlice, fillC, fillE, evSlice, evMakeSlice, evConvert, getRow, AV.cells, List.head?_cons, List.drop_zero, List.drop_succ_cons, List.take_zero, List.take_succ_cons, List.drop_nil, List.take_nil, List.all_cons, List.all_nil, AV.ok, Bool.and_self, Bool.and_true, Bool.true_and, and_self, and_true, true_and, Nat.reduceLeDiff, Nat.reduceMul, Nat.reduceLT, Nat.reduceEqDiff, Nat.zero_add, Nat.add_zero, setCells, splice, pairsOk, FP.apart, heapEq_refl, sameAt_refl, Bool.or_true, Bool.true_or, Bool.or_false, srcElems, elemsOf, mutDst, roundK_norm, roundK_exit, roundK_ret, List.length_map, List.getElem?_map, Int.toNat_natCast, Int.reduceBNe, Int.reduceBEq, decide_true, decide_false, Bool.not_true, Bool.not_false, List.set, set_0, set_1, set_2, set_3, set_4, look_hit, look, lookD_hit, lookD_cons, lookD_nil, ins_hit, ins, upd_hit, upd, rem1_hit, rem1, dropT, dropSt_eq, initT, cfg_dd, cfg_bd, cfg_ra, actL_nil, actL_cons, act1, updT_hit, updT, frzB, retE_norm, retE_ret, bndO, bnd, evEq, eqCells, Int.reduceEq, Int.reduceLT, Int.reduceLE, Int.reduceGT, Int.reduceGE, not_false_eq_true, not_true_eq_false, toList_some, Array.size_empty, List.length_append, List.map_append, tySzE, List.head?_drop, Nat.mul_one, sameAt_zero, sameAt_two, sameAt_three, sameAt_four, sameAt_five, mu5, List.contains_nil, List.contains_cons, Nat.reduceBEq, Bool.or_self, dlt_t, dlt_f, dle_t, dle_f, dgt_t, dgt_f, dge_t, dge_f, beq_t, beq_f, bne_t, bne_f, lt_T, le_T, nle_T, nle_F, ↓wrap_up, ↓wrap_down, ↓wrap_pred, ↓wrap_sub_nat, i64_in, i64_quo, rem_in, Int.reduceToNat, room_ok, c24, c27, q23, q25, eqR, lives]
    repeat' (first | intro _ | apply And.intro | (unfold dOk; kernel_rfl) | (show (_ || _) = true; kernel_rfl) | (show (_ && _) = true; kernel_rfl))
    all_goals exact fzEq rfl rfl
  · exact (by first | rfl | (simp [keepT, AV.underL, AV.under, MB.under, underL_plain, under_plain, underL_append, plain_ints, plain_span, plain_ins, plain_prg, -List.map_take, -List.map_replicate, -List.map_set]; done))
end Go.Ev
namespace Go.Ev
open Go.Proofs Go.RowKit
theorem ext1 : ExtOk Try.prog pol1 := by
  intro f g hg args H r H' h
  have hf : f = 92 ∧ g = cloneExt 2 16 := by
    by_cases e : f = 92
    · subst e
      have : pol1.ext 92 = some (cloneExt 2 16) := rfl
      rw [this] at hg
      exact ⟨rfl, (Option.some.inj hg).symm⟩
    · have : pol1.ext f = none := by
        show (if f = 92 then some (cloneExt 2 16) else none) = none
        rw [if_neg e]
      rw [this] at hg
      cases hg
  obtain ⟨rfl, rfl⟩ := hf
  exact clone_sound (T := 23) (B := 4) (e := 86) (k := 2) (by_ := 16) (ze := .agg [.int .i64 0, .int .i64 0])
    Try.func92 rfl rfl rfl rfl (by kernel_rfl) (by kernel_rfl) (by omega) (by kernel_rfl) (by kernel_rfl) rfl rfl h
theorem follows1 : Try.prog.follows .mixedOrders = true := by kernel_rfl
theorem ok1 : CfOk Try.prog (call Try.prog pol1) := call_ok ext1 follows1
set_option maxRecDepth 100000 in
theorem lives18 : evF Try.prog pol1 100 40 18 [] [] = some (.bool true, []) := by kernel_rfl
theorem f18 (H : List MB) : call Try.prog pol1 18 [] H = some (.bool true, H) := by
  have h0 := call_of_evF 40 18 [] [] (.bool true, []) lives18
  rw [call_eq] at h0 ⊢
  unfold evStep at h0 ⊢
  have hp : pol1.pure 18 = true := rfl
  rw [if_pos hp] at h0 ⊢
  simp only [frzArgs, AV.underL, if_true] at h0 ⊢
  cases hb : evBody Try.prog pol1 (call Try.prog pol1) itL 18 [] [] with
  | none => rw [hb] at h0; simp [rebase] at h0
  | some q =>
    rw [hb] at h0
    obtain ⟨r, K⟩ := q
    unfold rebase at h0 ⊢
    split at h0
    · rename_i q1 r1 he
      simp at he; obtain ⟨rfl, rfl⟩ := he
      split at h0
      · rename_i hu
        simp at h0; subst h0
        rfl
      · simp at h0
    · rename_i q1 k tot off len k' els z he
      split at h0
      · simp at h0
      · simp at h0
    · simp at h0
end Go.Ev
