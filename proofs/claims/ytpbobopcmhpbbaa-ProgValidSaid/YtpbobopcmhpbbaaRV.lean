import Derived.Test.YtpbobopcmhpbbaaEvWp5
import Derived.Test.YtpbobopcmhpbbaaRH
import Derived.Test.YtpbobopcmhpbbaaRS
import Derived.Test.YtpbobopcmhpbbaaRSP
set_option linter.unusedVariables false
set_option linter.unusedSimpArgs false
namespace Go.Ev
open Go.Proofs Go.RowKit Go.IntWalk
set_option maxRecDepth 100000
set_option linter.unusedSimpArgs false
set_option linter.unusedVariables false
set_option maxHeartbeats 4000000

theorem SomeOk.n {g : Prg} (h : SomeOk g) : PrgN g 12 1 := ⟨h.len.2, h.sets, ⟨by have := h.caps; omega, by have := h.caps; omega⟩⟩
theorem PrgN.b {g : Prg} {a b : Nat} (h : PrgN g a b) (ha : a ≤ 1000000) (hb : b ≤ 1000000) : PrgB g := ⟨Nat.le_trans h.len ha, fun i hi => Nat.le_trans (h.sets i hi) hb⟩
theorem PrgN.up {g : Prg} {a b b' : Nat} (h : PrgN g a b) (hb : b ≤ b') : PrgN g a b' := ⟨h.len, fun i hi => Nat.le_trans (h.sets i hi) hb, h.caps⟩

theorem in64_tdiv {n : Int} (h : In64 n) (m : Int) (hm : 1 ≤ m) : In64 (IntKind.i64.wrap (n.tdiv m)) := by
  have h1 : -9223372036854775808 ≤ n.tdiv m ∧ n.tdiv m ≤ 9223372036854775807 := by
    obtain ⟨a, b⟩ := h
    rcases Int.le_total 0 n with hn | hn
    · rw [Int.tdiv_eq_ediv_of_nonneg hn]
      have := tdiv_le n m hn hm
      omega
    · have e : n = -(-n) := by omega
      rw [e, Int.neg_tdiv, Int.tdiv_eq_ediv_of_nonneg (by omega)]
      have := tdiv_le (-n) m (by omega) hm
      omega
  rw [i64_in _ h1]; exact h1

theorem call_fz {f : Nat} {args bs : List AV} {H H1 : List MB} (hp : pol1.pure f = true) (h1 : frzArgs pol1 f 0 args H = some (bs, H1)) (h2 : AV.plainL bs = true) (hb : ∀ i, pol1.byref f i = false) :
    call Try.prog pol1 f args H = call Try.prog pol1 f bs H1 := by
  have e : frzArgs pol1 f 0 bs H1 = some (bs, H1) := frzArgs_plain hb H1 bs 0 h2
  rw [call_eq]
  unfold evStep
  simp only [hp, if_true, h1, e]

theorem frz_tf (f : Nat) (x y z : AV) (hb : ∀ i, pol1.byref f i = false) (H : List MB) (rest : List AV) (hr : AV.plainL rest = true) (hx : AV.plain x = true) :
    frzArgs pol1 f 0 (x :: .sl true [] :: rest) H = some (x :: .sl false [] :: rest, H) := by
  have e : fz (.sl true []) H = some (.sl false [], H) := rfl
  simp only [frzArgs, hb, Bool.false_eq_true, if_false, fz_plain H hx, e, frzArgs_plain hb H rest _ hr]

/-- The four programs of the law: what the functions say of each. -/
structure Said (x : Prg) (a : AV) (v e : Int) : Prop where
  e0 : v = 0 → e = 5
  e1 : v ≠ 0 → e = v
  c29 : ∀ H, call Try.prog pol1 29 [a] H = some (I v, H)
  c24 : ∀ H, call Try.prog pol1 24 [a] H = some (prgAV x, H)
  c23 : ∀ H, call Try.prog pol1 23 [.agg [.sl false (x.ins.map insAV), I x.caps, .bool x.runes], .sl true [], I (-1), I (-1), I (-1)] H = some (.tup [.sl false [], I e], H)
  c30 : ∀ H, call Try.prog pol1 30 [.agg [.sl false (x.ins.map insAV), I x.caps, .bool x.runes]] H = some (I v, H)

theorem said (x : Prg) (hx : PrgB x) : Said x (prgAV x) (validG x) (if validG x = 0 then 5 else validG x) := by
  have e : checkG x ([] : List Int).length (-1) (-1) (-1) = (if validG x = 0 then 5 else validG x) := by
    unfold checkG
    by_cases hv : validG x = 0 <;> simp [hv]
  refine ⟨fun h => by simp [h], fun h => by simp [h], f29 x hx, f24 x hx.1, fun H => ?_, f30 x hx⟩
  rw [call_fz rfl (frz_tf 23 _ .top .top (fun _ => rfl) H [I (-1), I (-1), I (-1)] rfl (plain_prg x)) (by simp [AV.plainL, AV.plain, plain_ins]) (fun _ => rfl)]
  have := f23e x hx [] (by simp) (-1) (-1) (-1) (by rw [e]; split <;> omega) H
  rw [e] at this
  exact this

def zeroG : Prg := ⟨[], 0, false⟩
theorem said0 : Said zeroG (.agg [.sl true [], I 0, .bool false]) 1 1 := by
  have hb : PrgB zeroG := ⟨by simp [zeroG], by simp [zeroG]⟩
  have hs := said zeroG hb
  have hv : validG zeroG = 1 := by simp [validG, zeroG]
  rw [hv] at hs
  have fr : ∀ f H, (∀ i, pol1.byref f i = false) → frzArgs pol1 f 0 [.agg [.sl true [], I 0, .bool false]] H = some ([prgAV zeroG], H) := fun f H hb => by
    simp only [frzArgs, hb, Bool.false_eq_true, if_false]
    rfl
  refine ⟨by omega, by omega, fun H => ?_, fun H => ?_, hs.c23, hs.c30⟩
  · rw [call_fz rfl (fr 29 H (fun _ => rfl)) rfl (fun _ => rfl)]; exact hs.c29 H
  · rw [call_fz rfl (fr 24 H (fun _ => rfl)) rfl (fun _ => rfl)]; exact hs.c24 H

theorem big (N : Nat) (h1 : 1 ≤ N) (h2 : N ≤ 10000) (r0 r1 : MB) : ∃ H1, call Try.prog pol1 30 [.agg [.ms 2 5 N 0 N, I 0, .bool false]]
    [r0, r1, .row 5 (List.replicate N (.agg [I 0, I 0, I 0, I 0, .sl true []])) 0] = some (I (if 8192 < N then 4 else 0), H1) := by
  obtain ⟨H1, hf⟩ := fz_allT (id := 2) (tot := N) (ins := List.replicate N ⟨0, 0, 0, 0, []⟩) (caps := 0) (runes := false) (H := [r0, r1, .row 5 (List.replicate N (.agg [I 0, I 0, I 0, I 0, .sl true []])) 0])
    (by rw [List.map_replicate]; rfl) (by simp)
  have fr : frzArgs pol1 30 0 [.agg [.ms 2 5 N 0 N, I 0, .bool false]] [r0, r1, .row 5 (List.replicate N (.agg [I 0, I 0, I 0, I 0, .sl true []])) 0] = some ([prgAV ⟨List.replicate N ⟨0, 0, 0, 0, []⟩, 0, false⟩], H1) := by
    have hb : pol1.byref 30 0 = false := rfl
    simp only [frzArgs, hb, Bool.false_eq_true, if_false, hf]
  refine ⟨H1, ?_⟩
  rw [call_fz rfl fr (by simp [AV.plainL, AV.plain, plain_ins, -List.map_replicate]) (fun _ => rfl), f30 ⟨List.replicate N ⟨0, 0, 0, 0, []⟩, 0, false⟩ ⟨by simp; omega, fun i hi => by rw [List.eq_of_mem_replicate hi]; simp⟩ H1]
  have hv : validG ⟨List.replicate N ⟨0, 0, 0, 0, []⟩, 0, false⟩ = if 8192 < N then 4 else 0 := by
    unfold validG
    simp only [List.length_replicate]
    split
    · rfl
    · rw [if_neg (by omega)]
      have e1 : (List.replicate N (⟨0, 0, 0, 0, []⟩ : Ins)).all (okIns N 0 false) = true := by
        rw [List.all_eq_true]; intro i hi; rw [List.eq_of_mem_replicate hi]; exact ok_zero _ _ _
      have e2 : lastGood ⟨List.replicate N ⟨0, 0, 0, 0, []⟩, 0, false⟩ = true := by
        have : (List.replicate N (⟨0, 0, 0, 0, []⟩ : Ins))[N - 1]? = some ⟨0, 0, 0, 0, []⟩ := by rw [List.getElem?_replicate, if_pos (by omega)]
        simp [lastGood, this]
      rw [e1, e2]; rfl
  rw [hv]

theorem f6 (l : List Int) (pos how by_ other : Int) (hl : ∀ x ∈ l, In64 x) (h1 : In64 pos) (h2 : In64 how) (h3 : In64 by_) (h4 : In64 other)
    (lives : ∀ H, call Try.prog pol1 18 [] H = some (.bool true, H)) (H : List MB) :
    call Try.prog pol1 6 [.sl false (l.map I), I pos, I how, I by_, I other] H = some (.bool true, H) := by
  refine call_run Try.func6 rfl rfl rfl rfl rfl rfl (fun _ => rfl) (by simp [AV.plain, AV.plainL, plain_ints, plain_span, plain_ins, plain_prg]) (by simp [AV.plain, AV.plainL, plain_ints, plain_span, plain_ins, plain_prg]) ?_ H
  obtain ⟨_, ⟨g, hg, rfl⟩, c1⟩ := f21 l hl
  have gn := hg.n
  obtain ⟨_, ⟨h, hh, rfl⟩, c2⟩ := f28 g 12 1 (by omega) (by omega) gn pos how by_ h1 h2 h3
  obtain ⟨_, ⟨h', hh', rfl⟩, c3⟩ := f28 h 12 2 (by omega) (by omega) hh (IntKind.i64.wrap (pos.tdiv 3)) (IntKind.i64.wrap (how.tdiv 8)) other (in64_tdiv h1 3 (by omega)) (in64_tdiv h2 8 (by omega)) h4
  have ha := around_lt (n := other) (m := 6) (by omega)
  have c4 := f12 other 6 h4 (by omega)
  obtain ⟨k, hk, hk6⟩ : ∃ k : Nat, aroundI other 6 = k ∧ k < 6 := ⟨(aroundI other 6).toNat, by omega, by omega⟩
  rw [hk] at c4
  have sg := said g (gn.b (by omega) (by omega))
  have sh := said h (hh.b (by omega) (by omega))
  have sk := said h' (hh'.b (by omega) (by omega))
  have sz := said0
  generalize validG g = vg at sg
  generalize validG h = vh at sh
  generalize validG h' = vk at sk
  generalize (if vg = 0 then (5 : Int) else vg) = eg at sg
  generalize (if vh = 0 then (5 : Int) else vh) = eh at sh
  generalize (if vk = 0 then (5 : Int) else vk) = ek at sk
  have hm : IntKind.i64.wrap (8190 + (k : Int)) = ((8190 + k : Nat) : Int) := by rw [i64_in] <;> omega
  simp +contextual (disch := omega) only [Try.f6, dd6, ty0, ty3, ty4, ty22, ty33, ty35, ty36, ty41, ty53, ty54, ty62, ↓reduceIte, eq_self, bindW_some, bindW_map, bindW_ite, bindW_iteN, W_seq, W_region, W_draw, W_cond, W_ret, W_skip, W_exit, W_scope, W_label, W_block, blockK_norm, blockK_ret, blockK_exit, WO_nil, WO_cons, WO_guard, WD_nil, WD_cons, WD_guard, guardV, guardW_boolT, guardW_boolF, guardW_tup, fpL_some, fpL_none, footprint, thenK_norm, thenK_ret, thenK_exit, put_some, put_none, ev_tmp, ev_con, ev_func, ofK_int, ofK_bool, ofK_str, ofK_nil, evOp, evBuiltin, evCall, evLen, evAppend, getElem_16, getElem_4, List.length_cons, List.length_nil, List.reduceReplicate, Nat.reduceAdd, Nat.reduceSub, List.cons_append, List.nil_append, List.append_nil, if_false, if_true, Bool.false_eq_true, Bool.true_eq_false, reduceCtorEq, Option.map_some, Option.map_none, List.map_cons, List.map_nil, evBinOp, evBin, evUn, asB_bool, splitB_decide, splitB_true, splitB_false, splitB_beq, splitB_bne, splitB_not, endK_ret, endK_norm, List.getElem?_cons_zero, List.getElem?_cons_succ, evResults, evResult, packRes, retK_norm, retK_ret, cellsAt, mkVal, evFieldAddr, evField, evIndexAddr, evPart, evStore, evBuild, evBuildSlice, fillC, fillE, evSlice, evMakeSlice, evConvert, getRow, AV.cells, List.head?_cons, List.drop_zero, List.drop_succ_cons, List.take_zero, List.take_succ_cons, List.drop_nil, List.take_nil, List.all_cons, List.all_nil, AV.ok, Bool.and_self, Bool.and_true, Bool.true_and, and_self, and_true, true_and, Nat.reduceLeDiff, Nat.reduceMul, Nat.reduceLT, Nat.reduceEqDiff, Nat.zero_add, Nat.add_zero, setCells, splice, pairsOk, FP.apart, heapEq_refl, sameAt_refl, Bool.or_true, Bool.true_or, Bool.or_false, srcElems, elemsOf, mutDst, roundK_norm, roundK_exit, roundK_ret, List.length_map, List.getElem?_map, Int.toNat_natCast, Int.reduceBNe, Int.reduceBEq, decide_true, decide_false, Bool.not_true, Bool.not_false, List.set, set_0, set_1, set_2, set_3, set_4, look_hit, look, lookD_hit, lookD_cons, lookD_nil, ins_hit, ins, upd_hit, upd, rem1_hit, rem1, dropT, dropSt_eq, initT, cfg_dd, cfg_bd, retE_norm, retE_ret, bndO, bnd, evEq, eqCells, Int.reduceEq, Int.reduceLT, Int.reduceLE, Int.reduceGT, Int.reduceGE, not_false_eq_true, not_true_eq_false, toList_some, Array.size_empty, List.length_append, List.map_append, mu6, List.contains_nil, List.contains_cons, Nat.reduceBEq, Bool.or_self, dlt_t, dlt_f, dle_t, dle_f, dgt_t, dgt_f, dge_t, dge_f, beq_t, beq_f, bne_t, bne_f, lt_T, le_T, nle_T, nle_F, ↓wrap_up, ↓wrap_down, ↓wrap_pred, ↓wrap_sub_nat, i64_in, i64_quo, rem_in, Int.reduceToNat, c1, c2, c3, c4]
  refine ⟨by unfold dOk; kernel_rfl, ?_⟩
  refine W_count (M := (mskOf (pol1.mask 6) (pol1.gc 6) 0 5)) rfl 4 (fun i => (⟨101, [(14, I i), (13, .sl true [prgAV g, prgAV h, prgAV h', .agg [.sl true [], I 0, .bool false]]), (4, I other)], [.row 3 [prgAV g] 0, .row 3 [prgAV h] 0]⟩ : St)) (fun _ => True) ?_ ?_ trivial _ (by first | rfl | (refine prep_cut (by rfl) (by rfl) (by rfl) ?_ ?_ <;> simp [AV.underL, AV.under, MB.under, underL_plain, under_plain, plain_ints, plain_span, plain_ins, plain_prg, -List.map_take]))
  · intro i hi _
    have g0 := sg.e0; have g1 := sg.e1; have h0 := sh.e0; have h1 := sh.e1; have k0 := sk.e0; have k1 := sk.e1
    rcases i with _ | _ | _ | _ | i
    · simp +contextual (disch := omega) only [Try.f6, dd6, ty0, ty3, ty4, ty22, ty33, ty35, ty36, ty41, ty53, ty54, ty62, ↓reduceIte, eq_self, bindW_some, bindW_map, bindW_ite, bindW_iteN, W_seq, W_region, W_draw, W_cond, W_ret, W_skip, W_exit, W_scope, W_label, W_block, blockK_norm, blockK_ret, blockK_exit, WO_nil, WO_cons, WO_guard, WD_nil, WD_cons, WD_guard, guardV, guardW_boolT, guardW_boolF, guardW_tup, fpL_some, fpL_none, footprint, thenK_norm, thenK_ret, thenK_exit, put_some, put_none, ev_tmp, ev_con, ev_func, ofK_int, ofK_bool, ofK_str, ofK_nil, evOp, evBuiltin, evCall, evLen, evAppend, getElem_16, getElem_4, List.length_cons, List.length_nil, List.reduceReplicate, Nat.reduceAdd, Nat.reduceSub, List.cons_append, List.nil_append, List.append_nil, if_false, if_true, Bool.false_eq_true, Bool.true_eq_false, reduceCtorEq, Option.map_some, Option.map_none, List.map_cons, List.map_nil, evBinOp, evBin, evUn, asB_bool, splitB_decide, splitB_true, splitB_false, splitB_beq, splitB_bne, splitB_not, endK_ret, endK_norm, List.getElem?_cons_zero, List.getElem?_cons_succ, evResults, evResult, packRes, retK_norm, retK_ret, cellsAt, mkVal, evFieldAddr, evField, evIndexAddr, evPart, evStore, evBuild, evBuildSlice, fillC, fillE, evSlice, evMakeSlice, evConvert, getRow, AV.cells, List.head?_cons, List.drop_zero, List.drop_succ_cons, List.take_zero, List.take_succ_cons, List.drop_nil, List.take_nil, List.all_cons, List.all_nil, AV.ok, Bool.and_self, Bool.and_true, Bool.true_and, and_self, and_true, true_and, Nat.reduceLeDiff, Nat.reduceMul, Nat.reduceLT, Nat.reduceEqDiff, Nat.zero_add, Nat.add_zero, setCells, splice, pairsOk, FP.apart, heapEq_refl, sameAt_refl, Bool.or_true, Bool.true_or, Bool.or_false, srcElems, elemsOf, mutDst, roundK_norm, roundK_exit, roundK_ret, List.length_map, List.getElem?_map, Int.toNat_natCast, Int.reduceBNe, Int.reduceBEq, decide_true, decide_false, Bool.not_true, Bool.not_false, List.set, set_0, set_1, set_2, set_3, set_4, look_hit, look, lookD_hit, lookD_cons, lookD_nil, ins_hit, ins, upd_hit, upd, rem1_hit, rem1, dropT, dropSt_eq, initT, cfg_dd, cfg_bd, retE_norm, retE_ret, bndO, bnd, evEq, eqCells, Int.reduceEq, Int.reduceLT, Int.reduceLE, Int.reduceGT, Int.reduceGE, not_false_eq_true, not_true_eq_false, toList_some, Array.size_empty, List.length_append, List.map_append, mu6, List.contains_nil, List.contains_cons, Nat.reduceBEq, Bool.or_self, dlt_t, dlt_f, dle_t, dle_f, dgt_t, dgt_f, dge_t, dge_f, beq_t, beq_f, bne_t, bne_f, lt_T, le_T, nle_T, nle_F, ↓wrap_up, ↓wrap_down, ↓wrap_pred, ↓wrap_sub_nat, i64_in, i64_quo, rem_in, Int.reduceToNat, sg.c29, sg.c24, sg.c23, sg.c30]
      exact ⟨fun _ => (by first | rfl | (refine prep_cut (by rfl) (by rfl) (by rfl) ?_ ?_ <;> simp [AV.underL, AV.under, MB.under, underL_plain, under_plain, plain_ints, plain_span, plain_ins, plain_prg, -List.map_take])), fun _ => (by first | rfl | (refine prep_cut (by rfl) (by rfl) (by rfl) ?_ ?_ <;> simp [AV.underL, AV.under, MB.under, underL_plain, under_plain, plain_ints, plain_span, plain_ins, plain_prg, -List.map_take]))⟩
    · simp +contextual (disch := omega) only [Try.f6, dd6, ty0, ty3, ty4, ty22, ty33, ty35, ty36, ty41, ty53, ty54, ty62, ↓reduceIte, eq_self, bindW_some, bindW_map, bindW_ite, bindW_iteN, W_seq, W_region, W_draw, W_cond, W_ret, W_skip, W_exit, W_scope, W_label, W_block, blockK_norm, blockK_ret, blockK_exit, WO_nil, WO_cons, WO_guard, WD_nil, WD_cons, WD_guard, guardV, guardW_boolT, guardW_boolF, guardW_tup, fpL_some, fpL_none, footprint, thenK_norm, thenK_ret, thenK_exit, put_some, put_none, ev_tmp, ev_con, ev_func, ofK_int, ofK_bool, ofK_str, ofK_nil, evOp, evBuiltin, evCall, evLen, evAppend, getElem_16, getElem_4, List.length_cons, List.length_nil, List.reduceReplicate, Nat.reduceAdd, Nat.reduceSub, List.cons_append, List.nil_append, List.append_nil, if_false, if_true, Bool.false_eq_true, Bool.true_eq_false, reduceCtorEq, Option.map_some, Option.map_none, List.map_cons, List.map_nil, evBinOp, evBin, evUn, asB_bool, splitB_decide, splitB_true, splitB_false, splitB_beq, splitB_bne, splitB_not, endK_ret, endK_norm, List.getElem?_cons_zero, List.getElem?_cons_succ, evResults, evResult, packRes, retK_norm, retK_ret, cellsAt, mkVal, evFieldAddr, evField, evIndexAddr, evPart, evStore, evBuild, evBuildSlice, fillC, fillE, evSlice, evMakeSlice, evConvert, getRow, AV.cells, List.head?_cons, List.drop_zero, List.drop_succ_cons, List.take_zero, List.take_succ_cons, List.drop_nil, List.take_nil, List.all_cons, List.all_nil, AV.ok, Bool.and_self, Bool.and_true, Bool.true_and, and_self, and_true, true_and, Nat.reduceLeDiff, Nat.reduceMul, Nat.reduceLT, Nat.reduceEqDiff, Nat.zero_add, Nat.add_zero, setCells, splice, pairsOk, FP.apart, heapEq_refl, sameAt_refl, Bool.or_true, Bool.true_or, Bool.or_false, srcElems, elemsOf, mutDst, roundK_norm, roundK_exit, roundK_ret, List.length_map, List.getElem?_map, Int.toNat_natCast, Int.reduceBNe, Int.reduceBEq, decide_true, decide_false, Bool.not_true, Bool.not_false, List.set, set_0, set_1, set_2, set_3, set_4, look_hit, look, lookD_hit, lookD_cons, lookD_nil, ins_hit, ins, upd_hit, upd, rem1_hit, rem1, dropT, dropSt_eq, initT, cfg_dd, cfg_bd, retE_norm, retE_ret, bndO, bnd, evEq, eqCells, Int.reduceEq, Int.reduceLT, Int.reduceLE, Int.reduceGT, Int.reduceGE, not_false_eq_true, not_true_eq_false, toList_some, Array.size_empty, List.length_append, List.map_append, mu6, List.contains_nil, List.contains_cons, Nat.reduceBEq, Bool.or_self, dlt_t, dlt_f, dle_t, dle_f, dgt_t, dgt_f, dge_t, dge_f, beq_t, beq_f, bne_t, bne_f, lt_T, le_T, nle_T, nle_F, ↓wrap_up, ↓wrap_down, ↓wrap_pred, ↓wrap_sub_nat, i64_in, i64_quo, rem_in, Int.reduceToNat, sh.c29, sh.c24, sh.c23, sh.c30]
      exact ⟨fun _ => (by first | rfl | (refine prep_cut (by rfl) (by rfl) (by rfl) ?_ ?_ <;> simp [AV.underL, AV.under, MB.under, underL_plain, under_plain, plain_ints, plain_span, plain_ins, plain_prg, -List.map_take])), fun _ => (by first | rfl | (refine prep_cut (by rfl) (by rfl) (by rfl) ?_ ?_ <;> simp [AV.underL, AV.under, MB.under, underL_plain, under_plain, plain_ints, plain_span, plain_ins, plain_prg, -List.map_take]))⟩
    · simp +contextual (disch := omega) only [Try.f6, dd6, ty0, ty3, ty4, ty22, ty33, ty35, ty36, ty41, ty53, ty54, ty62, ↓reduceIte, eq_self, bindW_some, bindW_map, bindW_ite, bindW_iteN, W_seq, W_region, W_draw, W_cond, W_ret, W_skip, W_exit, W_scope, W_label, W_block, blockK_norm, blockK_ret, blockK_exit, WO_nil, WO_cons, WO_guard, WD_nil, WD_cons, WD_guard, guardV, guardW_boolT, guardW_boolF, guardW_tup, fpL_some, fpL_none, footprint, thenK_norm, thenK_ret, thenK_exit, put_some, put_none, ev_tmp, ev_con, ev_func, ofK_int, ofK_bool, ofK_str, ofK_nil, evOp, evBuiltin, evCall, evLen, evAppend, getElem_16, getElem_4, List.length_cons, List.length_nil, List.reduceReplicate, Nat.reduceAdd, Nat.reduceSub, List.cons_append, List.nil_append, List.append_nil, if_false, if_true, Bool.false_eq_true, Bool.true_eq_false, reduceCtorEq, Option.map_some, Option.map_none, List.map_cons, List.map_nil, evBinOp, evBin, evUn, asB_bool, splitB_decide, splitB_true, splitB_false, splitB_beq, splitB_bne, splitB_not, endK_ret, endK_norm, List.getElem?_cons_zero, List.getElem?_cons_succ, evResults, evResult, packRes, retK_norm, retK_ret, cellsAt, mkVal, evFieldAddr, evField, evIndexAddr, evPart, evStore, evBuild, evBuildSlice, fillC, fillE, evSlice, evMakeSlice, evConvert, getRow, AV.cells, List.head?_cons, List.drop_zero, List.drop_succ_cons, List.take_zero, List.take_succ_cons, List.drop_nil, List.take_nil, List.all_cons, List.all_nil, AV.ok, Bool.and_self, Bool.and_true, Bool.true_and, and_self, and_true, true_and, Nat.reduceLeDiff, Nat.reduceMul, Nat.reduceLT, Nat.reduceEqDiff, Nat.zero_add, Nat.add_zero, setCells, splice, pairsOk, FP.apart, heapEq_refl, sameAt_refl, Bool.or_true, Bool.true_or, Bool.or_false, srcElems, elemsOf, mutDst, roundK_norm, roundK_exit, roundK_ret, List.length_map, List.getElem?_map, Int.toNat_natCast, Int.reduceBNe, Int.reduceBEq, decide_true, decide_false, Bool.not_true, Bool.not_false, List.set, set_0, set_1, set_2, set_3, set_4, look_hit, look, lookD_hit, lookD_cons, lookD_nil, ins_hit, ins, upd_hit, upd, rem1_hit, rem1, dropT, dropSt_eq, initT, cfg_dd, cfg_bd, retE_norm, retE_ret, bndO, bnd, evEq, eqCells, Int.reduceEq, Int.reduceLT, Int.reduceLE, Int.reduceGT, Int.reduceGE, not_false_eq_true, not_true_eq_false, toList_some, Array.size_empty, List.length_append, List.map_append, mu6, List.contains_nil, List.contains_cons, Nat.reduceBEq, Bool.or_self, dlt_t, dlt_f, dle_t, dle_f, dgt_t, dgt_f, dge_t, dge_f, beq_t, beq_f, bne_t, bne_f, lt_T, le_T, nle_T, nle_F, ↓wrap_up, ↓wrap_down, ↓wrap_pred, ↓wrap_sub_nat, i64_in, i64_quo, rem_in, Int.reduceToNat, sk.c29, sk.c24, sk.c23, sk.c30]
      exact ⟨fun _ => (by first | rfl | (refine prep_cut (by rfl) (by rfl) (by rfl) ?_ ?_ <;> simp [AV.underL, AV.under, MB.under, underL_plain, under_plain, plain_ints, plain_span, plain_ins, plain_prg, -List.map_take])), fun _ => (by first | rfl | (refine prep_cut (by rfl) (by rfl) (by rfl) ?_ ?_ <;> simp [AV.underL, AV.under, MB.under, underL_plain, under_plain, plain_ints, plain_span, plain_ins, plain_prg, -List.map_take]))⟩
    · have z29 : ∀ H, call Try.prog pol1 29 [.agg [.sl true [], I 0, .bool false]] H = some (I 1, H) := sz.c29
      have z24 : ∀ H, call Try.prog pol1 24 [.agg [.sl true [], I 0, .bool false]] H = some (.agg [.sl false [], I 0, .bool false], H) := sz.c24
      have z23 : ∀ H, call Try.prog pol1 23 [.agg [.sl false [], I 0, .bool false], .sl true [], I (-1), I (-1), I (-1)] H = some (.tup [.sl false [], I 1], H) := sz.c23
      have z30 : ∀ H, call Try.prog pol1 30 [.agg [.sl false [], I 0, .bool false]] H = some (I 1, H) := sz.c30
      simp +contextual (disch := omega) only [Try.f6, dd6, ty0, ty3, ty4, ty22, ty33, ty35, ty36, ty41, ty53, ty54, ty62, ↓reduceIte, eq_self, bindW_some, bindW_map, bindW_ite, bindW_iteN, W_seq, W_region, W_draw, W_cond, W_ret, W_skip, W_exit, W_scope, W_label, W_block, blockK_norm, blockK_ret, blockK_exit, WO_nil, WO_cons, WO_guard, WD_nil, WD_cons, WD_guard, guardV, guardW_boolT, guardW_boolF, guardW_tup, fpL_some, fpL_none, footprint, thenK_norm, thenK_ret, thenK_exit, put_some, put_none, ev_tmp, ev_con, ev_func, ofK_int, ofK_bool, ofK_str, ofK_nil, evOp, evBuiltin, evCall, evLen, evAppend, getElem_16, getElem_4, List.length_cons, List.length_nil, List.reduceReplicate, Nat.reduceAdd, Nat.reduceSub, List.cons_append, List.nil_append, List.append_nil, if_false, if_true, Bool.false_eq_true, Bool.true_eq_false, reduceCtorEq, Option.map_some, Option.map_none, List.map_cons, List.map_nil, evBinOp, evBin, evUn, asB_bool, splitB_decide, splitB_true, splitB_false, splitB_beq, splitB_bne, splitB_not, endK_ret, endK_norm, List.getElem?_cons_zero, List.getElem?_cons_succ, evResults, evResult, packRes, retK_norm, retK_ret, cellsAt, mkVal, evFieldAddr, evField, evIndexAddr, evPart, evStore, evBuild, evBuildSlice, fillC, fillE, evSlice, evMakeSlice, evConvert, getRow, AV.cells, List.head?_cons, List.drop_zero, List.drop_succ_cons, List.take_zero, List.take_succ_cons, List.drop_nil, List.take_nil, List.all_cons, List.all_nil, AV.ok, Bool.and_self, Bool.and_true, Bool.true_and, and_self, and_true, true_and, Nat.reduceLeDiff, Nat.reduceMul, Nat.reduceLT, Nat.reduceEqDiff, Nat.zero_add, Nat.add_zero, setCells, splice, pairsOk, FP.apart, heapEq_refl, sameAt_refl, Bool.or_true, Bool.true_or, Bool.or_false, srcElems, elemsOf, mutDst, roundK_norm, roundK_exit, roundK_ret, List.length_map, List.getElem?_map, Int.toNat_natCast, Int.reduceBNe, Int.reduceBEq, decide_true, decide_false, Bool.not_true, Bool.not_false, List.set, set_0, set_1, set_2, set_3, set_4, look_hit, look, lookD_hit, lookD_cons, lookD_nil, ins_hit, ins, upd_hit, upd, rem1_hit, rem1, dropT, dropSt_eq, initT, cfg_dd, cfg_bd, retE_norm, retE_ret, bndO, bnd, evEq, eqCells, Int.reduceEq, Int.reduceLT, Int.reduceLE, Int.reduceGT, Int.reduceGE, not_false_eq_true, not_true_eq_false, toList_some, Array.size_empty, List.length_append, List.map_append, mu6, List.contains_nil, List.contains_cons, Nat.reduceBEq, Bool.or_self, dlt_t, dlt_f, dle_t, dle_f, dgt_t, dgt_f, dge_t, dge_f, beq_t, beq_f, bne_t, bne_f, lt_T, le_T, nle_T, nle_F, ↓wrap_up, ↓wrap_down, ↓wrap_pred, ↓wrap_sub_nat, i64_in, i64_quo, rem_in, Int.reduceToNat, z29, z24, z23, z30]
      exact (by first | rfl | (refine prep_cut (by rfl) (by rfl) (by rfl) ?_ ?_ <;> simp [AV.underL, AV.under, MB.under, underL_plain, under_plain, plain_ints, plain_span, plain_ins, plain_prg, -List.map_take]))
    · omega
  · intro _
    obtain ⟨HB, hB⟩ := big (8190 + k) (by omega) (by omega) (.row 3 [prgAV g] 0) (.row 3 [prgAV h] 0)
    by_cases h82 : 8192 < 8190 + k
    · rw [if_pos h82] at hB
      simp +contextual (disch := omega) only [Try.f6, dd6, ty0, ty3, ty4, ty22, ty33, ty35, ty36, ty41, ty53, ty54, ty62, ↓reduceIte, eq_self, bindW_some, bindW_map, bindW_ite, bindW_iteN, W_seq, W_region, W_draw, W_cond, W_ret, W_skip, W_exit, W_scope, W_label, W_block, blockK_norm, blockK_ret, blockK_exit, WO_nil, WO_cons, WO_guard, WD_nil, WD_cons, WD_guard, guardV, guardW_boolT, guardW_boolF, guardW_tup, fpL_some, fpL_none, footprint, thenK_norm, thenK_ret, thenK_exit, put_some, put_none, ev_tmp, ev_con, ev_func, ofK_int, ofK_bool, ofK_str, ofK_nil, evOp, evBuiltin, evCall, evLen, evAppend, getElem_16, getElem_4, List.length_cons, List.length_nil, List.reduceReplicate, Nat.reduceAdd, Nat.reduceSub, List.cons_append, List.nil_append, List.append_nil, if_false, if_true, Bool.false_eq_true, Bool.true_eq_false, reduceCtorEq, Option.map_some, Option.map_none, List.map_cons, List.map_nil, evBinOp, evBin, evUn, asB_bool, splitB_decide, splitB_true, splitB_false, splitB_beq, splitB_bne, splitB_not, endK_ret, endK_norm, List.getElem?_cons_zero, List.getElem?_cons_succ, evResults, evResult, packRes, retK_norm, retK_ret, cellsAt, mkVal, evFieldAddr, evField, evIndexAddr, evPart, evStore, evBuild, evBuildSlice, fillC, fillE, evSlice, evMakeSlice, evConvert, getRow, AV.cells, List.head?_cons, List.drop_zero, List.drop_succ_cons, List.take_zero, List.take_succ_cons, List.drop_nil, List.take_nil, List.all_cons, List.all_nil, AV.ok, Bool.and_self, Bool.and_true, Bool.true_and, and_self, and_true, true_and, Nat.reduceLeDiff, Nat.reduceMul, Nat.reduceLT, Nat.reduceEqDiff, Nat.zero_add, Nat.add_zero, setCells, splice, pairsOk, FP.apart, heapEq_refl, sameAt_refl, Bool.or_true, Bool.true_or, Bool.or_false, srcElems, elemsOf, mutDst, roundK_norm, roundK_exit, roundK_ret, List.length_map, List.getElem?_map, Int.toNat_natCast, Int.reduceBNe, Int.reduceBEq, decide_true, decide_false, Bool.not_true, Bool.not_false, List.set, set_0, set_1, set_2, set_3, set_4, look_hit, look, lookD_hit, lookD_cons, lookD_nil, ins_hit, ins, upd_hit, upd, rem1_hit, rem1, dropT, dropSt_eq, initT, cfg_dd, cfg_bd, retE_norm, retE_ret, bndO, bnd, evEq, eqCells, Int.reduceEq, Int.reduceLT, Int.reduceLE, Int.reduceGT, Int.reduceGE, not_false_eq_true, not_true_eq_false, toList_some, Array.size_empty, List.length_append, List.map_append, mu6, List.contains_nil, List.contains_cons, Nat.reduceBEq, Bool.or_self, dlt_t, dlt_f, dle_t, dle_f, dgt_t, dgt_f, dge_t, dge_f, beq_t, beq_f, bne_t, bne_f, lt_T, le_T, nle_T, nle_F, ↓wrap_up, ↓wrap_down, ↓wrap_pred, ↓wrap_sub_nat, i64_in, i64_quo, rem_in, Int.reduceToNat, c4, ↓hm, ty104, hB, lives]
      refine ⟨by simp [roomFor]; omega, fzEq rfl rfl⟩
    · rw [if_neg h82] at hB
      simp +contextual (disch := omega) only [Try.f6, dd6, ty0, ty3, ty4, ty22, ty33, ty35, ty36, ty41, ty53, ty54, ty62, ↓reduceIte, eq_self, bindW_some, bindW_map, bindW_ite, bindW_iteN, W_seq, W_region, W_draw, W_cond, W_ret, W_skip, W_exit, W_scope, W_label, W_block, blockK_norm, blockK_ret, blockK_exit, WO_nil, WO_cons, WO_guard, WD_nil, WD_cons, WD_guard, guardV, guardW_boolT, guardW_boolF, guardW_tup, fpL_some, fpL_none, footprint, thenK_norm, thenK_ret, thenK_exit, put_some, put_none, ev_tmp, ev_con, ev_func, ofK_int, ofK_bool, ofK_str, ofK_nil, evOp, evBuiltin, evCall, evLen, evAppend, getElem_16, getElem_4, List.length_cons, List.length_nil, List.reduceReplicate, Nat.reduceAdd, Nat.reduceSub, List.cons_append, List.nil_append, List.append_nil, if_false, if_true, Bool.false_eq_true, Bool.true_eq_false, reduceCtorEq, Option.map_some, Option.map_none, List.map_cons, List.map_nil, evBinOp, evBin, evUn, asB_bool, splitB_decide, splitB_true, splitB_false, splitB_beq, splitB_bne, splitB_not, endK_ret, endK_norm, List.getElem?_cons_zero, List.getElem?_cons_succ, evResults, evResult, packRes, retK_norm, retK_ret, cellsAt, mkVal, evFieldAddr, evField, evIndexAddr, evPart, evStore, evBuild, evBuildSlice, fillC, fillE, evSlice, evMakeSlice, evConvert, getRow, AV.cells, List.head?_cons, List.drop_zero, List.drop_succ_cons, List.take_zero, List.take_succ_cons, List.drop_nil, List.take_nil, List.all_cons, List.all_nil, AV.ok, Bool.and_self, Bool.and_true, Bool.true_and, and_self, and_true, true_and, Nat.reduceLeDiff, Nat.reduceMul, Nat.reduceLT, Nat.reduceEqDiff, Nat.zero_add, Nat.add_zero, setCells, splice, pairsOk, FP.apart, heapEq_refl, sameAt_refl, Bool.or_true, Bool.true_or, Bool.or_false, srcElems, elemsOf, mutDst, roundK_norm, roundK_exit, roundK_ret, List.length_map, List.getElem?_map, Int.toNat_natCast, Int.reduceBNe, Int.reduceBEq, decide_true, decide_false, Bool.not_true, Bool.not_false, List.set, set_0, set_1, set_2, set_3, set_4, look_hit, look, lookD_hit, lookD_cons, lookD_nil, ins_hit, ins, upd_hit, upd, rem1_hit, rem1, dropT, dropSt_eq, initT, cfg_dd, cfg_bd, retE_norm, retE_ret, bndO, bnd, evEq, eqCells, Int.reduceEq, Int.reduceLT, Int.reduceLE, Int.reduceGT, Int.reduceGE, not_false_eq_true, not_true_eq_false, toList_some, Array.size_empty, List.length_append, List.map_append, mu6, List.contains_nil, List.contains_cons, Nat.reduceBEq, Bool.or_self, dlt_t, dlt_f, dle_t, dle_f, dgt_t, dgt_f, dge_t, dge_f, beq_t, beq_f, bne_t, bne_f, lt_T, le_T, nle_T, nle_F, ↓wrap_up, ↓wrap_down, ↓wrap_pred, ↓wrap_sub_nat, i64_in, i64_quo, rem_in, Int.reduceToNat, c4, ↓hm, ty104, hB, lives]
      refine ⟨by simp [roomFor]; omega, fzEq rfl rfl⟩
end Go.Ev
