/- The plain law on paths, continued: registers that nothing reads; fewer results, more fuel. No program in sight. -/
import Derived.Test.YtpbobopcmhpbbaaP11
import Derived.Test.YtpbobopcmhpbbaaP07
import Derived.Test.YtpbobopcmhpbbaaP05
import Derived.Test.YtpbobopcmhpbbaaP08
import Derived.Test.YtpbobopcmhpbbaaP10
set_option linter.unusedVariables false
set_option linter.unusedSimpArgs false
namespace Go.Ev

/-- Alike in all that matters: the first registers. -/
def Way.same (n : Nat) (a b : Way) : Prop := a.pc = b.pc ∧ a.at_ = b.at_ ∧ a.regs.take (2 * n) = b.regs.take (2 * n)
def sameL (n : Nat) : List Way → List Way → Prop
  | [], [] => True
  | a :: l, b :: m => a.same n b ∧ sameL n l m
  | _, _ => False
theorem sameL_append {n : Nat} : ∀ {a b c d : List Way}, sameL n a b → sameL n c d → sameL n (a ++ c) (b ++ d)
  | [], [], _, _, _, h => h
  | _ :: _, _ :: _, _, _, h1, h2 => ⟨h1.1, sameL_append h1.2 h2⟩
  | [], _ :: _, _, _, h, _ => h.elim
  | _ :: _, [], _, _, h, _ => h.elim
theorem sameL_len {n : Nat} : ∀ {a b : List Way}, sameL n a b → a.length = b.length
  | [], [], _ => rfl
  | _ :: _, _ :: _, h => by simp [sameL_len h.2]
  | [], _ :: _, h => h.elim
  | _ :: _, [], h => h.elim

theorem step_same {p : Prog1} {n : Nat} {a b : Way} (h : a.same n b) : (stepW p a = .done ∧ stepW p b = .done) ∨ ∃ l m, stepW p a = .ways l ∧ stepW p b = .ways m ∧ sameL n l m := by
  obtain ⟨h1, h2, h3⟩ := h
  unfold stepW
  rw [h1, h2]
  cases p.ins b.pc with
  | none => exact .inr ⟨[], [], rfl, rfl, trivial⟩
  | some i =>
    simp only []
    split
    · exact .inl ⟨rfl, rfl⟩
    · refine .inr ?_
      split
      · split
        · exact ⟨_, _, rfl, rfl, ⟨rfl, rfl, h3⟩, trivial⟩
        · exact ⟨_, _, rfl, rfl, trivial⟩
      · split
        · exact ⟨_, _, rfl, rfl, ⟨rfl, rfl, h3⟩, ⟨rfl, rfl, h3⟩, trivial⟩
        · split
          · exact ⟨_, _, rfl, rfl, ⟨rfl, rfl, h3⟩, trivial⟩
          · split
            · refine ⟨_, _, rfl, rfl, ⟨rfl, rfl, ?_⟩, trivial⟩
              show (a.regs.set i.n.toNat _).take _ = (b.regs.set i.n.toNat _).take _
              rw [List.take_set, List.take_set, h3]
            · split
              · exact ⟨_, _, rfl, rfl, ⟨rfl, rfl, h3⟩, trivial⟩
              · exact ⟨_, _, rfl, rfl, trivial⟩

theorem run_same {p : Prog1} {n : Nat} {most : Int} : ∀ (fuel : Nat) (todo todo' out out' : List Way), sameL n todo todo' → sameL n out out' →
    (runW p most fuel todo out = none ∧ runW p most fuel todo' out' = none) ∨ ∃ o o', runW p most fuel todo out = some o ∧ runW p most fuel todo' out' = some o' ∧ sameL n o o'
  | fuel, [], [], out, out', _, h => .inr ⟨out, out', by unfold runW; rfl, by unfold runW; rfl, h⟩
  | _, [], _ :: _, _, _, h, _ => h.elim
  | _, _ :: _, [], _, _, h, _ => h.elim
  | 0, w :: todo, w' :: todo', out, out', h, h' => by
    have hl := sameL_len h'
    by_cases ho : (out.length : Int) = most
    · exact .inr ⟨out, out', runW_full ho, runW_full (by rw [← hl]; exact ho), h'⟩
    · exact .inl ⟨runW_zero ho, runW_zero (by rw [← hl]; exact ho)⟩
  | fuel + 1, w :: todo, w' :: todo', out, out', h, h' => by
    have hl := sameL_len h'
    by_cases ho : (out.length : Int) = most
    · exact .inr ⟨out, out', runW_full ho, runW_full (by rw [← hl]; exact ho), h'⟩
    · rw [runW_step ho, runW_step (by rw [← hl]; exact ho)]
      rcases step_same (p := p) h.1 with ⟨h1, h2⟩ | ⟨l, m, h1, h2, h3⟩
      · rw [h1, h2]
        exact run_same fuel todo todo' _ _ h.2 (sameL_append h' ⟨h.1, trivial⟩)
      · rw [h1, h2]
        exact run_same fuel _ _ _ _ (sameL_append h3 h.2) h'

theorem caps_same {n : Nat} {a b : Way} (pos : Int) (h : a.same n b) : matOf pos n a = matOf pos n b := by
  obtain ⟨h1, h2, h3⟩ := h
  have hg : ∀ k, k < 2 * n → a.regs.getD k 0 = b.regs.getD k 0 := fun k hk => by
    have e : ∀ l : List Int, (l.take (2 * n))[k]? = l[k]? := fun l => by rw [List.getElem?_take, if_pos hk]
    rw [List.getD_eq_getElem?_getD, List.getD_eq_getElem?_getD, ← e a.regs, ← e b.regs, h3]
  unfold matOf capsN
  rw [h2]
  congr 2
  apply List.map_congr_left
  intro k hk
  have := List.mem_range.1 hk
  rw [hg (2 * k) (by omega), hg (2 * k + 1) (by omega)]
theorem mats_same {n : Nat} (pos : Int) : ∀ {l m : List Way}, sameL n l m → l.map (matOf pos n) = m.map (matOf pos n)
  | [], [], _ => rfl
  | _ :: _, _ :: _, h => by simp [caps_same pos h.1, mats_same pos h.2]
  | [], _ :: _, h => h.elim
  | _ :: _, [], h => h.elim

/-- The matches of a run. -/
def matsOf (pos : Int) (n : Nat) (o : Option (List Way)) : Option (List M3) := o.map fun l => l.map (matOf pos n)
theorem matsOf_same {p : Prog1} {n : Nat} {most : Int} (pos : Int) (fuel : Nat) (w w' : Way) (h : w.same n w') : matsOf pos n (runW p most fuel [w] []) = matsOf pos n (runW p most fuel [w'] []) := by
  rcases run_same (p := p) (n := n) (most := most) fuel [w] [w'] [] [] ⟨h, trivial⟩ trivial with ⟨h1, h2⟩ | ⟨o, o', h1, h2, h3⟩
  · rw [h1, h2]
  · rw [h1, h2]
    simp only [matsOf, Option.map_some, mats_same pos h3]

/-- What was found stays found, in front. -/
theorem run_front {p : Prog1} {most : Int} : ∀ (fuel : Nat) (todo out o : List Way), runW p most fuel todo out = some o → out <+: o ∧ o.length ≤ out.length + fuel
  | fuel, [], out, o, h => by
    unfold runW at h
    simp at h; subst h
    exact ⟨List.prefix_refl _, by omega⟩
  | 0, w :: todo, out, o, h => by
    by_cases ho : (out.length : Int) = most
    · rw [runW_full ho] at h; cases h; exact ⟨List.prefix_refl _, by omega⟩
    · rw [runW_zero ho] at h; cases h
  | fuel + 1, w :: todo, out, o, h => by
    by_cases ho : (out.length : Int) = most
    · rw [runW_full ho] at h; cases h; exact ⟨List.prefix_refl _, by omega⟩
    · rw [runW_step ho] at h
      cases hs : stepW p w with
      | done =>
        rw [hs] at h
        obtain ⟨h1, h2⟩ := run_front fuel _ _ _ h
        exact ⟨(List.prefix_append _ _).trans h1, by simp at h2; omega⟩
      | ways l =>
        rw [hs] at h
        obtain ⟨h1, h2⟩ := run_front fuel _ _ _ h
        exact ⟨h1, by omega⟩

/-- More fuel changes nothing. -/
theorem run_more {p : Prog1} {most : Int} (d : Nat) : ∀ (fuel : Nat) (todo out o : List Way), runW p most fuel todo out = some o → runW p most (fuel + d) todo out = some o
  | fuel, [], out, o, h => by
    unfold runW at h ⊢
    exact h
  | 0, w :: todo, out, o, h => by
    by_cases ho : (out.length : Int) = most
    · rw [runW_full ho] at h ⊢; exact h
    · rw [runW_zero ho] at h; cases h
  | fuel + 1, w :: todo, out, o, h => by
    by_cases ho : (out.length : Int) = most
    · rw [runW_full ho] at h ⊢; exact h
    · rw [runW_step ho] at h
      rw [show fuel + 1 + d = (fuel + d) + 1 by omega, runW_step ho]
      cases hs : stepW p w with
      | done => rw [hs] at h; exact run_more d fuel _ _ _ h
      | ways l => rw [hs] at h; exact run_more d fuel _ _ _ h

/-- With one result fewer asked for. -/
theorem run_fewer {p : Prog1} {k : Nat} : ∀ (fuel : Nat) (todo out o : List Way), out.length ≤ k → runW p ((k + 1 : Nat) : Int) fuel todo out = some o →
    ∃ o', runW p k fuel todo out = some o' ∧ o' <+: o ∧ o'.length ≤ k
  | fuel, [], out, o, hl, h => by
    unfold runW at h ⊢
    simp at h; subst h
    exact ⟨out, rfl, List.prefix_refl _, hl⟩
  | fuel, w :: todo, out, o, hl, h => by
    by_cases ho : (out.length : Int) = k
    · exact ⟨out, runW_full ho, (run_front _ _ _ _ h).1, hl⟩
    · have ho' : ¬ (out.length : Int) = ((k + 1 : Nat) : Int) := by omega
      cases fuel with
      | zero => rw [runW_zero ho'] at h; cases h
      | succ fuel =>
        rw [runW_step ho'] at h
        rw [runW_step ho]
        cases hs : stepW p w with
        | done => rw [hs] at h; exact run_fewer fuel _ _ _ (by simp; omega) h
        | ways l => rw [hs] at h; exact run_fewer fuel _ _ _ hl h
theorem run_most {p : Prog1} {k : Nat} : ∀ (fuel : Nat) (todo out o : List Way), out.length ≤ k → runW p k fuel todo out = some o → o.length ≤ k
  | fuel, [], out, o, hl, h => by
    unfold runW at h
    simp at h; subst h; exact hl
  | fuel, w :: todo, out, o, hl, h => by
    by_cases ho : (out.length : Int) = k
    · rw [runW_full ho] at h; cases h; exact hl
    · cases fuel with
      | zero => rw [runW_zero ho] at h; cases h
      | succ fuel =>
        rw [runW_step ho] at h
        cases hs : stepW p w with
        | done => rw [hs] at h; exact run_most fuel _ _ _ (by simp; omega) h
        | ways l => rw [hs] at h; exact run_most fuel _ _ _ hl h
end Go.Ev
namespace Go.Ev
open Go.Proofs Go.RowKit Go.IntWalk
set_option maxRecDepth 100000
set_option linter.unusedSimpArgs false
set_option linter.unusedVariables false
set_option maxHeartbeats 4000000

def aroundI (n m : Int) : Int := (if n < 0 then - (n + 1) else n) % m
def In64 (n : Int) : Prop := -9223372036854775808 ≤ n ∧ n ≤ 9223372036854775807
theorem around_lt {n m : Int} (h : 0 < m) : 0 ≤ aroundI n m ∧ aroundI n m < m := by
  unfold aroundI
  have : 0 ≤ (if n < 0 then - (n + 1) else n) := by split <;> omega
  exact ⟨Int.emod_nonneg _ (by omega), Int.emod_lt_of_pos _ h⟩
theorem f12 (n m : Int) (hn : In64 n) (hm : m ≠ 0) (H : List MB) : call Try.prog pol1 12 [.int .i64 n, .int .i64 m] H = some (I (aroundI n m), H) := by
  obtain ⟨h1, h2⟩ := hn
  refine call_run Try.func12 rfl rfl rfl rfl rfl rfl (fun _ => rfl) (by simp [AV.plain, AV.plainL, plain_ints, plain_span, plain_ins, plain_prg]) (by simp [AV.plain, AV.plainL, plain_ints, plain_span, plain_ins, plain_prg]) ?_ H
  simp +contextual (disch := omega) only [Try.f12, dd12, ty3, ty4, ↓reduceIte, eq_self, bindW_some, bindW_map, bindW_ite, bindW_iteN, W_seq, W_region, W_draw, W_cond, W_ret, W_skip, W_exit, W_scope, W_label, W_block, blockK_norm, blockK_ret, blockK_exit, WO_nil, WO_cons, WO_guard, WD_nil, WD_cons, WD_guard, guardV, guardW_boolT, guardW_boolF, guardW_tup, fpL_some, fpL_none, footprint, thenK_norm, thenK_ret, thenK_exit, put_some, put_none, ev_tmp, ev_con, ev_func, ofK_int, ofK_bool, ofK_str, ofK_nil, evOp, evBuiltin, evCall, evLen, evAppend, getElem_16, getElem_4, List.length_cons, List.length_nil, List.reduceReplicate, Nat.reduceAdd, Nat.reduceSub, List.cons_append, List.nil_append, List.append_nil, if_false, if_true, Bool.false_eq_true, Bool.true_eq_false, reduceCtorEq, Option.map_some, Option.map_none, List.map_cons, List.map_nil, evBinOp, evBin, evUn, asB_bool, splitB_decide, splitB_true, splitB_false, splitB_beq, splitB_bne, splitB_not, endK_ret, endK_norm, List.getElem?_cons_zero, List.getElem?_cons_succ, evResults, evResult, packRes, retK_norm, retK_ret, cellsAt, mkVal, evFieldAddr, evField, evIndexAddr, evPart, evStore, evBuild, evBuildSlice, fillC, fillE, evSlice, evMakeSlice, evConvert, getRow, AV.cells, List.head?_cons, List.drop_zero, List.drop_succ_cons, List.take_zero, List.take_succ_cons, List.drop_nil, List.take_nil, List.all_cons, List.all_nil, AV.ok, Bool.and_self, Bool.and_true, Bool.true_and, and_self, and_true, true_and, Nat.reduceLeDiff, Nat.reduceMul, Nat.reduceLT, Nat.reduceEqDiff, Nat.zero_add, Nat.add_zero, setCells, splice, pairsOk, FP.apart, heapEq_refl, sameAt_refl, Bool.or_true, Bool.true_or, Bool.or_false, srcElems, elemsOf, mutDst, roundK_norm, roundK_exit, roundK_ret, List.length_map, List.getElem?_map, Int.toNat_natCast, Int.reduceBNe, Int.reduceBEq, decide_true, decide_false, Bool.not_true, Bool.not_false, List.set, set_0, set_1, set_2, set_3, set_4, look_hit, look, lookD_hit, lookD_cons, lookD_nil, ins_hit, ins, upd_hit, upd, rem1_hit, rem1, dropT, dropSt_eq, initT, cfg_dd, cfg_bd, cfg_ra, actL_nil, actL_cons, act1, updT_hit, updT, frzB, mu12, List.contains_nil, List.contains_cons, Nat.reduceBEq, Bool.or_self, dlt_t, dlt_f, dle_t, dle_f, dgt_t, dgt_f, dge_t, dge_f, beq_t, beq_f, bne_t, bne_f, lt_T, le_T, nle_T, nle_F, ↓wrap_up, ↓wrap_down, ↓wrap_pred, ↓wrap_sub_nat, i64_in, i64_quo, rem_in, Int.reduceToNat]
  unfold aroundI
  refine ⟨fun h => ⟨hm, fzEq rfl ?_⟩, fun h => ⟨hm, fzEq rfl ?_⟩⟩
  · rw [if_pos h]; try (congr 2; omega)
  · rw [if_neg h]

def pickI (l : List Int) (i m : Int) : Int := if i < 0 then 0 else match l[i.toNat]? with
  | some x => aroundI x m
  | none => 0
theorem pick_lt {l : List Int} {i m : Int} (h : 0 < m) : 0 ≤ pickI l i m ∧ pickI l i m < m := by
  unfold pickI
  split
  · omega
  · split
    · exact around_lt h
    · omega
theorem f57 (l : List Int) (i m : Int) (hl : ∀ x ∈ l, In64 x) (hm : m ≠ 0) (H : List MB) : call Try.prog pol1 57 [.sl false (l.map I), .int .i64 i, .int .i64 m] H = some (I (pickI l i m), H) := by
  refine call_run Try.func57 rfl rfl rfl rfl rfl rfl (fun _ => rfl) (by simp [AV.plain, AV.plainL, plain_ints, plain_span, plain_ins, plain_prg]) (by simp [AV.plain, AV.plainL, plain_ints, plain_span, plain_ins, plain_prg]) ?_ H
  by_cases h0 : i < 0
  · have e : pickI l i m = 0 := by simp [pickI, h0]
    rw [e]
    simp +contextual (disch := omega) only [Try.f57, dd57, ty0, ty3, ty4, ty22, ↓reduceIte, eq_self, bindW_some, bindW_map, bindW_ite, bindW_iteN, W_seq, W_region, W_draw, W_cond, W_ret, W_skip, W_exit, W_scope, W_label, W_block, blockK_norm, blockK_ret, blockK_exit, WO_nil, WO_cons, WO_guard, WD_nil, WD_cons, WD_guard, guardV, guardW_boolT, guardW_boolF, guardW_tup, fpL_some, fpL_none, footprint, thenK_norm, thenK_ret, thenK_exit, put_some, put_none, ev_tmp, ev_con, ev_func, ofK_int, ofK_bool, ofK_str, ofK_nil, evOp, evBuiltin, evCall, evLen, evAppend, getElem_16, getElem_4, List.length_cons, List.length_nil, List.reduceReplicate, Nat.reduceAdd, Nat.reduceSub, List.cons_append, List.nil_append, List.append_nil, if_false, if_true, Bool.false_eq_true, Bool.true_eq_false, reduceCtorEq, Option.map_some, Option.map_none, List.map_cons, List.map_nil, evBinOp, evBin, evUn, asB_bool, splitB_decide, splitB_true, splitB_false, splitB_beq, splitB_bne, splitB_not, endK_ret, endK_norm, List.getElem?_cons_zero, List.getElem?_cons_succ, evResults, evResult, packRes, retK_norm, retK_ret, cellsAt, mkVal, evFieldAddr, evField, evIndexAddr, evPart, evStore, evBuild, evBuildSlice, fillC, fillE, evSlice, evMakeSlice, evConvert, getRow, AV.cells, List.head?_cons, List.drop_zero, List.drop_succ_cons, List.take_zero, List.take_succ_cons, List.drop_nil, List.take_nil, List.all_cons, List.all_nil, AV.ok, Bool.and_self, Bool.and_true, Bool.true_and, and_self, and_true, true_and, Nat.reduceLeDiff, Nat.reduceMul, Nat.reduceLT, Nat.reduceEqDiff, Nat.zero_add, Nat.add_zero, setCells, splice, pairsOk, FP.apart, heapEq_refl, sameAt_refl, Bool.or_true, Bool.true_or, Bool.or_false, srcElems, elemsOf, mutDst, roundK_norm, roundK_exit, roundK_ret, List.length_map, List.getElem?_map, Int.toNat_natCast, Int.reduceBNe, Int.reduceBEq, decide_true, decide_false, Bool.not_true, Bool.not_false, List.set, set_0, set_1, set_2, set_3, set_4, look_hit, look, lookD_hit, lookD_cons, lookD_nil, ins_hit, ins, upd_hit, upd, rem1_hit, rem1, dropT, dropSt_eq, initT, cfg_dd, cfg_bd, cfg_ra, actL_nil, actL_cons, act1, updT_hit, updT, frzB, mu57, List.contains_nil, List.contains_cons, Nat.reduceBEq, Bool.or_self, dlt_t, dlt_f, dle_t, dle_f, dgt_t, dgt_f, dge_t, dge_f, beq_t, beq_f, bne_t, bne_f, lt_T, le_T, nle_T, nle_F, ↓wrap_up, ↓wrap_down, ↓wrap_pred, ↓wrap_sub_nat, i64_in, i64_quo, rem_in, Int.reduceToNat]
    exact fzEq rfl rfl
  · obtain ⟨k, rfl⟩ : ∃ k : Nat, i = k := ⟨i.toNat, by omega⟩
    by_cases h1 : k < l.length
    · obtain ⟨p, hp⟩ : ∃ p, l[k]? = some p := ⟨_, List.getElem?_eq_getElem h1⟩
      have e : pickI l k m = aroundI p m := by simp [pickI, h0, hp]
      rw [e]
      have hf := f12 p m (hl p (List.mem_of_getElem? hp)) hm
      simp +contextual (disch := omega) only [Try.f57, dd57, ty0, ty3, ty4, ty22, ↓reduceIte, eq_self, bindW_some, bindW_map, bindW_ite, bindW_iteN, W_seq, W_region, W_draw, W_cond, W_ret, W_skip, W_exit, W_scope, W_label, W_block, blockK_norm, blockK_ret, blockK_exit, WO_nil, WO_cons, WO_guard, WD_nil, WD_cons, WD_guard, guardV, guardW_boolT, guardW_boolF, guardW_tup, fpL_some, fpL_none, footprint, thenK_norm, thenK_ret, thenK_exit, put_some, put_none, ev_tmp, ev_con, ev_func, ofK_int, ofK_bool, ofK_str, ofK_nil, evOp, evBuiltin, evCall, evLen, evAppend, getElem_16, getElem_4, List.length_cons, List.length_nil, List.reduceReplicate, Nat.reduceAdd, Nat.reduceSub, List.cons_append, List.nil_append, List.append_nil, if_false, if_true, Bool.false_eq_true, Bool.true_eq_false, reduceCtorEq, Option.map_some, Option.map_none, List.map_cons, List.map_nil, evBinOp, evBin, evUn, asB_bool, splitB_decide, splitB_true, splitB_false, splitB_beq, splitB_bne, splitB_not, endK_ret, endK_norm, List.getElem?_cons_zero, List.getElem?_cons_succ, evResults, evResult, packRes, retK_norm, retK_ret, cellsAt, mkVal, evFieldAddr, evField, evIndexAddr, evPart, evStore, evBuild, evBuildSlice, fillC, fillE, evSlice, evMakeSlice, evConvert, getRow, AV.cells, List.head?_cons, List.drop_zero, List.drop_succ_cons, List.take_zero, List.take_succ_cons, List.drop_nil, List.take_nil, List.all_cons, List.all_nil, AV.ok, Bool.and_self, Bool.and_true, Bool.true_and, and_self, and_true, true_and, Nat.reduceLeDiff, Nat.reduceMul, Nat.reduceLT, Nat.reduceEqDiff, Nat.zero_add, Nat.add_zero, setCells, splice, pairsOk, FP.apart, heapEq_refl, sameAt_refl, Bool.or_true, Bool.true_or, Bool.or_false, srcElems, elemsOf, mutDst, roundK_norm, roundK_exit, roundK_ret, List.length_map, List.getElem?_map, Int.toNat_natCast, Int.reduceBNe, Int.reduceBEq, decide_true, decide_false, Bool.not_true, Bool.not_false, List.set, set_0, set_1, set_2, set_3, set_4, look_hit, look, lookD_hit, lookD_cons, lookD_nil, ins_hit, ins, upd_hit, upd, rem1_hit, rem1, dropT, dropSt_eq, initT, cfg_dd, cfg_bd, cfg_ra, actL_nil, actL_cons, act1, updT_hit, updT, frzB, mu57, List.contains_nil, List.contains_cons, Nat.reduceBEq, Bool.or_self, dlt_t, dlt_f, dle_t, dle_f, dgt_t, dgt_f, dge_t, dge_f, beq_t, beq_f, bne_t, bne_f, lt_T, le_T, nle_T, nle_F, ↓wrap_up, ↓wrap_down, ↓wrap_pred, ↓wrap_sub_nat, i64_in, i64_quo, rem_in, Int.reduceToNat, hp, hf]
      exact fzEq rfl rfl
    · have e : pickI l k m = 0 := by simp [pickI, List.getElem?_eq_none (Nat.le_of_not_lt h1)]
      rw [e]
      simp +contextual (disch := omega) only [Try.f57, dd57, ty0, ty3, ty4, ty22, ↓reduceIte, eq_self, bindW_some, bindW_map, bindW_ite, bindW_iteN, W_seq, W_region, W_draw, W_cond, W_ret, W_skip, W_exit, W_scope, W_label, W_block, blockK_norm, blockK_ret, blockK_exit, WO_nil, WO_cons, WO_guard, WD_nil, WD_cons, WD_guard, guardV, guardW_boolT, guardW_boolF, guardW_tup, fpL_some, fpL_none, footprint, thenK_norm, thenK_ret, thenK_exit, put_some, put_none, ev_tmp, ev_con, ev_func, ofK_int, ofK_bool, ofK_str, ofK_nil, evOp, evBuiltin, evCall, evLen, evAppend, getElem_16, getElem_4, List.length_cons, List.length_nil, List.reduceReplicate, Nat.reduceAdd, Nat.reduceSub, List.cons_append, List.nil_append, List.append_nil, if_false, if_true, Bool.false_eq_true, Bool.true_eq_false, reduceCtorEq, Option.map_some, Option.map_none, List.map_cons, List.map_nil, evBinOp, evBin, evUn, asB_bool, splitB_decide, splitB_true, splitB_false, splitB_beq, splitB_bne, splitB_not, endK_ret, endK_norm, List.getElem?_cons_zero, List.getElem?_cons_succ, evResults, evResult, packRes, retK_norm, retK_ret, cellsAt, mkVal, evFieldAddr, evField, evIndexAddr, evPart, evStore, evBuild, evBuildSlice, fillC, fillE, evSlice, evMakeSlice, evConvert, getRow, AV.cells, List.head?_cons, List.drop_zero, List.drop_succ_cons, List.take_zero, List.take_succ_cons, List.drop_nil, List.take_nil, List.all_cons, List.all_nil, AV.ok, Bool.and_self, Bool.and_true, Bool.true_and, and_self, and_true, true_and, Nat.reduceLeDiff, Nat.reduceMul, Nat.reduceLT, Nat.reduceEqDiff, Nat.zero_add, Nat.add_zero, setCells, splice, pairsOk, FP.apart, heapEq_refl, sameAt_refl, Bool.or_true, Bool.true_or, Bool.or_false, srcElems, elemsOf, mutDst, roundK_norm, roundK_exit, roundK_ret, List.length_map, List.getElem?_map, Int.toNat_natCast, Int.reduceBNe, Int.reduceBEq, decide_true, decide_false, Bool.not_true, Bool.not_false, List.set, set_0, set_1, set_2, set_3, set_4, look_hit, look, lookD_hit, lookD_cons, lookD_nil, ins_hit, ins, upd_hit, upd, rem1_hit, rem1, dropT, dropSt_eq, initT, cfg_dd, cfg_bd, cfg_ra, actL_nil, actL_cons, act1, updT_hit, updT, frzB, mu57, List.contains_nil, List.contains_cons, Nat.reduceBEq, Bool.or_self, dlt_t, dlt_f, dle_t, dle_f, dgt_t, dgt_f, dge_t, dge_f, beq_t, beq_f, bne_t, bne_f, lt_T, le_T, nle_T, nle_F, ↓wrap_up, ↓wrap_down, ↓wrap_pred, ↓wrap_sub_nat, i64_in, i64_quo, rem_in, Int.reduceToNat]
      exact fzEq rfl rfl
end Go.Ev
namespace Go.Ev
open Go.Proofs Go.RowKit Go.IntWalk
set_option maxRecDepth 100000
set_option linter.unusedSimpArgs false
set_option linter.unusedVariables false
set_option maxHeartbeats 4000000
def T24 (caps : Int) (runes : Bool) (g : AV) : List Ins → St
  | [] => (⟨40, [(4, I 0), (3, .rf 2 1 0 0), (2, .rf 1 1 0 0), (1, .rf 0 1 0 0)], [.row 3 [g] 0, .row 3 [.agg [.sl true [], I 0, .bool false]] 0, .row 3 [.agg [.sl true [], I caps, .bool runes]] 0]⟩ : St)
  | x :: xs => (⟨40, [(4, I ((xs.length + 1 : Nat) : Int)), (3, .rf 2 1 0 0), (2, .rf 1 1 0 0), (1, .rf 0 1 0 0)], [.row 3 [g] 0, .row 3 [.agg [.sl true [], I 0, .bool false]] 0, .row 3 [.agg [.ms 4 5 (xs.length + 1) 0 (xs.length + 1), I caps, .bool runes]] 0, .row 5 [insAV x] 0, .row 5 (insAV x :: xs.map insAV) 0]⟩ : St)

theorem f24 (g : Prg) (hl : g.ins.length ≤ 1000000) (H : List MB) : call Try.prog pol1 24 [prgAV g] H = some (prgAV g, H) := by
  refine call_run Try.func24 rfl rfl rfl rfl rfl rfl (fun _ => rfl) (by simp [AV.plain, AV.plainL, plain_ints, plain_span, plain_ins, plain_prg]) (by simp [AV.plain, AV.plainL, plain_ints, plain_span, plain_ins, plain_prg]) ?_ H
  simp +contextual (disch := omega) only [Try.f24, dd24, ty0, ty3, ty4, ty23, ty33, ty35, ty39, ty41, ty104, ty108, ↓reduceIte, eq_self, bindW_some, bindW_map, bindW_ite, bindW_iteN, W_seq, W_region, W_draw, W_cond, W_ret, W_skip, W_exit, W_scope, W_label, W_block, blockK_norm, blockK_ret, blockK_exit, WO_nil, WO_cons, WO_guard, WD_nil, WD_cons, WD_guard, guardV, guardW_boolT, guardW_boolF, guardW_tup, fpL_some, fpL_none, footprint, thenK_norm, thenK_ret, thenK_exit, put_some, put_none, ev_tmp, ev_con, ev_func, ofK_int, ofK_bool, ofK_str, ofK_nil, evOp, evBuiltin, evCall, evLen, evAppend, getElem_16, getElem_4, List.length_cons, List.length_nil, List.reduceReplicate, Nat.reduceAdd, Nat.reduceSub, List.cons_append, List.nil_append, List.append_nil, if_false, if_true, Bool.false_eq_true, Bool.true_eq_false, reduceCtorEq, Option.map_some, Option.map_none, List.map_cons, List.map_nil, evBinOp, evBin, evUn, asB_bool, splitB_decide, splitB_true, splitB_false, splitB_beq, splitB_bne, splitB_not, endK_ret, endK_norm, List.getElem?_cons_zero, List.getElem?_cons_succ, evResults, evResult, packRes, retK_norm, retK_ret, cellsAt, mkVal, evFieldAddr, evField, evIndexAddr, evPart, evStore, evBuild, evBuildSlice, fillC, fillE, evSlice, evMakeSlice, evConvert, getRow, AV.cells, List.head?_cons, List.drop_zero, List.drop_succ_cons, List.take_zero, List.take_succ_cons, List.drop_nil, List.take_nil, List.all_cons, List.all_nil, AV.ok, Bool.and_self, Bool.and_true, Bool.true_and, and_self, and_true, true_and, Nat.reduceLeDiff, Nat.reduceMul, Nat.reduceLT, Nat.reduceEqDiff, Nat.zero_add, Nat.add_zero, setCells, splice, pairsOk, FP.apart, heapEq_refl, sameAt_refl, Bool.or_true, Bool.true_or, Bool.or_false, srcElems, elemsOf, mutDst, roundK_norm, roundK_exit, roundK_ret, List.length_map, List.getElem?_map, Int.toNat_natCast, Int.reduceBNe, Int.reduceBEq, decide_true, decide_false, Bool.not_true, Bool.not_false, List.set, set_0, set_1, set_2, set_3, set_4, look_hit, look, lookD_hit, lookD_cons, lookD_nil, ins_hit, ins, upd_hit, upd, rem1_hit, rem1, dropT, dropSt_eq, initT, cfg_dd, cfg_bd, cfg_ra, actL_nil, actL_cons, act1, updT_hit, updT, frzB, retE_norm, retE_ret, bndO, bnd, evEq, eqCells, Int.reduceEq, Int.reduceLT, Int.reduceLE, Int.reduceGT, Int.reduceGE, not_false_eq_true, not_true_eq_false, toList_some, Array.size_empty, List.length_append, List.map_append, mu24, List.contains_nil, List.contains_cons, Nat.reduceBEq, Bool.or_self, dlt_t, dlt_f, dle_t, dle_f, dgt_t, dgt_f, dge_t, dge_f, beq_t, beq_f, bne_t, bne_f, lt_T, le_T, nle_T, nle_F, ↓wrap_up, ↓wrap_down, ↓wrap_pred, ↓wrap_sub_nat, i64_in, i64_quo, rem_in, Int.reduceToNat]
  refine W_count (M := (mskOf (pol1.mask 24) (pol1.gc 24) (pol1.acts 24) 0 3)) rfl g.ins.length (fun i => T24 g.caps g.runes (prgAV g) (g.ins.take i)) (fun i => True) ?_ ?_ trivial _ (by first | rfl | (refine prep_cut rfl (by rfl) (by rfl) (by rfl) ?_ ?_ <;> simp [AV.underL, AV.under, MB.under, underL_plain, under_plain, plain_ints, plain_span, plain_ins, plain_prg, -List.map_take]))
  · intro i hi _
    obtain ⟨p, hp⟩ : ∃ p, g.ins[i]? = some p := ⟨_, List.getElem?_eq_getElem hi⟩
    have hlen : (g.ins.take i).length = i := by simp; omega
    rw [List.take_add_one, hp]
    generalize g.ins.take i = xs at *
    cases xs with
    | nil =>
      simp only [List.length_nil] at hlen
      subst hlen
      simp only [T24]
      simp +contextual (disch := omega) only [Try.f24, dd24, ty0, ty3, ty4, ty23, ty33, ty35, ty39, ty41, ty104, ty108, ↓reduceIte, eq_self, bindW_some, bindW_map, bindW_ite, bindW_iteN, W_seq, W_region, W_draw, W_cond, W_ret, W_skip, W_exit, W_scope, W_label, W_block, blockK_norm, blockK_ret, blockK_exit, WO_nil, WO_cons, WO_guard, WD_nil, WD_cons, WD_guard, guardV, guardW_boolT, guardW_boolF, guardW_tup, fpL_some, fpL_none, footprint, thenK_norm, thenK_ret, thenK_exit, put_some, put_none, ev_tmp, ev_con, ev_func, ofK_int, ofK_bool, ofK_str, ofK_nil, evOp, evBuiltin, evCall, evLen, evAppend, getElem_16, getElem_4, List.length_cons, List.length_nil, List.reduceReplicate, Nat.reduceAdd, Nat.reduceSub, List.cons_append, List.nil_append, List.append_nil, if_false, if_true, Bool.false_eq_true, Bool.true_eq_false, reduceCtorEq, Option.map_some, Option.map_none, List.map_cons, List.map_nil, evBinOp, evBin, evUn, asB_bool, splitB_decide, splitB_true, splitB_false, splitB_beq, splitB_bne, splitB_not, endK_ret, endK_norm, List.getElem?_cons_zero, List.getElem?_cons_succ, evResults, evResult, packRes, retK_norm, retK_ret, cellsAt, mkVal, evFieldAddr, evField, evIndexAddr, evPart, evStore, evBuild, evBuildSlice, fillC, fillE, evSlice, evMakeSlice, evConvert, getRow, AV.cells, List.head?_cons, List.drop_zero, List.drop_succ_cons, List.take_zero, List.take_succ_cons, List.drop_nil, List.take_nil, List.all_cons, List.all_nil, AV.ok, Bool.and_self, Bool.and_true, Bool.true_and, and_self, and_true, true_and, Nat.reduceLeDiff, Nat.reduceMul, Nat.reduceLT, Nat.reduceEqDiff, Nat.zero_add, Nat.add_zero, setCells, splice, pairsOk, FP.apart, heapEq_refl, sameAt_refl, Bool.or_true, Bool.true_or, Bool.or_false, srcElems, elemsOf, mutDst, roundK_norm, roundK_exit, roundK_ret, List.length_map, List.getElem?_map, Int.toNat_natCast, Int.reduceBNe, Int.reduceBEq, decide_true, decide_false, Bool.not_true, Bool.not_false, List.set, set_0, set_1, set_2, set_3, set_4, look_hit, look, lookD_hit, lookD_cons, lookD_nil, ins_hit, ins, upd_hit, upd, rem1_hit, rem1, dropT, dropSt_eq, initT, cfg_dd, cfg_bd, cfg_ra, actL_nil, actL_cons, act1, updT_hit, updT, frzB, retE_norm, retE_ret, bndO, bnd, evEq, eqCells, Int.reduceEq, Int.reduceLT, Int.reduceLE, Int.reduceGT, Int.reduceGE, not_false_eq_true, not_true_eq_false, toList_some, Array.size_empty, List.length_append, List.map_append, mu24, List.contains_nil, List.contains_cons, Nat.reduceBEq, Bool.or_self, dlt_t, dlt_f, dle_t, dle_f, dgt_t, dgt_f, dge_t, dge_f, beq_t, beq_f, bne_t, bne_f, lt_T, le_T, nle_T, nle_F, ↓wrap_up, ↓wrap_down, ↓wrap_pred, ↓wrap_sub_nat, i64_in, i64_quo, rem_in, Int.reduceToNat, hp]
      exact ⟨by simp [roomFor], (by first | rfl | (refine prep_cut rfl (by rfl) (by rfl) (by rfl) ?_ ?_ <;> simp [AV.underL, AV.under, MB.under, underL_plain, under_plain, plain_ints, plain_span, plain_ins, plain_prg, -List.map_take]))⟩
    | cons x xs =>
      simp only [List.length_cons] at hlen
      subst hlen
      simp only [T24]
      simp +contextual (disch := omega) only [Try.f24, dd24, ty0, ty3, ty4, ty23, ty33, ty35, ty39, ty41, ty104, ty108, ↓reduceIte, eq_self, bindW_some, bindW_map, bindW_ite, bindW_iteN, W_seq, W_region, W_draw, W_cond, W_ret, W_skip, W_exit, W_scope, W_label, W_block, blockK_norm, blockK_ret, blockK_exit, WO_nil, WO_cons, WO_guard, WD_nil, WD_cons, WD_guard, guardV, guardW_boolT, guardW_boolF, guardW_tup, fpL_some, fpL_none, footprint, thenK_norm, thenK_ret, thenK_exit, put_some, put_none, ev_tmp, ev_con, ev_func, ofK_int, ofK_bool, ofK_str, ofK_nil, evOp, evBuiltin, evCall, evLen, evAppend, getElem_16, getElem_4, List.length_cons, List.length_nil, List.reduceReplicate, Nat.reduceAdd, Nat.reduceSub, List.cons_append, List.nil_append, List.append_nil, if_false, if_true, Bool.false_eq_true, Bool.true_eq_false, reduceCtorEq, Option.map_some, Option.map_none, List.map_cons, List.map_nil, evBinOp, evBin, evUn, asB_bool, splitB_decide, splitB_true, splitB_false, splitB_beq, splitB_bne, splitB_not, endK_ret, endK_norm, List.getElem?_cons_zero, List.getElem?_cons_succ, evResults, evResult, packRes, retK_norm, retK_ret, cellsAt, mkVal, evFieldAddr, evField, evIndexAddr, evPart, evStore, evBuild, evBuildSlice, fillC, fillE, evSlice, evMakeSlice, evConvert, getRow, AV.cells, List.head?_cons, List.drop_zero, List.drop_succ_cons, List.take_zero, List.take_succ_cons, List.drop_nil, List.take_nil, List.all_cons, List.all_nil, AV.ok, Bool.and_self, Bool.and_true, Bool.true_and, and_self, and_true, true_and, Nat.reduceLeDiff, Nat.reduceMul, Nat.reduceLT, Nat.reduceEqDiff, Nat.zero_add, Nat.add_zero, setCells, splice, pairsOk, FP.apart, heapEq_refl, sameAt_refl, Bool.or_true, Bool.true_or, Bool.or_false, srcElems, elemsOf, mutDst, roundK_norm, roundK_exit, roundK_ret, List.length_map, List.getElem?_map, Int.toNat_natCast, Int.reduceBNe, Int.reduceBEq, decide_true, decide_false, Bool.not_true, Bool.not_false, List.set, set_0, set_1, set_2, set_3, set_4, look_hit, look, lookD_hit, lookD_cons, lookD_nil, ins_hit, ins, upd_hit, upd, rem1_hit, rem1, dropT, dropSt_eq, initT, cfg_dd, cfg_bd, cfg_ra, actL_nil, actL_cons, act1, updT_hit, updT, frzB, retE_norm, retE_ret, bndO, bnd, evEq, eqCells, Int.reduceEq, Int.reduceLT, Int.reduceLE, Int.reduceGT, Int.reduceGE, not_false_eq_true, not_true_eq_false, toList_some, Array.size_empty, List.length_append, List.map_append, mu24, List.contains_nil, List.contains_cons, Nat.reduceBEq, Bool.or_self, dlt_t, dlt_f, dle_t, dle_f, dgt_t, dgt_f, dge_t, dge_f, beq_t, beq_f, bne_t, bne_f, lt_T, le_T, nle_T, nle_F, ↓wrap_up, ↓wrap_down, ↓wrap_pred, ↓wrap_sub_nat, i64_in, i64_quo, rem_in, Int.reduceToNat, hp]
      refine ⟨by simp [roomFor]; omega, ?_⟩
      refine prep_cut (n := 5) rfl (by rfl) rfl ?_ ?_ ?_
      · simp [List.take_of_length_le]
      · simp [AV.underL, AV.under]
      · simp [AV.underL, AV.under, MB.under, underL_plain, under_plain, plain_span, plain_ins, plain_prg, underL_append]
  · intro _
    rw [List.take_length]
    rcases g with ⟨ins, caps, runes⟩
    cases ins with
    | nil =>
      simp only [T24]
      simp +contextual (disch := omega) only [Try.f24, dd24, ty0, ty3, ty4, ty23, ty33, ty35, ty39, ty41, ty104, ty108, ↓reduceIte, eq_self, bindW_some, bindW_map, bindW_ite, bindW_iteN, W_seq, W_region, W_draw, W_cond, W_ret, W_skip, W_exit, W_scope, W_label, W_block, blockK_norm, blockK_ret, blockK_exit, WO_nil, WO_cons, WO_guard, WD_nil, WD_cons, WD_guard, guardV, guardW_boolT, guardW_boolF, guardW_tup, fpL_some, fpL_none, footprint, thenK_norm, thenK_ret, thenK_exit, put_some, put_none, ev_tmp, ev_con, ev_func, ofK_int, ofK_bool, ofK_str, ofK_nil, evOp, evBuiltin, evCall, evLen, evAppend, getElem_16, getElem_4, List.length_cons, List.length_nil, List.reduceReplicate, Nat.reduceAdd, Nat.reduceSub, List.cons_append, List.nil_append, List.append_nil, if_false, if_true, Bool.false_eq_true, Bool.true_eq_false, reduceCtorEq, Option.map_some, Option.map_none, List.map_cons, List.map_nil, evBinOp, evBin, evUn, asB_bool, splitB_decide, splitB_true, splitB_false, splitB_beq, splitB_bne, splitB_not, endK_ret, endK_norm, List.getElem?_cons_zero, List.getElem?_cons_succ, evResults, evResult, packRes, retK_norm, retK_ret, cellsAt, mkVal, evFieldAddr, evField, evIndexAddr, evPart, evStore, evBuild, evBuildSlice, fillC, fillE, evSlice, evMakeSlice, evConvert, getRow, AV.cells, List.head?_cons, List.drop_zero, List.drop_succ_cons, List.take_zero, List.take_succ_cons, List.drop_nil, List.take_nil, List.all_cons, List.all_nil, AV.ok, Bool.and_self, Bool.and_true, Bool.true_and, and_self, and_true, true_and, Nat.reduceLeDiff, Nat.reduceMul, Nat.reduceLT, Nat.reduceEqDiff, Nat.zero_add, Nat.add_zero, setCells, splice, pairsOk, FP.apart, heapEq_refl, sameAt_refl, Bool.or_true, Bool.true_or, Bool.or_false, srcElems, elemsOf, mutDst, roundK_norm, roundK_exit, roundK_ret, List.length_map, List.getElem?_map, Int.toNat_natCast, Int.reduceBNe, Int.reduceBEq, decide_true, decide_false, Bool.not_true, Bool.not_false, List.set, set_0, set_1, set_2, set_3, set_4, look_hit, look, lookD_hit, lookD_cons, lookD_nil, ins_hit, ins, upd_hit, upd, rem1_hit, rem1, dropT, dropSt_eq, initT, cfg_dd, cfg_bd, cfg_ra, actL_nil, actL_cons, act1, updT_hit, updT, frzB, retE_norm, retE_ret, bndO, bnd, evEq, eqCells, Int.reduceEq, Int.reduceLT, Int.reduceLE, Int.reduceGT, Int.reduceGE, not_false_eq_true, not_true_eq_false, toList_some, Array.size_empty, List.length_append, List.map_append, mu24, List.contains_nil, List.contains_cons, Nat.reduceBEq, Bool.or_self, dlt_t, dlt_f, dle_t, dle_f, dgt_t, dgt_f, dge_t, dge_f, beq_t, beq_f, bne_t, bne_f, lt_T, le_T, nle_T, nle_F, ↓wrap_up, ↓wrap_down, ↓wrap_pred, ↓wrap_sub_nat, i64_in, i64_quo, rem_in, Int.reduceToNat]
      exact ⟨_, rfl⟩
    | cons x xs =>
      simp only [T24]
      simp +contextual (disch := omega) only [Try.f24, dd24, ty0, ty3, ty4, ty23, ty33, ty35, ty39, ty41, ty104, ty108, ↓reduceIte, eq_self, bindW_some, bindW_map, bindW_ite, bindW_iteN, W_seq, W_region, W_draw, W_cond, W_ret, W_skip, W_exit, W_scope, W_label, W_block, blockK_norm, blockK_ret, blockK_exit, WO_nil, WO_cons, WO_guard, WD_nil, WD_cons, WD_guard, guardV, guardW_boolT, guardW_boolF, guardW_tup, fpL_some, fpL_none, footprint, thenK_norm, thenK_ret, thenK_exit, put_some, put_none, ev_tmp, ev_con, ev_func, ofK_int, ofK_bool, ofK_str, ofK_nil, evOp, evBuiltin, evCall, evLen, evAppend, getElem_16, getElem_4, List.length_cons, List.length_nil, List.reduceReplicate, Nat.reduceAdd, Nat.reduceSub, List.cons_append, List.nil_append, List.append_nil, if_false, if_true, Bool.false_eq_true, Bool.true_eq_false, reduceCtorEq, Option.map_some, Option.map_none, List.map_cons, List.map_nil, evBinOp, evBin, evUn, asB_bool, splitB_decide, splitB_true, splitB_false, splitB_beq, splitB_bne, splitB_not, endK_ret, endK_norm, List.getElem?_cons_zero, List.getElem?_cons_succ, evResults, evResult, packRes, retK_norm, retK_ret, cellsAt, mkVal, evFieldAddr, evField, evIndexAddr, evPart, evStore, evBuild, evBuildSlice, fillC, fillE, evSlice, evMakeSlice, evConvert, getRow, AV.cells, List.head?_cons, List.drop_zero, List.drop_succ_cons, List.take_zero, List.take_succ_cons, List.drop_nil, List.take_nil, List.all_cons, List.all_nil, AV.ok, Bool.and_self, Bool.and_true, Bool.true_and, and_self, and_true, true_and, Nat.reduceLeDiff, Nat.reduceMul, Nat.reduceLT, Nat.reduceEqDiff, Nat.zero_add, Nat.add_zero, setCells, splice, pairsOk, FP.apart, heapEq_refl, sameAt_refl, Bool.or_true, Bool.true_or, Bool.or_false, srcElems, elemsOf, mutDst, roundK_norm, roundK_exit, roundK_ret, List.length_map, List.getElem?_map, Int.toNat_natCast, Int.reduceBNe, Int.reduceBEq, decide_true, decide_false, Bool.not_true, Bool.not_false, List.set, set_0, set_1, set_2, set_3, set_4, look_hit, look, lookD_hit, lookD_cons, lookD_nil, ins_hit, ins, upd_hit, upd, rem1_hit, rem1, dropT, dropSt_eq, initT, cfg_dd, cfg_bd, cfg_ra, actL_nil, actL_cons, act1, updT_hit, updT, frzB, retE_norm, retE_ret, bndO, bnd, evEq, eqCells, Int.reduceEq, Int.reduceLT, Int.reduceLE, Int.reduceGT, Int.reduceGE, not_false_eq_true, not_true_eq_false, toList_some, Array.size_empty, List.length_append, List.map_append, mu24, List.contains_nil, List.contains_cons, Nat.reduceBEq, Bool.or_self, dlt_t, dlt_f, dle_t, dle_f, dgt_t, dgt_f, dge_t, dge_f, beq_t, beq_f, bne_t, bne_f, lt_T, le_T, nle_T, nle_F, ↓wrap_up, ↓wrap_down, ↓wrap_pred, ↓wrap_sub_nat, i64_in, i64_quo, rem_in, Int.reduceToNat]
      simp only [fz, fzA_agg, fzL]
      rw [fzA_ms (n := 5) (els := insAV x :: xs.map insAV) (k := 5) (z := 0) rfl (by simp) (by simp)
        (by rw [List.drop_zero, List.take_of_length_le (by simp)]; exact fzL_plain _ _ _ (plain_ins (x :: xs)))]
      exact ⟨_, rfl⟩
end Go.Ev
namespace Go.Ev
open Go.Proofs Go.RowKit Go.IntWalk
set_option maxRecDepth 100000
set_option linter.unusedSimpArgs false
set_option linter.unusedVariables false
set_option maxHeartbeats 4000000

theorem tab_get {l : List Int} {k : Nat} (h : k < l.length) : (l.map I)[k]? = some (I (l.getD k 0)) := by
  rw [List.getElem?_map, List.getElem?_eq_getElem h, List.getD_eq_getElem?_getD, List.getElem?_eq_getElem h]; rfl

theorem f17 (g : Prg) (hl : g.ins.length ≤ 1000000) (H : List MB) : call Try.prog pol1 17 [prgAV g] H = some (prgAV g, H) := by
  refine call_run Try.func17 rfl rfl rfl rfl rfl rfl (fun _ => rfl) (by simp [AV.plain, AV.plainL, plain_ints, plain_span, plain_ins, plain_prg]) (by simp [AV.plain, AV.plainL, plain_ints, plain_span, plain_ins, plain_prg]) ?_ H
  simp +contextual (disch := omega) only [Try.f17, dd17, ty0, ty3, ty4, ty23, ty33, ty35, ty39, ty41, ty104, ty108, ↓reduceIte, eq_self, bindW_some, bindW_map, bindW_ite, bindW_iteN, W_seq, W_region, W_draw, W_cond, W_ret, W_skip, W_exit, W_scope, W_label, W_block, blockK_norm, blockK_ret, blockK_exit, WO_nil, WO_cons, WO_guard, WD_nil, WD_cons, WD_guard, guardV, guardW_boolT, guardW_boolF, guardW_tup, fpL_some, fpL_none, footprint, thenK_norm, thenK_ret, thenK_exit, put_some, put_none, ev_tmp, ev_con, ev_func, ofK_int, ofK_bool, ofK_str, ofK_nil, evOp, evBuiltin, evCall, evLen, evAppend, getElem_16, getElem_4, List.length_cons, List.length_nil, List.reduceReplicate, Nat.reduceAdd, Nat.reduceSub, List.cons_append, List.nil_append, List.append_nil, if_false, if_true, Bool.false_eq_true, Bool.true_eq_false, reduceCtorEq, Option.map_some, Option.map_none, List.map_cons, List.map_nil, evBinOp, evBin, evUn, asB_bool, splitB_decide, splitB_true, splitB_false, splitB_beq, splitB_bne, splitB_not, endK_ret, endK_norm, List.getElem?_cons_zero, List.getElem?_cons_succ, evResults, evResult, packRes, retK_norm, retK_ret, cellsAt, mkVal, evFieldAddr, evField, evIndexAddr, evPart, evStore, evBuild, evBuildSlice, fillC, fillE, evSlice, evMakeSlice, evConvert, getRow, AV.cells, List.head?_cons, List.drop_zero, List.drop_succ_cons, List.take_zero, List.take_succ_cons, List.drop_nil, List.take_nil, List.all_cons, List.all_nil, AV.ok, Bool.and_self, Bool.and_true, Bool.true_and, and_self, and_true, true_and, Nat.reduceLeDiff, Nat.reduceMul, Nat.reduceLT, Nat.reduceEqDiff, Nat.zero_add, Nat.add_zero, setCells, splice, pairsOk, FP.apart, heapEq_refl, sameAt_refl, Bool.or_true, Bool.true_or, Bool.or_false, srcElems, elemsOf, mutDst, roundK_norm, roundK_exit, roundK_ret, List.length_map, List.getElem?_map, Int.toNat_natCast, Int.reduceBNe, Int.reduceBEq, decide_true, decide_false, Bool.not_true, Bool.not_false, List.set, set_0, set_1, set_2, set_3, set_4, look_hit, look, lookD_hit, lookD_cons, lookD_nil, ins_hit, ins, upd_hit, upd, rem1_hit, rem1, dropT, dropSt_eq, initT, cfg_dd, cfg_bd, cfg_ra, actL_nil, actL_cons, act1, updT_hit, updT, frzB, retE_norm, retE_ret, bndO, bnd, evEq, eqCells, Int.reduceEq, Int.reduceLT, Int.reduceLE, Int.reduceGT, Int.reduceGE, not_false_eq_true, not_true_eq_false, toList_some, Array.size_empty, List.length_append, List.map_append, tySzE, List.head?_drop, Nat.mul_one, sameAt_zero, sameAt_two, sameAt_three, sameAt_four, sameAt_five, mu17, List.contains_nil, List.contains_cons, Nat.reduceBEq, Bool.or_self, dlt_t, dlt_f, dle_t, dle_f, dgt_t, dgt_f, dge_t, dge_f, beq_t, beq_f, bne_t, bne_f, lt_T, le_T, nle_T, nle_F, ↓wrap_up, ↓wrap_down, ↓wrap_pred, ↓wrap_sub_nat, i64_in, i64_quo, rem_in, Int.reduceToNat, room_ok]
  refine W_count (M := (mskOf (pol1.mask 17) (pol1.gc 17) (pol1.acts 17) 0 3)) rfl g.ins.length (fun i => (⟨40, [(4, I i), (3, .rf 2 1 0 0), (2, .rf 1 1 0 0), (1, .rf 0 1 0 0)], [.row 3 [prgAV g] 0, .row 3 [.agg [.sl true [], I 0, .bool false]] 0,
    .row 3 [.agg [.ms 3 5 i 0 i, I g.caps, .bool g.runes]] 0, .row 5 ((g.ins.take i).map insAV) 0]⟩ : St)) (fun i => True) ?_ ?_ trivial _ (by first | rfl | (refine prep_to (n := 4) (m := ⟨some [4, 3, 2, 1], some 4, []⟩) rfl rfl ?_ ?_ ?_ <;> first | rfl | (simp [keepT, AV.underL, AV.under, MB.under, underL_plain, under_plain, underL_append, plain_ints, plain_span, plain_ins, plain_prg, -List.map_take, -List.map_replicate, -List.map_set]; done) | (simp [keepT, AV.underL, AV.under, MB.under, underL_plain, under_plain, underL_append, plain_ints, plain_span, plain_ins, plain_prg, -List.map_take, -List.map_replicate, -List.map_set]; omega)))
  · intro i hi _
    obtain ⟨p, hp⟩ : ∃ p, g.ins[i]? = some p := ⟨_, List.getElem?_eq_getElem hi⟩
    have hlen : (g.ins.take i).length = i := by simp; omega
    rw [List.take_add_one, hp]
    generalize g.ins.take i = xs at *
    have htk := take_map_len (f := insAV) hlen
    simp +contextual (disch := omega) only [Try.f17, dd17, ty0, ty3, ty4, ty23, ty33, ty35, ty39, ty41, ty104, ty108, ↓reduceIte, eq_self, bindW_some, bindW_map, bindW_ite, bindW_iteN, W_seq, W_region, W_draw, W_cond, W_ret, W_skip, W_exit, W_scope, W_label, W_block, blockK_norm, blockK_ret, blockK_exit, WO_nil, WO_cons, WO_guard, WD_nil, WD_cons, WD_guard, guardV, guardW_boolT, guardW_boolF, guardW_tup, fpL_some, fpL_none, footprint, thenK_norm, thenK_ret, thenK_exit, put_some, put_none, ev_tmp, ev_con, ev_func, ofK_int, ofK_bool, ofK_str, ofK_nil, evOp, evBuiltin, evCall, evLen, evAppend, getElem_16, getElem_4, List.length_cons, List.length_nil, List.reduceReplicate, Nat.reduceAdd, Nat.reduceSub, List.cons_append, List.nil_append, List.append_nil, if_false, if_true, Bool.false_eq_true, Bool.true_eq_false, reduceCtorEq, Option.map_some, Option.map_none, List.map_cons, List.map_nil, evBinOp, evBin, evUn, asB_bool, splitB_decide, splitB_true, splitB_false, splitB_beq, splitB_bne, splitB_not, endK_ret, endK_norm, List.getElem?_cons_zero, List.getElem?_cons_succ, evResults, evResult, packRes, retK_norm, retK_ret, cellsAt, mkVal, evFieldAddr, evField, evIndexAddr, evPart, evStore, evBuild, evBuildSlice, fillC, fillE, evSlice, evMakeSlice, evConvert, getRow, AV.cells, List.head?_cons, List.drop_zero, List.drop_succ_cons, List.take_zero, List.take_succ_cons, List.drop_nil, List.take_nil, List.all_cons, List.all_nil, AV.ok, Bool.and_self, Bool.and_true, Bool.true_and, and_self, and_true, true_and, Nat.reduceLeDiff, Nat.reduceMul, Nat.reduceLT, Nat.reduceEqDiff, Nat.zero_add, Nat.add_zero, setCells, splice, pairsOk, FP.apart, heapEq_refl, sameAt_refl, Bool.or_true, Bool.true_or, Bool.or_false, srcElems, elemsOf, mutDst, roundK_norm, roundK_exit, roundK_ret, List.length_map, List.getElem?_map, Int.toNat_natCast, Int.reduceBNe, Int.reduceBEq, decide_true, decide_false, Bool.not_true, Bool.not_false, List.set, set_0, set_1, set_2, set_3, set_4, look_hit, look, lookD_hit, lookD_cons, lookD_nil, ins_hit, ins, upd_hit, upd, rem1_hit, rem1, dropT, dropSt_eq, initT, cfg_dd, cfg_bd, cfg_ra, actL_nil, actL_cons, act1, updT_hit, updT, frzB, retE_norm, retE_ret, bndO, bnd, evEq, eqCells, Int.reduceEq, Int.reduceLT, Int.reduceLE, Int.reduceGT, Int.reduceGE, not_false_eq_true, not_true_eq_false, toList_some, Array.size_empty, List.length_append, List.map_append, tySzE, List.head?_drop, Nat.mul_one, sameAt_zero, sameAt_two, sameAt_three, sameAt_four, sameAt_five, mu17, List.contains_nil, List.contains_cons, Nat.reduceBEq, Bool.or_self, dlt_t, dlt_f, dle_t, dle_f, dgt_t, dgt_f, dge_t, dge_f, beq_t, beq_f, bne_t, bne_f, lt_T, le_T, nle_T, nle_F, ↓wrap_up, ↓wrap_down, ↓wrap_pred, ↓wrap_sub_nat, i64_in, i64_quo, rem_in, Int.reduceToNat, room_ok, hp, hlen, htk]
    repeat' (first | intro _ | apply And.intro | (unfold dOk; kernel_rfl) | (show (_ || _) = true; kernel_rfl) | (show (_ && _) = true; kernel_rfl))
    exact (by first | rfl | (refine prep_to (n := 4) (m := ⟨some [4, 3, 2, 1], some 4, []⟩) rfl rfl ?_ ?_ ?_ <;> first | rfl | (simp [keepT, AV.underL, AV.under, MB.under, underL_plain, under_plain, underL_append, plain_ints, plain_span, plain_ins, plain_prg, -List.map_take, -List.map_replicate, -List.map_set]; done) | (simp [keepT, AV.underL, AV.under, MB.under, underL_plain, under_plain, underL_append, plain_ints, plain_span, plain_ins, plain_prg, -List.map_take, -List.map_replicate, -List.map_set]; omega)))
  · intro _
    rw [List.take_length]
    simp +contextual (disch := omega) only [Try.f17, dd17, ty0, ty3, ty4, ty23, ty33, ty35, ty39, ty41, ty104, ty108, ↓reduceIte, eq_self, bindW_some, bindW_map, bindW_ite, bindW_iteN, W_seq, W_region, W_draw, W_cond, W_ret, W_skip, W_exit, W_scope, W_label, W_block, blockK_norm, blockK_ret, blockK_exit, WO_nil, WO_cons, WO_guard, WD_nil, WD_cons, WD_guard, guardV, guardW_boolT, guardW_boolF, guardW_tup, fpL_some, fpL_none, footprint, thenK_norm, thenK_ret, thenK_exit, put_some, put_none, ev_tmp, ev_con, ev_func, ofK_int, ofK_bool, ofK_str, ofK_nil, evOp, evBuiltin, evCall, evLen, evAppend, getElem_16, getElem_4, List.length_cons, List.length_nil, List.reduceReplicate, Nat.reduceAdd, Nat.reduceSub, List.cons_append, List.nil_append, List.append_nil, if_false, if_true, Bool.false_eq_true, Bool.true_eq_false, reduceCtorEq, Option.map_some, Option.map_none, List.map_cons, List.map_nil, evBinOp, evBin, evUn, asB_bool, splitB_decide, splitB_true, splitB_false, splitB_beq, splitB_bne, splitB_not, endK_ret, endK_norm, List.getElem?_cons_zero, List.getElem?_cons_succ, evResults, evResult, packRes, retK_norm, retK_ret, cellsAt, mkVal, evFieldAddr, evField, evIndexAddr, evPart, evStore, evBuild, evBuildSlice, fillC, fillE, evSlice, evMakeSlice, evConvert, getRow, AV.cells, List.head?_cons, List.drop_zero, List.drop_succ_cons, List.take_zero, List.take_succ_cons, List.drop_nil, List.take_nil, List.all_cons, List.all_nil, AV.ok, Bool.and_self, Bool.and_true, Bool.true_and, and_self, and_true, true_and, Nat.reduceLeDiff, Nat.reduceMul, Nat.reduceLT, Nat.reduceEqDiff, Nat.zero_add, Nat.add_zero, setCells, splice, pairsOk, FP.apart, heapEq_refl, sameAt_refl, Bool.or_true, Bool.true_or, Bool.or_false, srcElems, elemsOf, mutDst, roundK_norm, roundK_exit, roundK_ret, List.length_map, List.getElem?_map, Int.toNat_natCast, Int.reduceBNe, Int.reduceBEq, decide_true, decide_false, Bool.not_true, Bool.not_false, List.set, set_0, set_1, set_2, set_3, set_4, look_hit, look, lookD_hit, lookD_cons, lookD_nil, ins_hit, ins, upd_hit, upd, rem1_hit, rem1, dropT, dropSt_eq, initT, cfg_dd, cfg_bd, cfg_ra, actL_nil, actL_cons, act1, updT_hit, updT, frzB, retE_norm, retE_ret, bndO, bnd, evEq, eqCells, Int.reduceEq, Int.reduceLT, Int.reduceLE, Int.reduceGT, Int.reduceGE, not_false_eq_true, not_true_eq_false, toList_some, Array.size_empty, List.length_append, List.map_append, tySzE, List.head?_drop, Nat.mul_one, sameAt_zero, sameAt_two, sameAt_three, sameAt_four, sameAt_five, mu17, List.contains_nil, List.contains_cons, Nat.reduceBEq, Bool.or_self, dlt_t, dlt_f, dle_t, dle_f, dgt_t, dgt_f, dge_t, dge_f, beq_t, beq_f, bne_t, bne_f, lt_T, le_T, nle_T, nle_F, ↓wrap_up, ↓wrap_down, ↓wrap_pred, ↓wrap_sub_nat, i64_in, i64_quo, rem_in, Int.reduceToNat, room_ok]
    simp only [fz, fzA_agg, fzL]
    rw [fzA_row (els := g.ins.map insAV) (k := 5) (z := 0) rfl (by simp) (plain_ins _)]
    exact ⟨_, rfl⟩

/-- The text: for each number a symbol. -/
def symI (n : Int) (runes : Bool) : Int :=
  if runes = true ∧ n / 14 % 4 = 0 then ([127, 128, 2047, 2048, 55295, 57344, 65535, 65536, 1114111, 8364] : List Int).getD (n / 56 % 10).toNat 0
  else ([97, 98, 99, 97, 90, 48, 95, 10, 32, 98, 228, 255, 0, 128] : List Int).getD (n % 14).toNat 0
def textI (l : List Int) (most : Nat) (runes : Bool) : List Int := (l.take most).map fun x => symI (aroundI x 1048576) runes

theorem f22 (l : List Int) (hl : ∀ x ∈ l, In64 x) (most : Nat) (hm : most ≤ 1000) (runes : Bool) (H : List MB) :
    call Try.prog pol1 22 [.sl false (l.map I), I most, .bool runes] H = some (.sl false ((textI l most runes).map I), H) := by
  refine call_run Try.func22 rfl rfl rfl rfl rfl rfl (fun _ => rfl) (by simp [AV.plain, AV.plainL, plain_ints, plain_span, plain_ins, plain_prg]) (by simp [AV.plain, AV.plainL, plain_ints, plain_span, plain_ins, plain_prg]) ?_ H
  simp +contextual (disch := omega) only [Try.f22, dd22, ty0, ty3, ty4, ty22, ↓reduceIte, eq_self, bindW_some, bindW_map, bindW_ite, bindW_iteN, W_seq, W_region, W_draw, W_cond, W_ret, W_skip, W_exit, W_scope, W_label, W_block, blockK_norm, blockK_ret, blockK_exit, WO_nil, WO_cons, WO_guard, WD_nil, WD_cons, WD_guard, guardV, guardW_boolT, guardW_boolF, guardW_tup, fpL_some, fpL_none, footprint, thenK_norm, thenK_ret, thenK_exit, put_some, put_none, ev_tmp, ev_con, ev_func, ofK_int, ofK_bool, ofK_str, ofK_nil, evOp, evBuiltin, evCall, evLen, evAppend, getElem_16, getElem_4, List.length_cons, List.length_nil, List.reduceReplicate, Nat.reduceAdd, Nat.reduceSub, List.cons_append, List.nil_append, List.append_nil, if_false, if_true, Bool.false_eq_true, Bool.true_eq_false, reduceCtorEq, Option.map_some, Option.map_none, List.map_cons, List.map_nil, evBinOp, evBin, evUn, asB_bool, splitB_decide, splitB_true, splitB_false, splitB_beq, splitB_bne, splitB_not, endK_ret, endK_norm, List.getElem?_cons_zero, List.getElem?_cons_succ, evResults, evResult, packRes, retK_norm, retK_ret, cellsAt, mkVal, evFieldAddr, evField, evIndexAddr, evPart, evStore, evBuild, evBuildSlice, fillC, fillE, evSlice, evMakeSlice, evConvert, getRow, AV.cells, List.head?_cons, List.drop_zero, List.drop_succ_cons, List.take_zero, List.take_succ_cons, List.drop_nil, List.take_nil, List.all_cons, List.all_nil, AV.ok, Bool.and_self, Bool.and_true, Bool.true_and, and_self, and_true, true_and, Nat.reduceLeDiff, Nat.reduceMul, Nat.reduceLT, Nat.reduceEqDiff, Nat.zero_add, Nat.add_zero, setCells, splice, pairsOk, FP.apart, heapEq_refl, sameAt_refl, Bool.or_true, Bool.true_or, Bool.or_false, srcElems, elemsOf, mutDst, roundK_norm, roundK_exit, roundK_ret, List.length_map, List.getElem?_map, Int.toNat_natCast, Int.reduceBNe, Int.reduceBEq, decide_true, decide_false, Bool.not_true, Bool.not_false, List.set, set_0, set_1, set_2, set_3, set_4, look_hit, look, lookD_hit, lookD_cons, lookD_nil, ins_hit, ins, upd_hit, upd, rem1_hit, rem1, dropT, dropSt_eq, initT, cfg_dd, cfg_bd, cfg_ra, actL_nil, actL_cons, act1, updT_hit, updT, frzB, retE_norm, retE_ret, bndO, bnd, evEq, eqCells, Int.reduceEq, Int.reduceLT, Int.reduceLE, Int.reduceGT, Int.reduceGE, not_false_eq_true, not_true_eq_false, toList_some, Array.size_empty, List.length_append, List.map_append, tySzE, List.head?_drop, Nat.mul_one, sameAt_zero, sameAt_two, sameAt_three, sameAt_four, sameAt_five, mu22, List.contains_nil, List.contains_cons, Nat.reduceBEq, Bool.or_self, dlt_t, dlt_f, dle_t, dle_f, dgt_t, dgt_f, dge_t, dge_f, beq_t, beq_f, bne_t, bne_f, lt_T, le_T, nle_T, nle_F, ↓wrap_up, ↓wrap_down, ↓wrap_pred, ↓wrap_sub_nat, i64_in, i64_quo, rem_in, Int.reduceToNat, room_ok]
  refine W_count (M := (mskOf (pol1.mask 22) (pol1.gc 22) (pol1.acts 22) 0 3)) rfl (min l.length most) (fun i => (⟨50, [(8, I i), (7, .ms 0 1 i 0 i), (2, .bool runes), (1, I most), (0, .sl false (l.map I))], [.row 1 ((textI (l.take i) most runes).map I) 0]⟩ : St)) (fun i => True) ?_ ?_ trivial _ (by first | rfl | (refine prep_to (n := 1) (m := ⟨some [8, 7, 2, 1, 0], some 1, []⟩) rfl rfl ?_ ?_ ?_ <;> first | rfl | (simp [keepT, AV.underL, AV.under, MB.under, underL_plain, under_plain, underL_append, plain_ints, plain_span, plain_ins, plain_prg, -List.map_take, -List.map_replicate, -List.map_set, textI]; done) | (simp [keepT, AV.underL, AV.under, MB.under, underL_plain, under_plain, underL_append, plain_ints, plain_span, plain_ins, plain_prg, -List.map_take, -List.map_replicate, -List.map_set, textI]; omega)))
  · intro i hi _
    obtain ⟨p, hp⟩ : ∃ p, l[i]? = some p := ⟨_, List.getElem?_eq_getElem (by omega)⟩
    have h12 := f12 p 1048576 (hl p (List.mem_of_getElem? hp)) (by omega)
    have hlt := around_lt (n := p) (m := 1048576) (by omega)
    have hlen : (textI (l.take i) most runes).length = i := by simp [textI]; omega
    have hnx : textI (l.take (i + 1)) most runes = textI (l.take i) most runes ++ [symI (aroundI p 1048576) runes] := by
      unfold textI
      rw [List.take_of_length_le (l := l.take (i + 1)) (by simp; omega), List.take_of_length_le (l := l.take i) (by simp; omega), List.take_add_one, hp]
      simp
    rw [hnx]
    generalize textI (l.take i) most runes = xs at *
    generalize hq : aroundI p 1048576 = q at *
    have htk := take_map_len (f := I) hlen
    have h14 : ([I 97, I 98, I 99, I 97, I 90, I 48, I 95, I 10, I 32, I 98, I 228, I 255, I 0, I 128] : List AV)[(q % 14).toNat]? = some (I (([97, 98, 99, 97, 90, 48, 95, 10, 32, 98, 228, 255, 0, 128] : List Int).getD (q % 14).toNat 0)) := tab_get (l := ([97, 98, 99, 97, 90, 48, 95, 10, 32, 98, 228, 255, 0, 128] : List Int)) (by simp only [List.length_cons, List.length_nil]; omega)
    have h10 : ([I 127, I 128, I 2047, I 2048, I 55295, I 57344, I 65535, I 65536, I 1114111, I 8364] : List AV)[(q / 56 % 10).toNat]? = some (I (([127, 128, 2047, 2048, 55295, 57344, 65535, 65536, 1114111, 8364] : List Int).getD (q / 56 % 10).toNat 0)) := tab_get (l := ([127, 128, 2047, 2048, 55295, 57344, 65535, 65536, 1114111, 8364] : List Int)) (by simp only [List.length_cons, List.length_nil]; omega)
    by_cases hrun : runes = true ∧ q / 14 % 4 = 0
    · obtain ⟨rfl, h4⟩ := hrun
      simp +contextual (disch := omega) only [Try.f22, dd22, ty0, ty3, ty4, ty22, ↓reduceIte, eq_self, bindW_some, bindW_map, bindW_ite, bindW_iteN, W_seq, W_region, W_draw, W_cond, W_ret, W_skip, W_exit, W_scope, W_label, W_block, blockK_norm, blockK_ret, blockK_exit, WO_nil, WO_cons, WO_guard, WD_nil, WD_cons, WD_guard, guardV, guardW_boolT, guardW_boolF, guardW_tup, fpL_some, fpL_none, footprint, thenK_norm, thenK_ret, thenK_exit, put_some, put_none, ev_tmp, ev_con, ev_func, ofK_int, ofK_bool, ofK_str, ofK_nil, evOp, evBuiltin, evCall, evLen, evAppend, getElem_16, getElem_4, List.length_cons, List.length_nil, List.reduceReplicate, Nat.reduceAdd, Nat.reduceSub, List.cons_append, List.nil_append, List.append_nil, if_false, if_true, Bool.false_eq_true, Bool.true_eq_false, reduceCtorEq, Option.map_some, Option.map_none, List.map_cons, List.map_nil, evBinOp, evBin, evUn, asB_bool, splitB_decide, splitB_true, splitB_false, splitB_beq, splitB_bne, splitB_not, endK_ret, endK_norm, List.getElem?_cons_zero, List.getElem?_cons_succ, evResults, evResult, packRes, retK_norm, retK_ret, cellsAt, mkVal, evFieldAddr, evField, evIndexAddr, evPart, evStore, evBuild, evBuildSlice, fillC, fillE, evSlice, evMakeSlice, evConvert, getRow, AV.cells, List.head?_cons, List.drop_zero, List.drop_succ_cons, List.take_zero, List.take_succ_cons, List.drop_nil, List.take_nil, List.all_cons, List.all_nil, AV.ok, Bool.and_self, Bool.and_true, Bool.true_and, and_self, and_true, true_and, Nat.reduceLeDiff, Nat.reduceMul, Nat.reduceLT, Nat.reduceEqDiff, Nat.zero_add, Nat.add_zero, setCells, splice, pairsOk, FP.apart, heapEq_refl, sameAt_refl, Bool.or_true, Bool.true_or, Bool.or_false, srcElems, elemsOf, mutDst, roundK_norm, roundK_exit, roundK_ret, List.length_map, List.getElem?_map, Int.toNat_natCast, Int.reduceBNe, Int.reduceBEq, decide_true, decide_false, Bool.not_true, Bool.not_false, List.set, set_0, set_1, set_2, set_3, set_4, look_hit, look, lookD_hit, lookD_cons, lookD_nil, ins_hit, ins, upd_hit, upd, rem1_hit, rem1, dropT, dropSt_eq, initT, cfg_dd, cfg_bd, cfg_ra, actL_nil, actL_cons, act1, updT_hit, updT, frzB, retE_norm, retE_ret, bndO, bnd, evEq, eqCells, Int.reduceEq, Int.reduceLT, Int.reduceLE, Int.reduceGT, Int.reduceGE, not_false_eq_true, not_true_eq_false, toList_some, Array.size_empty, List.length_append, List.map_append, tySzE, List.head?_drop, Nat.mul_one, sameAt_zero, sameAt_two, sameAt_three, sameAt_four, sameAt_five, mu22, List.contains_nil, List.contains_cons, Nat.reduceBEq, Bool.or_self, dlt_t, dlt_f, dle_t, dle_f, dgt_t, dgt_f, dge_t, dge_f, beq_t, beq_f, bne_t, bne_f, lt_T, le_T, nle_T, nle_F, ↓wrap_up, ↓wrap_down, ↓wrap_pred, ↓wrap_sub_nat, i64_in, i64_quo, rem_in, Int.reduceToNat, room_ok, hp, hlen, htk, h12, h14, h10, h4]
      rw [show symI q true = ([127, 128, 2047, 2048, 55295, 57344, 65535, 65536, 1114111, 8364] : List Int).getD (q / 56 % 10).toNat 0 from if_pos ⟨rfl, h4⟩]
      exact (by first | rfl | (refine prep_to (n := 1) (m := ⟨some [8, 7, 2, 1, 0], some 1, []⟩) rfl rfl ?_ ?_ ?_ <;> first | rfl | (simp [keepT, AV.underL, AV.under, MB.under, underL_plain, under_plain, underL_append, plain_ints, plain_span, plain_ins, plain_prg, -List.map_take, -List.map_replicate, -List.map_set]; done) | (simp [keepT, AV.underL, AV.under, MB.under, underL_plain, under_plain, underL_append, plain_ints, plain_span, plain_ins, plain_prg, -List.map_take, -List.map_replicate, -List.map_set]; omega)))
    · rw [show symI q runes = ([97, 98, 99, 97, 90, 48, 95, 10, 32, 98, 228, 255, 0, 128] : List Int).getD (q % 14).toNat 0 from if_neg hrun]
      cases runes
      · simp +contextual (disch := omega) only [Try.f22, dd22, ty0, ty3, ty4, ty22, ↓reduceIte, eq_self, bindW_some, bindW_map, bindW_ite, bindW_iteN, W_seq, W_region, W_draw, W_cond, W_ret, W_skip, W_exit, W_scope, W_label, W_block, blockK_norm, blockK_ret, blockK_exit, WO_nil, WO_cons, WO_guard, WD_nil, WD_cons, WD_guard, guardV, guardW_boolT, guardW_boolF, guardW_tup, fpL_some, fpL_none, footprint, thenK_norm, thenK_ret, thenK_exit, put_some, put_none, ev_tmp, ev_con, ev_func, ofK_int, ofK_bool, ofK_str, ofK_nil, evOp, evBuiltin, evCall, evLen, evAppend, getElem_16, getElem_4, List.length_cons, List.length_nil, List.reduceReplicate, Nat.reduceAdd, Nat.reduceSub, List.cons_append, List.nil_append, List.append_nil, if_false, if_true, Bool.false_eq_true, Bool.true_eq_false, reduceCtorEq, Option.map_some, Option.map_none, List.map_cons, List.map_nil, evBinOp, evBin, evUn, asB_bool, splitB_decide, splitB_true, splitB_false, splitB_beq, splitB_bne, splitB_not, endK_ret, endK_norm, List.getElem?_cons_zero, List.getElem?_cons_succ, evResults, evResult, packRes, retK_norm, retK_ret, cellsAt, mkVal, evFieldAddr, evField, evIndexAddr, evPart, evStore, evBuild, evBuildSlice, fillC, fillE, evSlice, evMakeSlice, evConvert, getRow, AV.cells, List.head?_cons, List.drop_zero, List.drop_succ_cons, List.take_zero, List.take_succ_cons, List.drop_nil, List.take_nil, List.all_cons, List.all_nil, AV.ok, Bool.and_self, Bool.and_true, Bool.true_and, and_self, and_true, true_and, Nat.reduceLeDiff, Nat.reduceMul, Nat.reduceLT, Nat.reduceEqDiff, Nat.zero_add, Nat.add_zero, setCells, splice, pairsOk, FP.apart, heapEq_refl, sameAt_refl, Bool.or_true, Bool.true_or, Bool.or_false, srcElems, elemsOf, mutDst, roundK_norm, roundK_exit, roundK_ret, List.length_map, List.getElem?_map, Int.toNat_natCast, Int.reduceBNe, Int.reduceBEq, decide_true, decide_false, Bool.not_true, Bool.not_false, List.set, set_0, set_1, set_2, set_3, set_4, look_hit, look, lookD_hit, lookD_cons, lookD_nil, ins_hit, ins, upd_hit, upd, rem1_hit, rem1, dropT, dropSt_eq, initT, cfg_dd, cfg_bd, cfg_ra, actL_nil, actL_cons, act1, updT_hit, updT, frzB, retE_norm, retE_ret, bndO, bnd, evEq, eqCells, Int.reduceEq, Int.reduceLT, Int.reduceLE, Int.reduceGT, Int.reduceGE, not_false_eq_true, not_true_eq_false, toList_some, Array.size_empty, List.length_append, List.map_append, tySzE, List.head?_drop, Nat.mul_one, sameAt_zero, sameAt_two, sameAt_three, sameAt_four, sameAt_five, mu22, List.contains_nil, List.contains_cons, Nat.reduceBEq, Bool.or_self, dlt_t, dlt_f, dle_t, dle_f, dgt_t, dgt_f, dge_t, dge_f, beq_t, beq_f, bne_t, bne_f, lt_T, le_T, nle_T, nle_F, ↓wrap_up, ↓wrap_down, ↓wrap_pred, ↓wrap_sub_nat, i64_in, i64_quo, rem_in, Int.reduceToNat, room_ok, hp, hlen, htk, h12, h14]
        exact (by first | rfl | (refine prep_to (n := 1) (m := ⟨some [8, 7, 2, 1, 0], some 1, []⟩) rfl rfl ?_ ?_ ?_ <;> first | rfl | (simp [keepT, AV.underL, AV.under, MB.under, underL_plain, under_plain, underL_append, plain_ints, plain_span, plain_ins, plain_prg, -List.map_take, -List.map_replicate, -List.map_set]; done) | (simp [keepT, AV.underL, AV.under, MB.under, underL_plain, under_plain, underL_append, plain_ints, plain_span, plain_ins, plain_prg, -List.map_take, -List.map_replicate, -List.map_set]; omega)))
      · have h4 : ¬ q / 14 % 4 = 0 := fun h => hrun ⟨rfl, h⟩
        simp +contextual (disch := omega) only [Try.f22, dd22, ty0, ty3, ty4, ty22, ↓reduceIte, eq_self, bindW_some, bindW_map, bindW_ite, bindW_iteN, W_seq, W_region, W_draw, W_cond, W_ret, W_skip, W_exit, W_scope, W_label, W_block, blockK_norm, blockK_ret, blockK_exit, WO_nil, WO_cons, WO_guard, WD_nil, WD_cons, WD_guard, guardV, guardW_boolT, guardW_boolF, guardW_tup, fpL_some, fpL_none, footprint, thenK_norm, thenK_ret, thenK_exit, put_some, put_none, ev_tmp, ev_con, ev_func, ofK_int, ofK_bool, ofK_str, ofK_nil, evOp, evBuiltin, evCall, evLen, evAppend, getElem_16, getElem_4, List.length_cons, List.length_nil, List.reduceReplicate, Nat.reduceAdd, Nat.reduceSub, List.cons_append, List.nil_append, List.append_nil, if_false, if_true, Bool.false_eq_true, Bool.true_eq_false, reduceCtorEq, Option.map_some, Option.map_none, List.map_cons, List.map_nil, evBinOp, evBin, evUn, asB_bool, splitB_decide, splitB_true, splitB_false, splitB_beq, splitB_bne, splitB_not, endK_ret, endK_norm, List.getElem?_cons_zero, List.getElem?_cons_succ, evResults, evResult, packRes, retK_norm, retK_ret, cellsAt, mkVal, evFieldAddr, evField, evIndexAddr, evPart, evStore, evBuild, evBuildSlice, fillC, fillE, evSlice, evMakeSlice, evConvert, getRow, AV.cells, List.head?_cons, List.drop_zero, List.drop_succ_cons, List.take_zero, List.take_succ_cons, List.drop_nil, List.take_nil, List.all_cons, List.all_nil, AV.ok, Bool.and_self, Bool.and_true, Bool.true_and, and_self, and_true, true_and, Nat.reduceLeDiff, Nat.reduceMul, Nat.reduceLT, Nat.reduceEqDiff, Nat.zero_add, Nat.add_zero, setCells, splice, pairsOk, FP.apart, heapEq_refl, sameAt_refl, Bool.or_true, Bool.true_or, Bool.or_false, srcElems, elemsOf, mutDst, roundK_norm, roundK_exit, roundK_ret, List.length_map, List.getElem?_map, Int.toNat_natCast, Int.reduceBNe, Int.reduceBEq, decide_true, decide_false, Bool.not_true, Bool.not_false, List.set, set_0, set_1, set_2, set_3, set_4, look_hit, look, lookD_hit, lookD_cons, lookD_nil, ins_hit, ins, upd_hit, upd, rem1_hit, rem1, dropT, dropSt_eq, initT, cfg_dd, cfg_bd, cfg_ra, actL_nil, actL_cons, act1, updT_hit, updT, frzB, retE_norm, retE_ret, bndO, bnd, evEq, eqCells, Int.reduceEq, Int.reduceLT, Int.reduceLE, Int.reduceGT, Int.reduceGE, not_false_eq_true, not_true_eq_false, toList_some, Array.size_empty, List.length_append, List.map_append, tySzE, List.head?_drop, Nat.mul_one, sameAt_zero, sameAt_two, sameAt_three, sameAt_four, sameAt_five, mu22, List.contains_nil, List.contains_cons, Nat.reduceBEq, Bool.or_self, dlt_t, dlt_f, dle_t, dle_f, dgt_t, dgt_f, dge_t, dge_f, beq_t, beq_f, bne_t, bne_f, lt_T, le_T, nle_T, nle_F, ↓wrap_up, ↓wrap_down, ↓wrap_pred, ↓wrap_sub_nat, i64_in, i64_quo, rem_in, Int.reduceToNat, room_ok, hp, hlen, htk, h12, h14, h4]
        exact (by first | rfl | (refine prep_to (n := 1) (m := ⟨some [8, 7, 2, 1, 0], some 1, []⟩) rfl rfl ?_ ?_ ?_ <;> first | rfl | (simp [keepT, AV.underL, AV.under, MB.under, underL_plain, under_plain, underL_append, plain_ints, plain_span, plain_ins, plain_prg, -List.map_take, -List.map_replicate, -List.map_set]; done) | (simp [keepT, AV.underL, AV.under, MB.under, underL_plain, under_plain, underL_append, plain_ints, plain_span, plain_ins, plain_prg, -List.map_take, -List.map_replicate, -List.map_set]; omega)))
  · intro _
    have hall : textI (l.take (min l.length most)) most runes = textI l most runes := by
      unfold textI
      rw [List.take_take]
      congr 1
      rcases Nat.le_total l.length most with h | h
      · rw [List.take_of_length_le (by omega), List.take_of_length_le h]
      · rw [show min most (min l.length most) = most by omega]
    have hlen : (textI l most runes).length = min l.length most := by simp [textI]; omega
    rw [hall]
    simp +contextual (disch := omega) only [Try.f22, dd22, ty0, ty3, ty4, ty22, ↓reduceIte, eq_self, bindW_some, bindW_map, bindW_ite, bindW_iteN, W_seq, W_region, W_draw, W_cond, W_ret, W_skip, W_exit, W_scope, W_label, W_block, blockK_norm, blockK_ret, blockK_exit, WO_nil, WO_cons, WO_guard, WD_nil, WD_cons, WD_guard, guardV, guardW_boolT, guardW_boolF, guardW_tup, fpL_some, fpL_none, footprint, thenK_norm, thenK_ret, thenK_exit, put_some, put_none, ev_tmp, ev_con, ev_func, ofK_int, ofK_bool, ofK_str, ofK_nil, evOp, evBuiltin, evCall, evLen, evAppend, getElem_16, getElem_4, List.length_cons, List.length_nil, List.reduceReplicate, Nat.reduceAdd, Nat.reduceSub, List.cons_append, List.nil_append, List.append_nil, if_false, if_true, Bool.false_eq_true, Bool.true_eq_false, reduceCtorEq, Option.map_some, Option.map_none, List.map_cons, List.map_nil, evBinOp, evBin, evUn, asB_bool, splitB_decide, splitB_true, splitB_false, splitB_beq, splitB_bne, splitB_not, endK_ret, endK_norm, List.getElem?_cons_zero, List.getElem?_cons_succ, evResults, evResult, packRes, retK_norm, retK_ret, cellsAt, mkVal, evFieldAddr, evField, evIndexAddr, evPart, evStore, evBuild, evBuildSlice, fillC, fillE, evSlice, evMakeSlice, evConvert, getRow, AV.cells, List.head?_cons, List.drop_zero, List.drop_succ_cons, List.take_zero, List.take_succ_cons, List.drop_nil, List.take_nil, List.all_cons, List.all_nil, AV.ok, Bool.and_self, Bool.and_true, Bool.true_and, and_self, and_true, true_and, Nat.reduceLeDiff, Nat.reduceMul, Nat.reduceLT, Nat.reduceEqDiff, Nat.zero_add, Nat.add_zero, setCells, splice, pairsOk, FP.apart, heapEq_refl, sameAt_refl, Bool.or_true, Bool.true_or, Bool.or_false, srcElems, elemsOf, mutDst, roundK_norm, roundK_exit, roundK_ret, List.length_map, List.getElem?_map, Int.toNat_natCast, Int.reduceBNe, Int.reduceBEq, decide_true, decide_false, Bool.not_true, Bool.not_false, List.set, set_0, set_1, set_2, set_3, set_4, look_hit, look, lookD_hit, lookD_cons, lookD_nil, ins_hit, ins, upd_hit, upd, rem1_hit, rem1, dropT, dropSt_eq, initT, cfg_dd, cfg_bd, cfg_ra, actL_nil, actL_cons, act1, updT_hit, updT, frzB, retE_norm, retE_ret, bndO, bnd, evEq, eqCells, Int.reduceEq, Int.reduceLT, Int.reduceLE, Int.reduceGT, Int.reduceGE, not_false_eq_true, not_true_eq_false, toList_some, Array.size_empty, List.length_append, List.map_append, tySzE, List.head?_drop, Nat.mul_one, sameAt_zero, sameAt_two, sameAt_three, sameAt_four, sameAt_five, mu22, List.contains_nil, List.contains_cons, Nat.reduceBEq, Bool.or_self, dlt_t, dlt_f, dle_t, dle_f, dgt_t, dgt_f, dge_t, dge_f, beq_t, beq_f, bne_t, bne_f, lt_T, le_T, nle_T, nle_F, ↓wrap_up, ↓wrap_down, ↓wrap_pred, ↓wrap_sub_nat, i64_in, i64_quo, rem_in, Int.reduceToNat, room_ok]
    repeat' (first | intro _ | apply And.intro | (unfold dOk; kernel_rfl) | (show (_ || _) = true; kernel_rfl) | (show (_ && _) = true; kernel_rfl))
    all_goals exact ⟨_, fz_row rfl (by simp [hlen]) (plain_ints _)⟩

theorem f27 (l : List Int) (n : Nat) (hn : n ≤ 1000) (H : List MB) : call Try.prog pol1 27 [.sl false (l.map I), I n] H = some (.sl false ((l.take n).map I), H) := by
  refine call_run Try.func27 rfl rfl rfl rfl rfl rfl (fun _ => rfl) (by simp [AV.plain, AV.plainL, plain_ints]) (by simp only [AV.plain, plain_ints]; rfl) ?_ H
  have hm : (if (n : Int) < l.length then (n : Int) else l.length) = (min l.length n : Nat) := by split <;> omega
  have htk : (l.map I).take (min l.length n) = (l.take n).map I := by
    rw [← List.map_take]; congr 1
    rcases Nat.le_total l.length n with h | h
    · rw [show min l.length n = l.length by omega, List.take_length, List.take_of_length_le h]
    · rw [show min l.length n = n by omega]
  have hle : (min l.length n : Nat) ≤ l.length := by omega
  have hall : ((l.map I).all fun y => decide (y.cells.length = 1)) = true := by simp [AV.cells]
  by_cases h0 : l.take n = []
  · simp +contextual (disch := omega) only [Try.f27, dd27, ty3, ty22, ↓reduceIte, eq_self, bindW_some, bindW_map, bindW_ite, bindW_iteN, W_seq, W_region, W_draw, W_cond, W_ret, W_skip, W_exit, W_scope, W_label, W_block, blockK_norm, blockK_ret, blockK_exit, WO_nil, WO_cons, WO_guard, WD_nil, WD_cons, WD_guard, guardV, guardW_boolT, guardW_boolF, guardW_tup, fpL_some, fpL_none, footprint, thenK_norm, thenK_ret, thenK_exit, put_some, put_none, ev_tmp, ev_con, ev_func, ofK_int, ofK_bool, ofK_str, ofK_nil, evOp, evBuiltin, evCall, evLen, evAppend, getElem_16, getElem_4, List.length_cons, List.length_nil, List.reduceReplicate, Nat.reduceAdd, Nat.reduceSub, List.cons_append, List.nil_append, List.append_nil, if_false, if_true, Bool.false_eq_true, Bool.true_eq_false, reduceCtorEq, Option.map_some, Option.map_none, List.map_cons, List.map_nil, evBinOp, evBin, evUn, asB_bool, splitB_decide, splitB_true, splitB_false, splitB_beq, splitB_bne, splitB_not, endK_ret, endK_norm, List.getElem?_cons_zero, List.getElem?_cons_succ, evResults, evResult, packRes, retK_norm, retK_ret, cellsAt, mkVal, evFieldAddr, evField, evIndexAddr, evPart, evStore, evBuild, evBuildSlice, fillC, fillE, evSlice, evMakeSlice, evConvert, getRow, AV.cells, List.head?_cons, List.drop_zero, List.drop_succ_cons, List.take_zero, List.take_succ_cons, List.drop_nil, List.take_nil, List.all_cons, List.all_nil, AV.ok, Bool.and_self, Bool.and_true, Bool.true_and, and_self, and_true, true_and, Nat.reduceLeDiff, Nat.reduceMul, Nat.reduceLT, Nat.reduceEqDiff, Nat.zero_add, Nat.add_zero, setCells, splice, pairsOk, FP.apart, heapEq_refl, sameAt_refl, Bool.or_true, Bool.true_or, Bool.or_false, srcElems, elemsOf, mutDst, roundK_norm, roundK_exit, roundK_ret, List.length_map, List.getElem?_map, Int.toNat_natCast, Int.reduceBNe, Int.reduceBEq, decide_true, decide_false, Bool.not_true, Bool.not_false, List.set, set_0, set_1, set_2, set_3, set_4, look_hit, look, lookD_hit, lookD_cons, lookD_nil, ins_hit, ins, upd_hit, upd, rem1_hit, rem1, dropT, dropSt_eq, initT, cfg_dd, cfg_bd, cfg_ra, actL_nil, actL_cons, act1, updT_hit, updT, frzB, retE_norm, retE_ret, bndO, bnd, evEq, eqCells, Int.reduceEq, Int.reduceLT, Int.reduceLE, Int.reduceGT, Int.reduceGE, not_false_eq_true, not_true_eq_false, toList_some, Array.size_empty, List.length_append, List.map_append, tySzE, List.head?_drop, Nat.mul_one, sameAt_zero, sameAt_two, sameAt_three, sameAt_four, sameAt_five, mu27, List.contains_nil, List.contains_cons, Nat.reduceBEq, Bool.or_self, dlt_t, dlt_f, dle_t, dle_f, dgt_t, dgt_f, dge_t, dge_f, beq_t, beq_f, bne_t, bne_f, lt_T, le_T, nle_T, nle_F, ↓wrap_up, ↓wrap_down, ↓wrap_pred, ↓wrap_sub_nat, i64_in, i64_quo, rem_in, Int.reduceToNat, room_ok, evMin, hm, htk, h0]
    repeat' (first | intro _ | apply And.intro | (unfold dOk; kernel_rfl) | (show (_ || _) = true; kernel_rfl) | (show (_ && _) = true; kernel_rfl))
    · exact hall
    · exact ⟨_, rfl⟩
  · obtain ⟨x, xs, hx⟩ : ∃ x xs, l.take n = x :: xs := by
      cases h : l.take n with
      | nil => exact absurd h h0
      | cons x xs => exact ⟨x, xs, rfl⟩
    have hlx : xs.length + 1 ≤ n := by
      have : (l.take n).length ≤ n := by simp; omega
      rw [hx] at this; simpa using this
    have hal2 := all_int1 (x :: xs)
    simp +contextual (disch := omega) only [Try.f27, dd27, ty3, ty22, ↓reduceIte, eq_self, bindW_some, bindW_map, bindW_ite, bindW_iteN, W_seq, W_region, W_draw, W_cond, W_ret, W_skip, W_exit, W_scope, W_label, W_block, blockK_norm, blockK_ret, blockK_exit, WO_nil, WO_cons, WO_guard, WD_nil, WD_cons, WD_guard, guardV, guardW_boolT, guardW_boolF, guardW_tup, fpL_some, fpL_none, footprint, thenK_norm, thenK_ret, thenK_exit, put_some, put_none, ev_tmp, ev_con, ev_func, ofK_int, ofK_bool, ofK_str, ofK_nil, evOp, evBuiltin, evCall, evLen, evAppend, getElem_16, getElem_4, List.length_cons, List.length_nil, List.reduceReplicate, Nat.reduceAdd, Nat.reduceSub, List.cons_append, List.nil_append, List.append_nil, if_false, if_true, Bool.false_eq_true, Bool.true_eq_false, reduceCtorEq, Option.map_some, Option.map_none, List.map_cons, List.map_nil, evBinOp, evBin, evUn, asB_bool, splitB_decide, splitB_true, splitB_false, splitB_beq, splitB_bne, splitB_not, endK_ret, endK_norm, List.getElem?_cons_zero, List.getElem?_cons_succ, evResults, evResult, packRes, retK_norm, retK_ret, cellsAt, mkVal, evFieldAddr, evField, evIndexAddr, evPart, evStore, evBuild, evBuildSlice, fillC, fillE, evSlice, evMakeSlice, evConvert, getRow, AV.cells, List.head?_cons, List.drop_zero, List.drop_succ_cons, List.take_zero, List.take_succ_cons, List.drop_nil, List.take_nil, List.all_cons, List.all_nil, AV.ok, Bool.and_self, Bool.and_true, Bool.true_and, and_self, and_true, true_and, Nat.reduceLeDiff, Nat.reduceMul, Nat.reduceLT, Nat.reduceEqDiff, Nat.zero_add, Nat.add_zero, setCells, splice, pairsOk, FP.apart, heapEq_refl, sameAt_refl, Bool.or_true, Bool.true_or, Bool.or_false, srcElems, elemsOf, mutDst, roundK_norm, roundK_exit, roundK_ret, List.length_map, List.getElem?_map, Int.toNat_natCast, Int.reduceBNe, Int.reduceBEq, decide_true, decide_false, Bool.not_true, Bool.not_false, List.set, set_0, set_1, set_2, set_3, set_4, look_hit, look, lookD_hit, lookD_cons, lookD_nil, ins_hit, ins, upd_hit, upd, rem1_hit, rem1, dropT, dropSt_eq, initT, cfg_dd, cfg_bd, cfg_ra, actL_nil, actL_cons, act1, updT_hit, updT, frzB, retE_norm, retE_ret, bndO, bnd, evEq, eqCells, Int.reduceEq, Int.reduceLT, Int.reduceLE, Int.reduceGT, Int.reduceGE, not_false_eq_true, not_true_eq_false, toList_some, Array.size_empty, List.length_append, List.map_append, tySzE, List.head?_drop, Nat.mul_one, sameAt_zero, sameAt_two, sameAt_three, sameAt_four, sameAt_five, mu27, List.contains_nil, List.contains_cons, Nat.reduceBEq, Bool.or_self, dlt_t, dlt_f, dle_t, dle_f, dgt_t, dgt_f, dge_t, dge_f, beq_t, beq_f, bne_t, bne_f, lt_T, le_T, nle_T, nle_F, ↓wrap_up, ↓wrap_down, ↓wrap_pred, ↓wrap_sub_nat, i64_in, i64_quo, rem_in, Int.reduceToNat, room_ok, evMin, hm, htk, hx, hlx]
    repeat' (first | intro _ | apply And.intro | (unfold dOk; kernel_rfl) | (show (_ || _) = true; kernel_rfl) | (show (_ && _) = true; kernel_rfl))
    · exact hall
    · exact hal2
    · exact ⟨_, fz_row (els := (x :: xs).map I) rfl (by simp) (plain_ints _)⟩
end Go.Ev
