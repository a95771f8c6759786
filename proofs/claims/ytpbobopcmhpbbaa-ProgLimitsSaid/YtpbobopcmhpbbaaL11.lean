/- Functions of the program, each with what it computes; no further conditions. -/
import Derived.Test.YtpbobopcmhpbbaaL05
import Derived.Test.YtpbobopcmhpbbaaL10
set_option linter.unusedVariables false
set_option linter.unusedSimpArgs false
namespace Go.Ev
attribute [local go_sem] eq_self bindW_some bindW_map bindW_ite bindW_iteN W_seq W_region W_draw W_cond W_ret W_skip W_exit W_scope W_label W_block blockK_norm blockK_ret blockK_exit WO_nil WO_cons WO_guard WD_nil WD_cons WD_guard guardV guardW_boolT guardW_boolF guardW_tup fpL_some fpL_none footprint thenK_norm thenK_ret thenK_exit put_some put_none ev_tmp ev_con ev_func ofK_int ofK_bool ofK_str ofK_nil evOp evBuiltin evCall evLen evAppend getElem_16 getElem_4 List.length_cons List.length_nil List.cons_append List.nil_append List.append_nil if_false if_true Bool.false_eq_true Bool.true_eq_false Option.map_some Option.map_none List.map_cons List.map_nil evBinOp evBin evUn asB_bool splitB_decide splitB_true splitB_false splitB_beq splitB_bne splitB_not endK_ret endK_norm List.getElem?_cons_zero List.getElem?_cons_succ evResults evResult packRes retK_norm retK_ret cellsAt mkVal evFieldAddr evField evIndexAddr evPart evStore evBuild evBuildSlice fillC fillE evSlice evMakeSlice evConvert getRow AV.cells List.head?_cons List.drop_zero List.drop_succ_cons List.take_zero List.take_succ_cons List.drop_nil List.take_nil List.all_cons List.all_nil AV.ok Bool.and_self Bool.and_true Bool.true_and and_self and_true true_and Nat.zero_add Nat.add_zero setCells splice pairsOk FP.apart heapEq_refl sameAt_refl Bool.or_true Bool.true_or Bool.or_false srcElems elemsOf mutDst roundK_norm roundK_exit roundK_ret List.length_map List.getElem?_map Int.toNat_natCast decide_true decide_false Bool.not_true Bool.not_false List.set set_0 set_1 set_2 set_3 set_4 look_hit look lookD_hit lookD_cons lookD_nil ins_hit ins upd_hit upd rem1_hit rem1 dropT dropSt_eq initT cfg_dd cfg_bd cfg_ra actL_nil actL_cons act1 updT_hit updT frzB retE_norm retE_ret bndO bnd evEq eqCells not_false_eq_true not_true_eq_false toList_some Array.size_empty List.length_append List.map_append endE_norm endE_ret head_take1
open Go.Proofs Go.RowKit Go.IntWalk
set_option maxRecDepth 100000
set_option linter.unusedSimpArgs false
set_option linter.unusedVariables false
set_option maxHeartbeats 4000000

def PrgB (g : Prg) : Prop := g.ins.length ≤ 1000000 ∧ ∀ i ∈ g.ins, i.set.length ≤ 1000000
def lastGood (g : Prg) : Bool := match g.ins[g.ins.length - 1]? with
  | some i => i.op == 0 || i.op == 2 || i.op == 3
  | none => false
/-- The error of a program. -/
def validG (g : Prg) : Int :=
  if 8192 < g.ins.length then 4
  else if g.ins.length = 0 ∨ g.caps < 0 ∨ 9 < g.caps then 1
  else if g.ins.all (okIns g.ins.length g.caps g.runes) && lastGood g then 0 else 1

theorem validG_bad {g : Prg} (h1 : ¬ 8192 < g.ins.length) {k : Nat} {i : Ins} (hk : g.ins[k]? = some i) (hb : okIns g.ins.length g.caps g.runes i = false) : validG g = 1 := by
  have : (g.ins.all (okIns g.ins.length g.caps g.runes)) = false := by
    rw [List.all_eq_false]
    exact ⟨i, List.mem_of_getElem? hk, by simp [hb]⟩
  simp [validG, h1, this]
theorem validG_last {g : Prg} (h1 : ¬ 8192 < g.ins.length) (h2 : ¬(g.ins.length = 0 ∨ g.caps < 0 ∨ 9 < g.caps)) (ha : ∀ k i, k < g.ins.length → g.ins[k]? = some i → okIns g.ins.length g.caps g.runes i = true) :
    validG g = if lastGood g then 0 else 1 := by
  have : (g.ins.all (okIns g.ins.length g.caps g.runes)) = true := by
    rw [List.all_eq_true]
    intro i hi
    obtain ⟨k, hk, e⟩ := List.getElem_of_mem hi
    exact ha k i hk (by rw [← e]; exact List.getElem?_eq_getElem hk)
  unfold validG
  rw [if_neg h1, if_neg h2, this, Bool.true_and]
theorem okIns_op {n : Nat} {c : Int} {r : Bool} {i : Ins} (h : okIns n c r i = true) : i.op = 0 ∨ i.op = 1 ∨ i.op = 2 ∨ i.op = 3 ∨ i.op = 4 ∨ i.op = 5 := by
  simp only [okIns, Bool.and_eq_true, Bool.or_eq_true, beq_iff_eq] at h
  omega

theorem f29 (g : Prg) (hb : PrgB g) (H : List MB) : call Try.prog pol1 29 [.agg [.sl false (g.ins.map insAV), I g.caps, .bool g.runes]] H = some (I (validG g), H) := by
  obtain ⟨hl, hs⟩ := hb
  refine call_run Try.func29 rfl rfl rfl rfl rfl rfl (fun _ => rfl) (by simp [AV.plain, AV.plainL, plain_ints, plain_span, plain_ins, plain_prg]) (by simp [AV.plain, AV.plainL, plain_ints, plain_span, plain_ins, plain_prg]) ?_ H
  by_cases h1 : 8192 < g.ins.length
  · have e : validG g = 4 := by simp [validG, h1]
    rw [e]
    simp +contextual (disch := omega) only [Try.f29, dd29, ty0, ty3, ty4, ty36, ty39, ty41, ty108, go_sem, ↓reduceIte, List.reduceReplicate, Nat.reduceAdd, Nat.reduceSub, reduceCtorEq, Nat.reduceLeDiff, Nat.reduceMul, Nat.reduceLT, Nat.reduceEqDiff, Int.reduceBNe, Int.reduceBEq, Int.reduceEq, Int.reduceLT, Int.reduceLE, Int.reduceGT, Int.reduceGE, mu29, List.contains_nil, List.contains_cons, Nat.reduceBEq, Bool.or_self, dlt_t, dlt_f, dle_t, dle_f, dgt_t, dgt_f, dge_t, dge_f, beq_t, beq_f, bne_t, bne_f, lt_T, le_T, nle_T, nle_F, ↓wrap_up, ↓wrap_down, ↓wrap_pred, ↓wrap_sub_nat, i64_in, i64_quo, rem_in, Int.reduceToNat]
    exact fzEq rfl rfl
  by_cases h2 : g.ins.length = 0 ∨ g.caps < 0 ∨ 9 < g.caps
  · have e : validG g = 1 := by unfold validG; rw [if_neg h1, if_pos h2]
    rw [e]
    simp +contextual (disch := omega) only [Try.f29, dd29, ty0, ty3, ty4, ty36, ty39, ty41, ty108, go_sem, ↓reduceIte, List.reduceReplicate, Nat.reduceAdd, Nat.reduceSub, reduceCtorEq, Nat.reduceLeDiff, Nat.reduceMul, Nat.reduceLT, Nat.reduceEqDiff, Int.reduceBNe, Int.reduceBEq, Int.reduceEq, Int.reduceLT, Int.reduceLE, Int.reduceGT, Int.reduceGE, mu29, List.contains_nil, List.contains_cons, Nat.reduceBEq, Bool.or_self, dlt_t, dlt_f, dle_t, dle_f, dgt_t, dgt_f, dge_t, dge_f, beq_t, beq_f, bne_t, bne_f, lt_T, le_T, nle_T, nle_F, ↓wrap_up, ↓wrap_down, ↓wrap_pred, ↓wrap_sub_nat, i64_in, i64_quo, rem_in, Int.reduceToNat]
    repeat' (first | intro _ | apply And.intro | exact fzEq rfl rfl)
    all_goals (exfalso; omega)
  simp +contextual (disch := omega) only [Try.f29, dd29, ty0, ty3, ty4, ty36, ty39, ty41, ty108, go_sem, ↓reduceIte, List.reduceReplicate, Nat.reduceAdd, Nat.reduceSub, reduceCtorEq, Nat.reduceLeDiff, Nat.reduceMul, Nat.reduceLT, Nat.reduceEqDiff, Int.reduceBNe, Int.reduceBEq, Int.reduceEq, Int.reduceLT, Int.reduceLE, Int.reduceGT, Int.reduceGE, mu29, List.contains_nil, List.contains_cons, Nat.reduceBEq, Bool.or_self, dlt_t, dlt_f, dle_t, dle_f, dgt_t, dgt_f, dge_t, dge_f, beq_t, beq_f, bne_t, bne_f, lt_T, le_T, nle_T, nle_F, ↓wrap_up, ↓wrap_down, ↓wrap_pred, ↓wrap_sub_nat, i64_in, i64_quo, rem_in, Int.reduceToNat]
  refine W_count (M := (mskOf (pol1.mask 29) (pol1.gc 29) (pol1.acts 29) 0 6)) rfl g.ins.length (fun i => (⟨55, [(3, I i), (1, .rf 0 1 0 0)], [.row 3 [prgAV g] 0]⟩ : St))
    (fun i => ∀ k p, k < i → g.ins[k]? = some p → okIns g.ins.length g.caps g.runes p = true) ?_ ?_ (fun k p h => by omega) _ (by first | rfl | (refine prep_cut rfl (by rfl) (by rfl) (by rfl) ?_ ?_ <;> simp [AV.underL, AV.under, MB.under, underL_plain, under_plain, plain_ints, plain_span, plain_ins, plain_prg, -List.map_take]))
  · intro i hi hg
    obtain ⟨p, hp⟩ : ∃ p, g.ins[i]? = some p := ⟨_, List.getElem?_eq_getElem hi⟩
    have hsp := hs p (List.mem_of_getElem? hp)
    have hf := f68 g p (by omega) hl hsp
    cases hok : okIns g.ins.length g.caps g.runes p
    · rw [hok] at hf
      simp +contextual (disch := omega) only [Try.f29, dd29, ty0, ty3, ty4, ty36, ty39, ty41, ty108, go_sem, ↓reduceIte, List.reduceReplicate, Nat.reduceAdd, Nat.reduceSub, reduceCtorEq, Nat.reduceLeDiff, Nat.reduceMul, Nat.reduceLT, Nat.reduceEqDiff, Int.reduceBNe, Int.reduceBEq, Int.reduceEq, Int.reduceLT, Int.reduceLE, Int.reduceGT, Int.reduceGE, mu29, List.contains_nil, List.contains_cons, Nat.reduceBEq, Bool.or_self, dlt_t, dlt_f, dle_t, dle_f, dgt_t, dgt_f, dge_t, dge_f, beq_t, beq_f, bne_t, bne_f, lt_T, le_T, nle_T, nle_F, ↓wrap_up, ↓wrap_down, ↓wrap_pred, ↓wrap_sub_nat, i64_in, i64_quo, rem_in, Int.reduceToNat, hp, hf]
      refine ⟨by unfold dOk; kernel_rfl, fzEq rfl ?_⟩
      rw [validG_bad h1 hp hok]
    · rw [hok] at hf
      simp +contextual (disch := omega) only [Try.f29, dd29, ty0, ty3, ty4, ty36, ty39, ty41, ty108, go_sem, ↓reduceIte, List.reduceReplicate, Nat.reduceAdd, Nat.reduceSub, reduceCtorEq, Nat.reduceLeDiff, Nat.reduceMul, Nat.reduceLT, Nat.reduceEqDiff, Int.reduceBNe, Int.reduceBEq, Int.reduceEq, Int.reduceLT, Int.reduceLE, Int.reduceGT, Int.reduceGE, mu29, List.contains_nil, List.contains_cons, Nat.reduceBEq, Bool.or_self, dlt_t, dlt_f, dle_t, dle_f, dgt_t, dgt_f, dge_t, dge_f, beq_t, beq_f, bne_t, bne_f, lt_T, le_T, nle_T, nle_F, ↓wrap_up, ↓wrap_down, ↓wrap_pred, ↓wrap_sub_nat, i64_in, i64_quo, rem_in, Int.reduceToNat, hp, hf]
      refine ⟨by unfold dOk; kernel_rfl, fun k q hk hq => ?_, (by first | rfl | (refine prep_cut rfl (by rfl) (by rfl) (by rfl) ?_ ?_ <;> simp [AV.underL, AV.under, MB.under, underL_plain, under_plain, plain_ints, plain_span, plain_ins, plain_prg, -List.map_take]))⟩
      rcases Nat.lt_or_ge k i with h | h
      · exact hg k q h hq
      · obtain rfl : k = i := by omega
        rw [hp] at hq
        obtain rfl := Option.some.inj hq
        exact hok
  · intro hg
    rw [validG_last h1 h2 (fun k p hk hp => hg k p hk hp)]
    obtain ⟨p, hp⟩ : ∃ p, g.ins[g.ins.length - 1]? = some p := ⟨_, List.getElem?_eq_getElem (by omega)⟩
    have hop := okIns_op (hg _ p (by omega) hp)
    have e : lastGood g = (p.op == 0 || p.op == 2 || p.op == 3) := by simp [lastGood, hp]
    rw [e]
    simp +contextual (disch := omega) only [Try.f29, dd29, ty0, ty3, ty4, ty36, ty39, ty41, ty108, go_sem, ↓reduceIte, List.reduceReplicate, Nat.reduceAdd, Nat.reduceSub, reduceCtorEq, Nat.reduceLeDiff, Nat.reduceMul, Nat.reduceLT, Nat.reduceEqDiff, Int.reduceBNe, Int.reduceBEq, Int.reduceEq, Int.reduceLT, Int.reduceLE, Int.reduceGT, Int.reduceGE, mu29, List.contains_nil, List.contains_cons, Nat.reduceBEq, Bool.or_self, dlt_t, dlt_f, dle_t, dle_f, dgt_t, dgt_f, dge_t, dge_f, beq_t, beq_f, bne_t, bne_f, lt_T, le_T, nle_T, nle_F, ↓wrap_up, ↓wrap_down, ↓wrap_pred, ↓wrap_sub_nat, i64_in, i64_quo, rem_in, Int.reduceToNat, hp]
    repeat' (first | intro _ | apply And.intro | refine fzEq rfl ?_)
    all_goals (congr 1 <;> simp <;> omega)
end Go.Ev
namespace Go.Ev
attribute [local go_sem] eq_self bindW_some bindW_map bindW_ite bindW_iteN W_seq W_region W_draw W_cond W_ret W_skip W_exit W_scope W_label W_block blockK_norm blockK_ret blockK_exit WO_nil WO_cons WO_guard WD_nil WD_cons WD_guard guardV guardW_boolT guardW_boolF guardW_tup fpL_some fpL_none footprint thenK_norm thenK_ret thenK_exit put_some put_none ev_tmp ev_con ev_func ofK_int ofK_bool ofK_str ofK_nil evOp evBuiltin evCall evLen evAppend getElem_16 getElem_4 List.length_cons List.length_nil List.cons_append List.nil_append List.append_nil if_false if_true Bool.false_eq_true Bool.true_eq_false Option.map_some Option.map_none List.map_cons List.map_nil evBinOp evBin evUn asB_bool splitB_decide splitB_true splitB_false splitB_beq splitB_bne splitB_not endK_ret endK_norm List.getElem?_cons_zero List.getElem?_cons_succ evResults evResult packRes retK_norm retK_ret cellsAt mkVal evFieldAddr evField evIndexAddr evPart evStore evBuild evBuildSlice fillC fillE evSlice evMakeSlice evConvert getRow AV.cells List.head?_cons List.drop_zero List.drop_succ_cons List.take_zero List.take_succ_cons List.drop_nil List.take_nil List.all_cons List.all_nil AV.ok Bool.and_self Bool.and_true Bool.true_and and_self and_true true_and Nat.zero_add Nat.add_zero setCells splice pairsOk FP.apart heapEq_refl sameAt_refl Bool.or_true Bool.true_or Bool.or_false srcElems elemsOf mutDst roundK_norm roundK_exit roundK_ret List.length_map List.getElem?_map Int.toNat_natCast decide_true decide_false Bool.not_true Bool.not_false List.set set_0 set_1 set_2 set_3 set_4 look_hit look lookD_hit lookD_cons lookD_nil ins_hit ins upd_hit upd rem1_hit rem1 dropT dropSt_eq initT cfg_dd cfg_bd cfg_ra actL_nil actL_cons act1 updT_hit updT frzB retE_norm retE_ret bndO bnd evEq eqCells not_false_eq_true not_true_eq_false toList_some Array.size_empty List.length_append List.map_append endE_norm endE_ret head_take1
open Go.Proofs Go.RowKit Go.IntWalk
set_option maxRecDepth 100000
set_option linter.unusedSimpArgs false
set_option linter.unusedVariables false
set_option maxHeartbeats 4000000

def hasSpan (l : List (Int × Int)) (x : Int) : Bool := l.any fun p => decide (p.1 ≤ x) && decide (x ≤ p.2)
theorem hasSpan_at {l : List (Int × Int)} {x : Int} {i : Nat} {p : Int × Int} (h : l[i]? = some p) (hp : p.1 ≤ x ∧ x ≤ p.2) : hasSpan l x = true := by
  unfold hasSpan
  exact List.any_eq_true.2 ⟨p, List.mem_of_getElem? h, by simp [hp]⟩
theorem hasSpan_no {l : List (Int × Int)} {x : Int} (h : ∀ k p, k < l.length → l[k]? = some p → ¬ (p.1 ≤ x ∧ x ≤ p.2)) : hasSpan l x = false := by
  unfold hasSpan
  rw [List.any_eq_false]
  intro p hp
  obtain ⟨k, hk, e⟩ := List.getElem_of_mem hp
  have := h k p hk (by rw [← e]; exact List.getElem?_eq_getElem hk)
  simpa using this

theorem f64 (l : List (Int × Int)) (x : Int) (hl : l.length ≤ 1000000) (H : List MB) : call Try.prog pol1 64 [.sl false (l.map spanAV), I x] H = some (.bool (hasSpan l x), H) := by
  refine call_run Try.func64 rfl rfl rfl rfl rfl rfl (fun _ => rfl) (by simp [AV.plain, AV.plainL, plain_ints, plain_span, plain_ins, plain_prg]) (by simp [AV.plain, AV.plainL, plain_ints, plain_span, plain_ins, plain_prg]) ?_ H
  simp +contextual (disch := omega) only [Try.f64, dd64, ty0, ty3, ty4, ty23, ty86, go_sem, ↓reduceIte, List.reduceReplicate, Nat.reduceAdd, Nat.reduceSub, reduceCtorEq, Nat.reduceLeDiff, Nat.reduceMul, Nat.reduceLT, Nat.reduceEqDiff, Int.reduceBNe, Int.reduceBEq, Int.reduceEq, Int.reduceLT, Int.reduceLE, Int.reduceGT, Int.reduceGE, mu64, List.contains_nil, List.contains_cons, Nat.reduceBEq, Bool.or_self, dlt_t, dlt_f, dle_t, dle_f, dgt_t, dgt_f, dge_t, dge_f, beq_t, beq_f, bne_t, bne_f, lt_T, le_T, nle_T, nle_F, ↓wrap_up, ↓wrap_down, ↓wrap_pred, ↓wrap_sub_nat, i64_in, i64_quo, rem_in, Int.reduceToNat]
  refine W_count (M := (mskOf (pol1.mask 64) (pol1.gc 64) (pol1.acts 64) 0 2)) rfl l.length (fun i => (⟨28, [(5, I i), (1, I x), (0, .sl false (l.map spanAV))], []⟩ : St)) (fun i => ∀ k p, k < i → l[k]? = some p → ¬ (p.1 ≤ x ∧ x ≤ p.2)) ?_ ?_ (fun k p h => by omega) _ (by first | rfl | (refine prep_cut rfl (by rfl) (by rfl) (by rfl) ?_ ?_ <;> simp [AV.underL, AV.under, MB.under, underL_plain, under_plain, plain_ints, plain_span, plain_ins, plain_prg, -List.map_take]))
  · intro i hi hg
    obtain ⟨p, hp⟩ : ∃ p, l[i]? = some p := ⟨_, List.getElem?_eq_getElem hi⟩
    by_cases hin : p.1 ≤ x ∧ x ≤ p.2
    · rw [hasSpan_at hp hin]
      simp +contextual (disch := omega) only [Try.f64, dd64, ty0, ty3, ty4, ty23, ty86, go_sem, ↓reduceIte, List.reduceReplicate, Nat.reduceAdd, Nat.reduceSub, reduceCtorEq, Nat.reduceLeDiff, Nat.reduceMul, Nat.reduceLT, Nat.reduceEqDiff, Int.reduceBNe, Int.reduceBEq, Int.reduceEq, Int.reduceLT, Int.reduceLE, Int.reduceGT, Int.reduceGE, mu64, List.contains_nil, List.contains_cons, Nat.reduceBEq, Bool.or_self, dlt_t, dlt_f, dle_t, dle_f, dgt_t, dgt_f, dge_t, dge_f, beq_t, beq_f, bne_t, bne_f, lt_T, le_T, nle_T, nle_F, ↓wrap_up, ↓wrap_down, ↓wrap_pred, ↓wrap_sub_nat, i64_in, i64_quo, rem_in, Int.reduceToNat, hp, spanAV]
      exact fzEq rfl rfl
    · have ext : ∀ k q, k < i + 1 → l[k]? = some q → ¬ (q.1 ≤ x ∧ x ≤ q.2) := fun k q hk hq => by
        rcases Nat.lt_or_ge k i with h | h
        · exact hg k q h hq
        · obtain rfl : k = i := by omega
          rw [hp] at hq
          obtain rfl := Option.some.inj hq
          exact hin
      by_cases h1 : p.1 ≤ x
      · simp +contextual (disch := omega) only [Try.f64, dd64, ty0, ty3, ty4, ty23, ty86, go_sem, ↓reduceIte, List.reduceReplicate, Nat.reduceAdd, Nat.reduceSub, reduceCtorEq, Nat.reduceLeDiff, Nat.reduceMul, Nat.reduceLT, Nat.reduceEqDiff, Int.reduceBNe, Int.reduceBEq, Int.reduceEq, Int.reduceLT, Int.reduceLE, Int.reduceGT, Int.reduceGE, mu64, List.contains_nil, List.contains_cons, Nat.reduceBEq, Bool.or_self, dlt_t, dlt_f, dle_t, dle_f, dgt_t, dgt_f, dge_t, dge_f, beq_t, beq_f, bne_t, bne_f, lt_T, le_T, nle_T, nle_F, ↓wrap_up, ↓wrap_down, ↓wrap_pred, ↓wrap_sub_nat, i64_in, i64_quo, rem_in, Int.reduceToNat, hp, spanAV]
        exact ⟨ext, (by first | rfl | (refine prep_cut rfl (by rfl) (by rfl) (by rfl) ?_ ?_ <;> simp [AV.underL, AV.under, MB.under, underL_plain, under_plain, plain_ints, plain_span, plain_ins, plain_prg, -List.map_take]))⟩
      · simp +contextual (disch := omega) only [Try.f64, dd64, ty0, ty3, ty4, ty23, ty86, go_sem, ↓reduceIte, List.reduceReplicate, Nat.reduceAdd, Nat.reduceSub, reduceCtorEq, Nat.reduceLeDiff, Nat.reduceMul, Nat.reduceLT, Nat.reduceEqDiff, Int.reduceBNe, Int.reduceBEq, Int.reduceEq, Int.reduceLT, Int.reduceLE, Int.reduceGT, Int.reduceGE, mu64, List.contains_nil, List.contains_cons, Nat.reduceBEq, Bool.or_self, dlt_t, dlt_f, dle_t, dle_f, dgt_t, dgt_f, dge_t, dge_f, beq_t, beq_f, bne_t, bne_f, lt_T, le_T, nle_T, nle_F, ↓wrap_up, ↓wrap_down, ↓wrap_pred, ↓wrap_sub_nat, i64_in, i64_quo, rem_in, Int.reduceToNat, hp, spanAV]
        exact ⟨ext, (by first | rfl | (refine prep_cut rfl (by rfl) (by rfl) (by rfl) ?_ ?_ <;> simp [AV.underL, AV.under, MB.under, underL_plain, under_plain, plain_ints, plain_span, plain_ins, plain_prg, -List.map_take]))⟩
  · intro hg
    rw [hasSpan_no hg]
    simp +contextual (disch := omega) only [Try.f64, dd64, ty0, ty3, ty4, ty23, ty86, go_sem, ↓reduceIte, List.reduceReplicate, Nat.reduceAdd, Nat.reduceSub, reduceCtorEq, Nat.reduceLeDiff, Nat.reduceMul, Nat.reduceLT, Nat.reduceEqDiff, Int.reduceBNe, Int.reduceBEq, Int.reduceEq, Int.reduceLT, Int.reduceLE, Int.reduceGT, Int.reduceGE, mu64, List.contains_nil, List.contains_cons, Nat.reduceBEq, Bool.or_self, dlt_t, dlt_f, dle_t, dle_f, dgt_t, dgt_f, dge_t, dge_f, beq_t, beq_f, bne_t, bne_f, lt_T, le_T, nle_T, nle_F, ↓wrap_up, ↓wrap_down, ↓wrap_pred, ↓wrap_sub_nat, i64_in, i64_quo, rem_in, Int.reduceToNat]
    exact fzEq rfl rfl
theorem f43 (l : List (Int × Int)) (x : Int) (hl : l.length ≤ 1000000) (H : List MB) : call Try.prog pol1 43 [.sl false (l.map spanAV), I x] H = some (.bool (hasSpan l x), H) := by
  refine call_run Try.func43 rfl rfl rfl rfl rfl rfl (fun _ => rfl) (by simp [AV.plain, AV.plainL, plain_ints, plain_span, plain_ins, plain_prg]) (by simp [AV.plain, AV.plainL, plain_ints, plain_span, plain_ins, plain_prg]) ?_ H
  simp +contextual (disch := omega) only [Try.f43, dd43, ty0, ty3, ty4, ty23, ty86, go_sem, ↓reduceIte, List.reduceReplicate, Nat.reduceAdd, Nat.reduceSub, reduceCtorEq, Nat.reduceLeDiff, Nat.reduceMul, Nat.reduceLT, Nat.reduceEqDiff, Int.reduceBNe, Int.reduceBEq, Int.reduceEq, Int.reduceLT, Int.reduceLE, Int.reduceGT, Int.reduceGE, mu43, List.contains_nil, List.contains_cons, Nat.reduceBEq, Bool.or_self, dlt_t, dlt_f, dle_t, dle_f, dgt_t, dgt_f, dge_t, dge_f, beq_t, beq_f, bne_t, bne_f, lt_T, le_T, nle_T, nle_F, ↓wrap_up, ↓wrap_down, ↓wrap_pred, ↓wrap_sub_nat, i64_in, i64_quo, rem_in, Int.reduceToNat]
  refine W_count (M := (mskOf (pol1.mask 43) (pol1.gc 43) (pol1.acts 43) 0 2)) rfl l.length (fun i => (⟨24, [(9, I i), (8, I l.length), (7, .sl false (l.map spanAV)), (1, I x)], []⟩ : St)) (fun i => ∀ k p, k < i → l[k]? = some p → ¬ (p.1 ≤ x ∧ x ≤ p.2)) ?_ ?_ (fun k p h => by omega) _ (by first | rfl | (refine prep_cut rfl (by rfl) (by rfl) (by rfl) ?_ ?_ <;> simp [AV.underL, AV.under, MB.under, underL_plain, under_plain, plain_ints, plain_span, plain_ins, plain_prg, -List.map_take]))
  · intro i hi hg
    obtain ⟨p, hp⟩ : ∃ p, l[i]? = some p := ⟨_, List.getElem?_eq_getElem hi⟩
    by_cases hin : p.1 ≤ x ∧ x ≤ p.2
    · rw [hasSpan_at hp hin]
      simp +contextual (disch := omega) only [Try.f43, dd43, ty0, ty3, ty4, ty23, ty86, go_sem, ↓reduceIte, List.reduceReplicate, Nat.reduceAdd, Nat.reduceSub, reduceCtorEq, Nat.reduceLeDiff, Nat.reduceMul, Nat.reduceLT, Nat.reduceEqDiff, Int.reduceBNe, Int.reduceBEq, Int.reduceEq, Int.reduceLT, Int.reduceLE, Int.reduceGT, Int.reduceGE, mu43, List.contains_nil, List.contains_cons, Nat.reduceBEq, Bool.or_self, dlt_t, dlt_f, dle_t, dle_f, dgt_t, dgt_f, dge_t, dge_f, beq_t, beq_f, bne_t, bne_f, lt_T, le_T, nle_T, nle_F, ↓wrap_up, ↓wrap_down, ↓wrap_pred, ↓wrap_sub_nat, i64_in, i64_quo, rem_in, Int.reduceToNat, hp, spanAV]
      exact fzEq rfl rfl
    · have ext : ∀ k q, k < i + 1 → l[k]? = some q → ¬ (q.1 ≤ x ∧ x ≤ q.2) := fun k q hk hq => by
        rcases Nat.lt_or_ge k i with h | h
        · exact hg k q h hq
        · obtain rfl : k = i := by omega
          rw [hp] at hq
          obtain rfl := Option.some.inj hq
          exact hin
      by_cases h1 : p.1 ≤ x
      · simp +contextual (disch := omega) only [Try.f43, dd43, ty0, ty3, ty4, ty23, ty86, go_sem, ↓reduceIte, List.reduceReplicate, Nat.reduceAdd, Nat.reduceSub, reduceCtorEq, Nat.reduceLeDiff, Nat.reduceMul, Nat.reduceLT, Nat.reduceEqDiff, Int.reduceBNe, Int.reduceBEq, Int.reduceEq, Int.reduceLT, Int.reduceLE, Int.reduceGT, Int.reduceGE, mu43, List.contains_nil, List.contains_cons, Nat.reduceBEq, Bool.or_self, dlt_t, dlt_f, dle_t, dle_f, dgt_t, dgt_f, dge_t, dge_f, beq_t, beq_f, bne_t, bne_f, lt_T, le_T, nle_T, nle_F, ↓wrap_up, ↓wrap_down, ↓wrap_pred, ↓wrap_sub_nat, i64_in, i64_quo, rem_in, Int.reduceToNat, hp, spanAV]
        exact ⟨ext, (by first | rfl | (refine prep_cut rfl (by rfl) (by rfl) (by rfl) ?_ ?_ <;> simp [AV.underL, AV.under, MB.under, underL_plain, under_plain, plain_ints, plain_span, plain_ins, plain_prg, -List.map_take]))⟩
      · simp +contextual (disch := omega) only [Try.f43, dd43, ty0, ty3, ty4, ty23, ty86, go_sem, ↓reduceIte, List.reduceReplicate, Nat.reduceAdd, Nat.reduceSub, reduceCtorEq, Nat.reduceLeDiff, Nat.reduceMul, Nat.reduceLT, Nat.reduceEqDiff, Int.reduceBNe, Int.reduceBEq, Int.reduceEq, Int.reduceLT, Int.reduceLE, Int.reduceGT, Int.reduceGE, mu43, List.contains_nil, List.contains_cons, Nat.reduceBEq, Bool.or_self, dlt_t, dlt_f, dle_t, dle_f, dgt_t, dgt_f, dge_t, dge_f, beq_t, beq_f, bne_t, bne_f, lt_T, le_T, nle_T, nle_F, ↓wrap_up, ↓wrap_down, ↓wrap_pred, ↓wrap_sub_nat, i64_in, i64_quo, rem_in, Int.reduceToNat, hp, spanAV]
        exact ⟨ext, (by first | rfl | (refine prep_cut rfl (by rfl) (by rfl) (by rfl) ?_ ?_ <;> simp [AV.underL, AV.under, MB.under, underL_plain, under_plain, plain_ints, plain_span, plain_ins, plain_prg, -List.map_take]))⟩
  · intro hg
    rw [hasSpan_no hg]
    simp +contextual (disch := omega) only [Try.f43, dd43, ty0, ty3, ty4, ty23, ty86, go_sem, ↓reduceIte, List.reduceReplicate, Nat.reduceAdd, Nat.reduceSub, reduceCtorEq, Nat.reduceLeDiff, Nat.reduceMul, Nat.reduceLT, Nat.reduceEqDiff, Int.reduceBNe, Int.reduceBEq, Int.reduceEq, Int.reduceLT, Int.reduceLE, Int.reduceGT, Int.reduceGE, mu43, List.contains_nil, List.contains_cons, Nat.reduceBEq, Bool.or_self, dlt_t, dlt_f, dle_t, dle_f, dgt_t, dgt_f, dge_t, dge_f, beq_t, beq_f, bne_t, bne_f, lt_T, le_T, nle_T, nle_F, ↓wrap_up, ↓wrap_down, ↓wrap_pred, ↓wrap_sub_nat, i64_in, i64_quo, rem_in, Int.reduceToNat]
    exact fzEq rfl rfl

def wordI (x : Int) : Bool := (decide (97 ≤ x) && decide (x ≤ 122)) || (decide (65 ≤ x) && decide (x ≤ 90)) || (decide (48 ≤ x) && decide (x ≤ 57)) || x == 95
theorem f117 (x : Int) (H : List MB) : call Try.prog pol1 117 [I x] H = some (.bool (wordI x), H) := by
  refine call_run Try.func117 rfl rfl rfl rfl rfl rfl (fun _ => rfl) (by simp [AV.plain, AV.plainL, plain_ints, plain_span, plain_ins, plain_prg]) (by simp [AV.plain, AV.plainL, plain_ints, plain_span, plain_ins, plain_prg]) ?_ H
  simp +contextual (disch := omega) only [Try.f117, dd117, ty3, ty4, go_sem, ↓reduceIte, List.reduceReplicate, Nat.reduceAdd, Nat.reduceSub, reduceCtorEq, Nat.reduceLeDiff, Nat.reduceMul, Nat.reduceLT, Nat.reduceEqDiff, Int.reduceBNe, Int.reduceBEq, Int.reduceEq, Int.reduceLT, Int.reduceLE, Int.reduceGT, Int.reduceGE, mu117, List.contains_nil, List.contains_cons, Nat.reduceBEq, Bool.or_self, dlt_t, dlt_f, dle_t, dle_f, dgt_t, dgt_f, dge_t, dge_f, beq_t, beq_f, bne_t, bne_f, lt_T, le_T, nle_T, nle_F, ↓wrap_up, ↓wrap_down, ↓wrap_pred, ↓wrap_sub_nat, i64_in, i64_quo, rem_in, Int.reduceToNat]
  repeat' (first | intro _ | apply And.intro | refine fzEq rfl (congrArg AV.bool ?_))
  all_goals (rw [Bool.eq_iff_iff]; simp [wordI] <;> omega)
theorem f118 (x : Int) (H : List MB) : call Try.prog pol1 118 [I x] H = some (.bool (wordI x), H) := by
  refine call_run Try.func118 rfl rfl rfl rfl rfl rfl (fun _ => rfl) (by simp [AV.plain, AV.plainL, plain_ints, plain_span, plain_ins, plain_prg]) (by simp [AV.plain, AV.plainL, plain_ints, plain_span, plain_ins, plain_prg]) ?_ H
  simp +contextual (disch := omega) only [Try.f118, dd118, ty3, ty4, go_sem, ↓reduceIte, List.reduceReplicate, Nat.reduceAdd, Nat.reduceSub, reduceCtorEq, Nat.reduceLeDiff, Nat.reduceMul, Nat.reduceLT, Nat.reduceEqDiff, Int.reduceBNe, Int.reduceBEq, Int.reduceEq, Int.reduceLT, Int.reduceLE, Int.reduceGT, Int.reduceGE, mu118, List.contains_nil, List.contains_cons, Nat.reduceBEq, Bool.or_self, dlt_t, dlt_f, dle_t, dle_f, dgt_t, dgt_f, dge_t, dge_f, beq_t, beq_f, bne_t, bne_f, lt_T, le_T, nle_T, nle_F, ↓wrap_up, ↓wrap_down, ↓wrap_pred, ↓wrap_sub_nat, i64_in, i64_quo, rem_in, Int.reduceToNat]
  repeat' (first | intro _ | apply And.intro | refine fzEq rfl (congrArg AV.bool ?_))
  all_goals (rw [Bool.eq_iff_iff]; simp [wordI] <;> omega)
end Go.Ev
namespace Go.Ev
attribute [local go_sem] eq_self bindW_some bindW_map bindW_ite bindW_iteN W_seq W_region W_draw W_cond W_ret W_skip W_exit W_scope W_label W_block blockK_norm blockK_ret blockK_exit WO_nil WO_cons WO_guard WD_nil WD_cons WD_guard guardV guardW_boolT guardW_boolF guardW_tup fpL_some fpL_none footprint thenK_norm thenK_ret thenK_exit put_some put_none ev_tmp ev_con ev_func ofK_int ofK_bool ofK_str ofK_nil evOp evBuiltin evCall evLen evAppend getElem_16 getElem_4 List.length_cons List.length_nil List.cons_append List.nil_append List.append_nil if_false if_true Bool.false_eq_true Bool.true_eq_false Option.map_some Option.map_none List.map_cons List.map_nil evBinOp evBin evUn asB_bool splitB_decide splitB_true splitB_false splitB_beq splitB_bne splitB_not endK_ret endK_norm List.getElem?_cons_zero List.getElem?_cons_succ evResults evResult packRes retK_norm retK_ret cellsAt mkVal evFieldAddr evField evIndexAddr evPart evStore evBuild evBuildSlice fillC fillE evSlice evMakeSlice evConvert getRow AV.cells List.head?_cons List.drop_zero List.drop_succ_cons List.take_zero List.take_succ_cons List.drop_nil List.take_nil List.all_cons List.all_nil AV.ok Bool.and_self Bool.and_true Bool.true_and and_self and_true true_and Nat.zero_add Nat.add_zero setCells splice pairsOk FP.apart heapEq_refl sameAt_refl Bool.or_true Bool.true_or Bool.or_false srcElems elemsOf mutDst roundK_norm roundK_exit roundK_ret List.length_map List.getElem?_map Int.toNat_natCast decide_true decide_false Bool.not_true Bool.not_false List.set set_0 set_1 set_2 set_3 set_4 look_hit look lookD_hit lookD_cons lookD_nil ins_hit ins upd_hit upd rem1_hit rem1 dropT dropSt_eq initT cfg_dd cfg_bd cfg_ra actL_nil actL_cons act1 updT_hit updT frzB retE_norm retE_ret bndO bnd evEq eqCells not_false_eq_true not_true_eq_false toList_some Array.size_empty List.length_append List.map_append endE_norm endE_ret head_take1
open Go.Proofs Go.RowKit Go.IntWalk
set_option maxRecDepth 100000
set_option linter.unusedSimpArgs false
set_option linter.unusedVariables false
set_option maxHeartbeats 4000000

theorem all_int1 (l : List Int) : ((l.map I).all fun y => decide (y.cells.length = 1) && y.cells.all AV.ok) = true := by
  simp only [List.all_eq_true, List.mem_map, Bool.and_eq_true, decide_eq_true_eq]
  rintro _ ⟨i, _, rfl⟩
  exact ⟨rfl, fun x hx => by
    simp only [AV.cells, List.mem_singleton] at hx
    rw [hx]; rfl⟩
theorem fz_ints {id tot : Nat} {l : List Int} {H : List MB} (hr : getRow H id = some (1, l.map I, 0)) (hn : tot = l.length) :
    ∃ H', fz (.ms id 1 tot 0 tot) H = some (.sl false (l.map I), H') := by
  subst hn
  refine ⟨mark H id (0 + l.length), fzA_ms (n := 5) hr (by simp) (by simp) ?_⟩
  rw [List.drop_zero, List.take_of_length_le (by simp)]
  exact fzL_plain _ _ _ (plain_ints _)

theorem f65 (l : List Int) (i : Nat) (v : Int) (hi : i < l.length) (hl : l.length ≤ 1000000) (H : List MB) : call Try.prog pol1 65 [.sl false (l.map I), I i, I v] H = some (.sl false ((l.set i v).map I), H) := by
  refine call_run Try.func65 rfl rfl rfl rfl rfl rfl (fun _ => rfl) (by simp [AV.plain, AV.plainL, plain_ints]) (by simp only [AV.plain, plain_ints]; rfl) ?_ H
  cases l with
  | nil => simp at hi
  | cons x xs =>
    simp only [List.length_cons] at hi hl
    obtain ⟨p, hp⟩ : ∃ p, (x :: xs)[i]? = some p := ⟨_, List.getElem?_eq_getElem (by simpa using hi)⟩
    have hp' : (I x :: List.map I xs)[i]? = some (I p) := by
      have : ((x :: xs).map I)[i]? = some (I p) := by rw [List.getElem?_map, hp]; rfl
      exact this
    simp +contextual (disch := omega) only [Try.f65, dd65, ty0, ty3, ty22, go_sem, ↓reduceIte, List.reduceReplicate, Nat.reduceAdd, Nat.reduceSub, reduceCtorEq, Nat.reduceLeDiff, Nat.reduceMul, Nat.reduceLT, Nat.reduceEqDiff, Int.reduceBNe, Int.reduceBEq, Int.reduceEq, Int.reduceLT, Int.reduceLE, Int.reduceGT, Int.reduceGE, mu65, List.contains_nil, List.contains_cons, Nat.reduceBEq, Bool.or_self, dlt_t, dlt_f, dle_t, dle_f, dgt_t, dgt_f, dge_t, dge_f, beq_t, beq_f, bne_t, bne_f, lt_T, le_T, nle_T, nle_F, ↓wrap_up, ↓wrap_down, ↓wrap_pred, ↓wrap_sub_nat, i64_in, i64_quo, rem_in, Int.reduceToNat, hp']
    refine ⟨all_int1 (x :: xs), by simp [roomFor]; omega, ?_⟩
    refine fz_ints ?_ (by simp)
    rw [List.map_set]
    rfl
end Go.Ev
namespace Go.Ev
attribute [local go_sem] eq_self bindW_some bindW_map bindW_ite bindW_iteN W_seq W_region W_draw W_cond W_ret W_skip W_exit W_scope W_label W_block blockK_norm blockK_ret blockK_exit WO_nil WO_cons WO_guard WD_nil WD_cons WD_guard guardV guardW_boolT guardW_boolF guardW_tup fpL_some fpL_none footprint thenK_norm thenK_ret thenK_exit put_some put_none ev_tmp ev_con ev_func ofK_int ofK_bool ofK_str ofK_nil evOp evBuiltin evCall evLen evAppend getElem_16 getElem_4 List.length_cons List.length_nil List.cons_append List.nil_append List.append_nil if_false if_true Bool.false_eq_true Bool.true_eq_false Option.map_some Option.map_none List.map_cons List.map_nil evBinOp evBin evUn asB_bool splitB_decide splitB_true splitB_false splitB_beq splitB_bne splitB_not endK_ret endK_norm List.getElem?_cons_zero List.getElem?_cons_succ evResults evResult packRes retK_norm retK_ret cellsAt mkVal evFieldAddr evField evIndexAddr evPart evStore evBuild evBuildSlice fillC fillE evSlice evMakeSlice evConvert getRow AV.cells List.head?_cons List.drop_zero List.drop_succ_cons List.take_zero List.take_succ_cons List.drop_nil List.take_nil List.all_cons List.all_nil AV.ok Bool.and_self Bool.and_true Bool.true_and and_self and_true true_and Nat.zero_add Nat.add_zero setCells splice pairsOk FP.apart heapEq_refl sameAt_refl Bool.or_true Bool.true_or Bool.or_false srcElems elemsOf mutDst roundK_norm roundK_exit roundK_ret List.length_map List.getElem?_map Int.toNat_natCast decide_true decide_false Bool.not_true Bool.not_false List.set set_0 set_1 set_2 set_3 set_4 look_hit look lookD_hit lookD_cons lookD_nil ins_hit ins upd_hit upd rem1_hit rem1 dropT dropSt_eq initT cfg_dd cfg_bd cfg_ra actL_nil actL_cons act1 updT_hit updT frzB retE_norm retE_ret bndO bnd evEq eqCells not_false_eq_true not_true_eq_false toList_some Array.size_empty List.length_append List.map_append tySzE List.head?_drop Nat.mul_one sameAt_zero sameAt_two sameAt_three sameAt_four sameAt_five endE_norm endE_ret head_take1
open Go.Proofs Go.RowKit Go.IntWalk
set_option maxRecDepth 100000
set_option linter.unusedSimpArgs false
set_option linter.unusedVariables false
set_option maxHeartbeats 4000000

/-- A capture's span out of two registers. -/
def capP (a b : Int) : Int × Int := if a = -1 ∨ b = -1 then (-1, -1) else (a, b)
def capsN (regs : List Int) (n : Nat) : List (Int × Int) := (List.range n).map fun k => capP (regs.getD (2 * k) 0) (regs.getD (2 * k + 1) 0)
theorem capsN_succ (regs : List Int) (n : Nat) : capsN regs (n + 1) = capsN regs n ++ [capP (regs.getD (2 * n) 0) (regs.getD (2 * n + 1) 0)] := by
  simp [capsN, List.range_succ]
theorem capsN_len (regs : List Int) (n : Nat) : (capsN regs n).length = n := by simp [capsN]
def matAV (s e : Int) (caps : List (Int × Int)) : AV := .agg [I s, I e, .sl false (caps.map spanAV)]
theorem plain_mat (s e : Int) (caps : List (Int × Int)) : AV.plain (matAV s e caps) = true := by simp [matAV, AV.plain, AV.plainL, plain_span]

theorem f63 (pc pos start : Int) (regs : List Int) (n : Nat) (hr : regs.length = 2 * n) (hn : n ≤ 1000) (H : List MB) :
    call Try.prog pol1 63 [.agg [I pc, I pos, .sl false (regs.map I)], I start] H = some (matAV start pos (capsN regs n), H) := by
  refine call_run Try.func63 rfl rfl rfl rfl rfl rfl (fun _ => rfl) (by simp [AV.plain, AV.plainL, plain_ints]) (plain_mat _ _ _) ?_ H
  simp +contextual (disch := omega) only [Try.f63, dd63, ty0, ty3, ty4, ty22, ty110, ty112, ty129, ty174, go_sem, ↓reduceIte, List.reduceReplicate, Nat.reduceAdd, Nat.reduceSub, reduceCtorEq, Nat.reduceLeDiff, Nat.reduceMul, Nat.reduceLT, Nat.reduceEqDiff, Int.reduceBNe, Int.reduceBEq, Int.reduceEq, Int.reduceLT, Int.reduceLE, Int.reduceGT, Int.reduceGE, mu63, List.contains_nil, List.contains_cons, Nat.reduceBEq, Bool.or_self, dlt_t, dlt_f, dle_t, dle_f, dgt_t, dgt_f, dge_t, dge_f, beq_t, beq_f, bne_t, bne_f, lt_T, le_T, nle_T, nle_F, ↓wrap_up, ↓wrap_down, ↓wrap_pred, ↓wrap_sub_nat, i64_in, i64_quo, rem_in, Int.reduceToNat, room_ok]
  refine W_count (M := (mskOf (pol1.mask 63) (pol1.gc 63) (pol1.acts 63) 0 3)) rfl n (fun j => (⟨48, [(6, I ((2 * j : Nat) : Int)), (5, .rf 2 1 0 0), (4, .rf 1 1 0 0), (2, .rf 0 1 0 0)], [.row 3 [.agg [I pc, I pos, .sl false (regs.map I)]] 0, .row 3 [.agg [I 0, I 0, .sl true []]] 0,
      .row 3 [.agg [I start, I pos, .ms 3 2 j 0 j]] 0, .row 2 ((capsN regs j).map spanAV) 0]⟩ : St)) (fun _ => True) ?_ ?_ trivial _ (by first | rfl | (refine prep_cut rfl (by rfl) (by rfl) (by rfl) ?_ ?_ <;> simp [AV.underL, AV.under, MB.under, underL_plain, under_plain, plain_ints, plain_span, plain_ins, plain_prg, -List.map_take]))
  · intro j hj _
    obtain ⟨a, ha⟩ : ∃ a, regs[2 * j]? = some a := ⟨_, List.getElem?_eq_getElem (by omega)⟩
    obtain ⟨b, hb⟩ : ∃ b, regs[2 * j + 1]? = some b := ⟨_, List.getElem?_eq_getElem (by omega)⟩
    have hl := capsN_len regs j
    rw [capsN_succ, List.getD_eq_getElem?_getD, List.getD_eq_getElem?_getD, ha, hb]
    simp only [Option.getD_some]
    generalize capsN regs j = cs at *
    have htk := take_map_len (f := spanAV) hl
    have e2 : ((2 * j : Nat) : Int) + 2 = ((2 * (j + 1) : Nat) : Int) := by omega
    simp +contextual (disch := omega) only [Try.f63, dd63, ty0, ty3, ty4, ty22, ty110, ty112, ty129, ty174, go_sem, ↓reduceIte, List.reduceReplicate, Nat.reduceAdd, Nat.reduceSub, reduceCtorEq, Nat.reduceLeDiff, Nat.reduceMul, Nat.reduceLT, Nat.reduceEqDiff, Int.reduceBNe, Int.reduceBEq, Int.reduceEq, Int.reduceLT, Int.reduceLE, Int.reduceGT, Int.reduceGE, mu63, List.contains_nil, List.contains_cons, Nat.reduceBEq, Bool.or_self, dlt_t, dlt_f, dle_t, dle_f, dgt_t, dgt_f, dge_t, dge_f, beq_t, beq_f, bne_t, bne_f, lt_T, le_T, nle_T, nle_F, ↓wrap_up, ↓wrap_down, ↓wrap_pred, ↓wrap_sub_nat, i64_in, i64_quo, rem_in, Int.reduceToNat, room_ok, ha, hb, hl, htk, e2]
    repeat' (first | intro _ | apply And.intro | (unfold dOk; kernel_rfl) | (show (_ || _) = true; kernel_rfl) | (show (_ && _) = true; kernel_rfl))
    all_goals exact (by first | rfl | (refine prep_to (n := 4) (m := ⟨some [6, 5, 4, 2], some 4, []⟩) rfl rfl ?_ ?_ ?_ <;> first | rfl | (simp [keepT, AV.underL, AV.under, MB.under, underL_plain, under_plain, underL_append, plain_ints, plain_span, plain_ins, plain_prg, -List.map_take, -List.map_replicate, -List.map_set, capP, *]; done) | (simp [keepT, AV.underL, AV.under, MB.under, underL_plain, under_plain, underL_append, plain_ints, plain_span, plain_ins, plain_prg, -List.map_take, -List.map_replicate, -List.map_set, capP, *]; omega)))
  · intro _
    have hl := capsN_len regs n
    generalize capsN regs n = cs at *
    simp +contextual (disch := omega) only [Try.f63, dd63, ty0, ty3, ty4, ty22, ty110, ty112, ty129, ty174, go_sem, ↓reduceIte, List.reduceReplicate, Nat.reduceAdd, Nat.reduceSub, reduceCtorEq, Nat.reduceLeDiff, Nat.reduceMul, Nat.reduceLT, Nat.reduceEqDiff, Int.reduceBNe, Int.reduceBEq, Int.reduceEq, Int.reduceLT, Int.reduceLE, Int.reduceGT, Int.reduceGE, mu63, List.contains_nil, List.contains_cons, Nat.reduceBEq, Bool.or_self, dlt_t, dlt_f, dle_t, dle_f, dgt_t, dgt_f, dge_t, dge_f, beq_t, beq_f, bne_t, bne_f, lt_T, le_T, nle_T, nle_F, ↓wrap_up, ↓wrap_down, ↓wrap_pred, ↓wrap_sub_nat, i64_in, i64_quo, rem_in, Int.reduceToNat, room_ok, hr, hl]
    simp only [fz, fzA_agg, fzL, fzA_int]
    rw [fzA_row (els := cs.map spanAV) (k := 2) (z := 0) rfl (by simp [hl]) (plain_span cs)]
    exact ⟨_, rfl⟩
end Go.Ev
namespace Go.Ev
attribute [local go_sem] eq_self bindW_some bindW_map bindW_ite bindW_iteN W_seq W_region W_draw W_cond W_ret W_skip W_exit W_scope W_label W_block blockK_norm blockK_ret blockK_exit WO_nil WO_cons WO_guard WD_nil WD_cons WD_guard guardV guardW_boolT guardW_boolF guardW_tup fpL_some fpL_none footprint thenK_norm thenK_ret thenK_exit put_some put_none ev_tmp ev_con ev_func ofK_int ofK_bool ofK_str ofK_nil evOp evBuiltin evCall evLen evAppend getElem_16 getElem_4 List.length_cons List.length_nil List.cons_append List.nil_append List.append_nil if_false if_true Bool.false_eq_true Bool.true_eq_false Option.map_some Option.map_none List.map_cons List.map_nil evBinOp evBin evUn asB_bool splitB_decide splitB_true splitB_false splitB_beq splitB_bne splitB_not endK_ret endK_norm List.getElem?_cons_zero List.getElem?_cons_succ evResults evResult packRes retK_norm retK_ret cellsAt mkVal evFieldAddr evField evIndexAddr evPart evStore evBuild evBuildSlice fillC fillE evSlice evMakeSlice evConvert getRow AV.cells List.head?_cons List.drop_zero List.drop_succ_cons List.take_zero List.take_succ_cons List.drop_nil List.take_nil List.all_cons List.all_nil AV.ok Bool.and_self Bool.and_true Bool.true_and and_self and_true true_and Nat.zero_add Nat.add_zero setCells splice pairsOk FP.apart heapEq_refl sameAt_refl Bool.or_true Bool.true_or Bool.or_false srcElems elemsOf mutDst roundK_norm roundK_exit roundK_ret List.length_map List.getElem?_map Int.toNat_natCast decide_true decide_false Bool.not_true Bool.not_false List.set set_0 set_1 set_2 set_3 set_4 look_hit look lookD_hit lookD_cons lookD_nil ins_hit ins upd_hit upd rem1_hit rem1 dropT dropSt_eq initT cfg_dd cfg_bd cfg_ra actL_nil actL_cons act1 updT_hit updT frzB retE_norm retE_ret bndO bnd evEq eqCells not_false_eq_true not_true_eq_false toList_some Array.size_empty List.length_append List.map_append tySzE List.head?_drop Nat.mul_one sameAt_zero sameAt_two sameAt_three sameAt_four sameAt_five endE_norm endE_ret head_take1
open Go.Proofs Go.RowKit Go.IntWalk
set_option maxRecDepth 100000
set_option linter.unusedSimpArgs false
set_option linter.unusedVariables false
set_option maxHeartbeats 4000000

/-- A way of package prog: next, at, idle, found; its registers. -/
abbrev wayAV (pc pos idle found : Int) (regs : List Int) : AV := .agg [I pc, I pos, I idle, I found, .pt (regs.map I)]
abbrev prgPt (g : Prg) : AV := .pt [.sl false (g.ins.map insAV), I g.caps, .bool g.runes]
theorem f60 (g : Prg) (pc pos idle found start : Int) (regs : List Int) (n : Nat) (hc : g.caps = n) (hr : regs.length = 18) (hn : n ≤ 9) (H : List MB) :
    call Try.prog pol1 60 [prgPt g, .pt [I pc, I pos, I idle, I found, .pt (regs.map I)], I start] H = some (matAV start pos (capsN regs n), H) := by
  refine call_run Try.func60 rfl rfl rfl rfl rfl rfl (fun _ => rfl) (by simp [AV.plain, AV.plainL, plain_ints, plain_ins]) (plain_mat _ _ _) ?_ H
  simp +contextual (disch := omega) only [Try.f60, dd60, ty0, ty3, ty4, ty35, ty110, ty112, ty115, ty117, ty119, ty122, ty123, ty174, go_sem, ↓reduceIte, List.reduceReplicate, Nat.reduceAdd, Nat.reduceSub, reduceCtorEq, Nat.reduceLeDiff, Nat.reduceMul, Nat.reduceLT, Nat.reduceEqDiff, Int.reduceBNe, Int.reduceBEq, Int.reduceEq, Int.reduceLT, Int.reduceLE, Int.reduceGT, Int.reduceGE, mu60, List.contains_nil, List.contains_cons, Nat.reduceBEq, Bool.or_self, dlt_t, dlt_f, dle_t, dle_f, dgt_t, dgt_f, dge_t, dge_f, beq_t, beq_f, bne_t, bne_f, lt_T, le_T, nle_T, nle_F, ↓wrap_up, ↓wrap_down, ↓wrap_pred, ↓wrap_sub_nat, i64_in, i64_quo, rem_in, Int.reduceToNat, room_ok, hc]
  refine W_count (M := (mskOf (pol1.mask 60) (pol1.gc 60) (pol1.acts 60) 0 3)) rfl n (fun j => (⟨60, [(20, I j), (19, I n), (7, .rf 1 1 0 0), (6, .rf 0 1 0 0), (1, .pt [I pc, I pos, I idle, I found, .pt (regs.map I)])], [.row 3 [.agg [I 0, I 0, .sl true []]] 0,
      .row 3 [.agg [I start, I pos, .ms 2 2 j 0 j]] 0, .row 2 ((capsN regs j).map spanAV) 0]⟩ : St)) (fun _ => True) ?_ ?_ trivial _ (by first | rfl | (refine prep_cut rfl (by rfl) (by rfl) (by rfl) ?_ ?_ <;> simp [AV.underL, AV.under, MB.under, underL_plain, under_plain, plain_ints, plain_span, plain_ins, plain_prg, -List.map_take]))
  · intro j hj _
    obtain ⟨a, ha⟩ : ∃ a, regs[2 * j]? = some a := ⟨_, List.getElem?_eq_getElem (by omega)⟩
    obtain ⟨b, hb⟩ : ∃ b, regs[2 * j + 1]? = some b := ⟨_, List.getElem?_eq_getElem (by omega)⟩
    have hl := capsN_len regs j
    rw [capsN_succ, List.getD_eq_getElem?_getD, List.getD_eq_getElem?_getD, ha, hb]
    simp only [Option.getD_some]
    generalize capsN regs j = cs at *
    have htk := take_map_len (f := spanAV) hl
    have e2 : (2 : Int) * (j : Int) = ((2 * j : Nat) : Int) := by omega
    have e3 : ((2 * j : Nat) : Int) + 1 = ((2 * j + 1 : Nat) : Int) := by omega
    simp +contextual (disch := omega) only [Try.f60, dd60, ty0, ty3, ty4, ty35, ty110, ty112, ty115, ty117, ty119, ty122, ty123, ty174, go_sem, ↓reduceIte, List.reduceReplicate, Nat.reduceAdd, Nat.reduceSub, reduceCtorEq, Nat.reduceLeDiff, Nat.reduceMul, Nat.reduceLT, Nat.reduceEqDiff, Int.reduceBNe, Int.reduceBEq, Int.reduceEq, Int.reduceLT, Int.reduceLE, Int.reduceGT, Int.reduceGE, mu60, List.contains_nil, List.contains_cons, Nat.reduceBEq, Bool.or_self, dlt_t, dlt_f, dle_t, dle_f, dgt_t, dgt_f, dge_t, dge_f, beq_t, beq_f, bne_t, bne_f, lt_T, le_T, nle_T, nle_F, ↓wrap_up, ↓wrap_down, ↓wrap_pred, ↓wrap_sub_nat, i64_in, i64_quo, rem_in, Int.reduceToNat, room_ok, ha, hb, hl, htk, e2, e3]
    repeat' (first | intro _ | apply And.intro | (unfold dOk; kernel_rfl) | (show (_ || _) = true; kernel_rfl) | (show (_ && _) = true; kernel_rfl))
    all_goals exact (by first | rfl | (refine prep_to (n := 3) (m := ⟨some [20, 19, 7, 6, 1], some 3, []⟩) rfl rfl ?_ ?_ ?_ <;> first | rfl | (simp [keepT, AV.underL, AV.under, MB.under, underL_plain, under_plain, underL_append, plain_ints, plain_span, plain_ins, plain_prg, -List.map_take, -List.map_replicate, -List.map_set, capP, *]; done) | (simp [keepT, AV.underL, AV.under, MB.under, underL_plain, under_plain, underL_append, plain_ints, plain_span, plain_ins, plain_prg, -List.map_take, -List.map_replicate, -List.map_set, capP, *]; omega)))
  · intro _
    have hl := capsN_len regs n
    generalize capsN regs n = cs at *
    simp +contextual (disch := omega) only [Try.f60, dd60, ty0, ty3, ty4, ty35, ty110, ty112, ty115, ty117, ty119, ty122, ty123, ty174, go_sem, ↓reduceIte, List.reduceReplicate, Nat.reduceAdd, Nat.reduceSub, reduceCtorEq, Nat.reduceLeDiff, Nat.reduceMul, Nat.reduceLT, Nat.reduceEqDiff, Int.reduceBNe, Int.reduceBEq, Int.reduceEq, Int.reduceLT, Int.reduceLE, Int.reduceGT, Int.reduceGE, mu60, List.contains_nil, List.contains_cons, Nat.reduceBEq, Bool.or_self, dlt_t, dlt_f, dle_t, dle_f, dgt_t, dgt_f, dge_t, dge_f, beq_t, beq_f, bne_t, bne_f, lt_T, le_T, nle_T, nle_F, ↓wrap_up, ↓wrap_down, ↓wrap_pred, ↓wrap_sub_nat, i64_in, i64_quo, rem_in, Int.reduceToNat, room_ok, hr, hl]
    simp only [fz, fzA_agg, fzL, fzA_int]
    rw [fzA_row (els := cs.map spanAV) (k := 2) (z := 0) rfl (by simp [hl]) (plain_span cs)]
    exact ⟨_, rfl⟩
end Go.Ev
namespace Go.Ev
attribute [local go_sem] eq_self bindW_some bindW_map bindW_ite bindW_iteN W_seq W_region W_draw W_cond W_ret W_skip W_exit W_scope W_label W_block blockK_norm blockK_ret blockK_exit WO_nil WO_cons WO_guard WD_nil WD_cons WD_guard guardV guardW_boolT guardW_boolF guardW_tup fpL_some fpL_none footprint thenK_norm thenK_ret thenK_exit put_some put_none ev_tmp ev_con ev_func ofK_int ofK_bool ofK_str ofK_nil evOp evBuiltin evCall evLen evAppend getElem_16 getElem_4 List.length_cons List.length_nil List.cons_append List.nil_append List.append_nil if_false if_true Bool.false_eq_true Bool.true_eq_false Option.map_some Option.map_none List.map_cons List.map_nil evBinOp evBin evUn asB_bool splitB_decide splitB_true splitB_false splitB_beq splitB_bne splitB_not endK_ret endK_norm List.getElem?_cons_zero List.getElem?_cons_succ evResults evResult packRes retK_norm retK_ret cellsAt mkVal evFieldAddr evField evIndexAddr evPart evStore evBuild evBuildSlice fillC fillE evSlice evMakeSlice evConvert getRow AV.cells List.head?_cons List.drop_zero List.drop_succ_cons List.take_zero List.take_succ_cons List.drop_nil List.take_nil List.all_cons List.all_nil AV.ok Bool.and_self Bool.and_true Bool.true_and and_self and_true true_and Nat.zero_add Nat.add_zero setCells splice pairsOk FP.apart heapEq_refl sameAt_refl Bool.or_true Bool.true_or Bool.or_false srcElems elemsOf mutDst roundK_norm roundK_exit roundK_ret List.length_map List.getElem?_map Int.toNat_natCast decide_true decide_false Bool.not_true Bool.not_false List.set set_0 set_1 set_2 set_3 set_4 look_hit look lookD_hit lookD_cons lookD_nil ins_hit ins upd_hit upd rem1_hit rem1 dropT dropSt_eq initT cfg_dd cfg_bd cfg_ra actL_nil actL_cons act1 updT_hit updT frzB retE_norm retE_ret bndO bnd evEq eqCells not_false_eq_true not_true_eq_false toList_some Array.size_empty List.length_append List.map_append tySzE List.head?_drop Nat.mul_one sameAt_zero sameAt_two sameAt_three sameAt_four sameAt_five endE_norm endE_ret head_take1
open Go.Proofs Go.RowKit Go.IntWalk
set_option maxRecDepth 100000
set_option linter.unusedSimpArgs false
set_option linter.unusedVariables false
set_option maxHeartbeats 4000000

theorem getRow_set {H : List MB} {id k : Nat} {els : List AV} {z : Nat} (h : id < H.length) : getRow (H.set id (.row k els z)) id = some (k, els, z) := by
  unfold getRow
  rw [List.getElem?_set_self h]
theorem keptOk_refl (n : Nat) : ∀ (H : List MB), keptOk n H H = true
  | [] => rfl
  | x :: H => by simp [keptOk, MB.beq_refl, keptOk_refl n H]
theorem keptOk_set (n : Nat) (b : MB) (hb : MB.under n b = true) : ∀ (H : List MB) (id : Nat), keptOk n H (H.set id b) = true
  | [], id => by simp [keptOk]
  | x :: H, 0 => by
    have h2 := keptOk_refl n H
    simp [keptOk, hb, h2]
  | x :: H, id + 1 => by
    simp [keptOk, MB.beq_refl, keptOk_set n b hb H id]
theorem take_set_all {H : List MB} {id : Nat} {b : MB} : (H.set id b).take H.length = H.set id b := List.take_of_length_le (by simp)

theorem f59 (g : Prg) (hg : g.ins.length ≤ 1000000) (pc pos found most : Int) (idle fnd : Nat) (hi : idle ≤ 1000000) (regs : List Int) (H : List MB) (id : Nat) (hrow : getRow H id = some (5, [wayAV pc pos idle fnd regs], 0)) :
    call Try.prog pol1 59 [prgPt g, .rf id 1 0 0, I found, I most] H =
      if g.ins.length ≤ idle ∧ (most = -1 ∨ (fnd : Int) = found) then some (.bool true, H.set id (.row 5 [wayAV pc pos ((idle + 1 : Nat) : Int) fnd regs] 0))
      else if g.ins.length ≤ idle then some (.bool false, H.set id (.row 5 [wayAV pc pos 1 found regs] 0))
      else some (.bool false, H.set id (.row 5 [wayAV pc pos ((idle + 1 : Nat) : Int) fnd regs] 0)) := by
  have hid : id < H.length := (List.getElem?_eq_some_iff.1 (getRow_eq hrow)).1
  have hk : ∀ (a b : Int) (x : Bool), retPol pol1 59 H (.bool x) (H.set id (.row 5 [wayAV pc pos a b regs] 0)) = some (.bool x, H.set id (.row 5 [wayAV pc pos a b regs] 0)) := fun a b x =>
    retPol_keep rfl rfl rfl (keptOk_set _ _ (by simp [MB.under, AV.underL, AV.under, underL_plain, plain_ints]) H id) take_set_all
  have gs : ∀ b : MB, (H.set id b)[id]? = some b := fun b => List.getElem?_set_self hid
  have hH := getRow_eq hrow
  have hi1 : ((idle : Int) + 1) = ((idle + 1 : Nat) : Int) := rfl
  by_cases h1 : g.ins.length ≤ idle
  · by_cases h2 : most = -1
    · rw [if_pos ⟨h1, .inl h2⟩]
      subst h2
      refine call_run2 (pol := pol1) (H1 := H) Try.func59 rfl rfl rfl rfl rfl ?_
      simp +contextual (disch := omega) only [Try.f59, dd59, ty0, ty3, ty4, ty33, ty35, ty119, ty122, ty123, go_sem, ↓reduceIte, List.reduceReplicate, Nat.reduceAdd, Nat.reduceSub, reduceCtorEq, Nat.reduceLeDiff, Nat.reduceMul, Nat.reduceLT, Nat.reduceEqDiff, Int.reduceBNe, Int.reduceBEq, Int.reduceEq, Int.reduceLT, Int.reduceLE, Int.reduceGT, Int.reduceGE, mu59, List.contains_nil, List.contains_cons, Nat.reduceBEq, Bool.or_self, dlt_t, dlt_f, dle_t, dle_f, dgt_t, dgt_f, dge_t, dge_f, beq_t, beq_f, bne_t, bne_f, lt_T, le_T, nle_T, nle_F, ↓wrap_up, ↓wrap_down, ↓wrap_pred, ↓wrap_sub_nat, i64_in, i64_quo, rem_in, Int.reduceToNat, room_ok, hH, gs, List.set_set, hk, hi1]
      repeat' (first | intro _ | apply And.intro | (unfold dOk; kernel_rfl) | (show (_ || _) = true; kernel_rfl) | (show (_ && _) = true; kernel_rfl))
      all_goals omega
    · by_cases h3 : (fnd : Int) = found
      · rw [if_pos ⟨h1, .inr h3⟩]
        subst h3
        refine call_run2 (pol := pol1) (H1 := H) Try.func59 rfl rfl rfl rfl rfl ?_
        simp +contextual (disch := omega) only [Try.f59, dd59, ty0, ty3, ty4, ty33, ty35, ty119, ty122, ty123, go_sem, ↓reduceIte, List.reduceReplicate, Nat.reduceAdd, Nat.reduceSub, reduceCtorEq, Nat.reduceLeDiff, Nat.reduceMul, Nat.reduceLT, Nat.reduceEqDiff, Int.reduceBNe, Int.reduceBEq, Int.reduceEq, Int.reduceLT, Int.reduceLE, Int.reduceGT, Int.reduceGE, mu59, List.contains_nil, List.contains_cons, Nat.reduceBEq, Bool.or_self, dlt_t, dlt_f, dle_t, dle_f, dgt_t, dgt_f, dge_t, dge_f, beq_t, beq_f, bne_t, bne_f, lt_T, le_T, nle_T, nle_F, ↓wrap_up, ↓wrap_down, ↓wrap_pred, ↓wrap_sub_nat, i64_in, i64_quo, rem_in, Int.reduceToNat, room_ok, hH, gs, List.set_set, hk, hi1]
        repeat' (first | intro _ | apply And.intro | (unfold dOk; kernel_rfl) | (show (_ || _) = true; kernel_rfl) | (show (_ && _) = true; kernel_rfl))
        all_goals omega
      · rw [if_neg (by simp [h2, h3]), if_pos h1]
        refine call_run2 (pol := pol1) (H1 := H) Try.func59 rfl rfl rfl rfl rfl ?_
        simp +contextual (disch := omega) only [Try.f59, dd59, ty0, ty3, ty4, ty33, ty35, ty119, ty122, ty123, go_sem, ↓reduceIte, List.reduceReplicate, Nat.reduceAdd, Nat.reduceSub, reduceCtorEq, Nat.reduceLeDiff, Nat.reduceMul, Nat.reduceLT, Nat.reduceEqDiff, Int.reduceBNe, Int.reduceBEq, Int.reduceEq, Int.reduceLT, Int.reduceLE, Int.reduceGT, Int.reduceGE, mu59, List.contains_nil, List.contains_cons, Nat.reduceBEq, Bool.or_self, dlt_t, dlt_f, dle_t, dle_f, dgt_t, dgt_f, dge_t, dge_f, beq_t, beq_f, bne_t, bne_f, lt_T, le_T, nle_T, nle_F, ↓wrap_up, ↓wrap_down, ↓wrap_pred, ↓wrap_sub_nat, i64_in, i64_quo, rem_in, Int.reduceToNat, room_ok, hH, gs, List.set_set, hk, hi1]
        repeat' (first | intro _ | apply And.intro | (unfold dOk; kernel_rfl) | (show (_ || _) = true; kernel_rfl) | (show (_ && _) = true; kernel_rfl))
        all_goals omega
  · rw [if_neg (by simp [h1]), if_neg h1]
    refine call_run2 (pol := pol1) (H1 := H) Try.func59 rfl rfl rfl rfl rfl ?_
    simp +contextual (disch := omega) only [Try.f59, dd59, ty0, ty3, ty4, ty33, ty35, ty119, ty122, ty123, go_sem, ↓reduceIte, List.reduceReplicate, Nat.reduceAdd, Nat.reduceSub, reduceCtorEq, Nat.reduceLeDiff, Nat.reduceMul, Nat.reduceLT, Nat.reduceEqDiff, Int.reduceBNe, Int.reduceBEq, Int.reduceEq, Int.reduceLT, Int.reduceLE, Int.reduceGT, Int.reduceGE, mu59, List.contains_nil, List.contains_cons, Nat.reduceBEq, Bool.or_self, dlt_t, dlt_f, dle_t, dle_f, dgt_t, dgt_f, dge_t, dge_f, beq_t, beq_f, bne_t, bne_f, lt_T, le_T, nle_T, nle_F, ↓wrap_up, ↓wrap_down, ↓wrap_pred, ↓wrap_sub_nat, i64_in, i64_quo, rem_in, Int.reduceToNat, room_ok, hH, gs, List.set_set, hk, hi1]
    repeat' (first | intro _ | apply And.intro | (unfold dOk; kernel_rfl) | (show (_ || _) = true; kernel_rfl) | (show (_ && _) = true; kernel_rfl))
    all_goals omega
end Go.Ev
namespace Go.Ev

structure Way where
  pc : Nat
  at_ : Nat
  regs : List Int

/-- What one instruction makes of the way that is on top: a result, or the ways that go on (the first is taken next). -/
inductive Out where
  | done
  | ways (l : List Way)

/-- One instruction; `has`, `holds`: do a set's spans have the text's symbol here; does an assertion hold here. -/
structure Prog1 where
  ins : Nat → Option Ins
  has : List (Int × Int) → Nat → Bool
  holds : Int → Nat → Bool

def stepW (p : Prog1) (w : Way) : Out :=
  match p.ins w.pc with
  | none => .ways []
  | some i =>
    if i.op = 0 then .done
    else if i.op = 1 then (if p.has i.set w.at_ then .ways [⟨w.pc + 1, w.at_ + 1, w.regs⟩] else .ways [])
    else if i.op = 2 then .ways [⟨i.x.toNat, w.at_, w.regs⟩, ⟨i.y.toNat, w.at_, w.regs⟩]
    else if i.op = 3 then .ways [⟨i.x.toNat, w.at_, w.regs⟩]
    else if i.op = 4 then .ways [⟨w.pc + 1, w.at_, w.regs.set i.n.toNat w.at_⟩]
    else (if p.holds i.n w.at_ then .ways [⟨w.pc + 1, w.at_, w.regs⟩] else .ways [])

/-- The run: fuel, the ways that are left (the first is next), the results so far; `none`: the fuel is used up. -/
def runW (p : Prog1) (most : Int) : Nat → List Way → List Way → Option (List Way)
  | fuel, todo, out =>
    match todo with
    | [] => some out
    | w :: rest =>
      if (out.length : Int) = most then some out
      else
        match fuel with
        | 0 => none
        | fuel + 1 =>
          match stepW p w with
          | .done => runW p most fuel rest (out ++ [w])
          | .ways l => runW p most fuel (l ++ rest) out

/-- Alike but for the registers. -/
def Way.like (a b : Way) : Prop := a.pc = b.pc ∧ a.at_ = b.at_
def likeL : List Way → List Way → Prop
  | [], [] => True
  | a :: l, b :: m => a.like b ∧ likeL l m
  | _, _ => False
theorem likeL_refl : ∀ l, likeL l l
  | [] => trivial
  | a :: l => ⟨⟨rfl, rfl⟩, likeL_refl l⟩
theorem likeL_append : ∀ {a b c d : List Way}, likeL a b → likeL c d → likeL (a ++ c) (b ++ d)
  | [], [], _, _, _, h => h
  | _ :: _, _ :: _, _, _, h1, h2 => ⟨h1.1, likeL_append h1.2 h2⟩
  | [], _ :: _, _, _, h, _ => h.elim
  | _ :: _, [], _, _, h, _ => h.elim

def likeO : Out → Out → Prop
  | .done, .done => True
  | .ways l, .ways m => likeL l m
  | _, _ => False
theorem stepW_like (p : Prog1) {a b : Way} (h : a.like b) : likeO (stepW p a) (stepW p b) := by
  obtain ⟨h1, h2⟩ := h
  unfold stepW
  rw [h1, h2]
  cases p.ins b.pc with
  | none => exact trivial
  | some i =>
    simp only []
    repeat' split
    all_goals first | exact trivial | exact ⟨⟨rfl, rfl⟩, trivial⟩ | exact ⟨⟨rfl, rfl⟩, ⟨rfl, rfl⟩, trivial⟩

/-- From one way on top, in so many steps that never look below it, to another one on top of others; so many results are found. -/
inductive Reach (p : Prog1) : Way → Way → List Way → Nat → Nat → Prop where
  | refl (w : Way) : Reach p w w [] 0 0
  | on {w0 w w' : Way} {E l : List Way} {d m : Nat} (h : Reach p w0 w E d m) (hs : stepW p w = .ways (w' :: l)) : Reach p w0 w' (l ++ E) d (m + 1)
  | pop {w0 w e : Way} {E : List Way} {d m : Nat} (h : Reach p w0 w (e :: E) d m) (hs : stepW p w = .ways []) : Reach p w0 e E d (m + 1)
  | found {w0 w e : Way} {E : List Way} {d m : Nat} (h : Reach p w0 w (e :: E) d m) (hs : stepW p w = .done) : Reach p w0 e E (d + 1) (m + 1)

theorem Reach.like {p : Prog1} {w0 w : Way} {E : List Way} {d m : Nat} (h : Reach p w0 w E d m) {v0 : Way} (hv : w0.like v0) : ∃ v F, w.like v ∧ likeL E F ∧ Reach p v0 v F d m := by
  induction h with
  | refl => exact ⟨v0, [], hv, trivial, .refl v0⟩
  | on h hs ih =>
    obtain ⟨v, F, h1, h2, h3⟩ := ih
    have h4 := stepW_like p h1
    rw [hs] at h4
    cases hq : stepW p v with
    | done => rw [hq] at h4; exact h4.elim
    | ways l2 =>
      rw [hq] at h4
      cases l2 with
      | nil => exact h4.elim
      | cons a l2 => exact ⟨a, l2 ++ F, h4.1, likeL_append h4.2 h2, .on h3 hq⟩
  | pop h hs ih =>
    obtain ⟨v, F, h1, h2, h3⟩ := ih
    have h4 := stepW_like p h1
    rw [hs] at h4
    cases hq : stepW p v with
    | done => rw [hq] at h4; exact h4.elim
    | ways l2 =>
      rw [hq] at h4
      cases l2 with
      | nil =>
        cases F with
        | nil => exact h2.elim
        | cons f F => exact ⟨f, F, h2.1, h2.2, .pop h3 hq⟩
      | cons a l2 => exact h4.elim
  | found h hs ih =>
    obtain ⟨v, F, h1, h2, h3⟩ := ih
    have h4 := stepW_like p h1
    rw [hs] at h4
    cases hq : stepW p v with
    | done =>
      cases F with
      | nil => exact h2.elim
      | cons f F => exact ⟨f, F, h2.1, h2.2, .found h3 hq⟩
    | ways l2 => rw [hq] at h4; exact h4.elim

theorem runW_step {p : Prog1} {most : Int} {fuel : Nat} {w : Way} {rest out : List Way} (h : ¬ (out.length : Int) = most) :
    runW p most (fuel + 1) (w :: rest) out = match stepW p w with
      | .done => runW p most fuel rest (out ++ [w])
      | .ways l => runW p most fuel (l ++ rest) out := by
  conv => lhs; unfold runW
  simp only [h, if_false]
theorem runW_zero {p : Prog1} {most : Int} {w : Way} {rest out : List Way} (h : ¬ (out.length : Int) = most) : runW p most 0 (w :: rest) out = none := by
  unfold runW
  simp only [h, if_false]

/-- The run follows. -/
theorem Reach.run {p : Prog1} {most : Int} {w0 w : Way} {E : List Way} {d m : Nat} (h : Reach p w0 w E d m) (S out : List Way) (hm : most = -1 ∨ (d = 0 ∧ ¬ (out.length : Int) = most)) (fuel : Nat) :
    ∃ out', out'.length = out.length + d ∧ runW p most (m + fuel) (w0 :: S) out = runW p most fuel (w :: (E ++ S)) out' := by
  induction h generalizing fuel with
  | refl => exact ⟨out, rfl, by rw [Nat.zero_add]; rfl⟩
  | @on w w' E l d m h hs ih =>
    obtain ⟨out', h1, h2⟩ := ih hm (fuel + 1)
    refine ⟨out', h1, ?_⟩
    rw [show m + 1 + fuel = m + (fuel + 1) by omega, h2, runW_step (by rcases hm with h | ⟨h, h'⟩ <;> omega), hs]
    simp only [List.cons_append, List.append_assoc]
  | @pop w e E d m h hs ih =>
    obtain ⟨out', h1, h2⟩ := ih hm (fuel + 1)
    refine ⟨out', h1, ?_⟩
    rw [show m + 1 + fuel = m + (fuel + 1) by omega, h2, runW_step (by rcases hm with h | ⟨h, h'⟩ <;> omega), hs]
    rfl
  | @found w e E d m h hs ih =>
    rcases hm with hm | hm
    · obtain ⟨out', h1, h2⟩ := ih (.inl hm) (fuel + 1)
      refine ⟨out' ++ [w], by simp; omega, ?_⟩
      rw [show m + 1 + fuel = m + (fuel + 1) by omega, h2, runW_step (by omega), hs]
      rfl
    · omega

/-- With too little fuel for it, the run ends without. -/
theorem Reach.short {p : Prog1} {most : Int} {w0 w : Way} {E : List Way} {d m : Nat} (h : Reach p w0 w E d m) (S out : List Way) (hm : most = -1 ∨ (d = 0 ∧ ¬ (out.length : Int) = most)) (fuel : Nat) (hf : fuel < m) :
    runW p most fuel (w0 :: S) out = none := by
  induction h generalizing fuel with
  | refl => omega
  | @on w w' E l d m h hs ih =>
    rcases Nat.lt_or_ge fuel m with h1 | h1
    · exact ih hm fuel h1
    · obtain rfl : fuel = m := by omega
      obtain ⟨out', h2, h3⟩ := h.run S out hm 0
      rw [Nat.add_zero] at h3
      rw [h3, runW_zero (by rcases hm with h | ⟨h, h'⟩ <;> omega)]
  | @pop w e E d m h hs ih =>
    rcases Nat.lt_or_ge fuel m with h1 | h1
    · exact ih hm fuel h1
    · obtain rfl : fuel = m := by omega
      obtain ⟨out', h2, h3⟩ := h.run S out hm 0
      rw [Nat.add_zero] at h3
      rw [h3, runW_zero (by rcases hm with h | ⟨h, h'⟩ <;> omega)]
  | @found w e E d m h hs ih =>
    rcases hm with hm | hm
    · rcases Nat.lt_or_ge fuel m with h1 | h1
      · exact ih (.inl hm) fuel h1
      · obtain rfl : fuel = m := by omega
        obtain ⟨out', h2, h3⟩ := h.run S out (.inl hm) 0
        rw [Nat.add_zero] at h3
        rw [h3, runW_zero (by omega)]
    · omega

/-- A way that comes round again is never left. -/
theorem circle {p : Prog1} {most : Int} {w0 w : Way} {E : List Way} {d m : Nat} (h : Reach p w0 w E d (m + 1)) (hl : w0.like w) : ∀ (fuel : Nat) (v0 : Way) (S out : List Way), w0.like v0 → (most = -1 ∨ (d = 0 ∧ ¬ (out.length : Int) = most)) →
    runW p most fuel (v0 :: S) out = none := by
  intro fuel
  induction fuel using Nat.strongRecOn with
  | ind fuel ih =>
    intro v0 S out hv hm
    obtain ⟨v, F, h1, h2, h3⟩ := h.like hv
    rcases Nat.lt_or_ge fuel (m + 1) with hf | hf
    · exact h3.short S out hm fuel hf
    · obtain ⟨out', o1, o2⟩ := h3.run S out hm (fuel - (m + 1))
      rw [show m + 1 + (fuel - (m + 1)) = fuel by omega] at o2
      rw [o2]
      refine ih _ (by omega) v (F ++ S) out' ⟨hl.1.trans h1.1, hl.2.trans h1.2⟩ ?_
      rcases hm with hm | ⟨hm, hm'⟩
      · exact .inl hm
      · exact .inr ⟨hm, by omega⟩

end Go.Ev
namespace Go.Ev

/-- A way with what the walk knows of it: how many instructions it has begun since it came to its position or since the results were so many. -/
structure WayI where
  w : Way
  idle : Nat
  found : Nat

def nextI (p : Prog1) (e : WayI) (idle found outN : Nat) : Out → Option (List WayI)
  | .done => none
  | .ways l => some (l.map fun v => if v.at_ = e.w.at_ then ⟨v, idle, found⟩ else ⟨v, 0, outN⟩)

def runI (p : Prog1) (n : Nat) (most : Int) : Nat → List WayI → List Way → Option (List Way)
  | fuel, todo, out =>
    match todo with
    | [] => some out
    | e :: rest =>
      if (out.length : Int) = most then some out
      else
        match fuel with
        | 0 => none
        | fuel + 1 =>
          if n ≤ e.idle ∧ (most = -1 ∨ e.found = out.length) then none
          else
            match nextI p e (if n ≤ e.idle then 1 else e.idle + 1) (if n ≤ e.idle then out.length else e.found) out.length (stepW p e.w) with
            | none => runI p n most fuel rest (out ++ [e.w])
            | some l => runI p n most fuel (l ++ rest) out

/-- Where an instruction leads: forward by one symbol, or to the same position. -/
theorem stepW_at (p : Prog1) (w : Way) (l : List Way) (h : stepW p w = .ways l) : (∀ v ∈ l, v.at_ = w.at_) ∨ (∃ v, l = [v] ∧ v.at_ = w.at_ + 1) := by
  unfold stepW at h
  split at h
  · simp at h; subst h; exact .inl (by simp)
  · split at h
    · simp at h
    · split at h
      · split at h
        · simp at h; subst h; exact .inr ⟨_, rfl, rfl⟩
        · simp at h; subst h; exact .inl (by simp)
      · repeat' split at h
        all_goals (simp at h; subst h; exact .inl (by simp))

/-- One way is the same up to registers, and something was found again: that it ends depends on how many were found alone. -/
theorem runW_none_len {p : Prog1} {most : Int} : ∀ (fuel : Nat) (todo out out' : List Way), out.length = out'.length → runW p most fuel todo out = none → runW p most fuel todo out' = none
  | fuel, [], out, out', _, h => by unfold runW at h; simp at h
  | 0, w :: todo, out, out', hl, h => by
    by_cases ho : (out.length : Int) = most
    · unfold runW at h; simp only [ho, if_true] at h; cases h
    · exact runW_zero (by rw [← hl]; exact ho)
  | fuel + 1, w :: todo, out, out', hl, h => by
    by_cases ho : (out.length : Int) = most
    · unfold runW at h; simp only [ho, if_true] at h; cases h
    · rw [runW_step ho] at h
      rw [runW_step (by rw [← hl]; exact ho)]
      cases hs : stepW p w with
      | done => rw [hs] at h; exact runW_none_len fuel todo _ _ (by simp [hl]) h
      | ways l => rw [hs] at h; exact runW_none_len fuel _ _ _ hl h

/-- What is remembered of a way: where it has been (newest first) since it came to its position. -/
structure Ghost where
  e : WayI
  hs : List Way

/-- Of two places of a way's history, the older leads to the newer. -/
def Chain (p : Prog1) (found outN : Nat) : List Way → Prop
  | [] => True
  | a :: l => (∀ b ∈ l, ∃ E d m, Reach p b a E d (m + 1) ∧ found + d ≤ outN) ∧ Chain p found outN l

theorem Chain.mono {p : Prog1} {f n n' : Nat} (h : n ≤ n') : ∀ {l : List Way}, Chain p f n l → Chain p f n' l
  | [], _ => trivial
  | a :: l, ⟨h1, h2⟩ => ⟨fun b hb => by
      obtain ⟨E, d, m, r, hd⟩ := h1 b hb
      exact ⟨E, d, m, r, by omega⟩, Chain.mono h h2⟩

/-- The stack's state: for each way on it, every place of its history leads to the way on top, above what was below that place. -/
structure Hist (p : Prog1) (n outN : Nat) (t : Ghost) (rest : List Ghost) : Prop where
  idle : ∀ g ∈ t :: rest, g.hs.length = g.e.idle ∧ g.e.found ≤ outN
  at_ : ∀ g ∈ t :: rest, g.e.w.pc < n ∧ ∀ h ∈ g.hs, h.at_ = g.e.w.at_ ∧ h.pc < n
  chain : ∀ g ∈ t :: rest, Chain p g.e.found outN g.hs
  /-- For the way number i (from the top): history places lead to the top with the ways in between, and more below it. -/
  reach : ∀ i g, (t :: rest)[i]? = some g → ∀ h ∈ g.hs, ∃ E S d m, rest.map (·.e.w) = E ++ S ∧ i ≤ E.length ∧ Reach p h t.e.w E d (m + 1) ∧ g.e.found + d ≤ outN

theorem nodup_lt : ∀ (n : Nat) (L : List Nat), (∀ x ∈ L, x < n) → L.Nodup → L.length ≤ n
  | 0, [], _, _ => Nat.le_refl _
  | 0, x :: _, h, _ => absurd (h x (List.mem_cons_self ..)) (Nat.not_lt_zero _)
  | n + 1, L, h, hd => by
    have h1 : (L.erase n).length ≤ n := nodup_lt n (L.erase n) (fun x hx => by
      have h2 := (List.Nodup.mem_erase_iff hd).1 hx
      have h3 := h x h2.2
      have h4 := h2.1
      omega) (hd.erase n)
    rw [List.length_erase] at h1
    split at h1 <;> omega

theorem chain_dup {p : Prog1} {f N : Nat} : ∀ (L : List Way), Chain p f N L → ¬ (L.map (·.pc)).Nodup → ∃ a ∈ L, ∃ b ∈ L, b.pc = a.pc ∧ ∃ E d m, Reach p b a E d (m + 1) ∧ f + d ≤ N
  | [], _, h => absurd List.nodup_nil h
  | a :: l, ⟨h1, h2⟩, h => by
    by_cases hb : ∃ b ∈ l, b.pc = a.pc
    · obtain ⟨b, b1, b2⟩ := hb
      exact ⟨a, List.mem_cons_self .., b, List.mem_cons_of_mem _ b1, b2, h1 b b1⟩
    · have : ¬ (l.map (·.pc)).Nodup := fun hn => h (by
        rw [List.map_cons, List.nodup_cons]
        refine ⟨fun hm => ?_, hn⟩
        obtain ⟨b, b1, b2⟩ := List.mem_map.1 hm
        exact hb ⟨b, b1, b2⟩)
      obtain ⟨x, x1, y, y1, r⟩ := chain_dup l h2 this
      exact ⟨x, List.mem_cons_of_mem _ x1, y, List.mem_cons_of_mem _ y1, r⟩

/-- The history with the place where the way is now. -/
theorem Hist.now {p : Prog1} {n outN : Nat} {t : Ghost} {rest : List Ghost} (h : Hist p n outN t rest) : Chain p t.e.found outN (t.e.w :: t.hs) :=
  ⟨fun b hb => by
    obtain ⟨E, S, d, m, _, _, r, hd⟩ := h.reach 0 t rfl b hb
    exact ⟨E, d, m, r, hd⟩, h.chain t (List.mem_cons_self ..)⟩

/-- Too many instructions at one position, and nothing found between: the way is in a circle. -/
theorem Hist.circle {p : Prog1} {n : Nat} {t : Ghost} {rest : List Ghost} {out : List Way} (h : Hist p n out.length t rest) (hn : n ≤ t.e.idle) {most : Int} (hm : most = -1 ∨ t.e.found = out.length) (ho : ¬ (out.length : Int) = most) (fuel : Nat) :
    runW p most fuel (t.e.w :: rest.map (·.e.w)) out = none := by
  have h0 := h.now
  have hat := h.at_ t (List.mem_cons_self ..)
  have hid := h.idle t (List.mem_cons_self ..)
  have hlen : ¬ ((t.e.w :: t.hs).map (·.pc)).Nodup := fun hd => by
    have := nodup_lt n _ (fun x hx => by
      obtain ⟨b, b1, rfl⟩ := List.mem_map.1 hx
      rcases List.mem_cons.1 b1 with e | e
      · rw [e]; exact hat.1
      · exact (hat.2 b e).2) hd
    rw [List.length_map, List.length_cons, hid.1] at this
    omega
  obtain ⟨a, a1, b, b1, hpc, E, d, m, r, hd⟩ := chain_dup _ h0 hlen
  have hlike : b.like a := by
    refine ⟨hpc, ?_⟩
    have : ∀ c ∈ t.e.w :: t.hs, c.at_ = t.e.w.at_ := fun c hc => by
      rcases List.mem_cons.1 hc with e | e
      · rw [e]
      · exact (hat.2 c e).1
    rw [this b b1, this a a1]
  have hd0 : most = -1 ∨ d = 0 := by
    rcases hm with h | h
    · exact .inl h
    · exact .inr (by omega)
  rcases List.mem_cons.1 a1 with e | e
  · subst e
    refine Go.Ev.circle r hlike fuel t.e.w _ out hlike ?_
    rcases hd0 with h | h
    · exact .inl h
    · exact .inr ⟨h, ho⟩
  · obtain ⟨E2, S2, d2, m2, hr, _, r2, hd2⟩ := h.reach 0 t rfl a e
    have hlen0 : (out.take (out.length - d2)).length + d2 = out.length := by simp; omega
    have hq : most = -1 ∨ (d2 = 0 ∧ ¬ ((out.take (out.length - d2)).length : Int) = most) := by
      rcases hm with h | h
      · exact .inl h
      · refine .inr ⟨by omega, ?_⟩
        have : d2 = 0 := by omega
        subst this
        simpa using ho
    obtain ⟨out', o1, o2⟩ := r2.run S2 (out.take (out.length - d2)) hq fuel
    have hn := Go.Ev.circle r hlike (m2 + 1 + fuel) a S2 (out.take (out.length - d2)) hlike (by
      rcases hd0 with h | h
      · exact .inl h
      · rcases hq with g | g
        · exact .inl g
        · exact .inr ⟨h, g.2⟩)
    rw [hn] at o2
    rw [hr]
    exact runW_none_len fuel _ out' out (by omega) o2.symm

/-- A way is followed further. -/
theorem Hist.step {p : Prog1} {n outN : Nat} {t : Ghost} {rest : List Ghost} (h : Hist p n outN t rest) (hcl : ∀ w l, w.pc < n → stepW p w = .ways l → ∀ v ∈ l, v.pc < n)
    {hs : List Way} {found : Nat} (hh : (hs = t.e.w :: t.hs ∧ found = t.e.found) ∨ (hs = [t.e.w] ∧ found = outN)) {v : Way} {l : List Way} (hs1 : stepW p t.e.w = .ways (v :: l)) :
    ∃ t' rest', Hist p n outN t' rest' ∧ t'.e :: rest'.map (·.e) = (v :: l).map (fun v => if v.at_ = t.e.w.at_ then ⟨v, hs.length, found⟩ else ⟨v, 0, outN⟩) ++ rest.map (·.e) := by
  have hat := h.at_ t (List.mem_cons_self ..)
  have hid := h.idle t (List.mem_cons_self ..)
  have hf : found ≤ outN := by rcases hh with ⟨_, h⟩ | ⟨_, h⟩ <;> omega
  have hhs : ∀ b ∈ hs, b.at_ = t.e.w.at_ ∧ b.pc < n := fun b hb => by
    rcases hh with ⟨e, _⟩ | ⟨e, _⟩
    · rw [e] at hb
      rcases List.mem_cons.1 hb with e | e
      · rw [e]; exact ⟨rfl, hat.1⟩
      · exact hat.2 b e
    · rw [e] at hb
      rw [List.mem_singleton.1 hb]; exact ⟨rfl, hat.1⟩
  have hch : Chain p found outN hs := by
    rcases hh with ⟨e, e'⟩ | ⟨e, e'⟩
    · rw [e, e']; exact h.now
    · rw [e]; exact ⟨fun b hb => by simp at hb, trivial⟩
  -- what is new leads on
  have hre : ∀ b ∈ hs, ∃ E S d m, rest.map (·.e.w) = E ++ S ∧ Reach p b v (l ++ E) d (m + 1) ∧ found + d ≤ outN := fun b hb => by
    have self : ∃ E S d m, rest.map (·.e.w) = E ++ S ∧ Reach p t.e.w v (l ++ E) d (m + 1) ∧ found + d ≤ outN := ⟨[], _, 0, 0, rfl, .on (.refl _) hs1, by omega⟩
    rcases hh with ⟨e, e'⟩ | ⟨e, _⟩
    · rw [e] at hb
      rcases List.mem_cons.1 hb with e | e
      · rw [e]; exact self
      · obtain ⟨E, S, d, m, r1, r2, r3, r4⟩ := h.reach 0 t rfl b e
        exact ⟨E, S, d, m + 1, r1, .on r3 hs1, by omega⟩
    · rw [e] at hb
      rw [List.mem_singleton.1 hb]; exact self
  let gh : Way → Ghost := fun v => if v.at_ = t.e.w.at_ then ⟨⟨v, hs.length, found⟩, hs⟩ else ⟨⟨v, 0, outN⟩, []⟩
  have hgh : ∀ v, (gh v).e.w = v := fun v => by simp only [gh]; split <;> rfl
  have hghe : ∀ v, (gh v).e = if v.at_ = t.e.w.at_ then ⟨v, hs.length, found⟩ else ⟨v, 0, outN⟩ := fun v => by simp only [gh]; split <;> rfl
  have hghs : ∀ v, (gh v).hs = hs ∧ (gh v).e.found = found ∨ (gh v).hs = [] := fun v => by
    simp only [gh]; split
    · exact .inl ⟨rfl, rfl⟩
    · exact .inr rfl
  have hpc := hcl t.e.w (v :: l) hat.1 hs1
  refine ⟨gh v, l.map gh ++ rest, ⟨fun g hg => ?_, fun g hg => ?_, fun g hg => ?_, fun i g hg b hb => ?_⟩, ?_⟩
  · have hcase : g ∈ (v :: l).map gh ∨ g ∈ rest := by simpa [or_assoc] using hg
    rcases hcase with hg | hg
    · obtain ⟨u, _, rfl⟩ := List.mem_map.1 hg
      simp only [gh]; split
      · exact ⟨rfl, hf⟩
      · exact ⟨rfl, Nat.le_refl _⟩
    · exact h.idle g (List.mem_cons_of_mem _ hg)
  · have hcase : g ∈ (v :: l).map gh ∨ g ∈ rest := by simpa [or_assoc] using hg
    rcases hcase with hg | hg
    · obtain ⟨u, hu, rfl⟩ := List.mem_map.1 hg
      refine ⟨by rw [hgh]; exact hpc u hu, ?_⟩
      simp only [gh]; split
      · rename_i e
        intro b hb
        rw [e]; exact hhs b hb
      · intro b hb; simp at hb
    · exact h.at_ g (List.mem_cons_of_mem _ hg)
  · have hcase : g ∈ (v :: l).map gh ∨ g ∈ rest := by simpa [or_assoc] using hg
    rcases hcase with hg | hg
    · obtain ⟨u, _, rfl⟩ := List.mem_map.1 hg
      simp only [gh]; split
      · exact hch
      · exact trivial
    · exact h.chain g (List.mem_cons_of_mem _ hg)
  · have hmap : (l.map gh ++ rest).map (·.e.w) = l ++ rest.map (·.e.w) := by
      rw [List.map_append, List.map_map]
      congr 1
      rw [show ((fun x : Ghost => x.e.w) ∘ gh) = id from funext hgh, List.map_id]
    rw [hmap, hgh]
    by_cases hi : i < (v :: l).length
    · have hg' : ((v :: l).map gh)[i]? = some g := by
        rw [show gh v :: (l.map gh ++ rest) = (v :: l).map gh ++ rest from rfl, List.getElem?_append_left (by simpa using hi)] at hg
        exact hg
      obtain ⟨u, _, rfl⟩ := List.mem_map.1 (List.mem_of_getElem? hg')
      rcases hghs u with ⟨e1, e2⟩ | e1
      · rw [e1] at hb
        obtain ⟨E, S, d, m, r1, r2, r3⟩ := hre b hb
        exact ⟨l ++ E, S, d, m, by rw [r1, List.append_assoc], by simp at hi ⊢; omega, r2, by rw [e2]; exact r3⟩
      · rw [e1] at hb; simp at hb
    · rw [show gh v :: (l.map gh ++ rest) = (v :: l).map gh ++ rest from rfl, List.getElem?_append_right (by simp at hi ⊢; omega)] at hg
      simp only [List.length_map] at hg
      obtain ⟨E, S, d, m, r1, r2, r3, r4⟩ := h.reach (i - (v :: l).length + 1) g (by simpa using hg) b hb
      refine ⟨l ++ E, S, d, m + 1, by rw [r1, List.append_assoc], ?_, .on r3 hs1, r4⟩
      simp at hi r2 ⊢; omega
  · simp only [List.map_cons, List.map_append, List.map_map, List.cons_append, List.cons.injEq]
    exact ⟨hghe v, by congr 1; exact List.map_congr_left fun u _ => hghe u⟩

/-- The way on top has ended. -/
theorem Hist.pop {p : Prog1} {n outN : Nat} {t e : Ghost} {rest : List Ghost} (h : Hist p n outN t (e :: rest)) {k : Nat} (hs : (stepW p t.e.w = .ways [] ∧ k = 0) ∨ (stepW p t.e.w = .done ∧ k = 1)) : Hist p n (outN + k) e rest := by
  refine ⟨fun g hg => ?_, fun g hg => h.at_ g (List.mem_cons_of_mem _ hg), fun g hg => (h.chain g (List.mem_cons_of_mem _ hg)).mono (by omega), fun i g hg b hb => ?_⟩
  · have := h.idle g (List.mem_cons_of_mem _ hg)
    exact ⟨this.1, by omega⟩
  · obtain ⟨E, S, d, m, r1, r2, r3, r4⟩ := h.reach (i + 1) g (by simpa using hg) b hb
    cases E with
    | nil => simp at r2
    | cons x E =>
      simp only [List.map_cons, List.cons_append, List.cons.injEq] at r1
      obtain ⟨rfl, r1⟩ := r1
      rcases hs with ⟨hs, rfl⟩ | ⟨hs, rfl⟩
      · exact ⟨E, S, d, m + 1, r1, by simpa using r2, .pop r3 hs, r4⟩
      · exact ⟨E, S, d + 1, m + 1, r1, by simpa using r2, .found r3 hs, by omega⟩

theorem runI_hist {p : Prog1} {n : Nat} {most : Int} (hcl : ∀ w l, w.pc < n → stepW p w = .ways l → ∀ v ∈ l, v.pc < n) : ∀ (fuel : Nat) (t : Ghost) (rest : List Ghost) (out : List Way), Hist p n out.length t rest →
    runI p n most fuel (t.e :: rest.map (·.e)) out = runW p most fuel (t.e.w :: rest.map (·.e.w)) out := by
  intro fuel
  induction fuel with
  | zero =>
    intro t rest out h
    unfold runI runW
    simp only []
  | succ fuel ih =>
    intro t rest out h
    by_cases ho : (out.length : Int) = most
    · unfold runI runW
      simp only [ho, if_true]
    · by_cases hc : n ≤ t.e.idle ∧ (most = -1 ∨ t.e.found = out.length)
      · have h1 := h.circle hc.1 hc.2 ho (fuel + 1)
        rw [h1]
        unfold runI
        simp only [ho, hc, and_self, if_true, if_false]
      · unfold runI runW
        simp only [ho, hc, if_false]
        have hid := h.idle t (List.mem_cons_self ..)
        have pop : ∀ out', (∀ e rest', rest = e :: rest' → Hist p n out'.length e rest') → runI p n most fuel (rest.map (·.e)) out' = runW p most fuel (rest.map (·.e.w)) out' := by
          intro out' hp
          cases rest with
          | nil => unfold runI runW; rfl
          | cons e rest' => exact ih e rest' out' (hp e rest' rfl)
        cases hs : stepW p t.e.w with
        | done =>
          simp only [nextI]
          refine pop _ (fun e rest' he => ?_)
          subst he
          have := h.pop (k := 1) (.inr ⟨hs, rfl⟩)
          simpa using this
        | ways l =>
          simp only [nextI]
          cases l with
          | nil =>
            refine pop out (fun e rest' he => ?_)
            subst he
            have := h.pop (k := 0) (.inl ⟨hs, rfl⟩)
            simpa using this
          | cons v l =>
            obtain ⟨t', rest', h1, h2⟩ := h.step hcl (hs := if n ≤ t.e.idle then [t.e.w] else t.e.w :: t.hs) (found := if n ≤ t.e.idle then out.length else t.e.found)
              (by split
                  · exact .inr ⟨rfl, rfl⟩
                  · exact .inl ⟨rfl, rfl⟩) hs
            have h3 := ih t' rest' out h1
            have hl : (if n ≤ t.e.idle then [t.e.w] else t.e.w :: t.hs).length = if n ≤ t.e.idle then 1 else t.e.idle + 1 := by
              split
              · rfl
              · simp [hid.1]
            rw [h2, hl] at h3
            rw [h3]
            have h4 : t'.e.w :: rest'.map (·.e.w) = (t'.e :: rest'.map (·.e)).map (·.w) := by simp
            rw [h4, h2, List.map_append, List.map_map, List.map_map]
            congr 1
            congr 1
            rw [← List.map_id (v :: l)]
            rw [List.map_map]
            refine List.map_congr_left fun u _ => ?_
            simp only [Function.comp]
            split <;> rfl

/-- From one way on, both walks find the same. -/
theorem runI_eq {p : Prog1} {n : Nat} (hcl : ∀ w l, w.pc < n → stepW p w = .ways l → ∀ v ∈ l, v.pc < n) (most : Int) (fuel : Nat) (w : Way) (hw : w.pc < n) :
    runI p n most fuel [⟨w, 0, 0⟩] [] = runW p most fuel [w] [] :=
  runI_hist hcl fuel ⟨⟨w, 0, 0⟩, []⟩ [] [] ⟨fun g hg => by simp at hg; subst hg; exact ⟨rfl, Nat.zero_le _⟩, fun g hg => by simp at hg; subst hg; exact ⟨hw, fun _ h => by simp at h⟩, fun g hg => by simp at hg; subst hg; exact trivial,
    fun i g hg h hh => by
      match i, hg with
      | 0, hg => simp at hg; subst hg; simp at hh
      | i + 1, hg => simp at hg⟩

end Go.Ev
