/- Functions of the program, each with what it computes; no further conditions. -/
import Derived.Test.YtpbobopcmhpbbaaS05
import Derived.Test.YtpbobopcmhpbbaaS11
import Derived.Test.YtpbobopcmhpbbaaS10
import Derived.Test.YtpbobopcmhpbbaaS13
set_option linter.unusedVariables false
set_option linter.unusedSimpArgs false
namespace Go.Ev
attribute [local go_sem] eq_self bindW_some bindW_map bindW_ite bindW_iteN W_seq W_region W_draw W_cond W_condK W_ret W_skip W_exit W_scope W_label W_block blockK_norm blockK_ret blockK_exit WO_nil WO_cons WO_guard WD_nil WD_cons WD_guard guardV guardW_boolT guardW_boolF guardW_tup fpL_some fpL_none footprint thenK_norm thenK_ret thenK_exit put_some put_none ev_tmp ev_con ev_func ofK_int ofK_bool ofK_str ofK_nil evOp evBuiltin evCall evLen getElem_16 getElem_4 List.length_cons List.length_nil List.cons_append List.nil_append List.append_nil if_false if_true Bool.false_eq_true Bool.true_eq_false Option.map_some Option.map_none List.map_cons List.map_nil evBinOp evBin evUn asB_bool splitB_decide splitB_true splitB_false splitB_beq splitB_bne splitB_not endK_ret endK_norm List.getElem?_cons_zero List.getElem?_cons_succ evResults evResult packRes retK_norm retK_ret cellsAt mkVal evFieldAddr evField evIndexAddr evPart evStore evBuild evBuildSlice fillC fillE evSlice evMakeSlice evConvert getRow AV.cells List.head?_cons List.drop_zero List.drop_succ_cons List.take_zero List.take_succ_cons List.drop_nil List.take_nil List.all_cons List.all_nil AV.ok Bool.and_self Bool.and_true Bool.true_and and_self and_true true_and Nat.zero_add Nat.add_zero setCells splice pairsOk pairsX altW_none altW_some cfg_al WI_nil WI_cons FP.apart heapEq_refl sameAt_refl Bool.or_true Bool.true_or Bool.or_false srcElems elemsOf mutDst roundK_norm roundK_exit roundK_ret List.length_map List.getElem?_map Int.toNat_natCast decide_true decide_false Bool.not_true Bool.not_false List.set set_0 set_1 set_2 set_3 set_4 look_hit look lookD_hit lookD_cons lookD_nil ins_hit ins upd_hit upd rem1_hit rem1 dropT dropSt_eq initT cfg_dd cfg_bd cfg_ra actL_nil actL_cons act1 updT_hit updT frzB retE_norm retE_ret bndO bnd evEq eqCells not_false_eq_true not_true_eq_false toList_some Array.size_empty List.length_append tySzE List.head?_drop Nat.mul_one sameAt_zero sameAt_two sameAt_three sameAt_four sameAt_five endE_norm endE_ret head_take1
section
attribute [local go_sem] evAppend List.map_append
open Go.Proofs Go.RowKit Go.IntWalk
set_option maxRecDepth 100000
set_option linter.unusedSimpArgs false
set_option linter.unusedVariables false
set_option maxHeartbeats 8000000

/-- The walk over a tree: how deep it is, how many nodes there were. -/
theorem f103 (b0 b3 : MB) (pc tc : List AV) (hp : AV.plainL pc = true) (htc : AV.plainL tc = true) (caps top : Int) (ht : top ≤ 1114111) (hpc : pc[8]? = some (I caps)) (htc2 : tc = [I top]) : ∀ (N : Nat) (r : Re), r.wt ≤ N → r.wt ≤ 1000000 →
    ∀ (d s : Nat) (g : Bool), s ≤ 256 → d ≤ 1000000 →
    ∃ (ok g' : Bool) (s' : Nat), call Try.prog pol1 103 [.pt (reC r), I d, .rf 1 1 0 0, .rf 2 1 0 0, .pt pc, .pt tc, .rf 4 1 0 0]
        [b0, .row 1 [I s] 0, .row 1 [.bool g] 0, b3, .row 1 [.clo 103 [.rf 1 1 0 0, .rf 2 1 0 0, .pt pc, .pt tc, .rf 4 1 0 0]] 0] =
      some (.bool ok, [b0, .row 1 [I s'] 0, .row 1 [.bool g'] 0, b3, .row 1 [.clo 103 [.rf 1 1 0 0, .rf 2 1 0 0, .pt pc, .pt tc, .rf 4 1 0 0]] 0]) ∧
      ok = decide (s + r.size ≤ 256 ∧ d + r.depth ≤ 25) ∧ (ok = true → s' = s + r.size ∧ g' = (g && wholeG caps top r))
  | 0, r, h, _, _, _, _, _, _ => by have := r.wt_pos; omega
  | N + 1, .mk op set kids mn mx md n neg, h, hN, d, s, g, hs, hd => by
    have hkl := Re.wtL_len kids
    have hwt : 1 + set.length + Re.wtL kids = (Re.mk op set kids mn mx md n neg).wt := by simp [Re.wt]
    have ih := fun k (hk : k ∈ kids) => f103 b0 b3 pc tc hp htc caps top ht hpc htc2 N k (by have := Re.wtL_mem hk; omega) (by have := Re.wtL_mem hk; omega)
    have f104' := f104 caps top ht op set kids mn mx md n neg (by omega) (by omega)
    rw [show (.pt (reC (.mk op set kids mn mx md n neg)) : AV) = .pt (nodeL op set kids mn mx md n neg) from congrArg AV.pt reC_mk]
    have hsz : (Re.mk op set kids mn mx md n neg).size = 1 + Re.sizeL kids := by simp [Re.size]
    have hdz : (Re.mk op set kids mn mx md n neg).depth = 1 + Re.depthL kids := by simp [Re.depth]
    have hwh : wholeG caps top (.mk op set kids mn mx md n neg) = (formedG caps top (.mk op set kids mn mx md n neg) && wholeL caps top kids) := by rw [wholeG]
    have fr : ∀ (s : Int) (g : Bool), frzArgs pol1 103 0 [.pt (nodeL op set kids mn mx md n neg), I d, .rf 1 1 0 0, .rf 2 1 0 0, .pt pc, .pt tc, .rf 4 1 0 0]
        [b0, .row 1 [I s] 0, .row 1 [.bool g] 0, b3, .row 1 [.clo 103 [.rf 1 1 0 0, .rf 2 1 0 0, .pt pc, .pt tc, .rf 4 1 0 0]] 0] =
        some ([.pt (nodeL op set kids mn mx md n neg), I d, .rf 1 1 0 0, .rf 2 1 0 0, .pt pc, .pt tc, .rf 4 1 0 0], [b0, .row 1 [I s] 0, .row 1 [.bool g] 0, b3, .row 1 [.clo 103 [.rf 1 1 0 0, .rf 2 1 0 0, .pt pc, .pt tc, .rf 4 1 0 0]] 0]) := fun s g =>
      frzArgs_mix _ _ _ (by simp [mixOk, show pol1.byref 103 2 = true from rfl, show pol1.byref 103 3 = true from rfl, show pol1.byref 103 4 = true from rfl, show pol1.byref 103 5 = true from rfl, show pol1.byref 103 6 = true from rfl, AV.plain, AV.plainL, plain_span, plain_kids])
    have rt : ∀ (x : Bool) (s s' : Int) (g g' : Bool), retPol pol1 103 [b0, .row 1 [I s] 0, .row 1 [.bool g] 0, b3, .row 1 [.clo 103 [.rf 1 1 0 0, .rf 2 1 0 0, .pt pc, .pt tc, .rf 4 1 0 0]] 0] (.bool x) [b0, .row 1 [I s'] 0, .row 1 [.bool g'] 0, b3, .row 1 [.clo 103 [.rf 1 1 0 0, .rf 2 1 0 0, .pt pc, .pt tc, .rf 4 1 0 0]] 0] =
        some (.bool x, [b0, .row 1 [I s'] 0, .row 1 [.bool g'] 0, b3, .row 1 [.clo 103 [.rf 1 1 0 0, .rf 2 1 0 0, .pt pc, .pt tc, .rf 4 1 0 0]] 0]) := fun x s s' g g' =>
      retPol_keep rfl rfl rfl (by simp [keptOk, MB.beq_refl, MB.under, AV.underL, AV.under]) rfl
    have hs1 : ((s : Int) + 1) = ((s + 1 : Nat) : Int) := rfl
    subst htc2
    by_cases hc : 256 < s + 1 ∨ 24 < d
    · refine ⟨false, g, s + 1, ?_, ?_, fun h => by cases h⟩
      · refine call_run2 (pol := pol1) Try.func103 rfl rfl rfl rfl (fr s g) ?_
        have hc' : 256 < s + 1 ∨ (¬ 256 < s + 1 ∧ 24 < d) := by omega
        rcases hc' with h1 | ⟨h1, h2⟩
        all_goals (
          simp +contextual (disch := omega) only [Try.f103, dd103, ty0, ty3, ty4, ty24, ty26, ty28, ty100, ty167, go_sem, ↓reduceIte, List.reduceReplicate, Nat.reduceAdd, Nat.reduceSub, reduceCtorEq, Nat.reduceLeDiff, Nat.reduceMul, Nat.reduceLT, Nat.reduceEqDiff, Int.reduceBNe, Int.reduceBEq, Int.reduceEq, Int.reduceLT, Int.reduceLE, Int.reduceGT, Int.reduceGE, mu103, List.contains_nil, List.contains_cons, Nat.reduceBEq, Bool.or_self, dlt_t, dlt_f, dle_t, dle_f, dgt_t, dgt_f, dge_t, dge_f, beq_t, beq_f, bne_t, bne_f, lt_T, le_T, nle_T, nle_F, ↓wrap_up, ↓wrap_down, ↓wrap_pred, ↓wrap_sub_nat, i64_in, i64_quo, rem_in, Int.reduceToNat, room_ok, hs1, rt]
          repeat' (first | intro _ | apply And.intro | (unfold dOk; kernel_rfl) | exact St.beq_refl _ | (show altO _ _ _ _ = true; kernel_rfl) | (show (_ || _) = true; kernel_rfl) | (show (_ && _) = true; kernel_rfl)))
      · rw [hsz, hdz]
        symm; rw [decide_eq_false_iff_not]
        omega
    · have key : ∃ r : AV × List MB, (∃ (ok g' : Bool) (s' : Nat), r = (.bool ok, [b0, .row 1 [I s'] 0, .row 1 [.bool g'] 0, b3, .row 1 [.clo 103 [.rf 1 1 0 0, .rf 2 1 0 0, .pt pc, .pt [I top], .rf 4 1 0 0]] 0]) ∧
          ok = decide (s + (Re.mk op set kids mn mx md n neg).size ≤ 256 ∧ d + (Re.mk op set kids mn mx md n neg).depth ≤ 25) ∧ (ok = true → s' = s + (Re.mk op set kids mn mx md n neg).size ∧ g' = (g && wholeG caps top (.mk op set kids mn mx md n neg)))) ∧
          call Try.prog pol1 103 [.pt (nodeL op set kids mn mx md n neg), I d, .rf 1 1 0 0, .rf 2 1 0 0, .pt pc, .pt [I top], .rf 4 1 0 0]
            [b0, .row 1 [I s] 0, .row 1 [.bool g] 0, b3, .row 1 [.clo 103 [.rf 1 1 0 0, .rf 2 1 0 0, .pt pc, .pt [I top], .rf 4 1 0 0]] 0] = some r := by
        rw [hsz, hdz, hwh]
        refine call_run2E (pol := pol1) Try.func103 rfl rfl rfl rfl (fr s g) ?_
        generalize formedG caps top (.mk op set kids mn mx md n neg) = fg at *
        clear hwh hsz hdz
        have hd0 : d ≤ 24 := by omega
        have hs0 : s + 1 ≤ 256 := by omega
        cases g
        · simp +contextual (disch := omega) only [Try.f103, dd103, ty0, ty3, ty4, ty24, ty26, ty28, ty100, ty167, go_sem, ↓reduceIte, List.reduceReplicate, Nat.reduceAdd, Nat.reduceSub, reduceCtorEq, Nat.reduceLeDiff, Nat.reduceMul, Nat.reduceLT, Nat.reduceEqDiff, Int.reduceBNe, Int.reduceBEq, Int.reduceEq, Int.reduceLT, Int.reduceLE, Int.reduceGT, Int.reduceGE, mu103, List.contains_nil, List.contains_cons, Nat.reduceBEq, Bool.or_self, dlt_t, dlt_f, dle_t, dle_f, dgt_t, dgt_f, dge_t, dge_f, beq_t, beq_f, bne_t, bne_f, lt_T, le_T, nle_T, nle_F, ↓wrap_up, ↓wrap_down, ↓wrap_pred, ↓wrap_sub_nat, i64_in, i64_quo, rem_in, Int.reduceToNat, room_ok, hs1]
          refine W_count (M := (mskOf (pol1.mask 103) (pol1.gc 103) (pol1.acts 103) 0 6)) rfl kids.length (fun i => (⟨47, [(32, I i), (31, I kids.length), (6, .rf 4 1 0 0), (1, I d), (0, .pt (nodeL op set kids mn mx md n neg))], [b0, .row 1 [I ((s + 1 + Re.sizeL (kids.take i) : Nat) : Int)] 0, .row 1 [.bool (false && wholeL caps top (kids.take i))] 0, b3, .row 1 [.clo 103 [.rf 1 1 0 0, .rf 2 1 0 0, .pt pc, .pt [I top], .rf 4 1 0 0]] 0]⟩ : St))
            (fun i => s + 1 + Re.sizeL (kids.take i) ≤ 256 ∧ d + 1 + Re.depthL (kids.take i) ≤ 25) ?_ ?_ ⟨by simp [Re.sizeL]; omega, by simp [Re.depthL]; omega⟩ _ ?_
          · rintro i hi ⟨hb1, hb2⟩
            obtain ⟨k, hk⟩ : ∃ k, kids[i]? = some k := ⟨_, List.getElem?_eq_getElem hi⟩
            obtain ⟨ok, g2, s2, hcall, hok, himp⟩ := ih k (List.mem_of_getElem? hk) (d + 1) (s + 1 + Re.sizeL (kids.take i)) (false && wholeL caps top (kids.take i)) (by omega) (by omega)
            have e1 := Re.sizeL_take hk
            have e2 := Re.depthL_take hk
            have e3 := wholeL_take (caps := caps) (top := top) hk
            have e4 := Re.sizeL_le (l := kids) (i := i + 1)
            have e5 := Re.depthL_le (l := kids) (i := i + 1)
            have hl8 := reC_len k
            have ht8 := reC_take k
            have hd1 : ((d : Int) + 1) = ((d + 1 : Nat) : Int) := rfl
            cases ok with
            | false =>
              have hcf := of_decide_eq_false hok.symm
              simp +contextual (disch := omega) only [Try.f103, dd103, ty0, ty3, ty4, ty24, ty26, ty28, ty100, ty167, go_sem, ↓reduceIte, List.reduceReplicate, Nat.reduceAdd, Nat.reduceSub, reduceCtorEq, Nat.reduceLeDiff, Nat.reduceMul, Nat.reduceLT, Nat.reduceEqDiff, Int.reduceBNe, Int.reduceBEq, Int.reduceEq, Int.reduceLT, Int.reduceLE, Int.reduceGT, Int.reduceGE, mu103, List.contains_nil, List.contains_cons, Nat.reduceBEq, Bool.or_self, dlt_t, dlt_f, dle_t, dle_f, dgt_t, dgt_f, dge_t, dge_f, beq_t, beq_f, bne_t, bne_f, lt_T, le_T, nle_T, nle_F, ↓wrap_up, ↓wrap_down, ↓wrap_pred, ↓wrap_sub_nat, i64_in, i64_quo, rem_in, Int.reduceToNat, room_ok, hk, hl8, ht8, hd1, hcall]
              repeat' (first | intro _ | apply And.intro | (unfold dOk; kernel_rfl) | exact St.beq_refl _ | (show altO _ _ _ _ = true; kernel_rfl) | (show (_ || _) = true; kernel_rfl) | (show (_ && _) = true; kernel_rfl))
              refine ⟨_, ⟨false, g2, s2, rfl, ?_, fun h => by cases h⟩, rt false _ _ _ _⟩
              symm; rw [decide_eq_false_iff_not]; omega
            | true =>
              have hct := of_decide_eq_true hok.symm
              obtain ⟨rfl, rfl⟩ := himp rfl
              rw [e1, e2, e3, ← Bool.and_assoc]
              simp +contextual (disch := omega) only [Try.f103, dd103, ty0, ty3, ty4, ty24, ty26, ty28, ty100, ty167, go_sem, ↓reduceIte, List.reduceReplicate, Nat.reduceAdd, Nat.reduceSub, reduceCtorEq, Nat.reduceLeDiff, Nat.reduceMul, Nat.reduceLT, Nat.reduceEqDiff, Int.reduceBNe, Int.reduceBEq, Int.reduceEq, Int.reduceLT, Int.reduceLE, Int.reduceGT, Int.reduceGE, mu103, List.contains_nil, List.contains_cons, Nat.reduceBEq, Bool.or_self, dlt_t, dlt_f, dle_t, dle_f, dgt_t, dgt_f, dge_t, dge_f, beq_t, beq_f, bne_t, bne_f, lt_T, le_T, nle_T, nle_F, ↓wrap_up, ↓wrap_down, ↓wrap_pred, ↓wrap_sub_nat, i64_in, i64_quo, rem_in, Int.reduceToNat, room_ok, hk, hl8, ht8, hd1, hcall]
              repeat' (first | intro _ | apply And.intro | (unfold dOk; kernel_rfl) | exact St.beq_refl _ | (show altO _ _ _ _ = true; kernel_rfl) | (show (_ || _) = true; kernel_rfl) | (show (_ && _) = true; kernel_rfl))
              rw [Nat.add_assoc (s + 1)]
              rfl
          · rintro ⟨hb1, hb2⟩
            rw [List.take_length] at hb1 hb2 ⊢
            simp +contextual (disch := omega) only [Try.f103, dd103, ty0, ty3, ty4, ty24, ty26, ty28, ty100, ty167, go_sem, ↓reduceIte, List.reduceReplicate, Nat.reduceAdd, Nat.reduceSub, reduceCtorEq, Nat.reduceLeDiff, Nat.reduceMul, Nat.reduceLT, Nat.reduceEqDiff, Int.reduceBNe, Int.reduceBEq, Int.reduceEq, Int.reduceLT, Int.reduceLE, Int.reduceGT, Int.reduceGE, mu103, List.contains_nil, List.contains_cons, Nat.reduceBEq, Bool.or_self, dlt_t, dlt_f, dle_t, dle_f, dgt_t, dgt_f, dge_t, dge_f, beq_t, beq_f, bne_t, bne_f, lt_T, le_T, nle_T, nle_F, ↓wrap_up, ↓wrap_down, ↓wrap_pred, ↓wrap_sub_nat, i64_in, i64_quo, rem_in, Int.reduceToNat, room_ok]
            refine ⟨_, ⟨true, (false && wholeL caps top kids), s + 1 + Re.sizeL kids, rfl, ?_, fun _ => ⟨by omega, by simp⟩⟩, rt true _ _ _ _⟩
            rfl
          · rfl
        · simp +contextual (disch := omega) only [Try.f103, dd103, ty0, ty3, ty4, ty24, ty26, ty28, ty100, ty167, go_sem, ↓reduceIte, List.reduceReplicate, Nat.reduceAdd, Nat.reduceSub, reduceCtorEq, Nat.reduceLeDiff, Nat.reduceMul, Nat.reduceLT, Nat.reduceEqDiff, Int.reduceBNe, Int.reduceBEq, Int.reduceEq, Int.reduceLT, Int.reduceLE, Int.reduceGT, Int.reduceGE, mu103, List.contains_nil, List.contains_cons, Nat.reduceBEq, Bool.or_self, dlt_t, dlt_f, dle_t, dle_f, dgt_t, dgt_f, dge_t, dge_f, beq_t, beq_f, bne_t, bne_f, lt_T, le_T, nle_T, nle_F, ↓wrap_up, ↓wrap_down, ↓wrap_pred, ↓wrap_sub_nat, i64_in, i64_quo, rem_in, Int.reduceToNat, room_ok, hs1, f104', hpc]
          refine W_count (M := (mskOf (pol1.mask 103) (pol1.gc 103) (pol1.acts 103) 0 6)) rfl kids.length (fun i => (⟨47, [(32, I i), (31, I kids.length), (6, .rf 4 1 0 0), (1, I d), (0, .pt (nodeL op set kids mn mx md n neg))], [b0, .row 1 [I ((s + 1 + Re.sizeL (kids.take i) : Nat) : Int)] 0, .row 1 [.bool (fg && wholeL caps top (kids.take i))] 0, b3, .row 1 [.clo 103 [.rf 1 1 0 0, .rf 2 1 0 0, .pt pc, .pt [I top], .rf 4 1 0 0]] 0]⟩ : St))
            (fun i => s + 1 + Re.sizeL (kids.take i) ≤ 256 ∧ d + 1 + Re.depthL (kids.take i) ≤ 25) ?_ ?_ ⟨by simp [Re.sizeL]; omega, by simp [Re.depthL]; omega⟩ _ ?_
          · rintro i hi ⟨hb1, hb2⟩
            obtain ⟨k, hk⟩ : ∃ k, kids[i]? = some k := ⟨_, List.getElem?_eq_getElem hi⟩
            obtain ⟨ok, g2, s2, hcall, hok, himp⟩ := ih k (List.mem_of_getElem? hk) (d + 1) (s + 1 + Re.sizeL (kids.take i)) (fg && wholeL caps top (kids.take i)) (by omega) (by omega)
            have e1 := Re.sizeL_take hk
            have e2 := Re.depthL_take hk
            have e3 := wholeL_take (caps := caps) (top := top) hk
            have e4 := Re.sizeL_le (l := kids) (i := i + 1)
            have e5 := Re.depthL_le (l := kids) (i := i + 1)
            have hl8 := reC_len k
            have ht8 := reC_take k
            have hd1 : ((d : Int) + 1) = ((d + 1 : Nat) : Int) := rfl
            cases ok with
            | false =>
              have hcf := of_decide_eq_false hok.symm
              simp +contextual (disch := omega) only [Try.f103, dd103, ty0, ty3, ty4, ty24, ty26, ty28, ty100, ty167, go_sem, ↓reduceIte, List.reduceReplicate, Nat.reduceAdd, Nat.reduceSub, reduceCtorEq, Nat.reduceLeDiff, Nat.reduceMul, Nat.reduceLT, Nat.reduceEqDiff, Int.reduceBNe, Int.reduceBEq, Int.reduceEq, Int.reduceLT, Int.reduceLE, Int.reduceGT, Int.reduceGE, mu103, List.contains_nil, List.contains_cons, Nat.reduceBEq, Bool.or_self, dlt_t, dlt_f, dle_t, dle_f, dgt_t, dgt_f, dge_t, dge_f, beq_t, beq_f, bne_t, bne_f, lt_T, le_T, nle_T, nle_F, ↓wrap_up, ↓wrap_down, ↓wrap_pred, ↓wrap_sub_nat, i64_in, i64_quo, rem_in, Int.reduceToNat, room_ok, hk, hl8, ht8, hd1, hcall]
              repeat' (first | intro _ | apply And.intro | (unfold dOk; kernel_rfl) | exact St.beq_refl _ | (show altO _ _ _ _ = true; kernel_rfl) | (show (_ || _) = true; kernel_rfl) | (show (_ && _) = true; kernel_rfl))
              refine ⟨_, ⟨false, g2, s2, rfl, ?_, fun h => by cases h⟩, rt false _ _ _ _⟩
              symm; rw [decide_eq_false_iff_not]; omega
            | true =>
              have hct := of_decide_eq_true hok.symm
              obtain ⟨rfl, rfl⟩ := himp rfl
              rw [e1, e2, e3, ← Bool.and_assoc]
              simp +contextual (disch := omega) only [Try.f103, dd103, ty0, ty3, ty4, ty24, ty26, ty28, ty100, ty167, go_sem, ↓reduceIte, List.reduceReplicate, Nat.reduceAdd, Nat.reduceSub, reduceCtorEq, Nat.reduceLeDiff, Nat.reduceMul, Nat.reduceLT, Nat.reduceEqDiff, Int.reduceBNe, Int.reduceBEq, Int.reduceEq, Int.reduceLT, Int.reduceLE, Int.reduceGT, Int.reduceGE, mu103, List.contains_nil, List.contains_cons, Nat.reduceBEq, Bool.or_self, dlt_t, dlt_f, dle_t, dle_f, dgt_t, dgt_f, dge_t, dge_f, beq_t, beq_f, bne_t, bne_f, lt_T, le_T, nle_T, nle_F, ↓wrap_up, ↓wrap_down, ↓wrap_pred, ↓wrap_sub_nat, i64_in, i64_quo, rem_in, Int.reduceToNat, room_ok, hk, hl8, ht8, hd1, hcall]
              repeat' (first | intro _ | apply And.intro | (unfold dOk; kernel_rfl) | exact St.beq_refl _ | (show altO _ _ _ _ = true; kernel_rfl) | (show (_ || _) = true; kernel_rfl) | (show (_ && _) = true; kernel_rfl))
              rw [Nat.add_assoc (s + 1)]
              rfl
          · rintro ⟨hb1, hb2⟩
            rw [List.take_length] at hb1 hb2 ⊢
            simp +contextual (disch := omega) only [Try.f103, dd103, ty0, ty3, ty4, ty24, ty26, ty28, ty100, ty167, go_sem, ↓reduceIte, List.reduceReplicate, Nat.reduceAdd, Nat.reduceSub, reduceCtorEq, Nat.reduceLeDiff, Nat.reduceMul, Nat.reduceLT, Nat.reduceEqDiff, Int.reduceBNe, Int.reduceBEq, Int.reduceEq, Int.reduceLT, Int.reduceLE, Int.reduceGT, Int.reduceGE, mu103, List.contains_nil, List.contains_cons, Nat.reduceBEq, Bool.or_self, dlt_t, dlt_f, dle_t, dle_f, dgt_t, dgt_f, dge_t, dge_f, beq_t, beq_f, bne_t, bne_f, lt_T, le_T, nle_T, nle_F, ↓wrap_up, ↓wrap_down, ↓wrap_pred, ↓wrap_sub_nat, i64_in, i64_quo, rem_in, Int.reduceToNat, room_ok]
            refine ⟨_, ⟨true, (fg && wholeL caps top kids), s + 1 + Re.sizeL kids, rfl, ?_, fun _ => ⟨by omega, by simp⟩⟩, rt true _ _ _ _⟩
            rfl
          · rw [show (fg && wholeL caps top (List.take 0 kids)) = fg by simp [wholeL]]
            rfl
      obtain ⟨r, ⟨ok, g', s', rfl, h1, h2⟩, h3⟩ := key
      exact ⟨ok, g', s', h3, h1, h2⟩

/-- A pattern. -/
structure Pat where
  re : Re
  caps : Int
  runes : Bool
abbrev patC (p : Pat) : List AV := reC p.re ++ [I p.caps, .bool p.runes]
abbrev patAV (p : Pat) : AV := .agg (patC p)
theorem plain_patC (p : Pat) : AV.plainL (patC p) = true := by
  rw [plainL_iff]
  intro x hx
  rcases List.mem_append.1 hx with h | h
  · exact (plainL_iff _).1 (plain_reC p.re) x h
  · simp at h; rcases h with rfl | rfl <;> rfl
def topI (r : Bool) : Int := if r then 1114111 else 255
theorem topI_le (r : Bool) : topI r ≤ 1114111 := by cases r <;> simp [topI]
/-- The error of a pattern. -/
def validP (p : Pat) : Int := if 256 < p.re.size ∨ 24 < p.re.depth then 4 else if p.caps < 0 ∨ 9 < p.caps ∨ wholeG p.caps (topI p.runes) p.re = false then 1 else 0

theorem f48 (p : Pat) (hw : p.re.wt ≤ 1000000) (H : List MB) : call Try.prog pol1 48 [patAV p] H = some (I (validP p), H) := by
  obtain ⟨re, caps, runes⟩ := p
  simp only at hw
  refine call_run Try.func48 rfl rfl rfl rfl rfl rfl (fun _ => rfl) (by simp [AV.plainL, AV.plain]; exact plain_patC _) rfl ?_ H
  have hl8 := reC_len re
  have hpl := plain_patC ⟨re, caps, runes⟩
  have hget8 : (reC re ++ [I caps, .bool runes])[8]? = some (I caps) := by rw [List.getElem?_append_right (by omega), hl8]; rfl
  have hget9 : (reC re ++ [I caps, .bool runes])[9]? = some (.bool runes) := by rw [List.getElem?_append_right (by omega), hl8]; rfl
  have hz : fz (.rf 0 1 0 0) [.row 10 [.agg (reC re ++ [I caps, .bool runes])] 0] = some (.pt (reC re ++ [I caps, .bool runes]), [.row 10 [.agg (reC re ++ [I caps, .bool runes])] 1]) :=
    fz_rf (x := .agg (reC re ++ [I caps, .bool runes])) (k := 10) (z := 0) rfl rfl rfl hpl
  have hlen : (reC re).length + (0 + 1 + 1) = 10 := by omega
  have h102 := f102 runes
  have hall := reC_ok re
  have hz2 : ∀ (b0 b1 b2 : MB) (t : Int), fz (.rf 3 1 0 0) [b0, b1, b2, .row 1 [I t] 0] = some (.pt [I t], [b0, b1, b2, .row 1 [I t] 1]) := fun b0 b1 b2 t => fz_rf (x := I t) (k := 1) (z := 0) rfl rfl rfl rfl
  have htk8 : ∀ l, List.take 8 (reC re ++ l) = reC re := fun l => by
    rw [List.take_append_of_le_length (by omega)]; exact List.take_of_length_le (by omega)
  rw [show (if runes = true then (1114111 : Int) else 255) = topI runes from rfl] at h102
  have ht := topI_le runes
  have h103 := fun (b0 b3 : MB) (g : Bool) => f103 b0 b3 (reC re ++ [I caps, .bool runes]) [I (topI runes)] hpl rfl caps (topI runes) ht hget8 rfl re.wt re (Nat.le_refl _) hw 1 0 g (by omega) (by omega)
  unfold validP
  simp only
  have hcp : (0 ≤ caps ∧ caps ≤ 9) ∨ (0 ≤ caps ∧ ¬ caps ≤ 9) ∨ ¬ 0 ≤ caps := by omega
  generalize topI runes = top at *
  rcases hcp with ⟨hc1, hc2⟩ | ⟨hc1, hc2⟩ | hc1
  · obtain ⟨ok, g', s', hcall, hok, himp⟩ := h103 (.row 10 [.agg (reC re ++ [I caps, .bool runes])] 1) (.row 1 [I top] 1) true
    rw [show ((1 : Nat) : Int) = 1 from rfl, show ((0 : Nat) : Int) = 0 from rfl] at hcall
    cases ok with
    | false =>
      have hcf := of_decide_eq_false hok.symm
      rw [if_pos (by omega)]
      simp +contextual (disch := omega) only [Try.f48, dd48, ty0, ty3, ty4, ty28, ty36, ty167, go_sem, ↓reduceIte, List.reduceReplicate, Nat.reduceAdd, Nat.reduceSub, reduceCtorEq, Nat.reduceLeDiff, Nat.reduceMul, Nat.reduceLT, Nat.reduceEqDiff, Int.reduceBNe, Int.reduceBEq, Int.reduceEq, Int.reduceLT, Int.reduceLE, Int.reduceGT, Int.reduceGE, mu48, List.contains_nil, List.contains_cons, Nat.reduceBEq, Bool.or_self, dlt_t, dlt_f, dle_t, dle_f, dgt_t, dgt_f, dge_t, dge_f, beq_t, beq_f, bne_t, bne_f, lt_T, le_T, nle_T, nle_F, ↓wrap_up, ↓wrap_down, ↓wrap_pred, ↓wrap_sub_nat, i64_in, i64_quo, rem_in, Int.reduceToNat, room_ok, hl8, hget8, hget9, hz, hz2, h102, hall, htk8, hcall, List.all_append, lookD, look]
      exact fzEq rfl rfl
    | true =>
      have hct := of_decide_eq_true hok.symm
      obtain ⟨_, hg'⟩ := himp rfl
      rw [if_neg (by omega)]
      cases hwg : wholeG caps top re with
      | true =>
        rw [if_neg (by simp; omega)]
        rw [hwg] at hg'
        simp only [Bool.and_true] at hg'
        subst hg'
        simp +contextual (disch := omega) only [Try.f48, dd48, ty0, ty3, ty4, ty28, ty36, ty167, go_sem, ↓reduceIte, List.reduceReplicate, Nat.reduceAdd, Nat.reduceSub, reduceCtorEq, Nat.reduceLeDiff, Nat.reduceMul, Nat.reduceLT, Nat.reduceEqDiff, Int.reduceBNe, Int.reduceBEq, Int.reduceEq, Int.reduceLT, Int.reduceLE, Int.reduceGT, Int.reduceGE, mu48, List.contains_nil, List.contains_cons, Nat.reduceBEq, Bool.or_self, dlt_t, dlt_f, dle_t, dle_f, dgt_t, dgt_f, dge_t, dge_f, beq_t, beq_f, bne_t, bne_f, lt_T, le_T, nle_T, nle_F, ↓wrap_up, ↓wrap_down, ↓wrap_pred, ↓wrap_sub_nat, i64_in, i64_quo, rem_in, Int.reduceToNat, room_ok, hl8, hget8, hget9, hz, hz2, h102, hall, htk8, hcall, List.all_append, lookD, look]
        exact fzEq rfl rfl
      | false =>
        rw [if_pos (by simp)]
        rw [hwg] at hg'
        simp only [Bool.and_false] at hg'
        subst hg'
        simp +contextual (disch := omega) only [Try.f48, dd48, ty0, ty3, ty4, ty28, ty36, ty167, go_sem, ↓reduceIte, List.reduceReplicate, Nat.reduceAdd, Nat.reduceSub, reduceCtorEq, Nat.reduceLeDiff, Nat.reduceMul, Nat.reduceLT, Nat.reduceEqDiff, Int.reduceBNe, Int.reduceBEq, Int.reduceEq, Int.reduceLT, Int.reduceLE, Int.reduceGT, Int.reduceGE, mu48, List.contains_nil, List.contains_cons, Nat.reduceBEq, Bool.or_self, dlt_t, dlt_f, dle_t, dle_f, dgt_t, dgt_f, dge_t, dge_f, beq_t, beq_f, bne_t, bne_f, lt_T, le_T, nle_T, nle_F, ↓wrap_up, ↓wrap_down, ↓wrap_pred, ↓wrap_sub_nat, i64_in, i64_quo, rem_in, Int.reduceToNat, room_ok, hl8, hget8, hget9, hz, hz2, h102, hall, htk8, hcall, List.all_append, lookD, look]
        exact fzEq rfl rfl
  · obtain ⟨ok, g', s', hcall, hok, himp⟩ := h103 (.row 10 [.agg (reC re ++ [I caps, .bool runes])] 1) (.row 1 [I top] 1) false
    rw [show ((1 : Nat) : Int) = 1 from rfl, show ((0 : Nat) : Int) = 0 from rfl] at hcall
    cases ok with
    | false =>
      have hcf := of_decide_eq_false hok.symm
      rw [if_pos (by omega)]
      simp +contextual (disch := omega) only [Try.f48, dd48, ty0, ty3, ty4, ty28, ty36, ty167, go_sem, ↓reduceIte, List.reduceReplicate, Nat.reduceAdd, Nat.reduceSub, reduceCtorEq, Nat.reduceLeDiff, Nat.reduceMul, Nat.reduceLT, Nat.reduceEqDiff, Int.reduceBNe, Int.reduceBEq, Int.reduceEq, Int.reduceLT, Int.reduceLE, Int.reduceGT, Int.reduceGE, mu48, List.contains_nil, List.contains_cons, Nat.reduceBEq, Bool.or_self, dlt_t, dlt_f, dle_t, dle_f, dgt_t, dgt_f, dge_t, dge_f, beq_t, beq_f, bne_t, bne_f, lt_T, le_T, nle_T, nle_F, ↓wrap_up, ↓wrap_down, ↓wrap_pred, ↓wrap_sub_nat, i64_in, i64_quo, rem_in, Int.reduceToNat, room_ok, hl8, hget8, hget9, hz, hz2, h102, hall, htk8, hcall, List.all_append, lookD, look]
      exact fzEq rfl rfl
    | true =>
      have hct := of_decide_eq_true hok.symm
      obtain ⟨_, hg'⟩ := himp rfl
      rw [if_neg (by omega)]
      rw [if_pos (by omega)]
      simp only [Bool.false_and] at hg'
      subst hg'
      simp +contextual (disch := omega) only [Try.f48, dd48, ty0, ty3, ty4, ty28, ty36, ty167, go_sem, ↓reduceIte, List.reduceReplicate, Nat.reduceAdd, Nat.reduceSub, reduceCtorEq, Nat.reduceLeDiff, Nat.reduceMul, Nat.reduceLT, Nat.reduceEqDiff, Int.reduceBNe, Int.reduceBEq, Int.reduceEq, Int.reduceLT, Int.reduceLE, Int.reduceGT, Int.reduceGE, mu48, List.contains_nil, List.contains_cons, Nat.reduceBEq, Bool.or_self, dlt_t, dlt_f, dle_t, dle_f, dgt_t, dgt_f, dge_t, dge_f, beq_t, beq_f, bne_t, bne_f, lt_T, le_T, nle_T, nle_F, ↓wrap_up, ↓wrap_down, ↓wrap_pred, ↓wrap_sub_nat, i64_in, i64_quo, rem_in, Int.reduceToNat, room_ok, hl8, hget8, hget9, hz, hz2, h102, hall, htk8, hcall, List.all_append, lookD, look]
      exact fzEq rfl rfl
  · obtain ⟨ok, g', s', hcall, hok, himp⟩ := h103 (.row 10 [.agg (reC re ++ [I caps, .bool runes])] 1) (.row 1 [I top] 1) false
    rw [show ((1 : Nat) : Int) = 1 from rfl, show ((0 : Nat) : Int) = 0 from rfl] at hcall
    cases ok with
    | false =>
      have hcf := of_decide_eq_false hok.symm
      rw [if_pos (by omega)]
      simp +contextual (disch := omega) only [Try.f48, dd48, ty0, ty3, ty4, ty28, ty36, ty167, go_sem, ↓reduceIte, List.reduceReplicate, Nat.reduceAdd, Nat.reduceSub, reduceCtorEq, Nat.reduceLeDiff, Nat.reduceMul, Nat.reduceLT, Nat.reduceEqDiff, Int.reduceBNe, Int.reduceBEq, Int.reduceEq, Int.reduceLT, Int.reduceLE, Int.reduceGT, Int.reduceGE, mu48, List.contains_nil, List.contains_cons, Nat.reduceBEq, Bool.or_self, dlt_t, dlt_f, dle_t, dle_f, dgt_t, dgt_f, dge_t, dge_f, beq_t, beq_f, bne_t, bne_f, lt_T, le_T, nle_T, nle_F, ↓wrap_up, ↓wrap_down, ↓wrap_pred, ↓wrap_sub_nat, i64_in, i64_quo, rem_in, Int.reduceToNat, room_ok, hl8, hget8, hget9, hz, hz2, h102, hall, htk8, hcall, List.all_append, lookD, look]
      exact fzEq rfl rfl
    | true =>
      have hct := of_decide_eq_true hok.symm
      obtain ⟨_, hg'⟩ := himp rfl
      rw [if_neg (by omega)]
      rw [if_pos (by omega)]
      simp only [Bool.false_and] at hg'
      subst hg'
      simp +contextual (disch := omega) only [Try.f48, dd48, ty0, ty3, ty4, ty28, ty36, ty167, go_sem, ↓reduceIte, List.reduceReplicate, Nat.reduceAdd, Nat.reduceSub, reduceCtorEq, Nat.reduceLeDiff, Nat.reduceMul, Nat.reduceLT, Nat.reduceEqDiff, Int.reduceBNe, Int.reduceBEq, Int.reduceEq, Int.reduceLT, Int.reduceLE, Int.reduceGT, Int.reduceGE, mu48, List.contains_nil, List.contains_cons, Nat.reduceBEq, Bool.or_self, dlt_t, dlt_f, dle_t, dle_f, dgt_t, dgt_f, dge_t, dge_f, beq_t, beq_f, bne_t, bne_f, lt_T, le_T, nle_T, nle_F, ↓wrap_up, ↓wrap_down, ↓wrap_pred, ↓wrap_sub_nat, i64_in, i64_quo, rem_in, Int.reduceToNat, room_ok, hl8, hget8, hget9, hz, hz2, h102, hall, htk8, hcall, List.all_append, lookD, look]
      exact fzEq rfl rfl
end
section
attribute [local go_sem] evAppend List.map_append
open Go.Proofs Go.RowKit Go.IntWalk
set_option maxRecDepth 100000
set_option linter.unusedSimpArgs false
set_option linter.unusedVariables false
set_option maxHeartbeats 8000000


end
section
attribute [local go_sem] evAppend List.map_append
open Go.Proofs Go.RowKit Go.IntWalk
set_option maxRecDepth 100000
set_option linter.unusedSimpArgs false
set_option linter.unusedVariables false
set_option maxHeartbeats 8000000


end
section
attribute [local go_sem] List.map_append
open Go.Proofs Go.RowKit Go.IntWalk
set_option maxRecDepth 100000
set_option linter.unusedSimpArgs false
set_option linter.unusedVariables false
set_option maxHeartbeats 8000000

/-- What Compile comes to, in both packages. -/
def compP (p : Pat) : Prg × Int :=
  if validP p = 0 then
    if compG [] p.re = true then
      if lenG p.re + 1 ≤ 8192 then (⟨codeG p.re 0 ++ [⟨0, 0, 0, 0, []⟩], p.caps, p.runes⟩, 0) else (⟨[], 0, false⟩, 4)
    else (⟨[], 0, false⟩, 10)
  else (⟨[], 0, false⟩, validP p)
theorem valid_facts {p : Pat} (h : validP p = 0) : p.re.size ≤ 256 ∧ p.re.depth ≤ 24 ∧ 0 ≤ p.caps ∧ p.caps ≤ 9 ∧ wholeG p.caps (topI p.runes) p.re = true := by
  unfold validP at h
  split at h
  · cases h
  · split at h
    · cases h
    · rename_i h1 h2
      cases hw : wholeG p.caps (topI p.runes) p.re with
      | true => exact ⟨by omega, by omega, by omega, by omega, rfl⟩
      | false => exact absurd (.inr (.inr hw)) h2

theorem fin_prg {H : List MB} {id n : Nat} {els : List AV} {c : List Ins} (caps : Int) (runes : Bool) (hl : els.length = n) (hk : ∀ j H, fzL j els H = some (c.map insAV, H)) (hr : getRow H id = some (5, els, 0)) :
    ∃ H', fz (.tup [.agg [.ms id 5 n 0 n, I caps, .bool runes], I 0]) H = some (.tup [prgAV ⟨c, caps, runes⟩, I 0], H') := by
  have h2 : fzA (fzJ 6) (.ms id 5 n 0 n) H = some (.sl false (c.map insAV), mark H id n) := by
    have := fzA_ms (n := 5) (off := 0) (len := n) (ys := c.map insAV) (H' := mark H id (0 + n)) hr hl (by omega) (by rw [List.drop_zero, List.take_of_length_le (by omega)]; exact hk _ _)
    rwa [Nat.zero_add] at this
  refine ⟨mark H id n, ?_⟩
  simp only [fz, fzA_tup, fzA_agg, fzL, h2, fzA_int]
  rfl

end
section

open Go.Proofs Go.RowKit Go.IntWalk
set_option maxRecDepth 100000
set_option linter.unusedSimpArgs false
set_option linter.unusedVariables false
set_option maxHeartbeats 8000000

/-- One instruction of prog's, behind ours. -/
theorem app_oneP {H : List MB} {i n z : Nat} {els : List AV} {y : AV} {t : Bool} (hi : getRow H i = some (5, els, z)) (hn : els.length = n) (hy : (decide (y.cells.length = 5) && y.cells.all AV.ok) = true) (hz : z ≤ n) (hr : n + 1 ≤ 4000000000) :
    evAppend Try.prog H 33 33 (.ms i 5 n 0 n) (.sl t [y]) = some (.ms i 5 (n + 1) 0 (n + 1), H.set i (.row 5 (els ++ [y]) z)) := by
  have hs : srcElems Try.prog H 104 (.sl t [y]) = some [y] := rfl
  rw [evAppend_end (e := 104) (by kernel_rfl) (by kernel_rfl) (k := 5) (by kernel_rfl) (by_ := 56) (by kernel_rfl) (ze := .agg [I 0, I 0, I 0, I 0, .sl true []]) (by kernel_rfl) rfl (by omega) hs (by simp only [List.all_cons, List.all_nil, hy, Bool.and_true]) hi hn hz (room_ok hr (by omega))]
  rfl
theorem keptOk_app : ∀ (n : Nat) (l m : List MB), keptOk n l (l ++ m) = true
  | _, [], _ => rfl
  | n, x :: xs, m => by simp [keptOk, MB.beq_refl, keptOk_app n xs m]
theorem get_last {α : Type} (K : List α) (b : α) : (K ++ [b])[K.length]? = some b := by simp
theorem set_last {α : Type} (K : List α) (b c : α) : (K ++ [b]).set K.length c = K ++ [c] := by simp

/-- The code so far. -/
abbrev codeH (C : List Ins) (n : Nat) (R : List MB) : List MB := .row 1 [.ms 1 5 n 0 n] 0 :: .row 5 (C.map insAV) 0 :: R
theorem kept_code {C C' : List Ins} {n n' m : Nat} {R S : List MB} (hm : 2 ≤ m) : keptOk m (codeH C n R) (codeH C' n' (R ++ S)) = true := by
  simp [keptOk, keptOk_app, MB.under, AV.underL, AV.under, underL_plain _ _ (plain_ins C')]
  omega
theorem f107 (a b c d : Int) (t : Bool) (s : List (Int × Int)) (C : List Ins) (n : Nat) (R : List MB) (hn : C.length = n) (hb : n ≤ 1000000) :
    call Try.prog pol1 107 [.agg [I a, I b, I c, I d, .sl t (s.map spanAV)], .rf 0 1 0 0] (codeH C n R) = some (I n, codeH (C ++ [⟨a, b, c, d, s⟩]) (n + 1) R) := by
  have fr : frzArgs pol1 107 0 [.agg [I a, I b, I c, I d, .sl t (s.map spanAV)], .rf 0 1 0 0] (codeH C n R) = some ([.agg [I a, I b, I c, I d, .sl false (s.map spanAV)], .rf 0 1 0 0], codeH C n R) := by
    have h0 : pol1.byref 107 0 = false := rfl
    have h1 : pol1.byref 107 1 = true := rfl
    have h2 : ∀ H, fzL (fzJ 6) (s.map spanAV) H = some (s.map spanAV, H) := fun H => fzL_plain _ _ H (plain_span s)
    simp only [frzArgs, h0, h1, Bool.false_eq_true, if_false, if_true, fz, fzA, fzL, h2]
  refine call_run2 (pol := pol1) Try.func107 rfl rfl rfl rfl fr ?_
  have hap := fun X => app_oneP (H := codeH C n (R ++ [X])) (i := 1) (n := n) (t := true) (y := insAV ⟨a, b, c, d, s⟩) rfl (by rw [List.length_map]; exact hn) rfl (Nat.zero_le _) (by omega)
  have hmp : C.map insAV ++ [insAV ⟨a, b, c, d, s⟩] = (C ++ [(⟨a, b, c, d, s⟩ : Ins)]).map insAV := by simp
  simp +contextual (disch := omega) only [Try.f107, dd107, ty0, ty3, ty33, ty104, go_sem, ↓reduceIte, List.reduceReplicate, Nat.reduceAdd, Nat.reduceSub, reduceCtorEq, Nat.reduceLeDiff, Nat.reduceMul, Nat.reduceLT, Nat.reduceEqDiff, Int.reduceBNe, Int.reduceBEq, Int.reduceEq, Int.reduceLT, Int.reduceLE, Int.reduceGT, Int.reduceGE, mu107, List.contains_nil, List.contains_cons, Nat.reduceBEq, Bool.or_self, dlt_t, dlt_f, dle_t, dle_f, dgt_t, dgt_f, dge_t, dge_f, beq_t, beq_f, bne_t, bne_f, lt_T, le_T, nle_T, nle_F, ↓wrap_up, ↓wrap_down, ↓wrap_pred, ↓wrap_sub_nat, i64_in, i64_quo, rem_in, Int.reduceToNat, room_ok, hap, get_last, set_last, hmp]
  refine retPol_keep rfl rfl rfl (kept_code (by simp)) (by simp)
end
section
attribute [local go_sem] evAppend
open Go.Proofs Go.RowKit Go.IntWalk
set_option maxRecDepth 100000
set_option linter.unusedSimpArgs false
set_option linter.unusedVariables false
set_option maxHeartbeats 8000000

theorem f109 (x y md : Int) (H : List MB) : call Try.prog pol1 109 [I x, I y, I md] H = some (insAV (insSplit md x y), H) := by
  refine call_run Try.func109 rfl rfl rfl rfl rfl rfl (fun _ => rfl) rfl (by simp [AV.plain, AV.plainL, plain_span]) ?_ H
  by_cases h : md = 1
  · subst h
    simp +contextual (disch := omega) only [Try.f109, dd109, ty0, ty3, ty4, ty104, go_sem, ↓reduceIte, List.reduceReplicate, Nat.reduceAdd, Nat.reduceSub, reduceCtorEq, Nat.reduceLeDiff, Nat.reduceMul, Nat.reduceLT, Nat.reduceEqDiff, Int.reduceBNe, Int.reduceBEq, Int.reduceEq, Int.reduceLT, Int.reduceLE, Int.reduceGT, Int.reduceGE, List.map_append, mu109, List.contains_nil, List.contains_cons, Nat.reduceBEq, Bool.or_self, dlt_t, dlt_f, dle_t, dle_f, dgt_t, dgt_f, dge_t, dge_f, beq_t, beq_f, bne_t, bne_f, lt_T, le_T, nle_T, nle_F, ↓wrap_up, ↓wrap_down, ↓wrap_pred, ↓wrap_sub_nat, i64_in, i64_quo, rem_in, Int.reduceToNat, room_ok]
    exact ⟨_, rfl⟩
  · rw [insSplit, if_neg h]
    simp +contextual (disch := omega) only [Try.f109, dd109, ty0, ty3, ty4, ty104, go_sem, ↓reduceIte, List.reduceReplicate, Nat.reduceAdd, Nat.reduceSub, reduceCtorEq, Nat.reduceLeDiff, Nat.reduceMul, Nat.reduceLT, Nat.reduceEqDiff, Int.reduceBNe, Int.reduceBEq, Int.reduceEq, Int.reduceLT, Int.reduceLE, Int.reduceGT, Int.reduceGE, List.map_append, mu109, List.contains_nil, List.contains_cons, Nat.reduceBEq, Bool.or_self, dlt_t, dlt_f, dle_t, dle_f, dgt_t, dgt_f, dge_t, dge_f, beq_t, beq_f, bne_t, bne_f, lt_T, le_T, nle_T, nle_F, ↓wrap_up, ↓wrap_down, ↓wrap_pred, ↓wrap_sub_nat, i64_in, i64_quo, rem_in, Int.reduceToNat, room_ok]
    exact ⟨_, rfl⟩
theorem cloneX (l : List (Int × Int)) (hl : l.length ≤ 1000000) : (((l.map spanAV).all fun y => decide (y.cells.length = 2) && y.cells.all AV.ok) = true ∧ roomFor (l.map spanAV).length 16 = true ∧ AV.plainL (l.map spanAV) = true) := by
  refine ⟨?_, room_ok (by rw [List.length_map]; omega) (by omega), plain_span l⟩
  rw [List.all_eq_true]
  intro x hx
  obtain ⟨i, _, rfl⟩ := List.mem_map.1 hx
  rfl
theorem f92 (l : List (Int × Int)) (hl : l.length ≤ 1000000) (b : MB) (H : List MB) : call Try.prog pol1 92 [.sl false (l.map spanAV)] (b :: H) = some (.sl false (l.map spanAV), b :: H) := by
  rw [call_eq]
  unfold evStep
  have hx : cloneExt 2 16 [.sl false (l.map spanAV)] (b :: H) = some (.sl false (l.map spanAV), b :: H) := by
    simp only [cloneExt, elemsOf]
    rw [if_pos (cloneX l hl)]
  rw [if_neg (show ¬ pol1.pure 92 = true by decide)]
  exact hx
theorem f92o (x : Int × Int) (l : List (Int × Int)) (hl : (x :: l).length ≤ 1000000) : call Try.prog pol1 92 [.sl false ((x :: l).map spanAV)] [] = some (.ms 0 2 (l.length + 1) 0 (l.length + 1), [.row 2 ((x :: l).map spanAV) 0]) := by
  rw [call_eq]
  unfold evStep
  have hx : cloneExt 2 16 [.sl false ((x :: l).map spanAV)] [] = some (.ms 0 2 (l.length + 1) 0 (l.length + 1), [.row 2 ((x :: l).map spanAV) 0]) := by
    simp only [cloneExt, elemsOf]
    rw [if_pos (cloneX (x :: l) hl)]
    simp
  rw [if_neg (show ¬ pol1.pure 92 = true by decide)]
  exact hx
/-- What codeOf's closures share. -/
abbrev cS (K : List MB) (C : List Ins) (n : Nat) : List MB := codeH C n (.row 1 [.clo 107 [.rf 0 1 0 0]] 0 :: .row 1 [.clo 111 [.rf 2 1 0 0, .rf 3 1 0 0, .rf 5 1 0 0, .rf 4 1 0 0]] 0 :: .row 1 [.clo 108 [.rf 3 1 0 0, .rf 2 1 0 0, .rf 0 1 0 0]] 0 :: .row 1 [.clo 110 [.rf 2 1 0 0, .rf 3 1 0 0, .rf 0 1 0 0]] 0 :: K)
def Does111 (r : Re) : Prop := ∀ (K : List MB) (C : List Ins) (n : Nat), C.length = n → n + lenG r ≤ 100000 → lenG r ≤ 8192 →
  call Try.prog pol1 111 [.pt (reC r), .rf 2 1 0 0, .rf 3 1 0 0, .rf 5 1 0 0, .rf 4 1 0 0] (cS K C n) = some (.tup [], cS K (C ++ codeG r n) (n + lenG r))
def Does108 (r : Re) : Prop := ∀ (K : List MB) (C : List Ins) (n : Nat), C.length = n → n + lenG r ≤ 100000 → lenG r ≤ 8192 →
  call Try.prog pol1 108 [.pt (reC r), .rf 3 1 0 0, .rf 2 1 0 0, .rf 0 1 0 0] (cS K C n) = some (.tup [], cS K (C ++ codeG r n) (n + lenG r))
def Does110 (l : List Re) : Prop := ∀ (K : List MB) (C : List Ins) (n : Nat), C.length = n → n + lenL l + 2 * (l.length - 1) ≤ 100000 → lenL l + 2 * (l.length - 1) ≤ 8192 →
  call Try.prog pol1 110 [.sl false (l.map reAV), .rf 2 1 0 0, .rf 3 1 0 0, .rf 0 1 0 0] (cS K C n) = some (.tup [], cS K (C ++ codeAlt l n) (n + lenL l + 2 * (l.length - 1)))

theorem f111_of (caps top : Int) (hcaps : caps ≤ 1000) : ∀ r : Re, r.wt ≤ 1000000 → GoodC caps top r → (∀ op set kids mn mx md n neg, r = .mk op set kids mn mx md n neg → (op = 4 → Does108 r) ∧ (op = 3 → Does110 kids) ∧ ∀ k ∈ kids, Does111 k) → Does111 r
  | .mk op set kids mn mx md n neg, hN, hw, hk => by
    obtain ⟨d108, d110, ih⟩ := hk _ _ _ _ _ _ _ _ rfl
    intro K C m hC hb hl
    have hkl := Re.wtL_len kids
    have hwt : 1 + set.length + Re.wtL kids = (Re.mk op set kids mn mx md n neg).wt := by simp [Re.wt]
    have hop := hw.op
    have hlen := codeG_len caps top _ m hw
    obtain ⟨hwk, hkd, hrp, hnn, ho1, ho2⟩ := whole_facts hw.whole
    have hgk := hw.kids
    have hrc : (.pt (reC (.mk op set kids mn mx md n neg)) : AV) = .pt (nodeL op set kids mn mx md n neg) := congrArg AV.pt reC_mk
    have fr : ∀ H, frzArgs pol1 111 0 [.pt (nodeL op set kids mn mx md n neg), .rf 2 1 0 0, .rf 3 1 0 0, .rf 5 1 0 0, .rf 4 1 0 0] H = some ([.pt (nodeL op set kids mn mx md n neg), .rf 2 1 0 0, .rf 3 1 0 0, .rf 5 1 0 0, .rf 4 1 0 0], H) := fun H =>
      frzArgs_mix _ _ _ (by simp [mixOk, show pol1.byref 111 1 = true from rfl, show pol1.byref 111 2 = true from rfl, show pol1.byref 111 3 = true from rfl, show pol1.byref 111 4 = true from rfl, AV.plain, AV.plainL, plain_span, plain_kids])
    have h107 := f107
    rw [hrc]
    refine call_run2 (pol := pol1) Try.func111 rfl rfl rfl rfl (fr _) ?_
    have rt : ∀ C' n', retPol pol1 111 (cS K C m) (.tup []) (cS K C' n') = some (.tup [], cS K C' n') := fun C' n' =>
      retPol_keep rfl rfl rfl (by have := @kept_code C C' m n' (cS K C m).length (.row 1 [.clo 107 [.rf 0 1 0 0]] 0 :: .row 1 [.clo 111 [.rf 2 1 0 0, .rf 3 1 0 0, .rf 5 1 0 0, .rf 4 1 0 0]] 0 :: .row 1 [.clo 108 [.rf 3 1 0 0, .rf 2 1 0 0, .rf 0 1 0 0]] 0 :: .row 1 [.clo 110 [.rf 2 1 0 0, .rf 3 1 0 0, .rf 0 1 0 0]] 0 :: K) [] (by simp); simpa using this) (by simp)
    rcases hop with rfl | rfl | rfl | rfl | rfl | rfl | rfl
    · have hk0 : kids = [] := List.length_eq_zero_iff.1 (by simpa [kidsG] using hkd)
      subst hk0
      have hc : codeG (.mk 0 set [] mn mx md n neg) m = [] := by rw [codeG]; rfl
      rw [← hlen, hc, List.append_nil]
      simp +contextual (disch := omega) only [Try.f111, dd111, ty0, ty3, ty4, ty23, ty24, ty26, ty100, ty104, ty169, ty170, ty172, go_sem, ↓reduceIte, List.reduceReplicate, Nat.reduceAdd, Nat.reduceSub, reduceCtorEq, Nat.reduceLeDiff, Nat.reduceMul, Nat.reduceLT, Nat.reduceEqDiff, Int.reduceBNe, Int.reduceBEq, Int.reduceEq, Int.reduceLT, Int.reduceLE, Int.reduceGT, Int.reduceGE, mu111, List.contains_nil, List.contains_cons, Nat.reduceBEq, Bool.or_self, dlt_t, dlt_f, dle_t, dle_f, dgt_t, dgt_f, dge_t, dge_f, beq_t, beq_f, bne_t, bne_f, lt_T, le_T, nle_T, nle_F, ↓wrap_up, ↓wrap_down, ↓wrap_pred, ↓wrap_sub_nat, i64_in, i64_quo, rem_in, Int.reduceToNat, room_ok]
      exact rt C m
    · have hc : codeG (.mk 1 set kids mn mx md n neg) m = [⟨1, 0, 0, 0, set⟩] := by rw [codeG]; rfl
      have h1 := fun R => f107 1 0 0 0 false set C m R hC (by omega)
      have h92 := f92 set (by omega)
      rw [← hlen, hc]
      simp +contextual (disch := omega) only [Try.f111, dd111, ty0, ty3, ty4, ty23, ty24, ty26, ty100, ty104, ty169, ty170, ty172, go_sem, ↓reduceIte, List.reduceReplicate, Nat.reduceAdd, Nat.reduceSub, reduceCtorEq, Nat.reduceLeDiff, Nat.reduceMul, Nat.reduceLT, Nat.reduceEqDiff, Int.reduceBNe, Int.reduceBEq, Int.reduceEq, Int.reduceLT, Int.reduceLE, Int.reduceGT, Int.reduceGE, mu111, List.contains_nil, List.contains_cons, Nat.reduceBEq, Bool.or_self, dlt_t, dlt_f, dle_t, dle_f, dgt_t, dgt_f, dge_t, dge_f, beq_t, beq_f, bne_t, bne_f, lt_T, le_T, nle_T, nle_F, ↓wrap_up, ↓wrap_down, ↓wrap_pred, ↓wrap_sub_nat, i64_in, i64_quo, rem_in, Int.reduceToNat, room_ok, h1, h92]
      repeat' (first | intro _ | apply And.intro | (unfold dOk; kernel_rfl) | exact St.beq_refl _ | (show altO _ _ _ _ = true; kernel_rfl) | (show (_ || _) = true; kernel_rfl) | (show (_ && _) = true; kernel_rfl))
      exact rt _ _
    · have hc : codeG (.mk 2 set kids mn mx md n neg) m = codeCat kids m := by rw [codeG]; rfl
      have hL : lenG (.mk 2 set kids mn mx md n neg) = lenL kids := by rw [lenG]; rfl
      rw [hL] at hl hb hlen ⊢
      rw [hc] at hlen ⊢
      simp +contextual (disch := omega) only [Try.f111, dd111, ty0, ty3, ty4, ty23, ty24, ty26, ty100, ty104, ty169, ty170, ty172, go_sem, ↓reduceIte, List.reduceReplicate, Nat.reduceAdd, Nat.reduceSub, reduceCtorEq, Nat.reduceLeDiff, Nat.reduceMul, Nat.reduceLT, Nat.reduceEqDiff, Int.reduceBNe, Int.reduceBEq, Int.reduceEq, Int.reduceLT, Int.reduceLE, Int.reduceGT, Int.reduceGE, mu111, List.contains_nil, List.contains_cons, Nat.reduceBEq, Bool.or_self, dlt_t, dlt_f, dle_t, dle_f, dgt_t, dgt_f, dge_t, dge_f, beq_t, beq_f, bne_t, bne_f, lt_T, le_T, nle_T, nle_F, ↓wrap_up, ↓wrap_down, ↓wrap_pred, ↓wrap_sub_nat, i64_in, i64_quo, rem_in, Int.reduceToNat, room_ok]
      refine W_count (M := (mskOf (pol1.mask 111) (pol1.gc 111) (pol1.acts 111) 0 7)) rfl kids.length (fun i => (⟨89, [(37, I i), (36, I kids.length), (2, .rf 3 1 0 0), (0, .pt (nodeL 2 set kids mn mx md n neg))], cS K (C ++ codeCat (kids.take i) m) (m + lenL (kids.take i))⟩ : St)) (fun _ => True) ?_ ?_ trivial _ ?_
      · intro i hi _
        obtain ⟨k, hk⟩ : ∃ k, kids[i]? = some k := ⟨_, List.getElem?_eq_getElem hi⟩
        have hkm := List.mem_of_getElem? hk
        have hl8 := reC_len k
        have ht8 := reC_take k
        have e1 := lenL_take hk
        have e2 := codeCat_take hk m
        have e4 := lenL_take_le kids (i + 1)
        have hck := codeCat_len caps top (kids.take i) m (fun k h => hgk k (List.mem_of_mem_take h))
        have h2 := ih k hkm K (C ++ codeCat (kids.take i) m) (m + lenL (kids.take i)) (by simp [hC, hck]) (by omega) (by omega)
        simp +contextual (disch := omega) only [Try.f111, dd111, ty0, ty3, ty4, ty23, ty24, ty26, ty100, ty104, ty169, ty170, ty172, go_sem, ↓reduceIte, List.reduceReplicate, Nat.reduceAdd, Nat.reduceSub, reduceCtorEq, Nat.reduceLeDiff, Nat.reduceMul, Nat.reduceLT, Nat.reduceEqDiff, Int.reduceBNe, Int.reduceBEq, Int.reduceEq, Int.reduceLT, Int.reduceLE, Int.reduceGT, Int.reduceGE, mu111, List.contains_nil, List.contains_cons, Nat.reduceBEq, Bool.or_self, dlt_t, dlt_f, dle_t, dle_f, dgt_t, dgt_f, dge_t, dge_f, beq_t, beq_f, bne_t, bne_f, lt_T, le_T, nle_T, nle_F, ↓wrap_up, ↓wrap_down, ↓wrap_pred, ↓wrap_sub_nat, i64_in, i64_quo, rem_in, Int.reduceToNat, room_ok, hk, h2, hl8, ht8]
        rw [e1, e2, ← List.append_assoc, ← Nat.add_assoc]
        repeat' (first | intro _ | apply And.intro | (unfold dOk; kernel_rfl) | exact St.beq_refl _ | (show altO _ _ _ _ = true; kernel_rfl) | (show (_ || _) = true; kernel_rfl) | (show (_ && _) = true; kernel_rfl))

        rfl
      · intro _
        rw [List.take_length]
        simp +contextual (disch := omega) only [Try.f111, dd111, ty0, ty3, ty4, ty23, ty24, ty26, ty100, ty104, ty169, ty170, ty172, go_sem, ↓reduceIte, List.reduceReplicate, Nat.reduceAdd, Nat.reduceSub, reduceCtorEq, Nat.reduceLeDiff, Nat.reduceMul, Nat.reduceLT, Nat.reduceEqDiff, Int.reduceBNe, Int.reduceBEq, Int.reduceEq, Int.reduceLT, Int.reduceLE, Int.reduceGT, Int.reduceGE, mu111, List.contains_nil, List.contains_cons, Nat.reduceBEq, Bool.or_self, dlt_t, dlt_f, dle_t, dle_f, dgt_t, dgt_f, dge_t, dge_f, beq_t, beq_f, bne_t, bne_f, lt_T, le_T, nle_T, nle_F, ↓wrap_up, ↓wrap_down, ↓wrap_pred, ↓wrap_sub_nat, i64_in, i64_quo, rem_in, Int.reduceToNat, room_ok]
        exact rt _ _
      · skip
        simp [codeCat, lenL]
        rfl
    · have hc : codeG (.mk 3 set kids mn mx md n neg) m = codeAlt kids m := by rw [codeG]; rfl
      have hL : lenG (.mk 3 set kids mn mx md n neg) = lenL kids + 2 * (kids.length - 1) := by rw [lenG, if_neg (by omega), if_pos rfl]
      rw [hL] at hl hb hlen ⊢
      rw [hc] at hlen ⊢
      have h1 := d110 rfl K C m hC (by omega) hl
      rw [Nat.add_assoc] at h1
      simp +contextual (disch := omega) only [Try.f111, dd111, ty0, ty3, ty4, ty23, ty24, ty26, ty100, ty104, ty169, ty170, ty172, go_sem, ↓reduceIte, List.reduceReplicate, Nat.reduceAdd, Nat.reduceSub, reduceCtorEq, Nat.reduceLeDiff, Nat.reduceMul, Nat.reduceLT, Nat.reduceEqDiff, Int.reduceBNe, Int.reduceBEq, Int.reduceEq, Int.reduceLT, Int.reduceLE, Int.reduceGT, Int.reduceGE, mu111, List.contains_nil, List.contains_cons, Nat.reduceBEq, Bool.or_self, dlt_t, dlt_f, dle_t, dle_f, dgt_t, dgt_f, dge_t, dge_f, beq_t, beq_f, bne_t, bne_f, lt_T, le_T, nle_T, nle_F, ↓wrap_up, ↓wrap_down, ↓wrap_pred, ↓wrap_sub_nat, i64_in, i64_quo, rem_in, Int.reduceToNat, room_ok, h1]
      repeat' (first | intro _ | apply And.intro | (unfold dOk; kernel_rfl) | exact St.beq_refl _ | (show altO _ _ _ _ = true; kernel_rfl) | (show (_ || _) = true; kernel_rfl) | (show (_ && _) = true; kernel_rfl))
      exact rt _ _
    · have h1 := d108 rfl K C m hC hb hl
      rw [hrc] at h1
      simp +contextual (disch := omega) only [Try.f111, dd111, ty0, ty3, ty4, ty23, ty24, ty26, ty100, ty104, ty169, ty170, ty172, go_sem, ↓reduceIte, List.reduceReplicate, Nat.reduceAdd, Nat.reduceSub, reduceCtorEq, Nat.reduceLeDiff, Nat.reduceMul, Nat.reduceLT, Nat.reduceEqDiff, Int.reduceBNe, Int.reduceBEq, Int.reduceEq, Int.reduceLT, Int.reduceLE, Int.reduceGT, Int.reduceGE, mu111, List.contains_nil, List.contains_cons, Nat.reduceBEq, Bool.or_self, dlt_t, dlt_f, dle_t, dle_f, dgt_t, dgt_f, dge_t, dge_f, beq_t, beq_f, bne_t, bne_f, lt_T, le_T, nle_T, nle_F, ↓wrap_up, ↓wrap_down, ↓wrap_pred, ↓wrap_sub_nat, i64_in, i64_quo, rem_in, Int.reduceToNat, room_ok, h1]
      repeat' (first | intro _ | apply And.intro | (unfold dOk; kernel_rfl) | exact St.beq_refl _ | (show altO _ _ _ _ = true; kernel_rfl) | (show (_ || _) = true; kernel_rfl) | (show (_ && _) = true; kernel_rfl))
      exact rt _ _
    · obtain ⟨k, rfl⟩ : ∃ k, kids = [k] := List.length_eq_one_iff.1 (by simpa [kidsG] using hkd)
      have hn1 := hnn (.inl rfl)
      have hc : codeG (.mk 5 set [k] mn mx md n neg) m = [⟨4, 0, 0, 2 * n - 2, []⟩] ++ codeG k (m + 1) ++ [⟨4, 0, 0, 2 * n - 1, []⟩] := by rw [codeG]; rfl
      have hL : lenG (.mk 5 set [k] mn mx md n neg) = 1 + lenG k + 1 := by
        rw [lenG, if_neg (by omega), if_neg (by omega), if_pos rfl]; simp [lenL]; omega
      rw [hL] at hlen hl hb ⊢
      have hl8 := reC_len k
      have ht8 := reC_take k
      have hk5 := codeG_len caps top k (m + 1) (hgk k (List.mem_singleton.2 rfl))
      have h1 := fun R => f107 4 0 0 (2 * n - 2) true [] C m R hC (by omega)
      have h2 := ih k (List.mem_singleton.2 rfl) K (C ++ [⟨4, 0, 0, 2 * n - 2, []⟩]) (m + 1) (by simp [hC]) (by omega) (by omega)
      have h3 := fun R => f107 4 0 0 (2 * n - 1) true [] (C ++ [⟨4, 0, 0, 2 * n - 2, []⟩] ++ codeG k (m + 1)) (m + 1 + lenG k) R (by simp [hC, hk5]; omega) (by omega)
      have ha : C ++ ([⟨4, 0, 0, 2 * n - 2, []⟩] ++ codeG k (m + 1) ++ [⟨4, 0, 0, 2 * n - 1, []⟩]) = C ++ [⟨4, 0, 0, 2 * n - 2, []⟩] ++ codeG k (m + 1) ++ [⟨4, 0, 0, 2 * n - 1, []⟩] := by simp
      have hm : m + (1 + lenG k + 1) = m + 1 + lenG k + 1 := by omega
      rw [hc, ha, hm]
      simp only [List.map_nil] at h1 h3
      generalize codeG k (m + 1) = B at *
      simp +contextual (disch := omega) only [Try.f111, dd111, ty0, ty3, ty4, ty23, ty24, ty26, ty100, ty104, ty169, ty170, ty172, go_sem, ↓reduceIte, List.reduceReplicate, Nat.reduceAdd, Nat.reduceSub, reduceCtorEq, Nat.reduceLeDiff, Nat.reduceMul, Nat.reduceLT, Nat.reduceEqDiff, Int.reduceBNe, Int.reduceBEq, Int.reduceEq, Int.reduceLT, Int.reduceLE, Int.reduceGT, Int.reduceGE, mu111, List.contains_nil, List.contains_cons, Nat.reduceBEq, Bool.or_self, dlt_t, dlt_f, dle_t, dle_f, dgt_t, dgt_f, dge_t, dge_f, beq_t, beq_f, bne_t, bne_f, lt_T, le_T, nle_T, nle_F, ↓wrap_up, ↓wrap_down, ↓wrap_pred, ↓wrap_sub_nat, i64_in, i64_quo, rem_in, Int.reduceToNat, room_ok, h1, h2, h3, hl8, ht8]
      repeat' (first | intro _ | apply And.intro | (unfold dOk; kernel_rfl) | exact St.beq_refl _ | (show altO _ _ _ _ = true; kernel_rfl) | (show (_ || _) = true; kernel_rfl) | (show (_ && _) = true; kernel_rfl))
      exact rt _ _
    · have hc : codeG (.mk 11 set kids mn mx md n neg) m = [⟨5, 0, 0, n, []⟩] := by rw [codeG]; rfl
      have h1 := fun R => f107 5 0 0 n true [] C m R hC (by omega)
      simp only [List.map_nil] at h1
      rw [← hlen, hc]
      simp +contextual (disch := omega) only [Try.f111, dd111, ty0, ty3, ty4, ty23, ty24, ty26, ty100, ty104, ty169, ty170, ty172, go_sem, ↓reduceIte, List.reduceReplicate, Nat.reduceAdd, Nat.reduceSub, reduceCtorEq, Nat.reduceLeDiff, Nat.reduceMul, Nat.reduceLT, Nat.reduceEqDiff, Int.reduceBNe, Int.reduceBEq, Int.reduceEq, Int.reduceLT, Int.reduceLE, Int.reduceGT, Int.reduceGE, mu111, List.contains_nil, List.contains_cons, Nat.reduceBEq, Bool.or_self, dlt_t, dlt_f, dle_t, dle_f, dgt_t, dgt_f, dge_t, dge_f, beq_t, beq_f, bne_t, bne_f, lt_T, le_T, nle_T, nle_F, ↓wrap_up, ↓wrap_down, ↓wrap_pred, ↓wrap_sub_nat, i64_in, i64_quo, rem_in, Int.reduceToNat, room_ok, h1]
      repeat' (first | intro _ | apply And.intro | (unfold dOk; kernel_rfl) | exact St.beq_refl _ | (show altO _ _ _ _ = true; kernel_rfl) | (show (_ || _) = true; kernel_rfl) | (show (_ && _) = true; kernel_rfl))
      exact rt _ _
end
section
attribute [local go_sem] evAppend List.map_append
open Go.Proofs Go.RowKit Go.IntWalk
set_option maxRecDepth 100000
set_option linter.unusedSimpArgs false
set_option linter.unusedVariables false
set_option maxHeartbeats 8000000

theorem f96m (S : List AV) (O : List (Int × Int)) (m : Nat) (hm : O.length = m) (hl : m ≤ 64) :
    call Try.prog pol1 96 [.ms 1 2 m 0 m] [.row 2 S 0, .row 2 (O.map spanAV) 0] = some (.tup [.sl false (O.map spanAV), I 0], [.row 2 S 0, .row 2 (O.map spanAV) m]) := by
  rw [call_frz (l := [.sl false (O.map spanAV)]) (H1 := [.row 2 S 0, .row 2 (O.map spanAV) m]) rfl ?_ (by simp [AV.plainL, AV.plain, plain_span])]
  · exact f96 O (by omega) _
  · have hby : pol1.byref 96 0 = false := rfl
    have hz := fz_row (id := 1) (k := 2) (tot := m) (z := 0) (H := [.row 2 S 0, .row 2 (O.map spanAV) 0]) (els := O.map spanAV) rfl (by rw [List.length_map]; exact hm) (plain_span O)
    simp only [frzArgs, hby, Bool.false_eq_true, if_false, hz]
    simp [mark, getRow]

theorem f42e (H : List MB) : call Try.prog pol1 42 [.sl false []] H = some (.tup [.sl false [], I 0], H) := by
  refine call_run Try.func42 rfl rfl rfl rfl rfl rfl (fun _ => rfl) rfl rfl ?_ H
  have h93 := f93e
  have h92 : call Try.prog pol1 92 [.sl false []] [] = some (.sl false [], []) := by
    rw [call_eq]
    rfl
  have h96 : call Try.prog pol1 96 [.ms 0 2 0 0 0] [.row 2 [] 0] = some (.tup [.sl false [], I 0], [.row 2 [] 0]) := call_of_evF (n := 2) 3 96 _ _ _ (by kernel_rfl)
  simp +contextual (disch := omega) only [Try.f42, dd42, ty0, ty3, ty4, ty23, ty36, ty86, ty87, go_sem, ↓reduceIte, List.reduceReplicate, Nat.reduceAdd, Nat.reduceSub, reduceCtorEq, Nat.reduceLeDiff, Nat.reduceMul, Nat.reduceLT, Nat.reduceEqDiff, Int.reduceBNe, Int.reduceBEq, Int.reduceEq, Int.reduceLT, Int.reduceLE, Int.reduceGT, Int.reduceGE, mu42, List.contains_nil, List.contains_cons, Nat.reduceBEq, Bool.or_self, dlt_t, dlt_f, dle_t, dle_f, dgt_t, dgt_f, dge_t, dge_f, beq_t, beq_f, bne_t, bne_f, lt_T, le_T, nle_T, nle_F, ↓wrap_up, ↓wrap_down, ↓wrap_pred, ↓wrap_sub_nat, i64_in, i64_quo, rem_in, Int.reduceToNat, room_ok]
  refine W_for (σ := Unit) (M := (mskOf (pol1.mask 42) (pol1.gc 42) (pol1.acts 42) 0 2)) rfl (fun _ => (⟨38, [(12, I 0), (11, I 0), (10, .sl false []), (0, .sl false [])], []⟩ : St)) (fun _ => True) (fun _ => 0) () ?_ trivial _ (by first | rfl | (refine prep_cut rfl (by rfl) (by rfl) (by rfl) ?_ ?_ <;> simp [AV.underL, AV.under, MB.under, underL_plain, under_plain, plain_ints, plain_span, plain_ins, plain_prg, -List.map_take]))
  rintro ⟨⟩ _
  simp +contextual (disch := omega) only [Try.f42, dd42, ty0, ty3, ty4, ty23, ty36, ty86, ty87, go_sem, ↓reduceIte, List.reduceReplicate, Nat.reduceAdd, Nat.reduceSub, reduceCtorEq, Nat.reduceLeDiff, Nat.reduceMul, Nat.reduceLT, Nat.reduceEqDiff, Int.reduceBNe, Int.reduceBEq, Int.reduceEq, Int.reduceLT, Int.reduceLE, Int.reduceGT, Int.reduceGE, mu42, List.contains_nil, List.contains_cons, Nat.reduceBEq, Bool.or_self, dlt_t, dlt_f, dle_t, dle_f, dgt_t, dgt_f, dge_t, dge_f, beq_t, beq_f, bne_t, bne_f, lt_T, le_T, nle_T, nle_F, ↓wrap_up, ↓wrap_down, ↓wrap_pred, ↓wrap_sub_nat, i64_in, i64_quo, rem_in, Int.reduceToNat, room_ok, h92, h93]
  refine W_for (σ := Unit) (M := (mskOf (pol1.mask 42) (pol1.gc 42) (pol1.acts 42) 0 11)) rfl (fun _ => (⟨38, [(26, I 0), (25, I 0), (24, .sl false []), (7, .ms 0 2 0 0 0)], [.row 2 [] 0]⟩ : St)) (fun _ => True) (fun _ => 0) () ?_ trivial _ (by first | rfl | (refine prep_to (n := 2) (m := ⟨some [26, 25, 24, 7], some 2, []⟩) rfl rfl ?_ ?_ ?_ <;> first | rfl | (simp [keepT, AV.underL, AV.under, MB.under, underL_plain, under_plain, underL_append, plain_ints, plain_span, plain_ins, plain_prg, -List.map_take, -List.map_replicate, -List.map_set]; done) | (simp [keepT, AV.underL, AV.under, MB.under, underL_plain, under_plain, underL_append, plain_ints, plain_span, plain_ins, plain_prg, -List.map_take, -List.map_replicate, -List.map_set]; omega)))
  rintro ⟨⟩ _
  simp +contextual (disch := omega) only [Try.f42, dd42, ty0, ty3, ty4, ty23, ty36, ty86, ty87, go_sem, ↓reduceIte, List.reduceReplicate, Nat.reduceAdd, Nat.reduceSub, reduceCtorEq, Nat.reduceLeDiff, Nat.reduceMul, Nat.reduceLT, Nat.reduceEqDiff, Int.reduceBNe, Int.reduceBEq, Int.reduceEq, Int.reduceLT, Int.reduceLE, Int.reduceGT, Int.reduceGE, mu42, List.contains_nil, List.contains_cons, Nat.reduceBEq, Bool.or_self, dlt_t, dlt_f, dle_t, dle_f, dgt_t, dgt_f, dge_t, dge_f, beq_t, beq_f, bne_t, bne_f, lt_T, le_T, nle_T, nle_F, ↓wrap_up, ↓wrap_down, ↓wrap_pred, ↓wrap_sub_nat, i64_in, i64_quo, rem_in, Int.reduceToNat, room_ok, h96]
  exact fzEq rfl rfl

theorem f42 (l : List (Int × Int)) (hl : l.length ≤ 6) (hg : ∀ p ∈ l, goodS p) :
    ∃ L : List (Int × Int), (L.Perm l ∧ L.Pairwise fun p q => p.1 ≤ q.1) ∧ ∀ H, call Try.prog pol1 42 [.sl false (l.map spanAV)] H = some (.tup [.sl false ((addAll L).map spanAV), I 0], H) := by
  rcases l with _ | ⟨x, xs⟩
  · exact ⟨[], ⟨.nil, .nil⟩, f42e⟩
  obtain ⟨L, hL, h93⟩ := f93 (x :: xs) hl hg
  refine ⟨L, hL, fun H => ?_⟩
  have h92 := f92o x xs (by omega)
  have h91 := f91
  refine call_run Try.func42 rfl rfl rfl rfl rfl rfl (fun _ => rfl) (by simp [AV.plain, AV.plainL, plain_span]) (by simp [AV.plain, AV.plainL, plain_span]) ?_ H
  generalize hll : x :: xs = l at *
  have hln : l.length = xs.length + 1 := by rw [← hll]; rfl
  rw [hln] at h93
  rw [← hln] at h92 h93
  generalize hn : l.length = n at *
  have hLn : L.length = n := by rw [hL.1.length_eq, hn]
  simp +contextual (disch := omega) only [Try.f42, dd42, ty0, ty3, ty4, ty23, ty36, ty86, ty87, go_sem, ↓reduceIte, List.reduceReplicate, Nat.reduceAdd, Nat.reduceSub, reduceCtorEq, Nat.reduceLeDiff, Nat.reduceMul, Nat.reduceLT, Nat.reduceEqDiff, Int.reduceBNe, Int.reduceBEq, Int.reduceEq, Int.reduceLT, Int.reduceLE, Int.reduceGT, Int.reduceGE, mu42, List.contains_nil, List.contains_cons, Nat.reduceBEq, Bool.or_self, dlt_t, dlt_f, dle_t, dle_f, dgt_t, dgt_f, dge_t, dge_f, beq_t, beq_f, bne_t, bne_f, lt_T, le_T, nle_T, nle_F, ↓wrap_up, ↓wrap_down, ↓wrap_pred, ↓wrap_sub_nat, i64_in, i64_quo, rem_in, Int.reduceToNat, room_ok, hn]
  refine W_count (M := (mskOf (pol1.mask 42) (pol1.gc 42) (pol1.acts 42) 0 2)) rfl n (fun i => (⟨38, [(12, I i), (11, I n), (10, .sl false (l.map spanAV)), (0, .sl false (l.map spanAV))], []⟩ : St)) (fun _ => True) ?_ ?_ trivial _ (by first | rfl | (refine prep_cut rfl (by rfl) (by rfl) (by rfl) ?_ ?_ <;> simp [AV.underL, AV.under, MB.under, underL_plain, under_plain, plain_ints, plain_span, plain_ins, plain_prg, -List.map_take]))
  · intro i hi _
    obtain ⟨p, hp⟩ : ∃ p, l[i]? = some p := ⟨_, List.getElem?_eq_getElem (by omega)⟩
    have hgp := hg p (List.mem_of_getElem? hp)
    unfold goodS at hgp
    simp +contextual (disch := omega) only [Try.f42, dd42, ty0, ty3, ty4, ty23, ty36, ty86, ty87, go_sem, ↓reduceIte, List.reduceReplicate, Nat.reduceAdd, Nat.reduceSub, reduceCtorEq, Nat.reduceLeDiff, Nat.reduceMul, Nat.reduceLT, Nat.reduceEqDiff, Int.reduceBNe, Int.reduceBEq, Int.reduceEq, Int.reduceLT, Int.reduceLE, Int.reduceGT, Int.reduceGE, mu42, List.contains_nil, List.contains_cons, Nat.reduceBEq, Bool.or_self, dlt_t, dlt_f, dle_t, dle_f, dgt_t, dgt_f, dge_t, dge_f, beq_t, beq_f, bne_t, bne_f, lt_T, le_T, nle_T, nle_F, ↓wrap_up, ↓wrap_down, ↓wrap_pred, ↓wrap_sub_nat, i64_in, i64_quo, rem_in, Int.reduceToNat, room_ok, hp, h91, hgp, spanAV]
    exact (by first | rfl | (refine prep_to (n := 0) (m := ⟨some [12, 11, 10, 0], some 0, []⟩) rfl rfl ?_ ?_ ?_ <;> first | rfl | (simp [keepT, AV.underL, AV.under, MB.under, underL_plain, under_plain, underL_append, plain_ints, plain_span, plain_ins, plain_prg, -List.map_take, -List.map_replicate, -List.map_set]; done) | (simp [keepT, AV.underL, AV.under, MB.under, underL_plain, under_plain, underL_append, plain_ints, plain_span, plain_ins, plain_prg, -List.map_take, -List.map_replicate, -List.map_set]; omega)))
  · intro _
    simp +contextual (disch := omega) only [Try.f42, dd42, ty0, ty3, ty4, ty23, ty36, ty86, ty87, go_sem, ↓reduceIte, List.reduceReplicate, Nat.reduceAdd, Nat.reduceSub, reduceCtorEq, Nat.reduceLeDiff, Nat.reduceMul, Nat.reduceLT, Nat.reduceEqDiff, Int.reduceBNe, Int.reduceBEq, Int.reduceEq, Int.reduceLT, Int.reduceLE, Int.reduceGT, Int.reduceGE, mu42, List.contains_nil, List.contains_cons, Nat.reduceBEq, Bool.or_self, dlt_t, dlt_f, dle_t, dle_f, dgt_t, dgt_f, dge_t, dge_f, beq_t, beq_f, bne_t, bne_f, lt_T, le_T, nle_T, nle_F, ↓wrap_up, ↓wrap_down, ↓wrap_pred, ↓wrap_sub_nat, i64_in, i64_quo, rem_in, Int.reduceToNat, room_ok, h92, h93]
    have hok : ∀ i, i ≤ n → SetOk (L.take i) (addAll (L.take i)) := fun i hi =>
      addAll_ok (hL.2.sublist (List.take_sublist i L)) (fun p hp => hg p (hL.1.mem_iff.1 (List.mem_of_mem_take hp)))
    refine W_count (M := (mskOf (pol1.mask 42) (pol1.gc 42) (pol1.acts 42) 0 11)) rfl n (fun i => (⟨38, [(26, I i), (25, I n), (24, .ms 0 2 n 0 n), (7, .ms 1 2 (addAll (L.take i)).length 0 (addAll (L.take i)).length)], [.row 2 (L.map spanAV) 0, .row 2 ((addAll (L.take i)).map spanAV) 0]⟩ : St)) (fun _ => True) ?_ ?_ trivial _ ?_
    · intro i hi _
      obtain ⟨p, hp⟩ : ∃ p, L[i]? = some p := ⟨_, List.getElem?_eq_getElem (by omega)⟩
      have hgp := hg p (hL.1.mem_iff.1 (List.mem_of_getElem? hp))
      have h1 := hok i (by omega)
      have h2 := h1.len
      simp only [List.length_take] at h2
      have h95 := fun A C => f95 (addAll (L.take i)) p (by omega) h1.good hgp A C _ rfl
      rw [addAll_take hp]
      generalize addAll (L.take i) = O at *
      generalize O.length = m at *
      simp +contextual (disch := omega) only [Try.f42, dd42, ty0, ty3, ty4, ty23, ty36, ty86, ty87, go_sem, ↓reduceIte, List.reduceReplicate, Nat.reduceAdd, Nat.reduceSub, reduceCtorEq, Nat.reduceLeDiff, Nat.reduceMul, Nat.reduceLT, Nat.reduceEqDiff, Int.reduceBNe, Int.reduceBEq, Int.reduceEq, Int.reduceLT, Int.reduceLE, Int.reduceGT, Int.reduceGE, mu42, List.contains_nil, List.contains_cons, Nat.reduceBEq, Bool.or_self, dlt_t, dlt_f, dle_t, dle_f, dgt_t, dgt_f, dge_t, dge_f, beq_t, beq_f, bne_t, bne_f, lt_T, le_T, nle_T, nle_F, ↓wrap_up, ↓wrap_down, ↓wrap_pred, ↓wrap_sub_nat, i64_in, i64_quo, rem_in, Int.reduceToNat, room_ok, hp, h95, hLn, spanAV]
      exact (by first | rfl | (refine prep_to (n := 2) (m := ⟨some [26, 25, 24, 7], some 2, []⟩) rfl rfl ?_ ?_ ?_ <;> first | rfl | (simp [keepT, AV.underL, AV.under, MB.under, underL_plain, under_plain, underL_append, plain_ints, plain_span, plain_ins, plain_prg, -List.map_take, -List.map_replicate, -List.map_set]; done) | (simp [keepT, AV.underL, AV.under, MB.under, underL_plain, under_plain, underL_append, plain_ints, plain_span, plain_ins, plain_prg, -List.map_take, -List.map_replicate, -List.map_set]; omega)))
    · intro _
      rw [List.take_of_length_le (by omega)]
      have h1 := (hok n (Nat.le_refl _)).len
      rw [List.take_of_length_le (by omega)] at h1
      have h96 := f96m (L.map spanAV) (addAll L) _ rfl (by omega)
      simp +contextual (disch := omega) only [Try.f42, dd42, ty0, ty3, ty4, ty23, ty36, ty86, ty87, go_sem, ↓reduceIte, List.reduceReplicate, Nat.reduceAdd, Nat.reduceSub, reduceCtorEq, Nat.reduceLeDiff, Nat.reduceMul, Nat.reduceLT, Nat.reduceEqDiff, Int.reduceBNe, Int.reduceBEq, Int.reduceEq, Int.reduceLT, Int.reduceLE, Int.reduceGT, Int.reduceGE, mu42, List.contains_nil, List.contains_cons, Nat.reduceBEq, Bool.or_self, dlt_t, dlt_f, dle_t, dle_f, dgt_t, dgt_f, dge_t, dge_f, beq_t, beq_f, bne_t, bne_f, lt_T, le_T, nle_T, nle_F, ↓wrap_up, ↓wrap_down, ↓wrap_pred, ↓wrap_sub_nat, i64_in, i64_quo, rem_in, Int.reduceToNat, room_ok, h96]
      exact fzEq (by simp [AV.plain, AV.plainL, plain_span]) rfl
    · exact (by first | rfl | (refine prep_to (n := 2) (m := ⟨some [26, 25, 24, 7], some 2, []⟩) rfl rfl ?_ ?_ ?_ <;> first | rfl | (simp [keepT, AV.underL, AV.under, MB.under, underL_plain, under_plain, underL_append, plain_ints, plain_span, plain_ins, plain_prg, -List.map_take, -List.map_replicate, -List.map_set]; done) | (simp [keepT, AV.underL, AV.under, MB.under, underL_plain, under_plain, underL_append, plain_ints, plain_span, plain_ins, plain_prg, -List.map_take, -List.map_replicate, -List.map_set]; omega)))
end
section
attribute [local go_sem] evAppend List.map_append
open Go.Proofs Go.RowKit Go.IntWalk
set_option maxRecDepth 100000
set_option linter.unusedSimpArgs false
set_option linter.unusedVariables false
set_option maxHeartbeats 8000000

theorem fzs_set (C : List Ins) (a b c d : Int) (t : Bool) : ∀ (i : Nat) (H : List MB), fzs ((C.map insAV).set i (.agg [I a, I b, I c, I d, .sl t []])) H = some ((C.set i ⟨a, b, c, d, []⟩).map insAV, H) := by
  have key : ∀ (C : List Ins) (i : Nat), KeepL (fzJ 6) ((C.map insAV).set i (.agg [I a, I b, I c, I d, .sl t []])) ((C.set i ⟨a, b, c, d, []⟩).map insAV) := by
    intro C
    induction C with
    | nil => intro i; exact .nil
    | cons x C ih =>
      intro i
      cases i with
      | zero => exact .cons (fun H => rfl) (keep_ins C)
      | succ i => exact .cons (fun H => fzA_plain _ _ H (by simp [AV.plain, AV.plainL, plain_span])) (ih i)
  intro i H
  exact (key C i).fz H

/-- The code of alternatives, the first j of its jumps made out. -/
def altM (e : Int) : List Re → Nat → Nat → List Ins
  | [], _, _ => []
  | k :: ks, f, j => if ks.length = 0 then codeG k f else ⟨2, (f + 1 : Nat), (f + lenG k + 2 : Nat), 0, []⟩ :: (codeG k (f + 1) ++ (⟨3, if 0 < j then e else 0, 0, 0, []⟩ :: altM e ks (f + lenG k + 2) (j - 1)))
/-- The first i of them, no jump made out. -/
def altP : List Re → Nat → Nat → List Ins
  | k :: ks, f, i + 1 => ⟨2, (f + 1 : Nat), (f + lenG k + 2 : Nat), 0, []⟩ :: (codeG k (f + 1) ++ (⟨3, 0, 0, 0, []⟩ :: altP ks (f + lenG k + 2) i))
  | _, _, _ => []
/-- Where the jumps are. -/
def jumpsP : List Re → Nat → Nat → List Nat
  | k :: ks, f, i + 1 => (f + 1 + lenG k) :: jumpsP ks (f + lenG k + 2) i
  | _, _, _ => []
theorem altP_zero (l : List Re) (f : Nat) : altP l f 0 = [] := by cases l <;> rfl
theorem jumpsP_zero (l : List Re) (f : Nat) : jumpsP l f 0 = [] := by cases l <;> rfl
theorem altP_succ : ∀ (l : List Re) (f i : Nat) (k : Re), l[i]? = some k → altP l f (i + 1) = altP l f i ++ (⟨2, (f + lenL (l.take i) + 2 * i + 1 : Nat), (f + lenL (l.take i) + 2 * i + lenG k + 2 : Nat), 0, []⟩ :: (codeG k (f + lenL (l.take i) + 2 * i + 1) ++ [⟨3, 0, 0, 0, []⟩]))
  | [], _, i, _, h => by cases h
  | q :: ks, f, 0, k, h => by
    simp only [List.getElem?_cons_zero, Option.some.injEq] at h
    subst h
    simp [altP, altP_zero, lenL]
  | q :: ks, f, i + 1, k, h => by
    rw [List.getElem?_cons_succ] at h
    have ih := altP_succ ks (f + lenG q + 2) i k h
    have e1 : f + lenG q + 2 + lenL (ks.take i) + 2 * i = f + lenL ((q :: ks).take (i + 1)) + 2 * (i + 1) := by rw [List.take_succ_cons, lenL]; omega
    rw [e1] at ih
    rw [altP, ih]
    conv => rhs; rw [altP]
    simp
theorem jumpsP_succ : ∀ (l : List Re) (f i : Nat) (k : Re), l[i]? = some k → jumpsP l f (i + 1) = jumpsP l f i ++ [f + lenL (l.take i) + 2 * i + 1 + lenG k]
  | [], _, i, _, h => by cases h
  | q :: ks, f, 0, k, h => by
    simp only [List.getElem?_cons_zero, Option.some.injEq] at h
    subst h
    simp [jumpsP, jumpsP_zero, lenL]
  | q :: ks, f, i + 1, k, h => by
    rw [List.getElem?_cons_succ] at h
    have ih := jumpsP_succ ks (f + lenG q + 2) i k h
    have e1 : f + lenG q + 2 + lenL (ks.take i) + 2 * i = f + lenL ((q :: ks).take (i + 1)) + 2 * (i + 1) := by rw [List.take_succ_cons, lenL]; omega
    rw [e1] at ih
    rw [jumpsP, ih]
    conv => rhs; rw [jumpsP]
    simp
theorem jumpsP_len : ∀ (l : List Re) (f i : Nat), i ≤ l.length → (jumpsP l f i).length = i
  | [], _, i, h => by
    have : i = 0 := by simpa using h
    subst this; rfl
  | q :: ks, f, 0, h => rfl
  | q :: ks, f, i + 1, h => by simp [jumpsP, jumpsP_len ks _ i (by simpa using h)]
theorem altP_len (caps top : Int) : ∀ (l : List Re) (f i : Nat), (∀ k ∈ l, GoodC caps top k) → i ≤ l.length → (altP l f i).length = lenL (l.take i) + 2 * i
  | [], _, i, _, h => by
    have : i = 0 := by simpa using h
    subst this; rfl
  | q :: ks, f, 0, hg, h => rfl
  | q :: ks, f, i + 1, hg, h => by
    simp only [altP, List.length_cons, List.length_append, altP_len caps top ks _ i (fun k h => hg k (List.mem_cons_of_mem _ h)) (by simpa using h), codeG_len caps top q _ (hg q (List.mem_cons_self ..)), List.take_succ_cons, lenL]
    omega
/-- The last one, behind the others. -/
theorem altM_zero (e : Int) : ∀ (l : List Re) (f : Nat) (k : Re), l[l.length - 1]? = some k → altM e l f 0 = altP l f (l.length - 1) ++ codeG k (f + lenL (l.take (l.length - 1)) + 2 * (l.length - 1))
  | [], _, _, h => by cases h
  | [q], f, k, h => by
    simp at h
    subst h
    simp [altM, altP_zero, lenL]
  | q :: q2 :: ks, f, k, h => by
    have h2 : (q2 :: ks)[(q2 :: ks).length - 1]? = some k := by simpa using h
    have ih := altM_zero e (q2 :: ks) (f + lenG q + 2) k h2
    have e0 : (q :: q2 :: ks).length - 1 = ((q2 :: ks).length - 1) + 1 := by simp
    have e1 : f + lenG q + 2 + lenL ((q2 :: ks).take ((q2 :: ks).length - 1)) + 2 * ((q2 :: ks).length - 1) = f + lenL ((q :: q2 :: ks).take ((q :: q2 :: ks).length - 1)) + 2 * ((q :: q2 :: ks).length - 1) := by
      rw [e0, List.take_succ_cons, lenL]; omega
    rw [e1] at ih
    rw [altM, if_neg (by simp), ih, e0, altP]
    simp
/-- All of them made out: the code. -/
theorem altM_all (e : Int) : ∀ (l : List Re) (f j : Nat), l.length ≤ j + 1 → e = (f + lenL l + 2 * (l.length - 1) : Nat) → altM e l f j = codeAlt l f
  | [], _, _, _, _ => rfl
  | k :: ks, f, j, h, he => by
    rw [altM, codeAlt]
    split
    · rfl
    · rename_i h0
      have hj : 0 < j := by simp at h; omega
      have e2 : e = (f + lenG k + 2 + lenL ks + 2 * (ks.length - 1) : Nat) := by rw [he, lenL]; simp only [List.length_cons]; omega
      have e3 : e = (f + lenL (k :: ks) + 2 * ks.length : Nat) := by rw [he]; simp only [List.length_cons]; omega
      rw [if_pos hj, altM_all e ks (f + lenG k + 2) (j - 1) (by simp at h; omega) e2, ← e3]
/-- One more. -/
theorem altM_set (caps top e : Int) : ∀ (l : List Re) (f j p : Nat), (∀ k ∈ l, GoodC caps top k) → (jumpsP l f (l.length - 1))[j]? = some p → f ≤ p ∧ (altM e l f j)[p - f]? = some ⟨3, 0, 0, 0, []⟩ ∧ (altM e l f j).set (p - f) ⟨3, e, 0, 0, []⟩ = altM e l f (j + 1)
  | [], _, _, _, _, h => by cases h
  | [q], f, j, p, _, h => by simp [jumpsP] at h
  | q :: q2 :: ks, f, j, p, hg, h => by
    have hq := codeG_len caps top q (f + 1) (hg q (List.mem_cons_self ..))
    rw [show (q :: q2 :: ks).length - 1 = ((q2 :: ks).length - 1) + 1 by simp, jumpsP] at h
    cases j with
    | zero =>
      simp only [List.getElem?_cons_zero, Option.some.injEq] at h
      subst h
      have hp : f + 1 + lenG q - f = (codeG q (f + 1)).length + 1 := by omega
      refine ⟨by omega, ?_, ?_⟩
      · rw [altM, if_neg (by simp), hp, List.getElem?_cons_succ, List.getElem?_append_right (Nat.le_refl _), Nat.sub_self]; rfl
      · rw [altM, if_neg (by simp), hp, List.set_cons_succ, List.set_append_right _ _ (Nat.le_refl _), Nat.sub_self]
        conv => rhs; rw [altM, if_neg (by simp)]
        rfl
    | succ j =>
      rw [List.getElem?_cons_succ] at h
      obtain ⟨h1, h2, h3⟩ := altM_set caps top e (q2 :: ks) (f + lenG q + 2) j p (fun k h => hg k (List.mem_cons_of_mem _ h)) h
      have hp : p - f = (codeG q (f + 1)).length + ((p - (f + lenG q + 2)) + 1) + 1 := by omega
      refine ⟨by omega, ?_, ?_⟩
      · rw [altM, if_neg (by simp), hp, List.getElem?_cons_succ, List.getElem?_append_right (by omega), Nat.add_sub_cancel_left, List.getElem?_cons_succ]
        exact h2
      · rw [altM, if_neg (by simp), hp, List.set_cons_succ, List.set_append_right _ _ (by omega), Nat.add_sub_cancel_left, List.set_cons_succ]
        conv => rhs; rw [altM, if_neg (by simp)]
        rw [show j + 1 - 1 = j from rfl, show j + 1 + 1 - 1 = j + 1 from rfl, h3]
        simp
end
end Go.Ev
