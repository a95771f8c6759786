/- Functions of the program, each with what it computes; no further conditions. -/
import Derived.Test.YtpbobopcmhpbbaaM05
import Derived.Test.YtpbobopcmhpbbaaM20
import Derived.Test.YtpbobopcmhpbbaaM15
import Derived.Test.YtpbobopcmhpbbaaM19
import Derived.Test.YtpbobopcmhpbbaaM14
import Derived.Test.YtpbobopcmhpbbaaM16
set_option linter.unusedVariables false
set_option linter.unusedSimpArgs false
namespace Go.Ev
attribute [local go_sem] eq_self bindW_some bindW_map bindW_ite bindW_iteN W_seq W_region W_draw W_cond W_condK W_ret W_skip W_exit W_scope W_label W_block blockK_norm blockK_ret blockK_exit WO_nil WO_cons WO_guard WD_nil WD_cons WD_guard guardV guardW_boolT guardW_boolF guardW_tup fpL_some fpL_none footprint thenK_norm thenK_ret thenK_exit put_some put_none ev_tmp ev_con ev_func ofK_int ofK_bool ofK_str ofK_nil evOp evBuiltin evCall evLen getElem_16 getElem_4 List.length_cons List.length_nil List.cons_append List.nil_append List.append_nil if_false if_true Bool.false_eq_true Bool.true_eq_false Option.map_some Option.map_none List.map_cons List.map_nil evBinOp evUn asB_bool splitB_decide splitB_true splitB_false splitB_beq splitB_bne splitB_not endK_ret endK_norm List.getElem?_cons_zero List.getElem?_cons_succ evResults evResult packRes retK_norm retK_ret cellsAt mkVal evFieldAddr evField evIndexAddr evPart evStore evBuild evBuildSlice fillC fillE evSlice evMakeSlice evConvert getRow AV.cells List.head?_cons List.drop_zero List.drop_succ_cons List.take_zero List.take_succ_cons List.drop_nil List.take_nil List.all_cons List.all_nil AV.ok Bool.and_self Bool.and_true Bool.true_and and_self and_true true_and Nat.zero_add Nat.add_zero setCells splice pairsOk pairsX altW_none altW_some cfg_al WI_nil WI_cons FP.apart heapEq_refl sameAt_refl Bool.or_true Bool.true_or Bool.or_false srcElems elemsOf mutDst roundK_norm roundK_exit roundK_ret List.length_map List.getElem?_map Int.toNat_natCast decide_true decide_false Bool.not_true Bool.not_false List.set set_0 set_1 set_2 set_3 set_4 look_hit look lookD_hit lookD_cons lookD_nil ins_hit ins upd_hit upd rem1_hit rem1 dropT dropSt_eq initT cfg_dd cfg_bd cfg_ra actL_nil actL_cons act1 updT_hit updT frzB retE_norm retE_ret bndO bnd evEq eqCells not_false_eq_true not_true_eq_false toList_some Array.size_empty List.length_append tySzE List.head?_drop Nat.mul_one sameAt_zero sameAt_two sameAt_three sameAt_four sameAt_five endE_norm endE_ret head_take1
section
attribute [local go_sem] evAppend List.map_append
open Go.Proofs Go.RowKit Go.IntWalk
set_option maxRecDepth 100000
set_option linter.unusedSimpArgs false
set_option linter.unusedVariables false
set_option maxHeartbeats 8000000

theorem sameAt_l2 (b0 x x' a a' b : MB) (K : List MB) : sameAt (K.length + 1 + 1 + 1) (b0 :: x :: (K ++ [a] ++ [b])) (b0 :: x' :: (K ++ [a'] ++ [b])) = true := by
  have h : ∀ x a, (b0 :: x :: (K ++ [a] ++ [b]))[K.length + 1 + 1 + 1]? = some b := fun x a => by
    rw [List.getElem?_cons_succ, List.getElem?_cons_succ]
    exact get_l2b K a b
  unfold sameAt
  rw [h, h]
  exact MB.beq_refl b
section
variable {l : List Int} (hl : ∀ x ∈ l, In64 x) {uses : Int} {d : Nat} (hd : d ≤ 5) (ht : TreeLaw l uses d) (hb : TreeB l uses d)
include hb
theorem repF_post {s : MS} (hp : Pre (5 + 3 * mA1 d) (3 * mS1 d) s) : Post (5 + 3 * mA1 d) (3 * mS1 d) s (repF l uses (treeF l uses d) s).2 := by
  have hA := mA1_pos d
  have hS := mS1_pos d
  unfold repF
  simp only
  have p1 := nx_post l 12 s hp.c
  have p2 := p1.trans (nx_post l 2 _ p1.c)
  obtain ⟨s3, e3, p3⟩ : ∃ s3, (if 0 < andI uses 8 then (if (nx l 4 (nx l 2 (nx l 12 s).2).2).1 = 0 then 2 else (nx l 2 (nx l 12 s).2).1, (nx l 4 (nx l 2 (nx l 12 s).2).2).2) else nx l 2 (nx l 12 s).2).2 = s3 ∧ Post (1 + 1 + 1) (0 + 0 + 0) s s3 := by
    split
    · exact ⟨_, rfl, p2.trans (nx_post l 4 _ p2.c)⟩
    · exact ⟨_, rfl, p2.up (by omega) (by omega)⟩
  rw [e3]
  have q := hb s3 (hp.step p3 (by omega) (by omega))
  have r := p3.trans q
  split
  · exact (r.trans (setM_post l _ r.c)).up (by omega) (by omega)
  · exact r.up (by omega) (by omega)
theorem capF_post {s : MS} (hp : Pre (5 + 3 * mA1 d) (3 * mS1 d) s) : Post (5 + 3 * mA1 d) (3 * mS1 d) s (capF l (treeF l uses d) s).2 := by
  have hA := mA1_pos d
  have hS := mS1_pos d
  have hc := hp.c
  unfold capF
  simp only
  obtain ⟨b, s2, e2, p2, c2, hbb⟩ : ∃ (b : Bool) (s2 : MS), (if 4 < s.caps + 1 then (true, s) else if 0 < s.caps then (decide ((nx l 9 s).1 = 0), (nx l 9 s).2) else (false, s)) = (b, s2) ∧ Post 1 0 s s2 ∧ s2.caps = s.caps ∧ (b = false → ¬ 4 < s.caps + 1) := by
    have p0 : Post 1 0 s s := ⟨by omega, by omega, hc⟩
    split
    · exact ⟨_, _, rfl, p0, rfl, fun h => by cases h⟩
    · rename_i h4
      split
      · exact ⟨_, _, rfl, nx_post l 9 s hc, rfl, fun _ => h4⟩
      · exact ⟨_, _, rfl, p0, rfl, fun _ => h4⟩
  rw [e2]
  simp only
  have hm1 : 0 < max 1 s2.caps := by omega
  have hv := nx_val l hm1 s2
  have p3 := p2.trans (nx_post l (max 1 s2.caps) s2 p2.c)
  have c3 : (nx l (max 1 s2.caps) s2).2.caps = s2.caps := rfl
  obtain ⟨m, s4, e4, p4, c4, hm⟩ : ∃ (m : Int) (s4 : MS), (if b = true then (1 + (nx l (max 1 s2.caps) s2).1, (nx l (max 1 s2.caps) s2).2) else (s.caps + 1, s2)) = (m, s4) ∧ Post (1 + 1) (0 + 0) s s4 ∧ s4.caps = s.caps ∧ (0 ≤ m ∧ m ≤ 4) := by
    cases b with
    | true => exact ⟨_, _, if_pos rfl, p3, by rw [c3, c2], by omega⟩
    | false =>
      have := hbb rfl
      exact ⟨_, _, if_neg Bool.false_ne_true, p2.up (by omega) (by omega), c2, by omega⟩
  rw [e4]
  simp only
  have p5 : Post 2 0 s ⟨s4.at_, s4.left, max s4.caps m⟩ := ⟨by have := p4.a; simp only; omega, by have := p4.l; simp only; omega, by simp only; omega⟩
  have q := hb _ (hp.step p5 (by omega) (by omega))
  exact (p5.trans q).up (by omega) (by omega)
theorem step_post {s : MS} (k : Int) (hp : Pre (8 + 3 * mA1 d) (3 * mS1 d) s) : Post (8 + 3 * mA1 d) (3 * mS1 d) s (treeStep l uses (treeF l uses d) k s).2 := by
  have hA := mA1_pos d
  have hS := mS1_pos d
  have hp5 : Pre (5 + 3 * mA1 d) (3 * mS1 d) s := ⟨⟨hp.a.1, by have := hp.a; omega⟩, hp.l, hp.c⟩
  have hlf : Post 1 0 s (leafF l k s).2 := by
    unfold leafF
    split
    · exact ⟨by simp only; omega, by simp only; omega, hp.c⟩
    · exact setM_post l s hp.c
  have n6 := nx_post l 6 s hp.c
  have n3 := nx_post l 3 s hp.c
  have n32 := n3.trans (nx_post l 2 _ n3.c)
  have nc := nx_post l s.caps s hp.c
  have hA2 : Pre (mA1 d) (mS1 d) s := hp.step (x := 0) (y := 0) ⟨by omega, by omega, hp.c⟩ (by omega) (by omega)
  unfold treeStep
  split
  · exact hlf.up (by omega) (by omega)
  split
  · exact (kidsF_post hb hp5).up (by omega) (by omega)
  split
  · exact (kidsF_post hb hp5).up (by omega) (by omega)
  split
  · exact (repF_post hb hp5).up (by omega) (by omega)
  split
  · exact (capF_post hb hp5).up (by omega) (by omega)
  split
  · exact n6.up (by omega) (by omega)
  split
  · exact (n32.trans (hb _ (hp.step n32 (by omega) (by omega)))).up (by omega) (by omega)
  split
  · exact (hb _ hA2).up (by omega) (by omega)
  split
  · exact nc.up (by omega) (by omega)
  split
  · have y := nc.trans (hb _ (hp.step nc (by omega) (by omega)))
    exact (y.trans (hb _ (hp.step y (by omega) (by omega)))).up (by omega) (by omega)
  · exact (setM_post l s hp.c).up (by omega) (by omega)
theorem treeB_succ : TreeB l uses (d + 1) := by
  intro s hp
  have hA := mA1_pos d
  have hS := mS1_pos d
  simp only [mA1, mS1] at hp ⊢
  have hc := hp.c
  have p0 : Post 0 1 s ⟨s.at_, s.left - 1, s.caps⟩ := ⟨by simp only; omega, by simp only; omega, hc⟩
  have p1 := p0.trans (nx_post l 20 _ p0.c)
  exact (p1.trans (step_post hb _ (hp.step p1 (by omega) (by omega)))).up (by omega) (by omega)
end
theorem treeB_zero {l : List Int} {uses : Int} : TreeB l uses 0 := by
  intro s hp
  have hc := hp.c
  have p0 : Post 0 1 s ⟨s.at_, s.left - 1, s.caps⟩ := ⟨by simp only; omega, by simp only; omega, hc⟩
  have p1 := p0.trans (nx_post l 20 _ p0.c)
  simp only [treeF, mA1, mS1]
  unfold leafF
  split
  · exact p1.up (by omega) (by omega)
  · exact (p1.trans (setM_post l _ p1.c)).up (by omega) (by omega)

theorem leaf0 {l : List Int} (hl : ∀ x ∈ l, In64 x) {uses : Int} (s : MS) (b0 : MB) (K : List MB) (hp : Pre (mA1 0) (mS1 0) s) (k : Int) (s1 : MS) (hk : nx l 20 ⟨s.at_, s.left - 1, s.caps⟩ = (k, s1)) :
    call Try.prog pol1 44 [.rf 1 1 0 0, I ((0 : Nat) : Int)] (mH b0 l uses s K) = some (reAV (leafF l k s1).1, mH b0 l uses (leafF l k s1).2 K) := by
  simp only [mA1, mS1] at hp
  have hq := nx_val l (n := 20) (by omega) ⟨s.at_, s.left - 1, s.caps⟩
  have p1 := nx_post l 20 ⟨s.at_, s.left - 1, s.caps⟩ hp.c
  obtain ⟨pa, pl, pc⟩ := hp
  have h97 := fun K => f97 l hl uses 20 (by omega) ⟨s.at_, s.left - 1, s.caps⟩ ⟨pa.1, by simp only; omega⟩ b0 K
  rw [hk] at hq p1 h97
  clear hk
  simp only at hq p1 h97
  obtain ⟨qa, ql, qc⟩ := p1
  simp only at qa ql
  have hw : IntKind.i64.wrap (s.left - 1) = s.left - 1 := i64_in _ ⟨by omega, by omega⟩
  have h98 := fun K => f98 l hl uses s1 ⟨by omega, by omega⟩ b0 K
  generalize hY : setM l s1 = Y at *
  have fr : frzArgs pol1 44 0 [.rf 1 1 0 0, I ((0 : Nat) : Int)] (mH b0 l uses s K) = some ([.rf 1 1 0 0, I ((0 : Nat) : Int)], mH b0 l uses s K) := frzArgs_mix _ _ _ rfl
  by_cases hk0 : k = 0
  · subst hk0
    rw [show leafF l 0 s1 = (.mk 0 [] [] 0 0 0 0 false, s1) from if_pos rfl]
    refine call_run2 (pol := pol1) Try.func44 rfl rfl rfl rfl fr ?_
    all_goals simp +contextual (disch := omega) only [Try.f44, dd44, ty0, ty3, ty4, ty22, ty24, ty26, ty91, ty93, go_sem, ↓reduceIte, List.reduceReplicate, Nat.reduceAdd, Nat.reduceSub, reduceCtorEq, Nat.reduceLeDiff, Nat.reduceMul, Nat.reduceLT, Nat.reduceEqDiff, Int.reduceBNe, Int.reduceBEq, Int.reduceEq, Int.reduceLT, Int.reduceLE, Int.reduceGT, Int.reduceGE, mu44, List.contains_nil, List.contains_cons, Nat.reduceBEq, Bool.or_self, dlt_t, dlt_f, dle_t, dle_f, dgt_t, dgt_f, dge_t, dge_f, beq_t, beq_f, bne_t, bne_f, lt_T, le_T, nle_T, nle_F, ↓wrap_up, ↓wrap_down, ↓wrap_pred, ↓wrap_sub_nat, i64_in, i64_quo, rem_in, Int.reduceToNat, room_ok, h97, hw, get_last, set_last, get_l2a, get_l2b, set_l2a, set_l2b, sameAt_l2, evBin_and, evBin_add', evBin_sub', evBin_eql', evBin_neq', evBin_lss', evBin_gtr', reC_len, reC_ok, reC_take, reC_drop, List.append_nil]
    all_goals repeat' (first | intro _ | apply And.intro | (unfold dOk; kernel_rfl) | exact St.beq_refl _ | (show altO _ _ _ _ = true; kernel_rfl) | (show (_ || _) = true; kernel_rfl) | (show (_ && _) = true; kernel_rfl))
    all_goals exact ret_node (by rfl) (by rfl) s s1 (ex1 ..) true true 0 [] [] 0 0 0 0 false
  · rw [show leafF l k s1 = Y from (if_neg hk0).trans hY]
    obtain ⟨Y1, Y2⟩ := Y
    refine call_run2 (pol := pol1) Try.func44 rfl rfl rfl rfl fr ?_
    all_goals simp +contextual (disch := omega) only [Try.f44, dd44, ty0, ty3, ty4, ty22, ty24, ty26, ty91, ty93, go_sem, ↓reduceIte, List.reduceReplicate, Nat.reduceAdd, Nat.reduceSub, reduceCtorEq, Nat.reduceLeDiff, Nat.reduceMul, Nat.reduceLT, Nat.reduceEqDiff, Int.reduceBNe, Int.reduceBEq, Int.reduceEq, Int.reduceLT, Int.reduceLE, Int.reduceGT, Int.reduceGE, mu44, List.contains_nil, List.contains_cons, Nat.reduceBEq, Bool.or_self, dlt_t, dlt_f, dle_t, dle_f, dgt_t, dgt_f, dge_t, dge_f, beq_t, beq_f, bne_t, bne_f, lt_T, le_T, nle_T, nle_F, ↓wrap_up, ↓wrap_down, ↓wrap_pred, ↓wrap_sub_nat, i64_in, i64_quo, rem_in, Int.reduceToNat, room_ok, h97, hw, get_last, set_last, get_l2a, get_l2b, set_l2a, set_l2b, sameAt_l2, evBin_and, evBin_add', evBin_sub', evBin_eql', evBin_neq', evBin_lss', evBin_gtr', reC_len, reC_ok, reC_take, reC_drop, List.append_nil, h98]
    all_goals repeat' (first | intro _ | apply And.intro | (unfold dOk; kernel_rfl) | exact St.beq_refl _ | (show altO _ _ _ _ = true; kernel_rfl) | (show (_ || _) = true; kernel_rfl) | (show (_ && _) = true; kernel_rfl))
    all_goals exact ret_mkx rfl rfl s _ (ex1 ..) (fun H => fz_plain H (plain_re _)) (plain_re _)

theorem leafS {l : List Int} (hl : ∀ x ∈ l, In64 x) {uses : Int} {d : Nat} (hd : d ≤ 5) (s : MS) (b0 : MB) (K : List MB) (hp : Pre (mA1 (d + 1)) (mS1 (d + 1)) s) (k : Int) (s1 : MS) (hk : nx l 20 ⟨s.at_, s.left - 1, s.caps⟩ = (k, s1)) (hc : s1.left < 3 ∨ (l.length : Int) < s1.at_) :
    call Try.prog pol1 44 [.rf 1 1 0 0, I (((d + 1) : Nat) : Int)] (mH b0 l uses s K) = some (reAV (leafF l k s1).1, mH b0 l uses (leafF l k s1).2 K) := by
  simp only [mA1, mS1] at hp
  have hA := mA1_pos d
  have hS := mS1_pos d
  have hq := nx_val l (n := 20) (by omega) ⟨s.at_, s.left - 1, s.caps⟩
  have p1 := nx_post l 20 ⟨s.at_, s.left - 1, s.caps⟩ hp.c
  obtain ⟨pa, pl, pc⟩ := hp
  have h97 := fun K => f97 l hl uses 20 (by omega) ⟨s.at_, s.left - 1, s.caps⟩ ⟨pa.1, by simp only; omega⟩ b0 K
  rw [hk] at hq p1 h97
  clear hk
  simp only at hq p1 h97
  obtain ⟨qa, ql, qc⟩ := p1
  simp only at qa ql
  have hw : IntKind.i64.wrap (s.left - 1) = s.left - 1 := i64_in _ ⟨by omega, by omega⟩
  have hc' : s1.left < 3 ∨ (¬ s1.left < 3 ∧ (l.length : Int) < s1.at_) := by omega
  have h98 := fun K => f98 l hl uses s1 ⟨by omega, by omega⟩ b0 K
  generalize hY : setM l s1 = Y at *
  have fr : frzArgs pol1 44 0 [.rf 1 1 0 0, I (((d + 1) : Nat) : Int)] (mH b0 l uses s K) = some ([.rf 1 1 0 0, I (((d + 1) : Nat) : Int)], mH b0 l uses s K) := frzArgs_mix _ _ _ rfl
  by_cases hk0 : k = 0
  · subst hk0
    rw [show leafF l 0 s1 = (.mk 0 [] [] 0 0 0 0 false, s1) from if_pos rfl]
    refine call_run2 (pol := pol1) Try.func44 rfl rfl rfl rfl fr ?_
    rcases hc' with hc1 | ⟨hc1, hc2⟩
    all_goals simp +contextual (disch := omega) only [Try.f44, dd44, ty0, ty3, ty4, ty22, ty24, ty26, ty91, ty93, go_sem, ↓reduceIte, List.reduceReplicate, Nat.reduceAdd, Nat.reduceSub, reduceCtorEq, Nat.reduceLeDiff, Nat.reduceMul, Nat.reduceLT, Nat.reduceEqDiff, Int.reduceBNe, Int.reduceBEq, Int.reduceEq, Int.reduceLT, Int.reduceLE, Int.reduceGT, Int.reduceGE, mu44, List.contains_nil, List.contains_cons, Nat.reduceBEq, Bool.or_self, dlt_t, dlt_f, dle_t, dle_f, dgt_t, dgt_f, dge_t, dge_f, beq_t, beq_f, bne_t, bne_f, lt_T, le_T, nle_T, nle_F, ↓wrap_up, ↓wrap_down, ↓wrap_pred, ↓wrap_sub_nat, i64_in, i64_quo, rem_in, Int.reduceToNat, room_ok, h97, hw, get_last, set_last, get_l2a, get_l2b, set_l2a, set_l2b, sameAt_l2, evBin_and, evBin_add', evBin_sub', evBin_eql', evBin_neq', evBin_lss', evBin_gtr', reC_len, reC_ok, reC_take, reC_drop, List.append_nil]
    all_goals repeat' (first | intro _ | apply And.intro | (unfold dOk; kernel_rfl) | exact St.beq_refl _ | (show altO _ _ _ _ = true; kernel_rfl) | (show (_ || _) = true; kernel_rfl) | (show (_ && _) = true; kernel_rfl))
    all_goals exact ret_node (by rfl) (by rfl) s s1 (ex1 ..) true true 0 [] [] 0 0 0 0 false
  · rw [show leafF l k s1 = Y from (if_neg hk0).trans hY]
    obtain ⟨Y1, Y2⟩ := Y
    refine call_run2 (pol := pol1) Try.func44 rfl rfl rfl rfl fr ?_
    rcases hc' with hc1 | ⟨hc1, hc2⟩
    all_goals simp +contextual (disch := omega) only [Try.f44, dd44, ty0, ty3, ty4, ty22, ty24, ty26, ty91, ty93, go_sem, ↓reduceIte, List.reduceReplicate, Nat.reduceAdd, Nat.reduceSub, reduceCtorEq, Nat.reduceLeDiff, Nat.reduceMul, Nat.reduceLT, Nat.reduceEqDiff, Int.reduceBNe, Int.reduceBEq, Int.reduceEq, Int.reduceLT, Int.reduceLE, Int.reduceGT, Int.reduceGE, mu44, List.contains_nil, List.contains_cons, Nat.reduceBEq, Bool.or_self, dlt_t, dlt_f, dle_t, dle_f, dgt_t, dgt_f, dge_t, dge_f, beq_t, beq_f, bne_t, bne_f, lt_T, le_T, nle_T, nle_F, ↓wrap_up, ↓wrap_down, ↓wrap_pred, ↓wrap_sub_nat, i64_in, i64_quo, rem_in, Int.reduceToNat, room_ok, h97, hw, get_last, set_last, get_l2a, get_l2b, set_l2a, set_l2b, sameAt_l2, evBin_and, evBin_add', evBin_sub', evBin_eql', evBin_neq', evBin_lss', evBin_gtr', reC_len, reC_ok, reC_take, reC_drop, List.append_nil, h98]
    all_goals repeat' (first | intro _ | apply And.intro | (unfold dOk; kernel_rfl) | exact St.beq_refl _ | (show altO _ _ _ _ = true; kernel_rfl) | (show (_ || _) = true; kernel_rfl) | (show (_ && _) = true; kernel_rfl))
    all_goals exact ret_mkx rfl rfl s _ (ex1 ..) (fun H => fz_plain H (plain_re _)) (plain_re _)

theorem t44cat {l : List Int} (hl : ∀ x ∈ l, In64 x) {uses : Int} {d : Nat} (hd : d ≤ 5) (ht : TreeLaw l uses d) (hb : TreeB l uses d) (s : MS) (b0 : MB) (K : List MB) (hp : Pre (mA1 (d + 1)) (mS1 (d + 1)) s) (k : Int) (s1 : MS) (hk : nx l 20 ⟨s.at_, s.left - 1, s.caps⟩ = (k, s1)) (hn1 : ¬ s1.left < 3) (hn2 : ¬ (l.length : Int) < s1.at_) (h : k < 5) :
    call Try.prog pol1 44 [.rf 1 1 0 0, I ((d + 1 : Nat) : Int)] (mH b0 l uses s K) = some (reAV ((.mk 2 [] (kidsF l (treeF l uses d) s1).1 0 0 0 0 false, (kidsF l (treeF l uses d) s1).2) : Re × MS).1, mH b0 l uses ((.mk 2 [] (kidsF l (treeF l uses d) s1).1 0 0 0 0 false, (kidsF l (treeF l uses d) s1).2) : Re × MS).2 K) := by
  simp only [mA1, mS1] at hp
  have hA := mA1_pos d
  have hS := mS1_pos d
  have hq := nx_val l (n := 20) (by omega) ⟨s.at_, s.left - 1, s.caps⟩
  have p1 := nx_post l 20 ⟨s.at_, s.left - 1, s.caps⟩ hp.c
  obtain ⟨pa, pl, pc⟩ := hp
  have h97 := fun K => f97 l hl uses 20 (by omega) ⟨s.at_, s.left - 1, s.caps⟩ ⟨pa.1, by simp only; omega⟩ b0 K
  rw [hk] at hq p1 h97
  clear hk
  simp only at hq p1 h97
  obtain ⟨qa, ql, qc⟩ := p1
  simp only at qa ql
  have hw : IntKind.i64.wrap (s.left - 1) = s.left - 1 := i64_in _ ⟨by omega, by omega⟩
  have hp5 : Pre (5 + 3 * mA1 d) (3 * mS1 d) s1 := ⟨⟨by omega, by omega⟩, ⟨by omega, by omega⟩, qc⟩
  have h99 := fun K => f99 hl hd ht hb s1 hp5 b0 K
  generalize kidsF l (treeF l uses d) s1 = Y at *
  obtain ⟨Y1, Y2⟩ := Y
  simp only at h99 ⊢
  have fr : frzArgs pol1 44 0 [.rf 1 1 0 0, I ((d + 1 : Nat) : Int)] (mH b0 l uses s K) = some ([.rf 1 1 0 0, I ((d + 1 : Nat) : Int)], mH b0 l uses s K) := frzArgs_mix _ _ _ rfl
  refine call_run2 (pol := pol1) Try.func44 rfl rfl rfl rfl fr ?_
  simp +contextual (disch := omega) only [Try.f44, dd44, ty0, ty3, ty4, ty22, ty24, ty26, ty91, ty93, go_sem, ↓reduceIte, List.reduceReplicate, Nat.reduceAdd, Nat.reduceSub, reduceCtorEq, Nat.reduceLeDiff, Nat.reduceMul, Nat.reduceLT, Nat.reduceEqDiff, Int.reduceBNe, Int.reduceBEq, Int.reduceEq, Int.reduceLT, Int.reduceLE, Int.reduceGT, Int.reduceGE, mu44, List.contains_nil, List.contains_cons, Nat.reduceBEq, Bool.or_self, dlt_t, dlt_f, dle_t, dle_f, dgt_t, dgt_f, dge_t, dge_f, beq_t, beq_f, bne_t, bne_f, lt_T, le_T, nle_T, nle_F, ↓wrap_up, ↓wrap_down, ↓wrap_pred, ↓wrap_sub_nat, i64_in, i64_quo, rem_in, Int.reduceToNat, room_ok, h97, hw, get_last, set_last, get_l2a, get_l2b, set_l2a, set_l2b, sameAt_l2, evBin_and, evBin_add', evBin_sub', evBin_eql', evBin_neq', evBin_lss', evBin_gtr', reC_len, reC_ok, reC_take, reC_drop, List.append_nil, h99]
  repeat' (first | intro _ | apply And.intro | (unfold dOk; kernel_rfl) | exact St.beq_refl _ | (show altO _ _ _ _ = true; kernel_rfl) | (show (_ || _) = true; kernel_rfl) | (show (_ && _) = true; kernel_rfl))
  exact ret_node (by rfl) (by rfl) s _ (ex1 ..) true false 2 [] Y1 0 0 0 0 false

theorem t44alt {l : List Int} (hl : ∀ x ∈ l, In64 x) {uses : Int} {d : Nat} (hd : d ≤ 5) (ht : TreeLaw l uses d) (hb : TreeB l uses d) (s : MS) (b0 : MB) (K : List MB) (hp : Pre (mA1 (d + 1)) (mS1 (d + 1)) s) (k : Int) (s1 : MS) (hk : nx l 20 ⟨s.at_, s.left - 1, s.caps⟩ = (k, s1)) (hn1 : ¬ s1.left < 3) (hn2 : ¬ (l.length : Int) < s1.at_) (h : 5 ≤ k) (h2 : k < 8) :
    call Try.prog pol1 44 [.rf 1 1 0 0, I ((d + 1 : Nat) : Int)] (mH b0 l uses s K) = some (reAV ((.mk 3 [] (kidsF l (treeF l uses d) s1).1 0 0 0 0 false, (kidsF l (treeF l uses d) s1).2) : Re × MS).1, mH b0 l uses ((.mk 3 [] (kidsF l (treeF l uses d) s1).1 0 0 0 0 false, (kidsF l (treeF l uses d) s1).2) : Re × MS).2 K) := by
  simp only [mA1, mS1] at hp
  have hA := mA1_pos d
  have hS := mS1_pos d
  have hq := nx_val l (n := 20) (by omega) ⟨s.at_, s.left - 1, s.caps⟩
  have p1 := nx_post l 20 ⟨s.at_, s.left - 1, s.caps⟩ hp.c
  obtain ⟨pa, pl, pc⟩ := hp
  have h97 := fun K => f97 l hl uses 20 (by omega) ⟨s.at_, s.left - 1, s.caps⟩ ⟨pa.1, by simp only; omega⟩ b0 K
  rw [hk] at hq p1 h97
  clear hk
  simp only at hq p1 h97
  obtain ⟨qa, ql, qc⟩ := p1
  simp only at qa ql
  have hw : IntKind.i64.wrap (s.left - 1) = s.left - 1 := i64_in _ ⟨by omega, by omega⟩
  have hp5 : Pre (5 + 3 * mA1 d) (3 * mS1 d) s1 := ⟨⟨by omega, by omega⟩, ⟨by omega, by omega⟩, qc⟩
  have h99 := fun K => f99 hl hd ht hb s1 hp5 b0 K
  generalize kidsF l (treeF l uses d) s1 = Y at *
  obtain ⟨Y1, Y2⟩ := Y
  simp only at h99 ⊢
  have fr : frzArgs pol1 44 0 [.rf 1 1 0 0, I ((d + 1 : Nat) : Int)] (mH b0 l uses s K) = some ([.rf 1 1 0 0, I ((d + 1 : Nat) : Int)], mH b0 l uses s K) := frzArgs_mix _ _ _ rfl
  refine call_run2 (pol := pol1) Try.func44 rfl rfl rfl rfl fr ?_
  simp +contextual (disch := omega) only [Try.f44, dd44, ty0, ty3, ty4, ty22, ty24, ty26, ty91, ty93, go_sem, ↓reduceIte, List.reduceReplicate, Nat.reduceAdd, Nat.reduceSub, reduceCtorEq, Nat.reduceLeDiff, Nat.reduceMul, Nat.reduceLT, Nat.reduceEqDiff, Int.reduceBNe, Int.reduceBEq, Int.reduceEq, Int.reduceLT, Int.reduceLE, Int.reduceGT, Int.reduceGE, mu44, List.contains_nil, List.contains_cons, Nat.reduceBEq, Bool.or_self, dlt_t, dlt_f, dle_t, dle_f, dgt_t, dgt_f, dge_t, dge_f, beq_t, beq_f, bne_t, bne_f, lt_T, le_T, nle_T, nle_F, ↓wrap_up, ↓wrap_down, ↓wrap_pred, ↓wrap_sub_nat, i64_in, i64_quo, rem_in, Int.reduceToNat, room_ok, h97, hw, get_last, set_last, get_l2a, get_l2b, set_l2a, set_l2b, sameAt_l2, evBin_and, evBin_add', evBin_sub', evBin_eql', evBin_neq', evBin_lss', evBin_gtr', reC_len, reC_ok, reC_take, reC_drop, List.append_nil, h99]
  repeat' (first | intro _ | apply And.intro | (unfold dOk; kernel_rfl) | exact St.beq_refl _ | (show altO _ _ _ _ = true; kernel_rfl) | (show (_ || _) = true; kernel_rfl) | (show (_ && _) = true; kernel_rfl))
  exact ret_node (by rfl) (by rfl) s _ (ex1 ..) true false 3 [] Y1 0 0 0 0 false

theorem t44rep {l : List Int} (hl : ∀ x ∈ l, In64 x) {uses : Int} {d : Nat} (hd : d ≤ 5) (ht : TreeLaw l uses d) (hb : TreeB l uses d) (s : MS) (b0 : MB) (K : List MB) (hp : Pre (mA1 (d + 1)) (mS1 (d + 1)) s) (k : Int) (s1 : MS) (hk : nx l 20 ⟨s.at_, s.left - 1, s.caps⟩ = (k, s1)) (hn1 : ¬ s1.left < 3) (hn2 : ¬ (l.length : Int) < s1.at_) (h : 8 ≤ k) (h2 : k < 12) :
    call Try.prog pol1 44 [.rf 1 1 0 0, I ((d + 1 : Nat) : Int)] (mH b0 l uses s K) = some (reAV (repF l uses (treeF l uses d) s1).1, mH b0 l uses (repF l uses (treeF l uses d) s1).2 K) := by
  simp only [mA1, mS1] at hp
  have hA := mA1_pos d
  have hS := mS1_pos d
  have hq := nx_val l (n := 20) (by omega) ⟨s.at_, s.left - 1, s.caps⟩
  have p1 := nx_post l 20 ⟨s.at_, s.left - 1, s.caps⟩ hp.c
  obtain ⟨pa, pl, pc⟩ := hp
  have h97 := fun K => f97 l hl uses 20 (by omega) ⟨s.at_, s.left - 1, s.caps⟩ ⟨pa.1, by simp only; omega⟩ b0 K
  rw [hk] at hq p1 h97
  clear hk
  simp only at hq p1 h97
  obtain ⟨qa, ql, qc⟩ := p1
  simp only at qa ql
  have hw : IntKind.i64.wrap (s.left - 1) = s.left - 1 := i64_in _ ⟨by omega, by omega⟩
  have hp5 : Pre (5 + 3 * mA1 d) (3 * mS1 d) s1 := ⟨⟨by omega, by omega⟩, ⟨by omega, by omega⟩, qc⟩
  have h100 := fun K => f100 hl hd ht hb s1 hp5 b0 K
  generalize repF l uses (treeF l uses d) s1 = Y at *
  obtain ⟨Y1, Y2⟩ := Y
  simp only at h100 ⊢
  have fr : frzArgs pol1 44 0 [.rf 1 1 0 0, I ((d + 1 : Nat) : Int)] (mH b0 l uses s K) = some ([.rf 1 1 0 0, I ((d + 1 : Nat) : Int)], mH b0 l uses s K) := frzArgs_mix _ _ _ rfl
  refine call_run2 (pol := pol1) Try.func44 rfl rfl rfl rfl fr ?_
  simp +contextual (disch := omega) only [Try.f44, dd44, ty0, ty3, ty4, ty22, ty24, ty26, ty91, ty93, go_sem, ↓reduceIte, List.reduceReplicate, Nat.reduceAdd, Nat.reduceSub, reduceCtorEq, Nat.reduceLeDiff, Nat.reduceMul, Nat.reduceLT, Nat.reduceEqDiff, Int.reduceBNe, Int.reduceBEq, Int.reduceEq, Int.reduceLT, Int.reduceLE, Int.reduceGT, Int.reduceGE, mu44, List.contains_nil, List.contains_cons, Nat.reduceBEq, Bool.or_self, dlt_t, dlt_f, dle_t, dle_f, dgt_t, dgt_f, dge_t, dge_f, beq_t, beq_f, bne_t, bne_f, lt_T, le_T, nle_T, nle_F, ↓wrap_up, ↓wrap_down, ↓wrap_pred, ↓wrap_sub_nat, i64_in, i64_quo, rem_in, Int.reduceToNat, room_ok, h97, hw, get_last, set_last, get_l2a, get_l2b, set_l2a, set_l2b, sameAt_l2, evBin_and, evBin_add', evBin_sub', evBin_eql', evBin_neq', evBin_lss', evBin_gtr', reC_len, reC_ok, reC_take, reC_drop, List.append_nil, h100]
  repeat' (first | intro _ | apply And.intro | (unfold dOk; kernel_rfl) | exact St.beq_refl _ | (show altO _ _ _ _ = true; kernel_rfl) | (show (_ || _) = true; kernel_rfl) | (show (_ && _) = true; kernel_rfl))
  exact ret_mkx rfl rfl s _ (ex1 ..) (fun H => fz_plain H (plain_re _)) (plain_re _)

theorem t44cap12 {l : List Int} (hl : ∀ x ∈ l, In64 x) {uses : Int} {d : Nat} (hd : d ≤ 5) (ht : TreeLaw l uses d) (hb : TreeB l uses d) (s : MS) (b0 : MB) (K : List MB) (hp : Pre (mA1 (d + 1)) (mS1 (d + 1)) s) (k : Int) (s1 : MS) (hk : nx l 20 ⟨s.at_, s.left - 1, s.caps⟩ = (k, s1)) (hn1 : ¬ s1.left < 3) (hn2 : ¬ (l.length : Int) < s1.at_) (h : k = 12) (u : 0 < andI uses 64) :
    call Try.prog pol1 44 [.rf 1 1 0 0, I ((d + 1 : Nat) : Int)] (mH b0 l uses s K) = some (reAV (capF l (treeF l uses d) s1).1, mH b0 l uses (capF l (treeF l uses d) s1).2 K) := by
  simp only [mA1, mS1] at hp
  have hA := mA1_pos d
  have hS := mS1_pos d
  have hq := nx_val l (n := 20) (by omega) ⟨s.at_, s.left - 1, s.caps⟩
  have p1 := nx_post l 20 ⟨s.at_, s.left - 1, s.caps⟩ hp.c
  obtain ⟨pa, pl, pc⟩ := hp
  have h97 := fun K => f97 l hl uses 20 (by omega) ⟨s.at_, s.left - 1, s.caps⟩ ⟨pa.1, by simp only; omega⟩ b0 K
  rw [hk] at hq p1 h97
  clear hk
  simp only at hq p1 h97
  obtain ⟨qa, ql, qc⟩ := p1
  simp only at qa ql
  have hw : IntKind.i64.wrap (s.left - 1) = s.left - 1 := i64_in _ ⟨by omega, by omega⟩
  have hp5 : Pre (5 + 3 * mA1 d) (3 * mS1 d) s1 := ⟨⟨by omega, by omega⟩, ⟨by omega, by omega⟩, qc⟩
  subst h
  have h101 := fun K => f101 hl hd ht hb s1 hp5 b0 K
  generalize capF l (treeF l uses d) s1 = Y at *
  obtain ⟨Y1, Y2⟩ := Y
  simp only at h101 ⊢
  have fr : frzArgs pol1 44 0 [.rf 1 1 0 0, I ((d + 1 : Nat) : Int)] (mH b0 l uses s K) = some ([.rf 1 1 0 0, I ((d + 1 : Nat) : Int)], mH b0 l uses s K) := frzArgs_mix _ _ _ rfl
  refine call_run2 (pol := pol1) Try.func44 rfl rfl rfl rfl fr ?_
  simp +contextual (disch := omega) only [Try.f44, dd44, ty0, ty3, ty4, ty22, ty24, ty26, ty91, ty93, go_sem, ↓reduceIte, List.reduceReplicate, Nat.reduceAdd, Nat.reduceSub, reduceCtorEq, Nat.reduceLeDiff, Nat.reduceMul, Nat.reduceLT, Nat.reduceEqDiff, Int.reduceBNe, Int.reduceBEq, Int.reduceEq, Int.reduceLT, Int.reduceLE, Int.reduceGT, Int.reduceGE, mu44, List.contains_nil, List.contains_cons, Nat.reduceBEq, Bool.or_self, dlt_t, dlt_f, dle_t, dle_f, dgt_t, dgt_f, dge_t, dge_f, beq_t, beq_f, bne_t, bne_f, lt_T, le_T, nle_T, nle_F, ↓wrap_up, ↓wrap_down, ↓wrap_pred, ↓wrap_sub_nat, i64_in, i64_quo, rem_in, Int.reduceToNat, room_ok, h97, hw, get_last, set_last, get_l2a, get_l2b, set_l2a, set_l2b, sameAt_l2, evBin_and, evBin_add', evBin_sub', evBin_eql', evBin_neq', evBin_lss', evBin_gtr', reC_len, reC_ok, reC_take, reC_drop, List.append_nil, h101]
  repeat' (first | intro _ | apply And.intro | (unfold dOk; kernel_rfl) | exact St.beq_refl _ | (show altO _ _ _ _ = true; kernel_rfl) | (show (_ || _) = true; kernel_rfl) | (show (_ && _) = true; kernel_rfl))
  exact ret_mkx rfl rfl s _ (ex1 ..) (fun H => fz_plain H (plain_re _)) (plain_re _)

theorem t44cap13 {l : List Int} (hl : ∀ x ∈ l, In64 x) {uses : Int} {d : Nat} (hd : d ≤ 5) (ht : TreeLaw l uses d) (hb : TreeB l uses d) (s : MS) (b0 : MB) (K : List MB) (hp : Pre (mA1 (d + 1)) (mS1 (d + 1)) s) (k : Int) (s1 : MS) (hk : nx l 20 ⟨s.at_, s.left - 1, s.caps⟩ = (k, s1)) (hn1 : ¬ s1.left < 3) (hn2 : ¬ (l.length : Int) < s1.at_) (h : k = 13) (u : 0 < andI uses 64) :
    call Try.prog pol1 44 [.rf 1 1 0 0, I ((d + 1 : Nat) : Int)] (mH b0 l uses s K) = some (reAV (capF l (treeF l uses d) s1).1, mH b0 l uses (capF l (treeF l uses d) s1).2 K) := by
  simp only [mA1, mS1] at hp
  have hA := mA1_pos d
  have hS := mS1_pos d
  have hq := nx_val l (n := 20) (by omega) ⟨s.at_, s.left - 1, s.caps⟩
  have p1 := nx_post l 20 ⟨s.at_, s.left - 1, s.caps⟩ hp.c
  obtain ⟨pa, pl, pc⟩ := hp
  have h97 := fun K => f97 l hl uses 20 (by omega) ⟨s.at_, s.left - 1, s.caps⟩ ⟨pa.1, by simp only; omega⟩ b0 K
  rw [hk] at hq p1 h97
  clear hk
  simp only at hq p1 h97
  obtain ⟨qa, ql, qc⟩ := p1
  simp only at qa ql
  have hw : IntKind.i64.wrap (s.left - 1) = s.left - 1 := i64_in _ ⟨by omega, by omega⟩
  have hp5 : Pre (5 + 3 * mA1 d) (3 * mS1 d) s1 := ⟨⟨by omega, by omega⟩, ⟨by omega, by omega⟩, qc⟩
  subst h
  have h101 := fun K => f101 hl hd ht hb s1 hp5 b0 K
  generalize capF l (treeF l uses d) s1 = Y at *
  obtain ⟨Y1, Y2⟩ := Y
  simp only at h101 ⊢
  have fr : frzArgs pol1 44 0 [.rf 1 1 0 0, I ((d + 1 : Nat) : Int)] (mH b0 l uses s K) = some ([.rf 1 1 0 0, I ((d + 1 : Nat) : Int)], mH b0 l uses s K) := frzArgs_mix _ _ _ rfl
  refine call_run2 (pol := pol1) Try.func44 rfl rfl rfl rfl fr ?_
  simp +contextual (disch := omega) only [Try.f44, dd44, ty0, ty3, ty4, ty22, ty24, ty26, ty91, ty93, go_sem, ↓reduceIte, List.reduceReplicate, Nat.reduceAdd, Nat.reduceSub, reduceCtorEq, Nat.reduceLeDiff, Nat.reduceMul, Nat.reduceLT, Nat.reduceEqDiff, Int.reduceBNe, Int.reduceBEq, Int.reduceEq, Int.reduceLT, Int.reduceLE, Int.reduceGT, Int.reduceGE, mu44, List.contains_nil, List.contains_cons, Nat.reduceBEq, Bool.or_self, dlt_t, dlt_f, dle_t, dle_f, dgt_t, dgt_f, dge_t, dge_f, beq_t, beq_f, bne_t, bne_f, lt_T, le_T, nle_T, nle_F, ↓wrap_up, ↓wrap_down, ↓wrap_pred, ↓wrap_sub_nat, i64_in, i64_quo, rem_in, Int.reduceToNat, room_ok, h97, hw, get_last, set_last, get_l2a, get_l2b, set_l2a, set_l2b, sameAt_l2, evBin_and, evBin_add', evBin_sub', evBin_eql', evBin_neq', evBin_lss', evBin_gtr', reC_len, reC_ok, reC_take, reC_drop, List.append_nil, h101]
  repeat' (first | intro _ | apply And.intro | (unfold dOk; kernel_rfl) | exact St.beq_refl _ | (show altO _ _ _ _ = true; kernel_rfl) | (show (_ || _) = true; kernel_rfl) | (show (_ && _) = true; kernel_rfl))
  exact ret_mkx rfl rfl s _ (ex1 ..) (fun H => fz_plain H (plain_re _)) (plain_re _)

theorem t44as {l : List Int} (hl : ∀ x ∈ l, In64 x) {uses : Int} {d : Nat} (hd : d ≤ 5) (ht : TreeLaw l uses d) (hb : TreeB l uses d) (s : MS) (b0 : MB) (K : List MB) (hp : Pre (mA1 (d + 1)) (mS1 (d + 1)) s) (k : Int) (s1 : MS) (hk : nx l 20 ⟨s.at_, s.left - 1, s.caps⟩ = (k, s1)) (hn1 : ¬ s1.left < 3) (hn2 : ¬ (l.length : Int) < s1.at_) (h : k = 14) (u : 0 < andI uses 16) :
    call Try.prog pol1 44 [.rf 1 1 0 0, I ((d + 1 : Nat) : Int)] (mH b0 l uses s K) = some (reAV ((.mk 11 [] [] 0 0 0 (nx l 6 s1).1 false, (nx l 6 s1).2) : Re × MS).1, mH b0 l uses ((.mk 11 [] [] 0 0 0 (nx l 6 s1).1 false, (nx l 6 s1).2) : Re × MS).2 K) := by
  simp only [mA1, mS1] at hp
  have hA := mA1_pos d
  have hS := mS1_pos d
  have hq := nx_val l (n := 20) (by omega) ⟨s.at_, s.left - 1, s.caps⟩
  have p1 := nx_post l 20 ⟨s.at_, s.left - 1, s.caps⟩ hp.c
  obtain ⟨pa, pl, pc⟩ := hp
  have h97 := fun K => f97 l hl uses 20 (by omega) ⟨s.at_, s.left - 1, s.caps⟩ ⟨pa.1, by simp only; omega⟩ b0 K
  rw [hk] at hq p1 h97
  clear hk
  simp only at hq p1 h97
  obtain ⟨qa, ql, qc⟩ := p1
  simp only at qa ql
  have hw : IntKind.i64.wrap (s.left - 1) = s.left - 1 := i64_in _ ⟨by omega, by omega⟩
  have hp5 : Pre (5 + 3 * mA1 d) (3 * mS1 d) s1 := ⟨⟨by omega, by omega⟩, ⟨by omega, by omega⟩, qc⟩
  subst h
  have h97b := fun K => f97 l hl uses 6 (by omega) s1 ⟨by omega, by omega⟩ b0 K
  generalize nx l 6 s1 = Y at *
  obtain ⟨Y1, Y2⟩ := Y
  simp only at h97b ⊢
  have fr : frzArgs pol1 44 0 [.rf 1 1 0 0, I ((d + 1 : Nat) : Int)] (mH b0 l uses s K) = some ([.rf 1 1 0 0, I ((d + 1 : Nat) : Int)], mH b0 l uses s K) := frzArgs_mix _ _ _ rfl
  refine call_run2 (pol := pol1) Try.func44 rfl rfl rfl rfl fr ?_
  simp +contextual (disch := omega) only [Try.f44, dd44, ty0, ty3, ty4, ty22, ty24, ty26, ty91, ty93, go_sem, ↓reduceIte, List.reduceReplicate, Nat.reduceAdd, Nat.reduceSub, reduceCtorEq, Nat.reduceLeDiff, Nat.reduceMul, Nat.reduceLT, Nat.reduceEqDiff, Int.reduceBNe, Int.reduceBEq, Int.reduceEq, Int.reduceLT, Int.reduceLE, Int.reduceGT, Int.reduceGE, mu44, List.contains_nil, List.contains_cons, Nat.reduceBEq, Bool.or_self, dlt_t, dlt_f, dle_t, dle_f, dgt_t, dgt_f, dge_t, dge_f, beq_t, beq_f, bne_t, bne_f, lt_T, le_T, nle_T, nle_F, ↓wrap_up, ↓wrap_down, ↓wrap_pred, ↓wrap_sub_nat, i64_in, i64_quo, rem_in, Int.reduceToNat, room_ok, h97, hw, get_last, set_last, get_l2a, get_l2b, set_l2a, set_l2b, sameAt_l2, evBin_and, evBin_add', evBin_sub', evBin_eql', evBin_neq', evBin_lss', evBin_gtr', reC_len, reC_ok, reC_take, reC_drop, List.append_nil, h97b]
  repeat' (first | intro _ | apply And.intro | (unfold dOk; kernel_rfl) | exact St.beq_refl _ | (show altO _ _ _ _ = true; kernel_rfl) | (show (_ || _) = true; kernel_rfl) | (show (_ && _) = true; kernel_rfl))
  exact ret_node (by rfl) (by rfl) s _ (ex1 ..) true true 11 [] [] 0 0 0 Y1 false

theorem t44look {l : List Int} (hl : ∀ x ∈ l, In64 x) {uses : Int} {d : Nat} (hd : d ≤ 5) (ht : TreeLaw l uses d) (hb : TreeB l uses d) (s : MS) (b0 : MB) (K : List MB) (hp : Pre (mA1 (d + 1)) (mS1 (d + 1)) s) (k : Int) (s1 : MS) (hk : nx l 20 ⟨s.at_, s.left - 1, s.caps⟩ = (k, s1)) (hn1 : ¬ s1.left < 3) (hn2 : ¬ (l.length : Int) < s1.at_) (h : k = 15) (u : 0 < andI uses 4) :
    call Try.prog pol1 44 [.rf 1 1 0 0, I ((d + 1 : Nat) : Int)] (mH b0 l uses s K) = some (reAV ((.mk (7 + (nx l 2 (nx l 3 s1).2).1) [] [(treeF l uses d (nx l 2 (nx l 3 s1).2).2).1] 0 0 0 0 ((nx l 3 s1).1 == 0), (treeF l uses d (nx l 2 (nx l 3 s1).2).2).2) : Re × MS).1, mH b0 l uses ((.mk (7 + (nx l 2 (nx l 3 s1).2).1) [] [(treeF l uses d (nx l 2 (nx l 3 s1).2).2).1] 0 0 0 0 ((nx l 3 s1).1 == 0), (treeF l uses d (nx l 2 (nx l 3 s1).2).2).2) : Re × MS).2 K) := by
  simp only [mA1, mS1] at hp
  have hA := mA1_pos d
  have hS := mS1_pos d
  have hq := nx_val l (n := 20) (by omega) ⟨s.at_, s.left - 1, s.caps⟩
  have p1 := nx_post l 20 ⟨s.at_, s.left - 1, s.caps⟩ hp.c
  obtain ⟨pa, pl, pc⟩ := hp
  have h97 := fun K => f97 l hl uses 20 (by omega) ⟨s.at_, s.left - 1, s.caps⟩ ⟨pa.1, by simp only; omega⟩ b0 K
  rw [hk] at hq p1 h97
  clear hk
  simp only at hq p1 h97
  obtain ⟨qa, ql, qc⟩ := p1
  simp only at qa ql
  have hw : IntKind.i64.wrap (s.left - 1) = s.left - 1 := i64_in _ ⟨by omega, by omega⟩
  have hp5 : Pre (5 + 3 * mA1 d) (3 * mS1 d) s1 := ⟨⟨by omega, by omega⟩, ⟨by omega, by omega⟩, qc⟩
  subst h
  have h97b := fun K => f97 l hl uses 3 (by omega) s1 ⟨by omega, by omega⟩ b0 K
  have r1 := nx_post l 3 s1 qc
  generalize nx l 3 s1 = Y at *
  obtain ⟨x, s2⟩ := Y
  simp only at h97b r1 ⊢
  have h97c := fun K => f97 l hl uses 2 (by omega) s2 ⟨by have := r1.a; omega, by have := r1.a; omega⟩ b0 K
  have hv := nx_val l (n := 2) (by omega) s2
  have r2 := r1.trans (nx_post l 2 s2 r1.c)
  generalize nx l 2 s2 = Y at *
  obtain ⟨y, s3⟩ := Y
  simp only at h97c hv r2 ⊢
  have h44 := fun K => ht s3 b0 K (hp5.step r2 (by omega) (by omega))
  generalize treeF l uses d s3 = Y at *
  obtain ⟨Y1, Y2⟩ := Y
  simp only at h44 ⊢
  have fr : frzArgs pol1 44 0 [.rf 1 1 0 0, I ((d + 1 : Nat) : Int)] (mH b0 l uses s K) = some ([.rf 1 1 0 0, I ((d + 1 : Nat) : Int)], mH b0 l uses s K) := frzArgs_mix _ _ _ rfl
  refine call_run2 (pol := pol1) Try.func44 rfl rfl rfl rfl fr ?_
  simp +contextual (disch := omega) only [Try.f44, dd44, ty0, ty3, ty4, ty22, ty24, ty26, ty91, ty93, go_sem, ↓reduceIte, List.reduceReplicate, Nat.reduceAdd, Nat.reduceSub, reduceCtorEq, Nat.reduceLeDiff, Nat.reduceMul, Nat.reduceLT, Nat.reduceEqDiff, Int.reduceBNe, Int.reduceBEq, Int.reduceEq, Int.reduceLT, Int.reduceLE, Int.reduceGT, Int.reduceGE, mu44, List.contains_nil, List.contains_cons, Nat.reduceBEq, Bool.or_self, dlt_t, dlt_f, dle_t, dle_f, dgt_t, dgt_f, dge_t, dge_f, beq_t, beq_f, bne_t, bne_f, lt_T, le_T, nle_T, nle_F, ↓wrap_up, ↓wrap_down, ↓wrap_pred, ↓wrap_sub_nat, i64_in, i64_quo, rem_in, Int.reduceToNat, room_ok, h97, hw, get_last, set_last, get_l2a, get_l2b, set_l2a, set_l2b, sameAt_l2, evBin_and, evBin_add', evBin_sub', evBin_eql', evBin_neq', evBin_lss', evBin_gtr', reC_len, reC_ok, reC_take, reC_drop, List.append_nil, h97b, h97c, h44]
  repeat' (first | intro _ | apply And.intro | (unfold dOk; kernel_rfl) | exact St.beq_refl _ | (show altO _ _ _ _ = true; kernel_rfl) | (show (_ || _) = true; kernel_rfl) | (show (_ && _) = true; kernel_rfl))
  exact ret_node (by rfl) (by rfl) s _ (ex1 ..) true true (7 + y) [] [Y1] 0 0 0 0 (x == 0)

theorem t44atom {l : List Int} (hl : ∀ x ∈ l, In64 x) {uses : Int} {d : Nat} (hd : d ≤ 5) (ht : TreeLaw l uses d) (hb : TreeB l uses d) (s : MS) (b0 : MB) (K : List MB) (hp : Pre (mA1 (d + 1)) (mS1 (d + 1)) s) (k : Int) (s1 : MS) (hk : nx l 20 ⟨s.at_, s.left - 1, s.caps⟩ = (k, s1)) (hn1 : ¬ s1.left < 3) (hn2 : ¬ (l.length : Int) < s1.at_) (h : k = 16) (u : 0 < andI uses 8) :
    call Try.prog pol1 44 [.rf 1 1 0 0, I ((d + 1 : Nat) : Int)] (mH b0 l uses s K) = some (reAV ((.mk 9 [] [(treeF l uses d s1).1] 0 0 0 0 false, (treeF l uses d s1).2) : Re × MS).1, mH b0 l uses ((.mk 9 [] [(treeF l uses d s1).1] 0 0 0 0 false, (treeF l uses d s1).2) : Re × MS).2 K) := by
  simp only [mA1, mS1] at hp
  have hA := mA1_pos d
  have hS := mS1_pos d
  have hq := nx_val l (n := 20) (by omega) ⟨s.at_, s.left - 1, s.caps⟩
  have p1 := nx_post l 20 ⟨s.at_, s.left - 1, s.caps⟩ hp.c
  obtain ⟨pa, pl, pc⟩ := hp
  have h97 := fun K => f97 l hl uses 20 (by omega) ⟨s.at_, s.left - 1, s.caps⟩ ⟨pa.1, by simp only; omega⟩ b0 K
  rw [hk] at hq p1 h97
  clear hk
  simp only at hq p1 h97
  obtain ⟨qa, ql, qc⟩ := p1
  simp only at qa ql
  have hw : IntKind.i64.wrap (s.left - 1) = s.left - 1 := i64_in _ ⟨by omega, by omega⟩
  have hp5 : Pre (5 + 3 * mA1 d) (3 * mS1 d) s1 := ⟨⟨by omega, by omega⟩, ⟨by omega, by omega⟩, qc⟩
  subst h
  have h44 := fun K => ht s1 b0 K ⟨⟨by omega, by omega⟩, ⟨by omega, by omega⟩, qc⟩
  generalize treeF l uses d s1 = Y at *
  obtain ⟨Y1, Y2⟩ := Y
  simp only at h44 ⊢
  have fr : frzArgs pol1 44 0 [.rf 1 1 0 0, I ((d + 1 : Nat) : Int)] (mH b0 l uses s K) = some ([.rf 1 1 0 0, I ((d + 1 : Nat) : Int)], mH b0 l uses s K) := frzArgs_mix _ _ _ rfl
  refine call_run2 (pol := pol1) Try.func44 rfl rfl rfl rfl fr ?_
  simp +contextual (disch := omega) only [Try.f44, dd44, ty0, ty3, ty4, ty22, ty24, ty26, ty91, ty93, go_sem, ↓reduceIte, List.reduceReplicate, Nat.reduceAdd, Nat.reduceSub, reduceCtorEq, Nat.reduceLeDiff, Nat.reduceMul, Nat.reduceLT, Nat.reduceEqDiff, Int.reduceBNe, Int.reduceBEq, Int.reduceEq, Int.reduceLT, Int.reduceLE, Int.reduceGT, Int.reduceGE, mu44, List.contains_nil, List.contains_cons, Nat.reduceBEq, Bool.or_self, dlt_t, dlt_f, dle_t, dle_f, dgt_t, dgt_f, dge_t, dge_f, beq_t, beq_f, bne_t, bne_f, lt_T, le_T, nle_T, nle_F, ↓wrap_up, ↓wrap_down, ↓wrap_pred, ↓wrap_sub_nat, i64_in, i64_quo, rem_in, Int.reduceToNat, room_ok, h97, hw, get_last, set_last, get_l2a, get_l2b, set_l2a, set_l2b, sameAt_l2, evBin_and, evBin_add', evBin_sub', evBin_eql', evBin_neq', evBin_lss', evBin_gtr', reC_len, reC_ok, reC_take, reC_drop, List.append_nil, h44]
  repeat' (first | intro _ | apply And.intro | (unfold dOk; kernel_rfl) | exact St.beq_refl _ | (show altO _ _ _ _ = true; kernel_rfl) | (show (_ || _) = true; kernel_rfl) | (show (_ && _) = true; kernel_rfl))
  exact ret_node (by rfl) (by rfl) s _ (ex1 ..) true true 9 [] [Y1] 0 0 0 0 false

theorem t44ref {l : List Int} (hl : ∀ x ∈ l, In64 x) {uses : Int} {d : Nat} (hd : d ≤ 5) (ht : TreeLaw l uses d) (hb : TreeB l uses d) (s : MS) (b0 : MB) (K : List MB) (hp : Pre (mA1 (d + 1)) (mS1 (d + 1)) s) (k : Int) (s1 : MS) (hk : nx l 20 ⟨s.at_, s.left - 1, s.caps⟩ = (k, s1)) (hn1 : ¬ s1.left < 3) (hn2 : ¬ (l.length : Int) < s1.at_) (h : k = 17) (u : 0 < andI uses 1) (c : 0 < s1.caps) :
    call Try.prog pol1 44 [.rf 1 1 0 0, I ((d + 1 : Nat) : Int)] (mH b0 l uses s K) = some (reAV ((.mk 6 [] [] 0 0 0 (1 + (nx l s1.caps s1).1) false, (nx l s1.caps s1).2) : Re × MS).1, mH b0 l uses ((.mk 6 [] [] 0 0 0 (1 + (nx l s1.caps s1).1) false, (nx l s1.caps s1).2) : Re × MS).2 K) := by
  simp only [mA1, mS1] at hp
  have hA := mA1_pos d
  have hS := mS1_pos d
  have hq := nx_val l (n := 20) (by omega) ⟨s.at_, s.left - 1, s.caps⟩
  have p1 := nx_post l 20 ⟨s.at_, s.left - 1, s.caps⟩ hp.c
  obtain ⟨pa, pl, pc⟩ := hp
  have h97 := fun K => f97 l hl uses 20 (by omega) ⟨s.at_, s.left - 1, s.caps⟩ ⟨pa.1, by simp only; omega⟩ b0 K
  rw [hk] at hq p1 h97
  clear hk
  simp only at hq p1 h97
  obtain ⟨qa, ql, qc⟩ := p1
  simp only at qa ql
  have hw : IntKind.i64.wrap (s.left - 1) = s.left - 1 := i64_in _ ⟨by omega, by omega⟩
  have hp5 : Pre (5 + 3 * mA1 d) (3 * mS1 d) s1 := ⟨⟨by omega, by omega⟩, ⟨by omega, by omega⟩, qc⟩
  subst h
  have h97b := fun K => f97 l hl uses s1.caps (by omega) s1 ⟨by omega, by omega⟩ b0 K
  have hv := nx_val l c s1
  generalize nx l s1.caps s1 = Y at *
  obtain ⟨Y1, Y2⟩ := Y
  simp only at h97b hv ⊢
  have fr : frzArgs pol1 44 0 [.rf 1 1 0 0, I ((d + 1 : Nat) : Int)] (mH b0 l uses s K) = some ([.rf 1 1 0 0, I ((d + 1 : Nat) : Int)], mH b0 l uses s K) := frzArgs_mix _ _ _ rfl
  refine call_run2 (pol := pol1) Try.func44 rfl rfl rfl rfl fr ?_
  simp +contextual (disch := omega) only [Try.f44, dd44, ty0, ty3, ty4, ty22, ty24, ty26, ty91, ty93, go_sem, ↓reduceIte, List.reduceReplicate, Nat.reduceAdd, Nat.reduceSub, reduceCtorEq, Nat.reduceLeDiff, Nat.reduceMul, Nat.reduceLT, Nat.reduceEqDiff, Int.reduceBNe, Int.reduceBEq, Int.reduceEq, Int.reduceLT, Int.reduceLE, Int.reduceGT, Int.reduceGE, mu44, List.contains_nil, List.contains_cons, Nat.reduceBEq, Bool.or_self, dlt_t, dlt_f, dle_t, dle_f, dgt_t, dgt_f, dge_t, dge_f, beq_t, beq_f, bne_t, bne_f, lt_T, le_T, nle_T, nle_F, ↓wrap_up, ↓wrap_down, ↓wrap_pred, ↓wrap_sub_nat, i64_in, i64_quo, rem_in, Int.reduceToNat, room_ok, h97, hw, get_last, set_last, get_l2a, get_l2b, set_l2a, set_l2b, sameAt_l2, evBin_and, evBin_add', evBin_sub', evBin_eql', evBin_neq', evBin_lss', evBin_gtr', reC_len, reC_ok, reC_take, reC_drop, List.append_nil, h97b]
  repeat' (first | intro _ | apply And.intro | (unfold dOk; kernel_rfl) | exact St.beq_refl _ | (show altO _ _ _ _ = true; kernel_rfl) | (show (_ || _) = true; kernel_rfl) | (show (_ && _) = true; kernel_rfl))
  exact ret_node (by rfl) (by rfl) s _ (ex1 ..) true true 6 [] [] 0 0 0 (1 + Y1) false

theorem t44cond {l : List Int} (hl : ∀ x ∈ l, In64 x) {uses : Int} {d : Nat} (hd : d ≤ 5) (ht : TreeLaw l uses d) (hb : TreeB l uses d) (s : MS) (b0 : MB) (K : List MB) (hp : Pre (mA1 (d + 1)) (mS1 (d + 1)) s) (k : Int) (s1 : MS) (hk : nx l 20 ⟨s.at_, s.left - 1, s.caps⟩ = (k, s1)) (hn1 : ¬ s1.left < 3) (hn2 : ¬ (l.length : Int) < s1.at_) (h : k = 18) (u : 0 < andI uses 2) (c : 0 < s1.caps) :
    call Try.prog pol1 44 [.rf 1 1 0 0, I ((d + 1 : Nat) : Int)] (mH b0 l uses s K) = some (reAV ((.mk 10 [] [(treeF l uses d (nx l s1.caps s1).2).1, (treeF l uses d (treeF l uses d (nx l s1.caps s1).2).2).1] 0 0 0 (1 + (nx l s1.caps s1).1) false, (treeF l uses d (treeF l uses d (nx l s1.caps s1).2).2).2) : Re × MS).1, mH b0 l uses ((.mk 10 [] [(treeF l uses d (nx l s1.caps s1).2).1, (treeF l uses d (treeF l uses d (nx l s1.caps s1).2).2).1] 0 0 0 (1 + (nx l s1.caps s1).1) false, (treeF l uses d (treeF l uses d (nx l s1.caps s1).2).2).2) : Re × MS).2 K) := by
  simp only [mA1, mS1] at hp
  have hA := mA1_pos d
  have hS := mS1_pos d
  have hq := nx_val l (n := 20) (by omega) ⟨s.at_, s.left - 1, s.caps⟩
  have p1 := nx_post l 20 ⟨s.at_, s.left - 1, s.caps⟩ hp.c
  obtain ⟨pa, pl, pc⟩ := hp
  have h97 := fun K => f97 l hl uses 20 (by omega) ⟨s.at_, s.left - 1, s.caps⟩ ⟨pa.1, by simp only; omega⟩ b0 K
  rw [hk] at hq p1 h97
  clear hk
  simp only at hq p1 h97
  obtain ⟨qa, ql, qc⟩ := p1
  simp only at qa ql
  have hw : IntKind.i64.wrap (s.left - 1) = s.left - 1 := i64_in _ ⟨by omega, by omega⟩
  have hp5 : Pre (5 + 3 * mA1 d) (3 * mS1 d) s1 := ⟨⟨by omega, by omega⟩, ⟨by omega, by omega⟩, qc⟩
  subst h
  have h97b := fun K => f97 l hl uses s1.caps (by omega) s1 ⟨by omega, by omega⟩ b0 K
  have hv := nx_val l c s1
  have r1 := nx_post l s1.caps s1 qc
  generalize nx l s1.caps s1 = Y at *
  obtain ⟨x, s2⟩ := Y
  simp only at h97b hv r1 ⊢
  have pr1 : Pre (mA1 d) (mS1 d) s2 := hp5.step r1 (by omega) (by omega)
  have h44a := fun K => ht s2 b0 K pr1
  have r2 := r1.trans (hb s2 pr1)
  generalize treeF l uses d s2 = Y at *
  obtain ⟨y, s3⟩ := Y
  simp only at h44a r2 ⊢
  have h44b := fun K => ht s3 b0 K (hp5.step r2 (by omega) (by omega))
  generalize treeF l uses d s3 = Y at *
  obtain ⟨Y1, Y2⟩ := Y
  simp only at h44b ⊢
  have fr : frzArgs pol1 44 0 [.rf 1 1 0 0, I ((d + 1 : Nat) : Int)] (mH b0 l uses s K) = some ([.rf 1 1 0 0, I ((d + 1 : Nat) : Int)], mH b0 l uses s K) := frzArgs_mix _ _ _ rfl
  refine call_run2 (pol := pol1) Try.func44 rfl rfl rfl rfl fr ?_
  simp +contextual (disch := omega) only [Try.f44, dd44, ty0, ty3, ty4, ty22, ty24, ty26, ty91, ty93, go_sem, ↓reduceIte, List.reduceReplicate, Nat.reduceAdd, Nat.reduceSub, reduceCtorEq, Nat.reduceLeDiff, Nat.reduceMul, Nat.reduceLT, Nat.reduceEqDiff, Int.reduceBNe, Int.reduceBEq, Int.reduceEq, Int.reduceLT, Int.reduceLE, Int.reduceGT, Int.reduceGE, mu44, List.contains_nil, List.contains_cons, Nat.reduceBEq, Bool.or_self, dlt_t, dlt_f, dle_t, dle_f, dgt_t, dgt_f, dge_t, dge_f, beq_t, beq_f, bne_t, bne_f, lt_T, le_T, nle_T, nle_F, ↓wrap_up, ↓wrap_down, ↓wrap_pred, ↓wrap_sub_nat, i64_in, i64_quo, rem_in, Int.reduceToNat, room_ok, h97, hw, get_last, set_last, get_l2a, get_l2b, set_l2a, set_l2b, sameAt_l2, evBin_and, evBin_add', evBin_sub', evBin_eql', evBin_neq', evBin_lss', evBin_gtr', reC_len, reC_ok, reC_take, reC_drop, List.append_nil, h97b, h44a, h44b]
  repeat' (first | intro _ | apply And.intro | (unfold dOk; kernel_rfl) | exact St.beq_refl _ | (show altO _ _ _ _ = true; kernel_rfl) | (show (_ || _) = true; kernel_rfl) | (show (_ && _) = true; kernel_rfl))
  exact ret_node (by rfl) (by rfl) s _ (ex2 ..) true true 10 [] [y, Y1] 0 0 0 (1 + x) false

theorem t44else {l : List Int} (hl : ∀ x ∈ l, In64 x) {uses : Int} {d : Nat} (hd : d ≤ 5) (ht : TreeLaw l uses d) (hb : TreeB l uses d) (s : MS) (b0 : MB) (K : List MB) (hp : Pre (mA1 (d + 1)) (mS1 (d + 1)) s) (k : Int) (s1 : MS) (hk : nx l 20 ⟨s.at_, s.left - 1, s.caps⟩ = (k, s1)) (hn1 : ¬ s1.left < 3) (hn2 : ¬ (l.length : Int) < s1.at_) (h : 12 ≤ k) (n12 : ¬ (k = 12 ∧ 0 < andI uses 64)) (n13 : ¬ (k = 13 ∧ 0 < andI uses 64)) (n14 : ¬ (k = 14 ∧ 0 < andI uses 16)) (n15 : ¬ (k = 15 ∧ 0 < andI uses 4)) (n16 : ¬ (k = 16 ∧ 0 < andI uses 8)) (n17 : ¬ (k = 17 ∧ 0 < andI uses 1 ∧ 0 < s1.caps)) (n18 : ¬ (k = 18 ∧ 0 < andI uses 2 ∧ 0 < s1.caps)) :
    call Try.prog pol1 44 [.rf 1 1 0 0, I ((d + 1 : Nat) : Int)] (mH b0 l uses s K) = some (reAV (setM l s1).1, mH b0 l uses (setM l s1).2 K) := by
  simp only [mA1, mS1] at hp
  have hA := mA1_pos d
  have hS := mS1_pos d
  have hq := nx_val l (n := 20) (by omega) ⟨s.at_, s.left - 1, s.caps⟩
  have p1 := nx_post l 20 ⟨s.at_, s.left - 1, s.caps⟩ hp.c
  obtain ⟨pa, pl, pc⟩ := hp
  have h97 := fun K => f97 l hl uses 20 (by omega) ⟨s.at_, s.left - 1, s.caps⟩ ⟨pa.1, by simp only; omega⟩ b0 K
  rw [hk] at hq p1 h97
  clear hk
  simp only at hq p1 h97
  obtain ⟨qa, ql, qc⟩ := p1
  simp only at qa ql
  have hw : IntKind.i64.wrap (s.left - 1) = s.left - 1 := i64_in _ ⟨by omega, by omega⟩
  have hp5 : Pre (5 + 3 * mA1 d) (3 * mS1 d) s1 := ⟨⟨by omega, by omega⟩, ⟨by omega, by omega⟩, qc⟩
  have h98 := fun K => f98 l hl uses s1 ⟨by omega, by omega⟩ b0 K
  generalize setM l s1 = Y at *
  obtain ⟨Y1, Y2⟩ := Y
  simp only at h98 ⊢
  have fr : frzArgs pol1 44 0 [.rf 1 1 0 0, I ((d + 1 : Nat) : Int)] (mH b0 l uses s K) = some ([.rf 1 1 0 0, I ((d + 1 : Nat) : Int)], mH b0 l uses s K) := frzArgs_mix _ _ _ rfl
  refine call_run2 (pol := pol1) Try.func44 rfl rfl rfl rfl fr ?_
  simp +contextual (disch := omega) only [Try.f44, dd44, ty0, ty3, ty4, ty22, ty24, ty26, ty91, ty93, go_sem, ↓reduceIte, List.reduceReplicate, Nat.reduceAdd, Nat.reduceSub, reduceCtorEq, Nat.reduceLeDiff, Nat.reduceMul, Nat.reduceLT, Nat.reduceEqDiff, Int.reduceBNe, Int.reduceBEq, Int.reduceEq, Int.reduceLT, Int.reduceLE, Int.reduceGT, Int.reduceGE, mu44, List.contains_nil, List.contains_cons, Nat.reduceBEq, Bool.or_self, dlt_t, dlt_f, dle_t, dle_f, dgt_t, dgt_f, dge_t, dge_f, beq_t, beq_f, bne_t, bne_f, lt_T, le_T, nle_T, nle_F, ↓wrap_up, ↓wrap_down, ↓wrap_pred, ↓wrap_sub_nat, i64_in, i64_quo, rem_in, Int.reduceToNat, room_ok, h97, hw, get_last, set_last, get_l2a, get_l2b, set_l2a, set_l2b, sameAt_l2, evBin_and, evBin_add', evBin_sub', evBin_eql', evBin_neq', evBin_lss', evBin_gtr', reC_len, reC_ok, reC_take, reC_drop, List.append_nil, h98]
  repeat' (first | intro _ | apply And.intro | (unfold dOk; kernel_rfl) | exact St.beq_refl _ | (show altO _ _ _ _ = true; kernel_rfl) | (show (_ || _) = true; kernel_rfl) | (show (_ && _) = true; kernel_rfl))
  all_goals exact ret_mkx rfl rfl s _ (ex1 ..) (fun H => fz_plain H (plain_re _)) (plain_re _)

theorem f44_succ {l : List Int} (hl : ∀ x ∈ l, In64 x) {uses : Int} {d : Nat} (hd : d ≤ 5) (ht : TreeLaw l uses d) (hb : TreeB l uses d) : TreeLaw l uses (d + 1) := by
  intro s b0 K hp
  simp only [treeF]
  generalize hk : nx l 20 ⟨s.at_, s.left - 1, s.caps⟩ = Y
  obtain ⟨k, s1⟩ := Y
  simp only
  have hq := nx_val l (n := 20) (by omega) ⟨s.at_, s.left - 1, s.caps⟩
  rw [hk] at hq
  simp only at hq
  unfold treeStep
  by_cases hc : s1.left < 3 ∨ (l.length : Int) < s1.at_
  · rw [if_pos hc]; exact leafS hl hd s b0 K hp k s1 hk hc
  rw [if_neg hc]
  have hn1 : ¬ s1.left < 3 := fun h => hc (.inl h)
  have hn2 : ¬ (l.length : Int) < s1.at_ := fun h => hc (.inr h)
  by_cases h5 : k < 5
  · rw [if_pos h5]; exact t44cat hl hd ht hb s b0 K hp k s1 hk hn1 hn2 h5
  rw [if_neg h5]
  by_cases h8 : k < 8
  · rw [if_pos h8]; exact t44alt hl hd ht hb s b0 K hp k s1 hk hn1 hn2 (by omega) h8
  rw [if_neg h8]
  by_cases h12 : k < 12
  · rw [if_pos h12]; exact t44rep hl hd ht hb s b0 K hp k s1 hk hn1 hn2 (by omega) h12
  rw [if_neg h12]
  by_cases c1 : (k = 12 ∨ k = 13) ∧ 0 < andI uses 64
  · rw [if_pos c1]
    rcases c1.1 with e | e
    · exact t44cap12 hl hd ht hb s b0 K hp k s1 hk hn1 hn2 e c1.2
    · exact t44cap13 hl hd ht hb s b0 K hp k s1 hk hn1 hn2 e c1.2
  rw [if_neg c1]
  by_cases c2 : k = 14 ∧ 0 < andI uses 16
  · rw [if_pos c2]; exact t44as hl hd ht hb s b0 K hp k s1 hk hn1 hn2 c2.1 c2.2
  rw [if_neg c2]
  by_cases c3 : k = 15 ∧ 0 < andI uses 4
  · rw [if_pos c3]; exact t44look hl hd ht hb s b0 K hp k s1 hk hn1 hn2 c3.1 c3.2
  rw [if_neg c3]
  by_cases c4 : k = 16 ∧ 0 < andI uses 8
  · rw [if_pos c4]; exact t44atom hl hd ht hb s b0 K hp k s1 hk hn1 hn2 c4.1 c4.2
  rw [if_neg c4]
  by_cases c5 : k = 17 ∧ 0 < andI uses 1 ∧ 0 < s1.caps
  · rw [if_pos c5]; exact t44ref hl hd ht hb s b0 K hp k s1 hk hn1 hn2 c5.1 c5.2.1 c5.2.2
  rw [if_neg c5]
  by_cases c6 : k = 18 ∧ 0 < andI uses 2 ∧ 0 < s1.caps
  · rw [if_pos c6]; exact t44cond hl hd ht hb s b0 K hp k s1 hk hn1 hn2 c6.1 c6.2.1 c6.2.2
  rw [if_neg c6]
  exact t44else hl hd ht hb s b0 K hp k s1 hk hn1 hn2 (by omega) (fun h => c1 ⟨.inl h.1, h.2⟩) (fun h => c1 ⟨.inr h.1, h.2⟩) c2 c3 c4 c5 c6
theorem tree_all {l : List Int} (hl : ∀ x ∈ l, In64 x) (uses : Int) : ∀ d, d ≤ 6 → TreeLaw l uses d ∧ TreeB l uses d
  | 0, _ => ⟨fun s b0 K hp => by
      simp only [treeF]
      generalize hk : nx l 20 ⟨s.at_, s.left - 1, s.caps⟩ = Y
      obtain ⟨k, s1⟩ := Y
      exact leaf0 hl s b0 K hp k s1 hk, treeB_zero⟩
  | d + 1, h => by
    obtain ⟨h1, h2⟩ := tree_all hl uses d (by omega)
    exact ⟨f44_succ hl (by omega) h1 h2, treeB_succ h2⟩

theorem f11 (l : List Int) (hl : ∀ x ∈ l, In64 x) (uses : Int) (H : List MB) :
    call Try.prog pol1 11 [.sl false (l.map I), I uses, I 40] H = some (patAV ⟨(treeF l uses 5 ⟨0, 40, 0⟩).1, (treeF l uses 5 ⟨0, 40, 0⟩).2.caps, false⟩, H) := by
  refine call_run Try.func11 rfl rfl rfl rfl rfl rfl (fun _ => rfl) (by simp [AV.plain, AV.plainL, plain_ints]) (show AV.plain (patAV _) = true from plain_patC _) ?_ H
  have hpre : Pre (mA1 5) (mS1 5) ⟨0, 40, 0⟩ := ⟨by decide, by decide, by decide⟩
  have h44 : ∀ b0, call Try.prog pol1 44 [.rf 1 1 0 0, I 5] [b0, .row 5 [.agg [.sl false (l.map I), I 0, I uses, I 40, I 0]] 0] = some (reAV (treeF l uses 5 ⟨0, 40, 0⟩).1, mH b0 l uses (treeF l uses 5 ⟨0, 40, 0⟩).2 []) := fun b0 => (tree_all hl uses 5 (by omega)).1 ⟨0, 40, 0⟩ b0 [] hpre
  generalize treeF l uses 5 ⟨0, 40, 0⟩ = Y at *
  obtain ⟨r, s⟩ := Y
  simp only at h44 ⊢
  have htk8 : ∀ r l, List.take 8 (reC r ++ l) = reC r := fun r l => by
    have := reC_len r
    rw [List.take_append_of_le_length (by omega)]; exact List.take_of_length_le (by omega)
  have hdr9 : ∀ r (a b : AV), List.drop 9 (reC r ++ [a, b]) = [b] := fun r a b => by
    have := reC_len r
    rw [show (9 : Nat) = 8 + 1 from rfl, ← List.drop_drop, List.drop_append_of_le_length (by omega), reC_drop]; rfl
  have ht10 : ∀ a b : AV, List.take 10 (reC r ++ [a, b]) = reC r ++ [a, b] := fun a b => List.take_of_length_le (by simp [reC_len])
  simp +contextual (disch := omega) only [Try.f11, dd11, ty0, ty3, ty22, ty26, ty28, ty91, ty93, go_sem, ↓reduceIte, List.reduceReplicate, Nat.reduceAdd, Nat.reduceSub, reduceCtorEq, evBin, Nat.reduceLeDiff, Nat.reduceMul, Nat.reduceLT, Nat.reduceEqDiff, Int.reduceBNe, Int.reduceBEq, Int.reduceEq, Int.reduceLT, Int.reduceLE, Int.reduceGT, Int.reduceGE, mu11, List.contains_nil, List.contains_cons, Nat.reduceBEq, Bool.or_self, dlt_t, dlt_f, dle_t, dle_f, dgt_t, dgt_f, dge_t, dge_f, beq_t, beq_f, bne_t, bne_f, lt_T, le_T, nle_T, nle_F, ↓wrap_up, ↓wrap_down, ↓wrap_pred, ↓wrap_sub_nat, i64_in, i64_quo, rem_in, Int.reduceToNat, room_ok, h44, htk8, hdr9, ht10, reC_len, reC_ok, reC_take, reC_drop, List.all_append]
  repeat' (first | intro _ | apply And.intro | (unfold dOk; kernel_rfl) | exact St.beq_refl _ | (show altO _ _ _ _ = true; kernel_rfl) | (show (_ || _) = true; kernel_rfl) | (show (_ && _) = true; kernel_rfl))
  exact ⟨_, fz_plain _ (plain_patC ⟨r, s.caps, false⟩)⟩
end
section
attribute [local go_sem] evAppend evBin List.map_append
open Go.Proofs Go.RowKit Go.IntWalk
set_option maxRecDepth 100000
set_option linter.unusedSimpArgs false
set_option linter.unusedVariables false
set_option maxHeartbeats 8000000

theorem f56 (l : List (Int × Int)) (hl : l.length ≤ 1000000) (H : List MB) : call Try.prog pol1 56 [.sl false (l.map spanAV), .sl false (l.map spanAV)] H = some (.bool true, H) := by
  refine call_run Try.func56 rfl rfl rfl rfl rfl rfl (fun _ => rfl) (by simp [AV.plain, AV.plainL, plain_span]) rfl ?_ H
  have hfk : flatKinds Try.prog 86 = some [true, true] := by kernel_rfl
  simp +contextual (disch := omega) only [Try.f56, dd56, ty0, ty3, ty4, ty23, ty86, go_sem, ↓reduceIte, List.reduceReplicate, Nat.reduceAdd, Nat.reduceSub, reduceCtorEq, Nat.reduceLeDiff, Nat.reduceMul, Nat.reduceLT, Nat.reduceEqDiff, Int.reduceBNe, Int.reduceBEq, Int.reduceEq, Int.reduceLT, Int.reduceLE, Int.reduceGT, Int.reduceGE, mu56, List.contains_nil, List.contains_cons, Nat.reduceBEq, Bool.or_self, dlt_t, dlt_f, dle_t, dle_f, dgt_t, dgt_f, dge_t, dge_f, beq_t, beq_f, bne_t, bne_f, lt_T, le_T, nle_T, nle_F, ↓wrap_up, ↓wrap_down, ↓wrap_pred, ↓wrap_sub_nat, i64_in, i64_quo, rem_in, Int.reduceToNat, room_ok]
  refine W_count (M := (mskOf (pol1.mask 56) (pol1.gc 56) (pol1.acts 56) 0 4)) rfl l.length (fun i => (⟨26, [(5, I i), (1, .sl false (l.map spanAV)), (0, .sl false (l.map spanAV))], []⟩ : St)) (fun _ => True) ?_ ?_ trivial _ (by first | rfl | (simp [keepT, AV.underL, AV.under, MB.under, underL_plain, under_plain, underL_append, plain_ints, plain_span, plain_ins, plain_prg, -List.map_take, -List.map_replicate, -List.map_set]; done))
  · intro i hi _
    obtain ⟨p, hp⟩ : ∃ p, l[i]? = some p := ⟨_, List.getElem?_eq_getElem hi⟩
    simp +contextual (disch := omega) only [Try.f56, dd56, ty0, ty3, ty4, ty23, ty86, go_sem, ↓reduceIte, List.reduceReplicate, Nat.reduceAdd, Nat.reduceSub, reduceCtorEq, Nat.reduceLeDiff, Nat.reduceMul, Nat.reduceLT, Nat.reduceEqDiff, Int.reduceBNe, Int.reduceBEq, Int.reduceEq, Int.reduceLT, Int.reduceLE, Int.reduceGT, Int.reduceGE, mu56, List.contains_nil, List.contains_cons, Nat.reduceBEq, Bool.or_self, dlt_t, dlt_f, dle_t, dle_f, dgt_t, dgt_f, dge_t, dge_f, beq_t, beq_f, bne_t, bne_f, lt_T, le_T, nle_T, nle_F, ↓wrap_up, ↓wrap_down, ↓wrap_pred, ↓wrap_sub_nat, i64_in, i64_quo, rem_in, Int.reduceToNat, room_ok, hp, hfk, beq_self_eq_true]
    repeat' (first | intro _ | apply And.intro | (unfold dOk; kernel_rfl) | exact St.beq_refl _ | (show altO _ _ _ _ = true; kernel_rfl) | (show (_ || _) = true; kernel_rfl) | (show (_ && _) = true; kernel_rfl))
    exact (by first | rfl | (simp [keepT, AV.underL, AV.under, MB.under, underL_plain, under_plain, underL_append, plain_ints, plain_span, plain_ins, plain_prg, -List.map_take, -List.map_replicate, -List.map_set]; done))
  · intro _
    simp +contextual (disch := omega) only [Try.f56, dd56, ty0, ty3, ty4, ty23, ty86, go_sem, ↓reduceIte, List.reduceReplicate, Nat.reduceAdd, Nat.reduceSub, reduceCtorEq, Nat.reduceLeDiff, Nat.reduceMul, Nat.reduceLT, Nat.reduceEqDiff, Int.reduceBNe, Int.reduceBEq, Int.reduceEq, Int.reduceLT, Int.reduceLE, Int.reduceGT, Int.reduceGE, mu56, List.contains_nil, List.contains_cons, Nat.reduceBEq, Bool.or_self, dlt_t, dlt_f, dle_t, dle_f, dgt_t, dgt_f, dge_t, dge_f, beq_t, beq_f, bne_t, bne_f, lt_T, le_T, nle_T, nle_F, ↓wrap_up, ↓wrap_down, ↓wrap_pred, ↓wrap_sub_nat, i64_in, i64_quo, rem_in, Int.reduceToNat, room_ok]
    exact fzEq rfl rfl
theorem f16 (g : Prg) (hl : g.ins.length ≤ 1000000) (hs : ∀ i ∈ g.ins, i.set.length ≤ 1000000) (H : List MB) : call Try.prog pol1 16 [prgAV g, prgAV g] H = some (.bool true, H) := by
  refine call_run Try.func16 rfl rfl rfl rfl rfl rfl (fun _ => rfl) (by simp [AV.plain, AV.plainL, plain_ins]) rfl ?_ H
  simp +contextual (disch := omega) only [Try.f16, dd16, ty0, ty3, ty4, ty23, ty39, ty41, ty108, go_sem, ↓reduceIte, List.reduceReplicate, Nat.reduceAdd, Nat.reduceSub, reduceCtorEq, Nat.reduceLeDiff, Nat.reduceMul, Nat.reduceLT, Nat.reduceEqDiff, Int.reduceBNe, Int.reduceBEq, Int.reduceEq, Int.reduceLT, Int.reduceLE, Int.reduceGT, Int.reduceGE, mu16, List.contains_nil, List.contains_cons, Nat.reduceBEq, Bool.or_self, dlt_t, dlt_f, dle_t, dle_f, dgt_t, dgt_f, dge_t, dge_f, beq_t, beq_f, bne_t, bne_f, lt_T, le_T, nle_T, nle_F, ↓wrap_up, ↓wrap_down, ↓wrap_pred, ↓wrap_sub_nat, i64_in, i64_quo, rem_in, Int.reduceToNat, room_ok, beq_self_eq_true]
  refine W_count (M := (mskOf (pol1.mask 16) (pol1.gc 16) (pol1.acts 16) 0 4)) rfl g.ins.length (fun i => (⟨80, [(5, I i), (3, .rf 1 1 0 0), (2, .rf 0 1 0 0)], [.row 3 [prgAV g] 0, .row 3 [prgAV g] 0]⟩ : St)) (fun _ => True) ?_ ?_ trivial _ (by first | rfl | (refine prep_to (n := 2) (m := ⟨some [5, 3, 2], some 2, []⟩) rfl rfl ?_ ?_ ?_ <;> first | rfl | (simp [keepT, AV.underL, AV.under, MB.under, underL_plain, under_plain, underL_append, plain_ints, plain_span, plain_ins, plain_prg, -List.map_take, -List.map_replicate, -List.map_set]; done) | (simp [keepT, AV.underL, AV.under, MB.under, underL_plain, under_plain, underL_append, plain_ints, plain_span, plain_ins, plain_prg, -List.map_take, -List.map_replicate, -List.map_set]; omega)))
  · intro i hi _
    obtain ⟨p, hp⟩ : ∃ p, g.ins[i]? = some p := ⟨_, List.getElem?_eq_getElem hi⟩
    have h56 := f56 p.set (hs p (List.mem_of_getElem? hp))
    simp +contextual (disch := omega) only [Try.f16, dd16, ty0, ty3, ty4, ty23, ty39, ty41, ty108, go_sem, ↓reduceIte, List.reduceReplicate, Nat.reduceAdd, Nat.reduceSub, reduceCtorEq, Nat.reduceLeDiff, Nat.reduceMul, Nat.reduceLT, Nat.reduceEqDiff, Int.reduceBNe, Int.reduceBEq, Int.reduceEq, Int.reduceLT, Int.reduceLE, Int.reduceGT, Int.reduceGE, mu16, List.contains_nil, List.contains_cons, Nat.reduceBEq, Bool.or_self, dlt_t, dlt_f, dle_t, dle_f, dgt_t, dgt_f, dge_t, dge_f, beq_t, beq_f, bne_t, bne_f, lt_T, le_T, nle_T, nle_F, ↓wrap_up, ↓wrap_down, ↓wrap_pred, ↓wrap_sub_nat, i64_in, i64_quo, rem_in, Int.reduceToNat, room_ok, hp, h56, beq_self_eq_true]
    exact (by first | rfl | (refine prep_to (n := 2) (m := ⟨some [5, 3, 2], some 2, []⟩) rfl rfl ?_ ?_ ?_ <;> first | rfl | (simp [keepT, AV.underL, AV.under, MB.under, underL_plain, under_plain, underL_append, plain_ints, plain_span, plain_ins, plain_prg, -List.map_take, -List.map_replicate, -List.map_set]; done) | (simp [keepT, AV.underL, AV.under, MB.under, underL_plain, under_plain, underL_append, plain_ints, plain_span, plain_ins, plain_prg, -List.map_take, -List.map_replicate, -List.map_set]; omega)))
  · intro _
    simp +contextual (disch := omega) only [Try.f16, dd16, ty0, ty3, ty4, ty23, ty39, ty41, ty108, go_sem, ↓reduceIte, List.reduceReplicate, Nat.reduceAdd, Nat.reduceSub, reduceCtorEq, Nat.reduceLeDiff, Nat.reduceMul, Nat.reduceLT, Nat.reduceEqDiff, Int.reduceBNe, Int.reduceBEq, Int.reduceEq, Int.reduceLT, Int.reduceLE, Int.reduceGT, Int.reduceGE, mu16, List.contains_nil, List.contains_cons, Nat.reduceBEq, Bool.or_self, dlt_t, dlt_f, dle_t, dle_f, dgt_t, dgt_f, dge_t, dge_f, beq_t, beq_f, bne_t, bne_f, lt_T, le_T, nle_T, nle_F, ↓wrap_up, ↓wrap_down, ↓wrap_pred, ↓wrap_sub_nat, i64_in, i64_quo, rem_in, Int.reduceToNat, room_ok]
    exact fzEq rfl rfl

mutual
theorem codeG_sets : ∀ (r : Re) (f : Nat) (i : Ins), i ∈ codeG r f → i.set.length ≤ r.wt
  | .mk op set kids mn mx md n neg, f, i, h => by
    have hcat := fun f => codeCat_sets kids f
    have halt := fun f => codeAlt_sets kids f
    have hhd := fun f => codeHd_sets kids f
    have hsp : ∀ md a b, (insSplit md a b).set = [] := fun md a b => by unfold insSplit; split <;> rfl
    simp only [Re.wt]
    rw [codeG] at h
    split at h
    · simp at h; subst h; simp only; omega
    split at h
    · simp at h; subst h; simp
    split at h
    · have := hcat f i h; omega
    split at h
    · have := halt f i h; omega
    split at h
    · simp only [List.mem_cons, List.mem_append, List.not_mem_nil, or_false] at h
      rcases h with rfl | h | rfl
      · simp
      · have := hhd _ i h; omega
      · simp
    split at h
    · simp only at h
      split at h
      · simp only [List.mem_append, List.mem_flatMap, List.mem_cons, List.not_mem_nil, or_false] at h
        rcases h with ⟨a, _, h⟩ | rfl | h | rfl
        · have := hhd _ i h; omega
        · rw [hsp]; simp
        · have := hhd _ i h; omega
        · simp
      · simp only [List.mem_append, List.mem_flatMap, List.mem_cons] at h
        rcases h with ⟨a, _, h⟩ | ⟨a, _, rfl | h⟩
        · have := hhd _ i h; omega
        · rw [hsp]; simp
        · have := hhd _ i h; omega
    · simp at h
theorem codeCat_sets : ∀ (l : List Re) (f : Nat) (i : Ins), i ∈ codeCat l f → i.set.length ≤ Re.wtL l
  | [], f, i, h => by simp [codeCat] at h
  | k :: ks, f, i, h => by
    rw [codeCat] at h
    rcases List.mem_append.1 h with h | h
    · have := codeG_sets k f i h; simp [Re.wtL]; omega
    · have := codeCat_sets ks _ i h; simp [Re.wtL]; omega
theorem codeAlt_sets : ∀ (l : List Re) (f : Nat) (i : Ins), i ∈ codeAlt l f → i.set.length ≤ Re.wtL l
  | [], f, i, h => by simp [codeAlt] at h
  | k :: ks, f, i, h => by
    rw [codeAlt] at h
    split at h
    · have := codeG_sets k f i h; simp [Re.wtL]; omega
    · simp only [List.mem_cons, List.mem_append] at h
      rcases h with rfl | h | rfl | h
      · simp
      · have := codeG_sets k _ i h; simp [Re.wtL]; omega
      · simp
      · have := codeAlt_sets ks _ i h; simp [Re.wtL]; omega
theorem codeHd_sets : ∀ (l : List Re) (f : Nat) (i : Ins), i ∈ codeHd l f → i.set.length ≤ Re.wtL l
  | [], f, i, h => by simp [codeHd] at h
  | k :: ks, f, i, h => by
    rw [codeHd] at h
    have := codeG_sets k f i h
    simp [Re.wtL]; omega
end
theorem comp_bounds (p : Pat) (hw : p.re.wt ≤ 1000000) : (compP p).1.ins.length ≤ 1000000 ∧ ∀ i ∈ (compP p).1.ins, i.set.length ≤ 1000000 := by
  unfold compP
  split
  · rename_i hv
    split
    · rename_i hc
      split
      · rename_i hL
        obtain ⟨hsz, hdp, hc0, hc9, hwg⟩ := valid_facts hv
        have hl := codeG_len _ _ p.re 0 ⟨hwg, codable_of p.re [] hc⟩
        refine ⟨by simp only [List.length_append, List.length_singleton, hl]; omega, fun i hi => ?_⟩
        simp only [List.mem_append, List.mem_singleton] at hi
        rcases hi with hi | rfl
        · exact Nat.le_trans (codeG_sets p.re 0 i hi) hw
        · simp
      · exact ⟨by simp, fun i hi => by simp at hi⟩
    · exact ⟨by simp, fun i hi => by simp at hi⟩
  · exact ⟨by simp, fun i hi => by simp at hi⟩
end
section
attribute [local go_sem] evBin
open Go.Proofs Go.RowKit Go.IntWalk
set_option maxRecDepth 100000
set_option linter.unusedSimpArgs false
set_option linter.unusedVariables false
set_option maxHeartbeats 8000000

mutual
/-- The ways to all nodes of a tree. -/
def pathsG : Re → List (List Int)
  | .mk op set kids mn mx md n neg => [] :: pathsL kids 0
def pathsL : List Re → Nat → List (List Int)
  | [], _ => []
  | k :: ks, i => (pathsG k).map (fun p => (i : Int) :: p) ++ pathsL ks (i + 1)
end
theorem pathsL_append : ∀ (a b : List Re) (i : Nat), pathsL (a ++ b) i = pathsL a i ++ pathsL b (i + a.length)
  | [], b, i => by simp [pathsL]
  | k :: ks, b, i => by
    simp only [List.cons_append, pathsL, pathsL_append ks b (i + 1), List.append_assoc, List.length_cons]
    rw [show i + 1 + ks.length = i + (ks.length + 1) by omega]
theorem pathsL_take {l : List Re} {i : Nat} {k : Re} (h : l[i]? = some k) : pathsL (l.take (i + 1)) 0 = pathsL (l.take i) 0 ++ (pathsG k).map (fun p => (i : Int) :: p) := by
  have hi : i < l.length := (List.getElem?_eq_some_iff.1 h).1
  rw [List.take_add_one, h, pathsL_append]
  simp [pathsL, Nat.min_eq_left (Nat.le_of_lt hi)]
mutual
theorem pathsG_len : ∀ r : Re, (pathsG r).length = r.size
  | .mk op set kids mn mx md n neg => by
    have := pathsL_len kids 0
    simp [pathsG, Re.size, this]; omega
theorem pathsL_len : ∀ (l : List Re) (i : Nat), (pathsL l i).length = Re.sizeL l
  | [], i => rfl
  | k :: ks, i => by
    have h1 := pathsG_len k
    have h2 := pathsL_len ks (i + 1)
    simp [pathsL, Re.sizeL, h1, h2]
end
mutual
theorem pathsG_deep : ∀ (r : Re) (p : List Int), p ∈ pathsG r → p.length ≤ r.depth
  | .mk op set kids mn mx md n neg, p, h => by
    simp only [pathsG, List.mem_cons] at h
    rcases h with rfl | h
    · simp
    · have := pathsL_deep kids 0 p h
      simp [Re.depth]; omega
theorem pathsL_deep : ∀ (l : List Re) (i : Nat) (p : List Int), p ∈ pathsL l i → p.length ≤ 1 + Re.depthL l
  | [], i, p, h => by simp [pathsL] at h
  | k :: ks, i, p, h => by
    simp only [pathsL, List.mem_append, List.mem_map] at h
    rcases h with ⟨q, hq, rfl⟩ | h
    · have := pathsG_deep k q hq
      simp [Re.depthL]; omega
    · have := pathsL_deep ks (i + 1) p h
      simp [Re.depthL]; omega
end
abbrev pathAV (p : List Int) : AV := .sl false (p.map I)
theorem plain_paths (l : List (List Int)) : AV.plainL (l.map pathAV) = true := by
  rw [plainL_iff]
  intro x hx
  obtain ⟨p, _, rfl⟩ := List.mem_map.1 hx
  simp [AV.plain, plain_ints]
theorem app_ints {H : List MB} {i n z : Nat} {els : List AV} {q : List Int} {t : Bool} (hi : getRow H i = some (1, els, z)) (hn : els.length = n) (hz : z ≤ n) (hr : n + q.length ≤ 4000000000) :
    evAppend Try.prog H 22 22 (.ms i 1 n 0 n) (.sl t (q.map I)) = some (.ms i 1 (n + q.length) 0 (n + q.length), H.set i (.row 1 (els ++ q.map I) z)) := by
  have hs : srcElems Try.prog H 3 (.sl t (q.map I)) = some (q.map I) := rfl
  have hall : ((q.map I).all fun y => decide (y.cells.length = 1) && y.cells.all AV.ok) = true := by
    rw [List.all_eq_true]
    intro x hx
    obtain ⟨y, _, rfl⟩ := List.mem_map.1 hx
    rfl
  rw [evAppend_end (e := 3) (by kernel_rfl) (by kernel_rfl) (k := 1) (by kernel_rfl) (by_ := 8) (by kernel_rfl) (ze := I 0) (by kernel_rfl) rfl (by omega) hs hall hi hn hz (room_ok (by rw [List.length_map]; exact hr) (by omega)), List.length_map]
theorem app_path {H : List MB} {i n z : Nat} {els : List AV} {y : AV} {t : Bool} (hi : getRow H i = some (1, els, z)) (hn : els.length = n) (hy : (decide (y.cells.length = 1) && y.cells.all AV.ok) = true) (hz : z ≤ n) (hr : n + 1 ≤ 4000000000) :
    evAppend Try.prog H 94 94 (.ms i 1 n 0 n) (.sl t [y]) = some (.ms i 1 (n + 1) 0 (n + 1), H.set i (.row 1 (els ++ [y]) z)) := by
  have hs : srcElems Try.prog H 22 (.sl t [y]) = some [y] := rfl
  rw [evAppend_end (e := 22) (by kernel_rfl) (by kernel_rfl) (k := 1) (by kernel_rfl) (by_ := 24) (by kernel_rfl) (ze := .sl true []) (by kernel_rfl) rfl (by omega) hs (by simp only [List.all_cons, List.all_nil, hy, Bool.and_true]) hi hn hz (room_ok hr (by omega))]
  rfl

theorem fzs_paths (fl : Bool) (rest : List (List Int)) (x : Int) (q : List Int) (b0 b1 : MB) :
    fzs (.sl fl [] :: (rest.map pathAV ++ [.ms 2 1 (1 + q.length) 0 (1 + q.length)])) [b0, b1, .row 1 (I x :: q.map I) 0] = some (.sl false [] :: (rest.map pathAV ++ [pathAV (x :: q)]), [b0, b1, .row 1 (I x :: q.map I) (1 + q.length)]) := by
  have h1 : ∀ H, fzA (fzJ 6) (.sl fl []) H = some (.sl false [], H) := fun H => rfl
  have h2 : fzA (fzJ 6) (.ms 2 1 (1 + q.length) 0 (1 + q.length)) [b0, b1, .row 1 (I x :: q.map I) 0] = some (pathAV (x :: q), [b0, b1, .row 1 (I x :: q.map I) (1 + q.length)]) := by
    rw [fzA_row (n := 5) (z := 0) (k := 1) (els := I x :: q.map I) rfl (by simp; omega) (by simp [AV.plainL, AV.plain, plain_ints])]
    simp [mark, getRow]
  have h4 : ∀ (l : List AV) (m : List AV) (H : List MB), AV.plainL l = true → fzL (fzJ 6) (l ++ m) H = match fzL (fzJ 6) m H with
      | some (ys, H') => some (l ++ ys, H')
      | none => none := by
    intro l
    induction l with
    | nil => intro m H _; simp only [List.nil_append]; cases fzL (fzJ 6) m H <;> rfl
    | cons a l ih =>
      intro m H hp
      simp only [AV.plainL, Bool.and_eq_true] at hp
      simp only [List.cons_append, fzL, fzA_plain _ a H hp.1, ih m H hp.2]
      cases fzL (fzJ 6) m H <;> rfl
  simp only [fzs, fzL, h1, h4 _ _ _ (plain_paths rest), h2]

theorem fz_paths (fl : Bool) (R : List (List Int)) (b0 : MB) : ∃ H', fz (.ms 1 1 (1 + R.length) 0 (1 + R.length)) [b0, .row 1 (.sl fl [] :: R.map pathAV) 0] = some (.sl false (([] :: R).map pathAV), H') := by
  have h1 : ∀ H, fzA (fzJ 5) (.sl fl []) H = some (.sl false [], H) := fun H => rfl
  have hk : ∀ H, fzJ 6 (.sl fl [] :: R.map pathAV) H = some (([] :: R).map pathAV, H) := fun H => by
    simp only [fzJ, fzL, h1, fzL_plain _ _ _ (plain_paths R)]
    rfl
  refine ⟨mark [b0, .row 1 (.sl fl [] :: R.map pathAV) 0] 1 (0 + (1 + R.length)), ?_⟩
  unfold fz
  refine fzA_ms rfl (by simp; omega) (by omega) ?_
  rw [List.drop_zero, List.take_of_length_le (by simp; omega)]
  exact hk _
theorem f45 : ∀ (N : Nat) (r : Re), r.wt ≤ N → r.wt ≤ 1000000 → ∀ H, call Try.prog pol1 45 [reAV r] H = some (.sl false ((pathsG r).map pathAV), H)
  | 0, r, h, _ => by have := r.wt_pos; omega
  | N + 1, .mk op set kids mn mx md n neg, h, hN => by
    intro H
    have hkl := Re.wtL_len kids
    have hwt : 1 + set.length + Re.wtL kids = (Re.mk op set kids mn mx md n neg).wt := by simp [Re.wt]
    have hszk := Re.sizeL_wt kids
    have ih := fun k (hk : k ∈ kids) => f45 N k (by have := Re.wtL_mem hk; omega) (by have := Re.wtL_mem hk; omega)
    rw [show reAV (.mk op set kids mn mx md n neg) = .agg (nodeL op set kids mn mx md n neg) from congrArg AV.agg reC_mk]
    refine call_run Try.func45 rfl rfl rfl rfl rfl rfl (fun _ => rfl) (by simp [AV.plain, AV.plainL, plain_span, plain_kids]) (by simp [AV.plain, plain_paths]) ?_ H
    simp +contextual (disch := omega) only [Try.f45, dd45, ty0, ty3, ty4, ty22, ty24, ty26, ty94, go_sem, ↓reduceIte, evAppend, List.reduceReplicate, Nat.reduceAdd, Nat.reduceSub, reduceCtorEq, Nat.reduceLeDiff, Nat.reduceMul, Nat.reduceLT, Nat.reduceEqDiff, Int.reduceBNe, Int.reduceBEq, Int.reduceEq, Int.reduceLT, Int.reduceLE, Int.reduceGT, Int.reduceGE, List.map_append, mu45, List.contains_nil, List.contains_cons, Nat.reduceBEq, Bool.or_self, dlt_t, dlt_f, dle_t, dle_f, dgt_t, dgt_f, dge_t, dge_f, beq_t, beq_f, bne_t, bne_f, lt_T, le_T, nle_T, nle_F, ↓wrap_up, ↓wrap_down, ↓wrap_pred, ↓wrap_sub_nat, i64_in, i64_quo, rem_in, Int.reduceToNat, room_ok]
    refine W_count (M := (mskOf (pol1.mask 45) (pol1.gc 45) (pol1.acts 45) 0 3)) rfl kids.length (fun i => (⟨38, [(4, I i), (3, .ms 1 1 (1 + (pathsL (kids.take i) 0).length) 0 (1 + (pathsL (kids.take i) 0).length)), (1, .rf 0 1 0 0)], [.row 8 [.agg (nodeL op set kids mn mx md n neg)] 0, .row 1 (.sl (decide (i = 0)) [] :: (pathsL (kids.take i) 0).map pathAV) 0]⟩ : St)) (fun _ => True) ?_ ?_ trivial _ (by first | rfl | (refine prep_to (n := 2) (m := ⟨some [4, 3, 1], some 2, []⟩) rfl rfl ?_ ?_ ?_ <;> first | rfl | (simp [keepT, AV.underL, AV.under, MB.under, underL_plain, under_plain, underL_append, plain_ints, plain_span, plain_ins, plain_prg, -List.map_take, -List.map_replicate, -List.map_set, plain_kids]; done) | (simp [keepT, AV.underL, AV.under, MB.under, underL_plain, under_plain, underL_append, plain_ints, plain_span, plain_ins, plain_prg, -List.map_take, -List.map_replicate, -List.map_set, plain_kids]; omega)))
    · intro i hi _
      obtain ⟨k, hk⟩ : ∃ k, kids[i]? = some k := ⟨_, List.getElem?_eq_getElem hi⟩
      have hkm := List.mem_of_getElem? hk
      have ihk := ih k hkm
      have hl8 := reC_len k
      have ht8 := reC_take k
      have hs1 := Re.sizeL_take hk
      have hs2 := Re.sizeL_le (l := kids) (i := i + 1)
      have hpl := pathsL_len (kids.take i) 0
      have hpk := pathsG_len k
      have hpd := pathsG_deep k
      have hkw := Re.wtL_mem hkm
      have hks := Re.depth_size k
      rw [pathsL_take hk]
      generalize pathsL (kids.take i) 0 = R at *
      have hne : 0 < (pathsG k).length := by have := k.size_pos; omega
      generalize pathsG k = P at *
      simp +contextual (disch := omega) only [Try.f45, dd45, ty0, ty3, ty4, ty22, ty24, ty26, ty94, go_sem, ↓reduceIte, evAppend, List.reduceReplicate, Nat.reduceAdd, Nat.reduceSub, reduceCtorEq, Nat.reduceLeDiff, Nat.reduceMul, Nat.reduceLT, Nat.reduceEqDiff, Int.reduceBNe, Int.reduceBEq, Int.reduceEq, Int.reduceLT, Int.reduceLE, Int.reduceGT, Int.reduceGE, List.map_append, mu45, List.contains_nil, List.contains_cons, Nat.reduceBEq, Bool.or_self, dlt_t, dlt_f, dle_t, dle_f, dgt_t, dgt_f, dge_t, dge_f, beq_t, beq_f, bne_t, bne_f, lt_T, le_T, nle_T, nle_F, ↓wrap_up, ↓wrap_down, ↓wrap_pred, ↓wrap_sub_nat, i64_in, i64_quo, rem_in, Int.reduceToNat, room_ok, hk, hl8, ht8, ihk]
      refine W_count (M := (mskOf (pol1.mask 45) (pol1.gc 45) (pol1.acts 45) 0 7)) rfl P.length (fun j => (⟨38, [(6, I j), (5, .sl false (P.map pathAV)), (4, I i), (3, .ms 1 1 (1 + (R ++ (P.take j).map (fun p => (i : Int) :: p)).length) 0 (1 + (R ++ (P.take j).map (fun p => (i : Int) :: p)).length)), (1, .rf 0 1 0 0)], [.row 8 [.agg (nodeL op set kids mn mx md n neg)] 0, .row 1 (.sl (decide (i = 0 ∧ j = 0)) [] :: (R ++ (P.take j).map (fun p => (i : Int) :: p)).map pathAV) 0]⟩ : St)) (fun _ => True) ?_ ?_ trivial _ ?_
      · intro j hj _
        obtain ⟨q, hq⟩ : ∃ q, P[j]? = some q := ⟨_, List.getElem?_eq_getElem hj⟩
        have hql := hpd q (List.mem_of_getElem? hq)
        have e1 : R ++ (P.take (j + 1)).map (fun p => (i : Int) :: p) = (R ++ (P.take j).map (fun p => (i : Int) :: p)) ++ [(i : Int) :: q] := by
          rw [List.take_add_one, hq]; simp
        rw [e1, show decide (i = 0 ∧ j + 1 = 0) = false by simp]
        have hRl : (R ++ (P.take j).map (fun p => (i : Int) :: p)).length ≤ 1000000 := by
          simp only [List.length_append, List.length_map, List.length_take]; omega
        generalize R ++ (P.take j).map (fun p => (i : Int) :: p) = Rj at *
        generalize decide (i = 0 ∧ j = 0) = fl at *
        have hz := fzs_paths fl Rj i q (.row 8 [.agg (nodeL op set kids mn mx md n neg)] 0) (.row 1 (.sl fl [] :: (Rj.map pathAV ++ [.ms 2 1 (1 + q.length) 0 (1 + q.length)])) 0)
        have hap1 := fun b0 b1 => app_ints (H := [b0, b1, .row 1 [I i] 0]) (i := 2) (n := 1) (z := 0) (els := [I i]) (q := q) (t := false) rfl rfl (by omega) (by omega)
        have hap2 := fun b0 b2 => app_path (H := [b0, .row 1 (.sl fl [] :: Rj.map pathAV) 0, b2]) (i := 1) (n := 1 + Rj.length) (z := 0) (els := .sl fl [] :: Rj.map pathAV) (y := .ms 2 1 (1 + q.length) 0 (1 + q.length)) (t := true) rfl (by simp; omega) rfl (by omega) (by omega)
        simp +contextual (disch := omega) only [Try.f45, dd45, ty0, ty3, ty4, ty22, ty24, ty26, ty94, go_sem, ↓reduceIte, List.reduceReplicate, Nat.reduceAdd, Nat.reduceSub, reduceCtorEq, Nat.reduceLeDiff, Nat.reduceMul, Nat.reduceLT, Nat.reduceEqDiff, Int.reduceBNe, Int.reduceBEq, Int.reduceEq, Int.reduceLT, Int.reduceLE, Int.reduceGT, Int.reduceGE, mu45, List.contains_nil, List.contains_cons, Nat.reduceBEq, Bool.or_self, dlt_t, dlt_f, dle_t, dle_f, dgt_t, dgt_f, dge_t, dge_f, beq_t, beq_f, bne_t, bne_f, lt_T, le_T, nle_T, nle_F, ↓wrap_up, ↓wrap_down, ↓wrap_pred, ↓wrap_sub_nat, i64_in, i64_quo, rem_in, Int.reduceToNat, room_ok, hq, hap1, hap2, hz, AV.beqL_refl]
        rw [List.map_append, show 1 + (Rj.length + 1) = 1 + Rj.length + 1 by omega]
        exact (by first | rfl | (refine prep_to (n := 2) (m := ⟨some [6, 5, 4, 3, 1], some 2, []⟩) rfl rfl ?_ ?_ ?_ <;> first | rfl | (simp [keepT, AV.underL, AV.under, MB.under, underL_plain, under_plain, underL_append, plain_ints, plain_span, plain_ins, plain_prg, -List.map_take, -List.map_replicate, -List.map_set, plain_kids, plain_paths]; done) | (simp [keepT, AV.underL, AV.under, MB.under, underL_plain, under_plain, underL_append, plain_ints, plain_span, plain_ins, plain_prg, -List.map_take, -List.map_replicate, -List.map_set, plain_kids, plain_paths]; omega)))
      · intro _
        rw [List.take_length, decide_eq_false (show ¬ (i = 0 ∧ P.length = 0) by omega)]
        simp +contextual (disch := omega) only [Try.f45, dd45, ty0, ty3, ty4, ty22, ty24, ty26, ty94, go_sem, ↓reduceIte, evAppend, List.reduceReplicate, Nat.reduceAdd, Nat.reduceSub, reduceCtorEq, Nat.reduceLeDiff, Nat.reduceMul, Nat.reduceLT, Nat.reduceEqDiff, Int.reduceBNe, Int.reduceBEq, Int.reduceEq, Int.reduceLT, Int.reduceLE, Int.reduceGT, Int.reduceGE, List.map_append, mu45, List.contains_nil, List.contains_cons, Nat.reduceBEq, Bool.or_self, dlt_t, dlt_f, dle_t, dle_f, dgt_t, dgt_f, dge_t, dge_f, beq_t, beq_f, bne_t, bne_f, lt_T, le_T, nle_T, nle_F, ↓wrap_up, ↓wrap_down, ↓wrap_pred, ↓wrap_sub_nat, i64_in, i64_quo, rem_in, Int.reduceToNat, room_ok]
        exact (by first | rfl | (refine prep_to (n := 2) (m := ⟨some [4, 3, 1], some 2, []⟩) rfl rfl ?_ ?_ ?_ <;> first | rfl | (simp [keepT, AV.underL, AV.under, MB.under, underL_plain, under_plain, underL_append, plain_ints, plain_span, plain_ins, plain_prg, -List.map_take, -List.map_replicate, -List.map_set, plain_kids, plain_paths, -List.map_map]; done) | (simp [keepT, AV.underL, AV.under, MB.under, underL_plain, under_plain, underL_append, plain_ints, plain_span, plain_ins, plain_prg, -List.map_take, -List.map_replicate, -List.map_set, plain_kids, plain_paths, -List.map_map]; omega)))
      · rw [List.take_zero, List.map_nil, List.append_nil, show decide (i = 0 ∧ 0 = 0) = decide (i = 0) by simp]
        exact (by first | rfl | (refine prep_to (n := 2) (m := ⟨some [6, 5, 4, 3, 1], some 2, []⟩) rfl rfl ?_ ?_ ?_ <;> first | rfl | (simp [keepT, AV.underL, AV.under, MB.under, underL_plain, under_plain, underL_append, plain_ints, plain_span, plain_ins, plain_prg, -List.map_take, -List.map_replicate, -List.map_set, plain_kids, plain_paths]; done) | (simp [keepT, AV.underL, AV.under, MB.under, underL_plain, under_plain, underL_append, plain_ints, plain_span, plain_ins, plain_prg, -List.map_take, -List.map_replicate, -List.map_set, plain_kids, plain_paths]; omega)))
    · intro _
      rw [List.take_length]
      simp +contextual (disch := omega) only [Try.f45, dd45, ty0, ty3, ty4, ty22, ty24, ty26, ty94, go_sem, ↓reduceIte, evAppend, List.reduceReplicate, Nat.reduceAdd, Nat.reduceSub, reduceCtorEq, Nat.reduceLeDiff, Nat.reduceMul, Nat.reduceLT, Nat.reduceEqDiff, Int.reduceBNe, Int.reduceBEq, Int.reduceEq, Int.reduceLT, Int.reduceLE, Int.reduceGT, Int.reduceGE, List.map_append, mu45, List.contains_nil, List.contains_cons, Nat.reduceBEq, Bool.or_self, dlt_t, dlt_f, dle_t, dle_f, dgt_t, dgt_f, dge_t, dge_f, beq_t, beq_f, bne_t, bne_f, lt_T, le_T, nle_T, nle_F, ↓wrap_up, ↓wrap_down, ↓wrap_pred, ↓wrap_sub_nat, i64_in, i64_quo, rem_in, Int.reduceToNat, room_ok]
      exact fz_paths _ _ _
end
end Go.Ev
