/- Functions of the program, each with what it computes; no further conditions. -/
import Derived.Test.YtpbobopcmhpbbaaS05
import Derived.Test.YtpbobopcmhpbbaaS10
set_option linter.unusedVariables false
set_option linter.unusedSimpArgs false
namespace Go.Ev
attribute [local go_sem] eq_self bindW_some bindW_map bindW_ite bindW_iteN W_seq W_region W_draw W_cond W_condK W_ret W_skip W_exit W_scope W_label W_block blockK_norm blockK_ret blockK_exit WO_nil WO_cons WO_guard WD_nil WD_cons WD_guard guardV guardW_boolT guardW_boolF guardW_tup fpL_some fpL_none footprint thenK_norm thenK_ret thenK_exit put_some put_none ev_tmp ev_con ev_func ofK_int ofK_bool ofK_str ofK_nil evOp evBuiltin evCall evLen evAppend getElem_16 getElem_4 List.length_cons List.length_nil List.cons_append List.nil_append List.append_nil if_false if_true Bool.false_eq_true Bool.true_eq_false Option.map_some Option.map_none List.map_cons List.map_nil evBinOp evBin evUn asB_bool splitB_decide splitB_true splitB_false splitB_beq splitB_bne splitB_not endK_ret endK_norm List.getElem?_cons_zero List.getElem?_cons_succ evResults evResult packRes retK_norm retK_ret cellsAt mkVal evFieldAddr evField evIndexAddr evPart evStore evBuild evBuildSlice fillC fillE evSlice evMakeSlice evConvert getRow AV.cells List.head?_cons List.drop_zero List.drop_succ_cons List.take_zero List.take_succ_cons List.drop_nil List.take_nil List.all_cons List.all_nil AV.ok Bool.and_self Bool.and_true Bool.true_and and_self and_true true_and Nat.zero_add Nat.add_zero setCells splice pairsOk pairsX altW_none altW_some cfg_al WI_nil WI_cons FP.apart heapEq_refl sameAt_refl Bool.or_true Bool.true_or Bool.or_false srcElems elemsOf mutDst roundK_norm roundK_exit roundK_ret List.length_map List.getElem?_map Int.toNat_natCast decide_true decide_false Bool.not_true Bool.not_false List.set set_0 set_1 set_2 set_3 set_4 look_hit look lookD_hit lookD_cons lookD_nil ins_hit ins upd_hit upd rem1_hit rem1 dropT dropSt_eq initT cfg_dd cfg_bd cfg_ra actL_nil actL_cons act1 updT_hit updT frzB retE_norm retE_ret bndO bnd evEq eqCells not_false_eq_true not_true_eq_false toList_some Array.size_empty List.length_append List.map_append endE_norm endE_ret head_take1
section
attribute [local go_sem] tySzE List.head?_drop Nat.mul_one sameAt_zero sameAt_two sameAt_three sameAt_four sameAt_five
open Go.Proofs Go.RowKit Go.IntWalk
set_option maxRecDepth 100000
set_option linter.unusedSimpArgs false
set_option linter.unusedVariables false
set_option maxHeartbeats 8000000

abbrev nodeL (op : Int) (set : List (Int × Int)) (kids : List Re) (mn mx md n : Int) (neg : Bool) : List AV := [I op, .sl false (set.map spanAV), .sl false (kids.map reAV), I mn, I mx, I md, I n, .bool neg]

theorem f132 (op : Int) (set : List (Int × Int)) (kids : List Re) (mn mx md n : Int) (neg : Bool) (H : List MB) : call Try.prog pol1 132 [.pt (nodeL op set kids mn mx md n neg)] H = some (.bool (repG mn mx md), H) := by
  refine call_run Try.func132 rfl rfl rfl rfl rfl rfl (fun _ => rfl) (by simp [AV.plain, AV.plainL, plain_span, plain_kids]) rfl ?_ H
  by_cases h : mn < 0 ∨ 32 < mn ∨ md < 0 ∨ 2 < md
  · have e : repG mn mx md = false := by
      simp only [repG, Bool.and_eq_false_iff, decide_eq_false_iff_not]
      omega
    rw [e]
    have h' : mn < 0 ∨ (¬ mn < 0 ∧ 32 < mn) ∨ (¬ mn < 0 ∧ ¬ 32 < mn ∧ md < 0) ∨ (¬ mn < 0 ∧ ¬ 32 < mn ∧ ¬ md < 0 ∧ 2 < md) := by omega
    rcases h' with h | ⟨h, h1⟩ | ⟨h, h1, h2⟩ | ⟨h, h1, h2, h3⟩
    all_goals (
      simp +contextual (disch := omega) only [Try.f132, dd132, ty0, ty3, ty4, ty26, ty100, go_sem, ↓reduceIte, List.reduceReplicate, Nat.reduceAdd, Nat.reduceSub, reduceCtorEq, Nat.reduceLeDiff, Nat.reduceMul, Nat.reduceLT, Nat.reduceEqDiff, Int.reduceBNe, Int.reduceBEq, Int.reduceEq, Int.reduceLT, Int.reduceLE, Int.reduceGT, Int.reduceGE, mu132, List.contains_nil, List.contains_cons, Nat.reduceBEq, Bool.or_self, dlt_t, dlt_f, dle_t, dle_f, dgt_t, dgt_f, dge_t, dge_f, beq_t, beq_f, bne_t, bne_f, lt_T, le_T, nle_T, nle_F, ↓wrap_up, ↓wrap_down, ↓wrap_pred, ↓wrap_sub_nat, i64_in, i64_quo, rem_in, Int.reduceToNat, room_ok]
      repeat' (first | intro _ | apply And.intro | (unfold dOk; kernel_rfl) | exact St.beq_refl _ | (show altO _ _ _ _ = true; kernel_rfl) | (show (_ || _) = true; kernel_rfl) | (show (_ && _) = true; kernel_rfl))
      all_goals exact fzEq rfl rfl)
  · have e : repG mn mx md = (mx == -1 || (decide (1 ≤ mx) && decide (mx ≤ 32) && decide (mn ≤ mx))) := by
      have h1 : 0 ≤ mn := by omega
      have h2 : mn ≤ 32 := by omega
      have h3 : 0 ≤ md := by omega
      have h4 : md ≤ 2 := by omega
      simp [repG, h1, h2, h3, h4]
    rw [e]
    simp +contextual (disch := omega) only [Try.f132, dd132, ty0, ty3, ty4, ty26, ty100, go_sem, ↓reduceIte, List.reduceReplicate, Nat.reduceAdd, Nat.reduceSub, reduceCtorEq, Nat.reduceLeDiff, Nat.reduceMul, Nat.reduceLT, Nat.reduceEqDiff, Int.reduceBNe, Int.reduceBEq, Int.reduceEq, Int.reduceLT, Int.reduceLE, Int.reduceGT, Int.reduceGE, mu132, List.contains_nil, List.contains_cons, Nat.reduceBEq, Bool.or_self, dlt_t, dlt_f, dle_t, dle_f, dgt_t, dgt_f, dge_t, dge_f, beq_t, beq_f, bne_t, bne_f, lt_T, le_T, nle_T, nle_F, ↓wrap_up, ↓wrap_down, ↓wrap_pred, ↓wrap_sub_nat, i64_in, i64_quo, rem_in, Int.reduceToNat, room_ok]
    repeat' (first | intro _ | apply And.intro | (unfold dOk; kernel_rfl) | exact St.beq_refl _ | (show altO _ _ _ _ = true; kernel_rfl) | (show (_ || _) = true; kernel_rfl) | (show (_ && _) = true; kernel_rfl))
    all_goals (first | exact fzEq rfl rfl | refine fzEq rfl (congrArg AV.bool ?_))
    all_goals (rw [Bool.eq_iff_iff]; simp <;> omega)

theorem f104 (caps top : Int) (ht : top ≤ 1114111) (op : Int) (set : List (Int × Int)) (kids : List Re) (mn mx md n : Int) (neg : Bool) (hs : set.length ≤ 1000000) (hk : kids.length ≤ 1000000) (H : List MB) :
    call Try.prog pol1 104 [.pt (nodeL op set kids mn mx md n neg), I caps, I top] H = some (.bool (formedG caps top (.mk op set kids mn mx md n neg)), H) := by
  refine call_run Try.func104 rfl rfl rfl rfl rfl rfl (fun _ => rfl) (by simp [AV.plain, AV.plainL, plain_span, plain_kids]) rfl ?_ H
  have h131 := f131 set top ht hs
  have h132 := f132 op set kids mn mx md n neg
  by_cases h0 : op < 0 ∨ 11 < op
  · have e : formedG caps top (.mk op set kids mn mx md n neg) = false := by
      have : ¬ (0 ≤ op ∧ op ≤ 11) := by omega
      simp only [formedG, Bool.and_eq_false_iff, decide_eq_false_iff_not]
      omega
    rw [e]
    simp +contextual (disch := omega) only [Try.f104, dd104, ty0, ty3, ty4, ty23, ty24, ty26, ty100, go_sem, ↓reduceIte, List.reduceReplicate, Nat.reduceAdd, Nat.reduceSub, reduceCtorEq, Nat.reduceLeDiff, Nat.reduceMul, Nat.reduceLT, Nat.reduceEqDiff, Int.reduceBNe, Int.reduceBEq, Int.reduceEq, Int.reduceLT, Int.reduceLE, Int.reduceGT, Int.reduceGE, mu104, List.contains_nil, List.contains_cons, Nat.reduceBEq, Bool.or_self, dlt_t, dlt_f, dle_t, dle_f, dgt_t, dgt_f, dge_t, dge_f, beq_t, beq_f, bne_t, bne_f, lt_T, le_T, nle_T, nle_F, ↓wrap_up, ↓wrap_down, ↓wrap_pred, ↓wrap_sub_nat, i64_in, i64_quo, rem_in, Int.reduceToNat, room_ok, h131, h132]
    repeat' (first | intro _ | apply And.intro | (unfold dOk; kernel_rfl) | exact St.beq_refl _ | (show altO _ _ _ _ = true; kernel_rfl) | (show (_ || _) = true; kernel_rfl) | (show (_ && _) = true; kernel_rfl))
    all_goals exact fzEq rfl rfl
  have hop : op = 1 ∨ op = 4 ∨ op = 0 ∨ op = 2 ∨ op = 3 ∨ op = 5 ∨ op = 6 ∨ op = 7 ∨ op = 8 ∨ op = 9 ∨ op = 10 ∨ op = 11 := by omega
  clear h0
  rcases hop with rfl | rfl | rfl | rfl | rfl | rfl | rfl | rfl | rfl | rfl | rfl | rfl
  · cases hsp : spansG set top
    all_goals (
      rw [hsp] at h131
      simp +contextual (disch := omega) only [Try.f104, dd104, ty0, ty3, ty4, ty23, ty24, ty26, ty100, go_sem, ↓reduceIte, List.reduceReplicate, Nat.reduceAdd, Nat.reduceSub, reduceCtorEq, Nat.reduceLeDiff, Nat.reduceMul, Nat.reduceLT, Nat.reduceEqDiff, Int.reduceBNe, Int.reduceBEq, Int.reduceEq, Int.reduceLT, Int.reduceLE, Int.reduceGT, Int.reduceGE, mu104, List.contains_nil, List.contains_cons, Nat.reduceBEq, Bool.or_self, dlt_t, dlt_f, dle_t, dle_f, dgt_t, dgt_f, dge_t, dge_f, beq_t, beq_f, bne_t, bne_f, lt_T, le_T, nle_T, nle_F, ↓wrap_up, ↓wrap_down, ↓wrap_pred, ↓wrap_sub_nat, i64_in, i64_quo, rem_in, Int.reduceToNat, room_ok, h131, h132]
      repeat' (first | intro _ | apply And.intro | (unfold dOk; kernel_rfl) | exact St.beq_refl _ | (show altO _ _ _ _ = true; kernel_rfl) | (show (_ || _) = true; kernel_rfl) | (show (_ && _) = true; kernel_rfl))
      all_goals (clear h131 h132; refine fzEq rfl (congrArg AV.bool ?_); first | (simp_all [formedG, kidsG]; done) | (simp_all [formedG, kidsG]; omega)))
  · cases hrp : repG mn mx md
    all_goals (
      rw [hrp] at h132
      simp +contextual (disch := omega) only [Try.f104, dd104, ty0, ty3, ty4, ty23, ty24, ty26, ty100, go_sem, ↓reduceIte, List.reduceReplicate, Nat.reduceAdd, Nat.reduceSub, reduceCtorEq, Nat.reduceLeDiff, Nat.reduceMul, Nat.reduceLT, Nat.reduceEqDiff, Int.reduceBNe, Int.reduceBEq, Int.reduceEq, Int.reduceLT, Int.reduceLE, Int.reduceGT, Int.reduceGE, mu104, List.contains_nil, List.contains_cons, Nat.reduceBEq, Bool.or_self, dlt_t, dlt_f, dle_t, dle_f, dgt_t, dgt_f, dge_t, dge_f, beq_t, beq_f, bne_t, bne_f, lt_T, le_T, nle_T, nle_F, ↓wrap_up, ↓wrap_down, ↓wrap_pred, ↓wrap_sub_nat, i64_in, i64_quo, rem_in, Int.reduceToNat, room_ok, h131, h132]
      repeat' (first | intro _ | apply And.intro | (unfold dOk; kernel_rfl) | exact St.beq_refl _ | (show altO _ _ _ _ = true; kernel_rfl) | (show (_ || _) = true; kernel_rfl) | (show (_ && _) = true; kernel_rfl))
      all_goals (clear h131 h132; refine fzEq rfl (congrArg AV.bool ?_); first | (simp_all [formedG, kidsG]; done) | (simp_all [formedG, kidsG]; omega)))
  all_goals (
    simp +contextual (disch := omega) only [Try.f104, dd104, ty0, ty3, ty4, ty23, ty24, ty26, ty100, go_sem, ↓reduceIte, List.reduceReplicate, Nat.reduceAdd, Nat.reduceSub, reduceCtorEq, Nat.reduceLeDiff, Nat.reduceMul, Nat.reduceLT, Nat.reduceEqDiff, Int.reduceBNe, Int.reduceBEq, Int.reduceEq, Int.reduceLT, Int.reduceLE, Int.reduceGT, Int.reduceGE, mu104, List.contains_nil, List.contains_cons, Nat.reduceBEq, Bool.or_self, dlt_t, dlt_f, dle_t, dle_f, dgt_t, dgt_f, dge_t, dge_f, beq_t, beq_f, bne_t, bne_f, lt_T, le_T, nle_T, nle_F, ↓wrap_up, ↓wrap_down, ↓wrap_pred, ↓wrap_sub_nat, i64_in, i64_quo, rem_in, Int.reduceToNat, room_ok, h131, h132]
    repeat' (first | intro _ | apply And.intro | (unfold dOk; kernel_rfl) | exact St.beq_refl _ | (show altO _ _ _ _ = true; kernel_rfl) | (show (_ || _) = true; kernel_rfl) | (show (_ && _) = true; kernel_rfl))
    all_goals (clear h131 h132; refine fzEq rfl (congrArg AV.bool ?_); first | (simp_all [formedG, kidsG, repG]; done) | (simp_all [formedG, kidsG, repG]; omega)))
end
section
attribute [local go_sem] tySzE List.head?_drop Nat.mul_one sameAt_zero sameAt_two sameAt_three sameAt_four sameAt_five
open Go.Proofs Go.RowKit Go.IntWalk
set_option maxRecDepth 100000
set_option linter.unusedSimpArgs false
set_option linter.unusedVariables false
set_option maxHeartbeats 8000000


end
section
attribute [local go_sem] tySzE List.head?_drop Nat.mul_one sameAt_zero sameAt_two sameAt_three sameAt_four sameAt_five
open Go.Proofs Go.RowKit Go.IntWalk
set_option maxRecDepth 100000
set_option linter.unusedSimpArgs false
set_option linter.unusedVariables false
set_option maxHeartbeats 8000000

theorem nullAll_false : ∀ {l : List Re} {k : Re}, k ∈ l → nullG k = false → nullAll l = false
  | x :: l, k, h, hk => by
    rcases List.mem_cons.1 h with e | e
    · rw [← e]; simp [nullAll, hk]
    · simp [nullAll, nullAll_false e hk]
theorem nullAll_true : ∀ {l : List Re}, (∀ (i : Nat) (k : Re), i < l.length → l[i]? = some k → nullG k = true) → nullAll l = true
  | [], _ => by simp [nullAll]
  | x :: l, h => by
    simp only [nullAll, Bool.and_eq_true]
    exact ⟨h 0 x (by simp) rfl, nullAll_true fun i k hi hk => h (i + 1) k (by simp; omega) (by simpa using hk)⟩
theorem nullAny_true : ∀ {l : List Re} {k : Re}, k ∈ l → nullG k = true → nullAny l = true
  | x :: l, k, h, hk => by
    rcases List.mem_cons.1 h with e | e
    · rw [← e]; simp [nullAny, hk]
    · simp [nullAny, nullAny_true e hk]
theorem nullAny_false : ∀ {l : List Re}, (∀ (i : Nat) (k : Re), i < l.length → l[i]? = some k → nullG k = false) → nullAny l = false
  | [], _ => by simp [nullAny]
  | x :: l, h => by
    simp only [nullAny, Bool.or_eq_false_iff]
    exact ⟨h 0 x (by simp) rfl, nullAny_false fun i k hi hk => h (i + 1) k (by simp; omega) (by simpa using hk)⟩

end
section
attribute [local go_sem] tySzE List.head?_drop Nat.mul_one sameAt_zero sameAt_two sameAt_three sameAt_four sameAt_five
open Go.Proofs Go.RowKit Go.IntWalk
set_option maxRecDepth 100000
set_option linter.unusedSimpArgs false
set_option linter.unusedVariables false
set_option maxHeartbeats 8000000

theorem whole_facts {caps top op : Int} {set : List (Int × Int)} {kids : List Re} {mn mx md n : Int} {neg : Bool} (h : wholeG caps top (.mk op set kids mn mx md n neg) = true) :
    (∀ k ∈ kids, wholeG caps top k = true) ∧ kidsG op kids.length = true ∧ (op = 4 → repG mn mx md = true) ∧ (op = 5 ∨ op = 6 ∨ op = 10 → 1 ≤ n ∧ n ≤ caps) ∧ 0 ≤ op ∧ op ≤ 11 := by
  rw [wholeG, Bool.and_eq_true, wholeL_iff] at h
  obtain ⟨h1, h2⟩ := h
  simp only [formedG, Bool.and_eq_true, decide_eq_true_eq] at h1
  obtain ⟨⟨⟨⟨⟨⟨a1, a2⟩, a3⟩, a4⟩, a5⟩, a6⟩, a7⟩ := h1
  refine ⟨h2, a3, fun e => ?_, fun e => ?_, a1, a2⟩
  · rw [if_pos e] at a5; exact a5
  · rw [if_pos e] at a6; simpa using a6

theorem f133 (b0 : MB) (caps top : Int) : ∀ (N : Nat) (r : Re), r.wt ≤ N → r.wt ≤ 1000000 → wholeG caps top r = true → call Try.prog pol1 133 [.pt (reC r), .rf 1 1 0 0] [b0, .row 1 [.clo 133 [.rf 1 1 0 0]] 0] = some (.bool (nullG r), [b0, .row 1 [.clo 133 [.rf 1 1 0 0]] 0])
  | 0, r, h, _, _ => by have := r.wt_pos; omega
  | N + 1, .mk op set kids mn mx md n neg, h, hN, hw => by
    have hkl := Re.wtL_len kids
    have hwt : 1 + set.length + Re.wtL kids = (Re.mk op set kids mn mx md n neg).wt := by simp [Re.wt]
    obtain ⟨hwk, hkd, hrp, _, ho1, ho2⟩ := whole_facts hw
    have ih := fun k (hk : k ∈ kids) => f133 b0 caps top N k (by have := Re.wtL_mem hk; omega) (by have := Re.wtL_mem hk; omega) (hwk k hk)
    rw [show (.pt (reC (.mk op set kids mn mx md n neg)) : AV) = .pt (nodeL op set kids mn mx md n neg) from congrArg AV.pt reC_mk]
    have fr : frzArgs pol1 133 0 [.pt (nodeL op set kids mn mx md n neg), .rf 1 1 0 0] [b0, .row 1 [.clo 133 [.rf 1 1 0 0]] 0] = some ([.pt (nodeL op set kids mn mx md n neg), .rf 1 1 0 0], [b0, .row 1 [.clo 133 [.rf 1 1 0 0]] 0]) :=
      frzArgs_mix _ _ _ (by simp [mixOk, show pol1.byref 133 1 = true from rfl, AV.plain, AV.plainL, plain_span, plain_kids])
    have rt : ∀ x : Bool, retPol pol1 133 [b0, .row 1 [.clo 133 [.rf 1 1 0 0]] 0] (.bool x) [b0, .row 1 [.clo 133 [.rf 1 1 0 0]] 0] = some (.bool x, [b0, .row 1 [.clo 133 [.rf 1 1 0 0]] 0]) := fun x =>
      retPol_keep rfl rfl rfl (by simp [keptOk, MB.beq_refl]) rfl
    refine call_run2 (pol := pol1) Try.func133 rfl rfl rfl rfl fr ?_
    have any : ∀ r' : Bool, r' = nullAny kids → ∀ i, i < kids.length → ∀ k, kids[i]? = some k → (∀ j q, j < i → kids[j]? = some q → nullG q = false) → nullG k = true → r' = true := fun r' hr i _ k hk _ hn => by rw [hr, nullAny_true (List.mem_of_getElem? hk) hn]
    have hop : op = 0 ∨ op = 1 ∨ op = 2 ∨ op = 3 ∨ op = 4 ∨ op = 5 ∨ op = 6 ∨ op = 7 ∨ op = 8 ∨ op = 9 ∨ op = 10 ∨ op = 11 := by omega
    have hone : op = 4 ∨ op = 5 ∨ op = 9 → nullHd kids = nullAny kids := fun e => by
      have : kids.length = 1 := by rcases e with rfl | rfl | rfl <;> simpa [kidsG] using hkd
      match kids, this with
      | [k], _ => simp [nullHd, nullAny]
    by_cases hloop : op = 3 ∨ op = 10 ∨ op = 5 ∨ op = 9 ∨ (op = 4 ∧ mn ≠ 0)
    · have hres : nullG (.mk op set kids mn mx md n neg) = nullAny kids := by
        rw [nullG]
        rcases hloop with rfl | rfl | rfl | rfl | ⟨rfl, hmn⟩
        · simp
        · simp
        · simp [hone (.inr (.inl rfl))]
        · simp [hone (.inr (.inr rfl))]
        · have hr := hrp rfl
          simp only [repG, Bool.and_eq_true, decide_eq_true_eq] at hr
          have : ¬ mn ≤ 0 := by omega
          simp [hone (.inl rfl), this]
      rw [hres]
      clear hres hone any
      rcases hloop with rfl | rfl | rfl | rfl | ⟨rfl, hmn⟩
      all_goals (
        simp +contextual (disch := omega) only [Try.f133, dd133, ty0, ty3, ty4, ty24, ty26, ty100, ty137, go_sem, ↓reduceIte, List.reduceReplicate, Nat.reduceAdd, Nat.reduceSub, reduceCtorEq, Nat.reduceLeDiff, Nat.reduceMul, Nat.reduceLT, Nat.reduceEqDiff, Int.reduceBNe, Int.reduceBEq, Int.reduceEq, Int.reduceLT, Int.reduceLE, Int.reduceGT, Int.reduceGE, mu133, List.contains_nil, List.contains_cons, Nat.reduceBEq, Bool.or_self, dlt_t, dlt_f, dle_t, dle_f, dgt_t, dgt_f, dge_t, dge_f, beq_t, beq_f, bne_t, bne_f, lt_T, le_T, nle_T, nle_F, ↓wrap_up, ↓wrap_down, ↓wrap_pred, ↓wrap_sub_nat, i64_in, i64_quo, rem_in, Int.reduceToNat, room_ok]
        refine W_count (M := (mskOf (pol1.mask 133) (pol1.gc 133) (pol1.acts 133) 0 25)) rfl kids.length (fun i => (⟨65, [(53, I i), (52, I kids.length), (1, .rf 1 1 0 0), (0, .pt (nodeL _ set kids mn mx md n neg))], [b0, .row 1 [.clo 133 [.rf 1 1 0 0]] 0]⟩ : St)) (fun i => ∀ j k, j < i → kids[j]? = some k → nullG k = false) ?_ ?_ (fun j k h => by omega) _ rfl
        · intro i hi hg
          obtain ⟨k, hk⟩ : ∃ k, kids[i]? = some k := ⟨_, List.getElem?_eq_getElem hi⟩
          have ihk := ih k (List.mem_of_getElem? hk)
          have hl8 := reC_len k
          have ht8 := reC_take k
          cases hn : nullG k with
          | true =>
            rw [hn] at ihk
            rw [nullAny_true (List.mem_of_getElem? hk) hn]
            simp +contextual (disch := omega) only [Try.f133, dd133, ty0, ty3, ty4, ty24, ty26, ty100, ty137, go_sem, ↓reduceIte, List.reduceReplicate, Nat.reduceAdd, Nat.reduceSub, reduceCtorEq, Nat.reduceLeDiff, Nat.reduceMul, Nat.reduceLT, Nat.reduceEqDiff, Int.reduceBNe, Int.reduceBEq, Int.reduceEq, Int.reduceLT, Int.reduceLE, Int.reduceGT, Int.reduceGE, mu133, List.contains_nil, List.contains_cons, Nat.reduceBEq, Bool.or_self, dlt_t, dlt_f, dle_t, dle_f, dgt_t, dgt_f, dge_t, dge_f, beq_t, beq_f, bne_t, bne_f, lt_T, le_T, nle_T, nle_F, ↓wrap_up, ↓wrap_down, ↓wrap_pred, ↓wrap_sub_nat, i64_in, i64_quo, rem_in, Int.reduceToNat, room_ok, hk, ihk, hl8, ht8, rt]
            repeat' (first | intro _ | apply And.intro | (unfold dOk; kernel_rfl) | exact St.beq_refl _ | (show altO _ _ _ _ = true; kernel_rfl) | (show (_ || _) = true; kernel_rfl) | (show (_ && _) = true; kernel_rfl))
          | false =>
            rw [hn] at ihk
            simp +contextual (disch := omega) only [Try.f133, dd133, ty0, ty3, ty4, ty24, ty26, ty100, ty137, go_sem, ↓reduceIte, List.reduceReplicate, Nat.reduceAdd, Nat.reduceSub, reduceCtorEq, Nat.reduceLeDiff, Nat.reduceMul, Nat.reduceLT, Nat.reduceEqDiff, Int.reduceBNe, Int.reduceBEq, Int.reduceEq, Int.reduceLT, Int.reduceLE, Int.reduceGT, Int.reduceGE, mu133, List.contains_nil, List.contains_cons, Nat.reduceBEq, Bool.or_self, dlt_t, dlt_f, dle_t, dle_f, dgt_t, dgt_f, dge_t, dge_f, beq_t, beq_f, bne_t, bne_f, lt_T, le_T, nle_T, nle_F, ↓wrap_up, ↓wrap_down, ↓wrap_pred, ↓wrap_sub_nat, i64_in, i64_quo, rem_in, Int.reduceToNat, room_ok, hk, ihk, hl8, ht8]
            repeat' (first | intro _ | apply And.intro | (unfold dOk; kernel_rfl) | exact St.beq_refl _ | (show altO _ _ _ _ = true; kernel_rfl) | (show (_ || _) = true; kernel_rfl) | (show (_ && _) = true; kernel_rfl))
            · rename_i j q hj hq
              rcases Nat.lt_or_ge j i with h | h
              · exact hg j q h hq
              · obtain rfl : j = i := by omega
                rw [hk] at hq; obtain rfl := Option.some.inj hq
                exact hn
            · rfl
        · intro hg
          rw [nullAny_false fun j k hj hk => hg j k hj hk]
          simp +contextual (disch := omega) only [Try.f133, dd133, ty0, ty3, ty4, ty24, ty26, ty100, ty137, go_sem, ↓reduceIte, List.reduceReplicate, Nat.reduceAdd, Nat.reduceSub, reduceCtorEq, Nat.reduceLeDiff, Nat.reduceMul, Nat.reduceLT, Nat.reduceEqDiff, Int.reduceBNe, Int.reduceBEq, Int.reduceEq, Int.reduceLT, Int.reduceLE, Int.reduceGT, Int.reduceGE, mu133, List.contains_nil, List.contains_cons, Nat.reduceBEq, Bool.or_self, dlt_t, dlt_f, dle_t, dle_f, dgt_t, dgt_f, dge_t, dge_f, beq_t, beq_f, bne_t, bne_f, lt_T, le_T, nle_T, nle_F, ↓wrap_up, ↓wrap_down, ↓wrap_pred, ↓wrap_sub_nat, i64_in, i64_quo, rem_in, Int.reduceToNat, room_ok, rt])
    · clear any hone
      have hop : op = 2 ∨ op = 1 ∨ (op = 4 ∧ mn = 0) ∨ op = 0 ∨ op = 6 ∨ op = 7 ∨ op = 8 ∨ op = 11 := by omega
      clear hloop
      rcases hop with rfl | hop
      · rw [nullG, if_neg (by omega), if_pos rfl]
        simp +contextual (disch := omega) only [Try.f133, dd133, ty0, ty3, ty4, ty24, ty26, ty100, ty137, go_sem, ↓reduceIte, List.reduceReplicate, Nat.reduceAdd, Nat.reduceSub, reduceCtorEq, Nat.reduceLeDiff, Nat.reduceMul, Nat.reduceLT, Nat.reduceEqDiff, Int.reduceBNe, Int.reduceBEq, Int.reduceEq, Int.reduceLT, Int.reduceLE, Int.reduceGT, Int.reduceGE, mu133, List.contains_nil, List.contains_cons, Nat.reduceBEq, Bool.or_self, dlt_t, dlt_f, dle_t, dle_f, dgt_t, dgt_f, dge_t, dge_f, beq_t, beq_f, bne_t, bne_f, lt_T, le_T, nle_T, nle_F, ↓wrap_up, ↓wrap_down, ↓wrap_pred, ↓wrap_sub_nat, i64_in, i64_quo, rem_in, Int.reduceToNat, room_ok]
        refine W_count (M := (mskOf (pol1.mask 133) (pol1.gc 133) (pol1.acts 133) 0 11)) rfl kids.length (fun i => (⟨65, [(23, I i), (22, I kids.length), (1, .rf 1 1 0 0), (0, .pt (nodeL _ set kids mn mx md n neg))], [b0, .row 1 [.clo 133 [.rf 1 1 0 0]] 0]⟩ : St)) (fun i => ∀ j k, j < i → kids[j]? = some k → nullG k = true) ?_ ?_ (fun j k h => by omega) _ rfl
        · intro i hi hg
          obtain ⟨k, hk⟩ : ∃ k, kids[i]? = some k := ⟨_, List.getElem?_eq_getElem hi⟩
          have ihk := ih k (List.mem_of_getElem? hk)
          have hl8 := reC_len k
          have ht8 := reC_take k
          cases hn : nullG k with
          | false =>
            rw [hn] at ihk
            rw [nullAll_false (List.mem_of_getElem? hk) hn]
            simp +contextual (disch := omega) only [Try.f133, dd133, ty0, ty3, ty4, ty24, ty26, ty100, ty137, go_sem, ↓reduceIte, List.reduceReplicate, Nat.reduceAdd, Nat.reduceSub, reduceCtorEq, Nat.reduceLeDiff, Nat.reduceMul, Nat.reduceLT, Nat.reduceEqDiff, Int.reduceBNe, Int.reduceBEq, Int.reduceEq, Int.reduceLT, Int.reduceLE, Int.reduceGT, Int.reduceGE, mu133, List.contains_nil, List.contains_cons, Nat.reduceBEq, Bool.or_self, dlt_t, dlt_f, dle_t, dle_f, dgt_t, dgt_f, dge_t, dge_f, beq_t, beq_f, bne_t, bne_f, lt_T, le_T, nle_T, nle_F, ↓wrap_up, ↓wrap_down, ↓wrap_pred, ↓wrap_sub_nat, i64_in, i64_quo, rem_in, Int.reduceToNat, room_ok, hk, ihk, hl8, ht8, rt]
            repeat' (first | intro _ | apply And.intro | (unfold dOk; kernel_rfl) | exact St.beq_refl _ | (show altO _ _ _ _ = true; kernel_rfl) | (show (_ || _) = true; kernel_rfl) | (show (_ && _) = true; kernel_rfl))
          | true =>
            rw [hn] at ihk
            simp +contextual (disch := omega) only [Try.f133, dd133, ty0, ty3, ty4, ty24, ty26, ty100, ty137, go_sem, ↓reduceIte, List.reduceReplicate, Nat.reduceAdd, Nat.reduceSub, reduceCtorEq, Nat.reduceLeDiff, Nat.reduceMul, Nat.reduceLT, Nat.reduceEqDiff, Int.reduceBNe, Int.reduceBEq, Int.reduceEq, Int.reduceLT, Int.reduceLE, Int.reduceGT, Int.reduceGE, mu133, List.contains_nil, List.contains_cons, Nat.reduceBEq, Bool.or_self, dlt_t, dlt_f, dle_t, dle_f, dgt_t, dgt_f, dge_t, dge_f, beq_t, beq_f, bne_t, bne_f, lt_T, le_T, nle_T, nle_F, ↓wrap_up, ↓wrap_down, ↓wrap_pred, ↓wrap_sub_nat, i64_in, i64_quo, rem_in, Int.reduceToNat, room_ok, hk, ihk, hl8, ht8]
            repeat' (first | intro _ | apply And.intro | (unfold dOk; kernel_rfl) | exact St.beq_refl _ | (show altO _ _ _ _ = true; kernel_rfl) | (show (_ || _) = true; kernel_rfl) | (show (_ && _) = true; kernel_rfl))
            · rename_i j q hj hq
              rcases Nat.lt_or_ge j i with h | h
              · exact hg j q h hq
              · obtain rfl : j = i := by omega
                rw [hk] at hq; obtain rfl := Option.some.inj hq
                exact hn
            · rfl
        · intro hg
          rw [nullAll_true fun j k hj hk => hg j k hj hk]
          simp +contextual (disch := omega) only [Try.f133, dd133, ty0, ty3, ty4, ty24, ty26, ty100, ty137, go_sem, ↓reduceIte, List.reduceReplicate, Nat.reduceAdd, Nat.reduceSub, reduceCtorEq, Nat.reduceLeDiff, Nat.reduceMul, Nat.reduceLT, Nat.reduceEqDiff, Int.reduceBNe, Int.reduceBEq, Int.reduceEq, Int.reduceLT, Int.reduceLE, Int.reduceGT, Int.reduceGE, mu133, List.contains_nil, List.contains_cons, Nat.reduceBEq, Bool.or_self, dlt_t, dlt_f, dle_t, dle_f, dgt_t, dgt_f, dge_t, dge_f, beq_t, beq_f, bne_t, bne_f, lt_T, le_T, nle_T, nle_F, ↓wrap_up, ↓wrap_down, ↓wrap_pred, ↓wrap_sub_nat, i64_in, i64_quo, rem_in, Int.reduceToNat, room_ok, rt]
      · have hres : nullG (.mk op set kids mn mx md n neg) = (if op = 1 then false else true) := by
          rw [nullG]
          rcases hop with rfl | ⟨rfl, rfl⟩ | rfl | rfl | rfl | rfl | rfl <;> simp
        rw [hres]
        rcases hop with rfl | ⟨rfl, rfl⟩ | rfl | rfl | rfl | rfl | rfl
        all_goals (
          first | rw [if_pos rfl] | rw [if_neg (by omega)]
          simp +contextual (disch := omega) only [Try.f133, dd133, ty0, ty3, ty4, ty24, ty26, ty100, ty137, go_sem, ↓reduceIte, List.reduceReplicate, Nat.reduceAdd, Nat.reduceSub, reduceCtorEq, Nat.reduceLeDiff, Nat.reduceMul, Nat.reduceLT, Nat.reduceEqDiff, Int.reduceBNe, Int.reduceBEq, Int.reduceEq, Int.reduceLT, Int.reduceLE, Int.reduceGT, Int.reduceGE, mu133, List.contains_nil, List.contains_cons, Nat.reduceBEq, Bool.or_self, dlt_t, dlt_f, dle_t, dle_f, dgt_t, dgt_f, dge_t, dge_f, beq_t, beq_f, bne_t, bne_f, lt_T, le_T, nle_T, nle_F, ↓wrap_up, ↓wrap_down, ↓wrap_pred, ↓wrap_sub_nat, i64_in, i64_quo, rem_in, Int.reduceToNat, room_ok, rt])

theorem f105 (r : Re) (hN : r.wt ≤ 1000000) (caps top : Int) (hw : wholeG caps top r = true) (H : List MB) : call Try.prog pol1 105 [reAV r] H = some (.bool (nullG r), H) := by
  refine call_run Try.func105 rfl rfl rfl rfl rfl rfl (fun _ => rfl) (by simp [AV.plain, AV.plainL, plain_reC]) rfl ?_ H
  have hz : fz (.rf 0 1 0 0) [.row 8 [.agg (reC r)] 0] = some (.pt (reC r), [.row 8 [.agg (reC r)] 1]) := fz_rf (x := .agg (reC r)) (k := 8) (z := 0) rfl rfl rfl (plain_reC r)
  have hc := fun b0 => f133 b0 caps top r.wt r (Nat.le_refl _) hN hw
  have hl8 := reC_len r
  have hal := reC_ok r
  simp +contextual (disch := omega) only [Try.f105, dd105, ty0, ty4, ty26, ty137, go_sem, ↓reduceIte, List.reduceReplicate, Nat.reduceAdd, Nat.reduceSub, reduceCtorEq, Nat.reduceLeDiff, Nat.reduceMul, Nat.reduceLT, Nat.reduceEqDiff, Int.reduceBNe, Int.reduceBEq, Int.reduceEq, Int.reduceLT, Int.reduceLE, Int.reduceGT, Int.reduceGE, mu105, List.contains_nil, List.contains_cons, Nat.reduceBEq, Bool.or_self, dlt_t, dlt_f, dle_t, dle_f, dgt_t, dgt_f, dge_t, dge_f, beq_t, beq_f, bne_t, bne_f, lt_T, le_T, nle_T, nle_F, ↓wrap_up, ↓wrap_down, ↓wrap_pred, ↓wrap_sub_nat, i64_in, i64_quo, rem_in, Int.reduceToNat, room_ok, hl8, hz, hc, hal, lookD, look]
  exact fzEq rfl rfl
end
section
attribute [local go_sem] tySzE List.head?_drop Nat.mul_one sameAt_zero sameAt_two sameAt_three sameAt_four sameAt_five
open Go.Proofs Go.RowKit Go.IntWalk
set_option maxRecDepth 100000
set_option linter.unusedSimpArgs false
set_option linter.unusedVariables false
set_option maxHeartbeats 8000000

mutual
/-- How many instructions the code of a tree has. -/
def lenG : Re → Nat
  | .mk op set kids mn mx md n neg =>
    if op = 1 ∨ op = 11 then 1 else if op = 3 then lenL kids + 2 * (kids.length - 1) else if op = 5 then lenL kids + 2
    else if op = 4 then (if mx = -1 then (mn.toNat + 1) * lenL kids + 2 else mx.toNat * lenL kids + (mx.toNat - mn.toNat)) else lenL kids
def lenL : List Re → Nat
  | [] => 0
  | k :: ks => lenG k + lenL ks
end
theorem lenL_append : ∀ (a b : List Re), lenL (a ++ b) = lenL a + lenL b
  | [], b => by simp [lenL]
  | k :: ks, b => by simp [lenL, lenL_append ks b, Nat.add_assoc]
theorem lenL_take {l : List Re} {i : Nat} {k : Re} (h : l[i]? = some k) : lenL (l.take (i + 1)) = lenL (l.take i) + lenG k := by
  rw [List.take_add_one, h, lenL_append]; simp [lenL]

theorem f50 (caps top : Int) : ∀ (N : Nat) (r : Re), r.wt ≤ N → r.wt ≤ 1000000 → wholeG caps top r = true → ∀ H, call Try.prog pol1 50 [.pt (reC r)] H = some (I ((min (lenG r) 8193 : Nat) : Int), H)
  | 0, r, h, _, _, _ => by have := r.wt_pos; omega
  | N + 1, .mk op set kids mn mx md n neg, h, hN, hw, H => by
    have hkl := Re.wtL_len kids
    have hwt : 1 + set.length + Re.wtL kids = (Re.mk op set kids mn mx md n neg).wt := by simp [Re.wt]
    obtain ⟨hwk, hkd, hrp, _, ho1, ho2⟩ := whole_facts hw
    have ih := fun k (hk : k ∈ kids) => f50 caps top N k (by have := Re.wtL_mem hk; omega) (by have := Re.wtL_mem hk; omega) (hwk k hk)
    rw [show (.pt (reC (.mk op set kids mn mx md n neg)) : AV) = .pt (nodeL op set kids mn mx md n neg) from congrArg AV.pt reC_mk]
    refine call_run Try.func50 rfl rfl rfl rfl rfl rfl (fun _ => rfl) (by simp [AV.plain, AV.plainL, plain_span, plain_kids]) rfl ?_ H
    simp +contextual (disch := omega) only [Try.f50, dd50, ty0, ty3, ty4, ty24, ty26, ty100, go_sem, ↓reduceIte, List.reduceReplicate, Nat.reduceAdd, Nat.reduceSub, reduceCtorEq, Nat.reduceLeDiff, Nat.reduceMul, Nat.reduceLT, Nat.reduceEqDiff, Int.reduceBNe, Int.reduceBEq, Int.reduceEq, Int.reduceLT, Int.reduceLE, Int.reduceGT, Int.reduceGE, mu50, List.contains_nil, List.contains_cons, Nat.reduceBEq, Bool.or_self, dlt_t, dlt_f, dle_t, dle_f, dgt_t, dgt_f, dge_t, dge_f, beq_t, beq_f, bne_t, bne_f, lt_T, le_T, nle_T, nle_F, ↓wrap_up, ↓wrap_down, ↓wrap_pred, ↓wrap_sub_nat, i64_in, i64_quo, rem_in, Int.reduceToNat, room_ok]
    refine W_count (M := (mskOf (pol1.mask 50) (pol1.gc 50) (pol1.acts 50) 0 3)) rfl kids.length (fun i => (⟨81, [(11, I i), (10, I kids.length), (3, I ((min (lenL (kids.take i)) 8193 : Nat) : Int)), (0, .pt (nodeL op set kids mn mx md n neg))], []⟩ : St)) (fun _ => True) ?_ ?_ trivial _ (by first | rfl | (simp [keepT, AV.underL, AV.under, MB.under, underL_plain, under_plain, underL_append, plain_ints, plain_span, plain_ins, plain_prg, -List.map_take, -List.map_replicate, -List.map_set, lenL, plain_kids]; done))
    · intro i hi _
      obtain ⟨k, hk⟩ : ∃ k, kids[i]? = some k := ⟨_, List.getElem?_eq_getElem hi⟩
      have ihk := ih k (List.mem_of_getElem? hk)
      have hl8 := reC_len k
      have ht8 := reC_take k
      have e1 := lenL_take hk
      have hm : (if (8193 : Int) < ((min (lenL (kids.take i)) 8193 : Nat) : Int) + ((min (lenG k) 8193 : Nat) : Int) then (8193 : Int) else ((min (lenL (kids.take i)) 8193 : Nat) : Int) + ((min (lenG k) 8193 : Nat) : Int)) = ((min (lenL (kids.take (i + 1))) 8193 : Nat) : Int) := by
        rw [e1]; split <;> omega
      simp +contextual (disch := omega) only [Try.f50, dd50, ty0, ty3, ty4, ty24, ty26, ty100, go_sem, ↓reduceIte, List.reduceReplicate, Nat.reduceAdd, Nat.reduceSub, reduceCtorEq, Nat.reduceLeDiff, Nat.reduceMul, Nat.reduceLT, Nat.reduceEqDiff, Int.reduceBNe, Int.reduceBEq, Int.reduceEq, Int.reduceLT, Int.reduceLE, Int.reduceGT, Int.reduceGE, mu50, List.contains_nil, List.contains_cons, Nat.reduceBEq, Bool.or_self, dlt_t, dlt_f, dle_t, dle_f, dgt_t, dgt_f, dge_t, dge_f, beq_t, beq_f, bne_t, bne_f, lt_T, le_T, nle_T, nle_F, ↓wrap_up, ↓wrap_down, ↓wrap_pred, ↓wrap_sub_nat, i64_in, i64_quo, rem_in, Int.reduceToNat, room_ok, hk, ihk, evMin, hm, hl8, ht8]
      exact (by first | rfl | (simp [keepT, AV.underL, AV.under, MB.under, underL_plain, under_plain, underL_append, plain_ints, plain_span, plain_ins, plain_prg, -List.map_take, -List.map_replicate, -List.map_set, plain_kids]; done))
    · intro _
      rw [List.take_length]
      have hop : op = 0 ∨ op = 1 ∨ op = 2 ∨ op = 3 ∨ op = 4 ∨ op = 5 ∨ op = 6 ∨ op = 7 ∨ op = 8 ∨ op = 9 ∨ op = 10 ∨ op = 11 := by omega
      rw [lenG]
      generalize lenL kids = L at *
      by_cases h1 : op = 1 ∨ op = 11
      · rw [if_pos h1]
        rcases h1 with rfl | rfl
        all_goals (
          simp +contextual (disch := omega) only [Try.f50, dd50, ty0, ty3, ty4, ty24, ty26, ty100, go_sem, ↓reduceIte, List.reduceReplicate, Nat.reduceAdd, Nat.reduceSub, reduceCtorEq, Nat.reduceLeDiff, Nat.reduceMul, Nat.reduceLT, Nat.reduceEqDiff, Int.reduceBNe, Int.reduceBEq, Int.reduceEq, Int.reduceLT, Int.reduceLE, Int.reduceGT, Int.reduceGE, mu50, List.contains_nil, List.contains_cons, Nat.reduceBEq, Bool.or_self, dlt_t, dlt_f, dle_t, dle_f, dgt_t, dgt_f, dge_t, dge_f, beq_t, beq_f, bne_t, bne_f, lt_T, le_T, nle_T, nle_F, ↓wrap_up, ↓wrap_down, ↓wrap_pred, ↓wrap_sub_nat, i64_in, i64_quo, rem_in, Int.reduceToNat, room_ok, evMin]
          exact fzEq rfl rfl)
      rw [if_neg h1]
      by_cases h3 : op = 3
      · subst h3
        rw [if_pos rfl]
        have hk2 : 2 ≤ kids.length := by simpa [kidsG] using hkd
        have hw1 : IntKind.i64.wrap (((kids.length : Nat) : Int) - 1) = ((kids.length - 1 : Nat) : Int) := wrap_pred ⟨by omega, by omega⟩
        simp +contextual (disch := omega) only [Try.f50, dd50, ty0, ty3, ty4, ty24, ty26, ty100, go_sem, ↓reduceIte, List.reduceReplicate, Nat.reduceAdd, Nat.reduceSub, reduceCtorEq, Nat.reduceLeDiff, Nat.reduceMul, Nat.reduceLT, Nat.reduceEqDiff, Int.reduceBNe, Int.reduceBEq, Int.reduceEq, Int.reduceLT, Int.reduceLE, Int.reduceGT, Int.reduceGE, mu50, List.contains_nil, List.contains_cons, Nat.reduceBEq, Bool.or_self, dlt_t, dlt_f, dle_t, dle_f, dgt_t, dgt_f, dge_t, dge_f, beq_t, beq_f, bne_t, bne_f, lt_T, le_T, nle_T, nle_F, ↓wrap_up, ↓wrap_down, ↓wrap_pred, ↓wrap_sub_nat, i64_in, i64_quo, rem_in, Int.reduceToNat, room_ok, evMin]
        refine fzEq rfl (congrArg (AV.int .i64) ?_)
        split <;> omega
      rw [if_neg h3]
      by_cases h5 : op = 5
      · subst h5
        rw [if_pos rfl]
        simp +contextual (disch := omega) only [Try.f50, dd50, ty0, ty3, ty4, ty24, ty26, ty100, go_sem, ↓reduceIte, List.reduceReplicate, Nat.reduceAdd, Nat.reduceSub, reduceCtorEq, Nat.reduceLeDiff, Nat.reduceMul, Nat.reduceLT, Nat.reduceEqDiff, Int.reduceBNe, Int.reduceBEq, Int.reduceEq, Int.reduceLT, Int.reduceLE, Int.reduceGT, Int.reduceGE, mu50, List.contains_nil, List.contains_cons, Nat.reduceBEq, Bool.or_self, dlt_t, dlt_f, dle_t, dle_f, dgt_t, dgt_f, dge_t, dge_f, beq_t, beq_f, bne_t, bne_f, lt_T, le_T, nle_T, nle_F, ↓wrap_up, ↓wrap_down, ↓wrap_pred, ↓wrap_sub_nat, i64_in, i64_quo, rem_in, Int.reduceToNat, room_ok, evMin]
        refine fzEq rfl (congrArg (AV.int .i64) ?_)
        split <;> omega
      rw [if_neg h5]
      by_cases h4 : op = 4
      · subst h4
        rw [if_pos rfl]
        have hr := hrp rfl
        simp only [repG, Bool.and_eq_true, Bool.or_eq_true, decide_eq_true_eq, beq_iff_eq] at hr
        obtain ⟨mn', rfl⟩ : ∃ m : Nat, mn = m := ⟨mn.toNat, by omega⟩
        have hmn : mn' ≤ 32 := by omega
        have hmul : ∀ a : Nat, a ≤ 33 → a * (min L 8193) ≤ 33 * 8193 := fun a ha => Nat.mul_le_mul ha (by omega)
        have hml := hmul mn' (by omega)
        have hc1 : (mn' : Int) * ((min L 8193 : Nat) : Int) = ((mn' * min L 8193 : Nat) : Int) := by simp
        by_cases hmx : mx = -1
        · subst hmx
          rw [if_pos rfl]
          simp +contextual (disch := omega) only [Try.f50, dd50, ty0, ty3, ty4, ty24, ty26, ty100, go_sem, ↓reduceIte, List.reduceReplicate, Nat.reduceAdd, Nat.reduceSub, reduceCtorEq, Nat.reduceLeDiff, Nat.reduceMul, Nat.reduceLT, Nat.reduceEqDiff, Int.reduceBNe, Int.reduceBEq, Int.reduceEq, Int.reduceLT, Int.reduceLE, Int.reduceGT, Int.reduceGE, mu50, List.contains_nil, List.contains_cons, Nat.reduceBEq, Bool.or_self, dlt_t, dlt_f, dle_t, dle_f, dgt_t, dgt_f, dge_t, dge_f, beq_t, beq_f, bne_t, bne_f, lt_T, le_T, nle_T, nle_F, ↓wrap_up, ↓wrap_down, ↓wrap_pred, ↓wrap_sub_nat, i64_in, i64_quo, rem_in, Int.reduceToNat, room_ok, evMin, hc1]
          refine fzEq rfl (congrArg (AV.int .i64) ?_)
          rw [Nat.succ_mul]
          by_cases hL : L ≤ 8193
          · rw [Nat.min_eq_left hL] at *
            split <;> omega
          · have hle : L ≤ mn' * L + L := Nat.le_add_left _ _
            rw [Nat.min_eq_right (by omega)] at *
            split <;> omega
        · rw [if_neg hmx]
          obtain ⟨mx', rfl⟩ : ∃ m : Nat, mx = m := ⟨mx.toNat, by omega⟩
          obtain ⟨e, rfl⟩ : ∃ e, mx' = mn' + e := ⟨mx' - mn', by omega⟩
          have hsub : ((mn' + e : Nat) : Int) - (mn' : Int) = (e : Int) := by omega
          have hme : e * (min L 8193 + 1) ≤ 33 * 8194 := Nat.mul_le_mul (by omega) (by omega)
          have hc2 : (e : Int) * ((min L 8193 + 1 : Nat) : Int) = ((e * (min L 8193 + 1) : Nat) : Int) := by simp
          have hnn : mn' + e - mn' = e := by omega
          simp +contextual (disch := omega) only [Try.f50, dd50, ty0, ty3, ty4, ty24, ty26, ty100, go_sem, ↓reduceIte, List.reduceReplicate, Nat.reduceAdd, Nat.reduceSub, reduceCtorEq, Nat.reduceLeDiff, Nat.reduceMul, Nat.reduceLT, Nat.reduceEqDiff, Int.reduceBNe, Int.reduceBEq, Int.reduceEq, Int.reduceLT, Int.reduceLE, Int.reduceGT, Int.reduceGE, mu50, List.contains_nil, List.contains_cons, Nat.reduceBEq, Bool.or_self, dlt_t, dlt_f, dle_t, dle_f, dgt_t, dgt_f, dge_t, dge_f, beq_t, beq_f, bne_t, bne_f, lt_T, le_T, nle_T, nle_F, ↓wrap_up, ↓wrap_down, ↓wrap_pred, ↓wrap_sub_nat, i64_in, i64_quo, rem_in, Int.reduceToNat, room_ok, evMin, hc1, hc2, hnn, hsub]
          refine ⟨by unfold dOk; kernel_rfl, ?_⟩
          refine fzEq rfl (congrArg (AV.int .i64) ?_)
          rw [Nat.mul_add, Nat.add_mul, Nat.mul_one] at *
          by_cases hL : L ≤ 8193
          · rw [Nat.min_eq_left hL] at *
            split <;> omega
          · rw [Nat.min_eq_right (by omega)] at *
            have h1 : mn' = 0 ∨ L ≤ mn' * L := by
              rcases Nat.eq_zero_or_pos mn' with h | h
              · exact .inl h
              · exact .inr (Nat.le_mul_of_pos_left _ h)
            have h2 : e = 0 ∨ L ≤ e * L := by
              rcases Nat.eq_zero_or_pos e with h | h
              · exact .inl h
              · exact .inr (Nat.le_mul_of_pos_left _ h)
            split <;> omega
      rw [if_neg h4]
      simp +contextual (disch := omega) only [Try.f50, dd50, ty0, ty3, ty4, ty24, ty26, ty100, go_sem, ↓reduceIte, List.reduceReplicate, Nat.reduceAdd, Nat.reduceSub, reduceCtorEq, Nat.reduceLeDiff, Nat.reduceMul, Nat.reduceLT, Nat.reduceEqDiff, Int.reduceBNe, Int.reduceBEq, Int.reduceEq, Int.reduceLT, Int.reduceLE, Int.reduceGT, Int.reduceGE, mu50, List.contains_nil, List.contains_cons, Nat.reduceBEq, Bool.or_self, dlt_t, dlt_f, dle_t, dle_f, dgt_t, dgt_f, dge_t, dge_f, beq_t, beq_f, bne_t, bne_f, lt_T, le_T, nle_T, nle_F, ↓wrap_up, ↓wrap_down, ↓wrap_pred, ↓wrap_sub_nat, i64_in, i64_quo, rem_in, Int.reduceToNat, room_ok, evMin]
      refine fzEq rfl (congrArg (AV.int .i64) ?_)
      split <;> omega


end
section

open Go.Proofs Go.RowKit Go.IntWalk
set_option maxRecDepth 100000
set_option linter.unusedSimpArgs false
set_option linter.unusedVariables false
set_option maxHeartbeats 4000000


end
section
attribute [local go_sem] tySzE List.head?_drop Nat.mul_one sameAt_zero sameAt_two sameAt_three sameAt_four sameAt_five
open Go.Proofs Go.RowKit Go.IntWalk
set_option maxRecDepth 100000
set_option linter.unusedSimpArgs false
set_option linter.unusedVariables false
set_option maxHeartbeats 4000000

/-- A capture's span out of two registers. -/
def capP (a b : Int) : Int × Int := if a = -1 ∨ b = -1 then (-1, -1) else (a, b)
def capsN (regs : List Int) (n : Nat) : List (Int × Int) := (List.range n).map fun k => capP (regs.getD (2 * k) 0) (regs.getD (2 * k + 1) 0)
theorem capsN_succ (regs : List Int) (n : Nat) : capsN regs (n + 1) = capsN regs n ++ [capP (regs.getD (2 * n) 0) (regs.getD (2 * n + 1) 0)] := by
  simp [capsN, List.range_succ]
theorem capsN_len (regs : List Int) (n : Nat) : (capsN regs n).length = n := by simp [capsN]
def matAV (s e : Int) (caps : List (Int × Int)) : AV := .agg [I s, I e, .sl false (caps.map spanAV)]
theorem plain_mat (s e : Int) (caps : List (Int × Int)) : AV.plain (matAV s e caps) = true := by simp [matAV, AV.plain, AV.plainL, plain_span]

end
section
attribute [local go_sem] tySzE List.head?_drop Nat.mul_one sameAt_zero sameAt_two sameAt_three sameAt_four sameAt_five
open Go.Proofs Go.RowKit Go.IntWalk
set_option maxRecDepth 100000
set_option linter.unusedSimpArgs false
set_option linter.unusedVariables false
set_option maxHeartbeats 4000000

/-- A way of package prog: next, at, idle, found; its registers. -/
abbrev wayAV (pc pos idle found : Int) (regs : List Int) : AV := .agg [I pc, I pos, I idle, I found, .pt (regs.map I)]
abbrev prgPt (g : Prg) : AV := .pt [.sl false (g.ins.map insAV), I g.caps, .bool g.runes]
theorem f60 (g : Prg) (pc pos idle found start : Int) (regs : List Int) (n : Nat) (hc : g.caps = n) (hr : regs.length = 18) (hn : n ≤ 9) (H : List MB) :
    call Try.prog pol1 60 [prgPt g, .pt [I pc, I pos, I idle, I found, .pt (regs.map I)], I start] H = some (matAV start pos (capsN regs n), H) := by
  refine call_run Try.func60 rfl rfl rfl rfl rfl rfl (fun _ => rfl) (by simp [AV.plain, AV.plainL, plain_ints, plain_ins]) (plain_mat _ _ _) ?_ H
  simp +contextual (disch := omega) only [Try.f60, dd60, ty0, ty3, ty4, ty35, ty110, ty112, ty115, ty117, ty119, ty122, ty123, ty174, go_sem, ↓reduceIte, List.reduceReplicate, Nat.reduceAdd, Nat.reduceSub, reduceCtorEq, Nat.reduceLeDiff, Nat.reduceMul, Nat.reduceLT, Nat.reduceEqDiff, Int.reduceBNe, Int.reduceBEq, Int.reduceEq, Int.reduceLT, Int.reduceLE, Int.reduceGT, Int.reduceGE, mu60, List.contains_nil, List.contains_cons, Nat.reduceBEq, Bool.or_self, dlt_t, dlt_f, dle_t, dle_f, dgt_t, dgt_f, dge_t, dge_f, beq_t, beq_f, bne_t, bne_f, lt_T, le_T, nle_T, nle_F, ↓wrap_up, ↓wrap_down, ↓wrap_pred, ↓wrap_sub_nat, i64_in, i64_quo, rem_in, Int.reduceToNat, room_ok, hc]
  refine W_count (M := (mskOf (pol1.mask 60) (pol1.gc 60) (pol1.acts 60) 0 3)) rfl n (fun j => (⟨60, [(20, I j), (19, I n), (7, .rf 1 1 0 0), (6, .rf 0 1 0 0), (1, .pt [I pc, I pos, I idle, I found, .pt (regs.map I)])], [.row 3 [.agg [I 0, I 0, .sl true []]] 0,
      .row 3 [.agg [I start, I pos, .ms 2 2 j 0 j]] 0, .row 2 ((capsN regs j).map spanAV) 0]⟩ : St)) (fun _ => True) ?_ ?_ trivial _ (by first | rfl | (refine prep_cut rfl (by rfl) (by rfl) (by rfl) ?_ ?_ <;> simp [AV.underL, AV.under, MB.under, underL_plain, under_plain, plain_ints, plain_span, plain_ins, plain_prg, -List.map_take]))
  · intro j hj _
    obtain ⟨a, ha⟩ : ∃ a, regs[2 * j]? = some a := ⟨_, List.getElem?_eq_getElem (by omega)⟩
    obtain ⟨b, hb⟩ : ∃ b, regs[2 * j + 1]? = some b := ⟨_, List.getElem?_eq_getElem (by omega)⟩
    have hl := capsN_len regs j
    rw [capsN_succ, List.getD_eq_getElem?_getD, List.getD_eq_getElem?_getD, ha, hb]
    simp only [Option.getD_some]
    generalize capsN regs j = cs at *
    have htk := take_map_len (f := spanAV) hl
    have e2 : (2 : Int) * (j : Int) = ((2 * j : Nat) : Int) := by omega
    have e3 : ((2 * j : Nat) : Int) + 1 = ((2 * j + 1 : Nat) : Int) := by omega
    simp +contextual (disch := omega) only [Try.f60, dd60, ty0, ty3, ty4, ty35, ty110, ty112, ty115, ty117, ty119, ty122, ty123, ty174, go_sem, ↓reduceIte, List.reduceReplicate, Nat.reduceAdd, Nat.reduceSub, reduceCtorEq, Nat.reduceLeDiff, Nat.reduceMul, Nat.reduceLT, Nat.reduceEqDiff, Int.reduceBNe, Int.reduceBEq, Int.reduceEq, Int.reduceLT, Int.reduceLE, Int.reduceGT, Int.reduceGE, mu60, List.contains_nil, List.contains_cons, Nat.reduceBEq, Bool.or_self, dlt_t, dlt_f, dle_t, dle_f, dgt_t, dgt_f, dge_t, dge_f, beq_t, beq_f, bne_t, bne_f, lt_T, le_T, nle_T, nle_F, ↓wrap_up, ↓wrap_down, ↓wrap_pred, ↓wrap_sub_nat, i64_in, i64_quo, rem_in, Int.reduceToNat, room_ok, ha, hb, hl, htk, e2, e3]
    repeat' (first | intro _ | apply And.intro | (unfold dOk; kernel_rfl) | exact St.beq_refl _ | (show altO _ _ _ _ = true; kernel_rfl) | (show (_ || _) = true; kernel_rfl) | (show (_ && _) = true; kernel_rfl))
    all_goals exact (by first | rfl | (refine prep_to (n := 3) (m := ⟨some [20, 19, 7, 6, 1], some 3, []⟩) rfl rfl ?_ ?_ ?_ <;> first | rfl | (simp [keepT, AV.underL, AV.under, MB.under, underL_plain, under_plain, underL_append, plain_ints, plain_span, plain_ins, plain_prg, -List.map_take, -List.map_replicate, -List.map_set, capP, *]; done) | (simp [keepT, AV.underL, AV.under, MB.under, underL_plain, under_plain, underL_append, plain_ints, plain_span, plain_ins, plain_prg, -List.map_take, -List.map_replicate, -List.map_set, capP, *]; omega)))
  · intro _
    have hl := capsN_len regs n
    generalize capsN regs n = cs at *
    simp +contextual (disch := omega) only [Try.f60, dd60, ty0, ty3, ty4, ty35, ty110, ty112, ty115, ty117, ty119, ty122, ty123, ty174, go_sem, ↓reduceIte, List.reduceReplicate, Nat.reduceAdd, Nat.reduceSub, reduceCtorEq, Nat.reduceLeDiff, Nat.reduceMul, Nat.reduceLT, Nat.reduceEqDiff, Int.reduceBNe, Int.reduceBEq, Int.reduceEq, Int.reduceLT, Int.reduceLE, Int.reduceGT, Int.reduceGE, mu60, List.contains_nil, List.contains_cons, Nat.reduceBEq, Bool.or_self, dlt_t, dlt_f, dle_t, dle_f, dgt_t, dgt_f, dge_t, dge_f, beq_t, beq_f, bne_t, bne_f, lt_T, le_T, nle_T, nle_F, ↓wrap_up, ↓wrap_down, ↓wrap_pred, ↓wrap_sub_nat, i64_in, i64_quo, rem_in, Int.reduceToNat, room_ok, hr, hl]
    simp only [fz, fzA_agg, fzL, fzA_int]
    rw [fzA_row (els := cs.map spanAV) (k := 2) (z := 0) rfl (by simp [hl]) (plain_span cs)]
    exact ⟨_, rfl⟩
end
section
attribute [local go_sem] tySzE List.head?_drop Nat.mul_one sameAt_zero sameAt_two sameAt_three sameAt_four sameAt_five
open Go.Proofs Go.RowKit Go.IntWalk
set_option maxRecDepth 100000
set_option linter.unusedSimpArgs false
set_option linter.unusedVariables false
set_option maxHeartbeats 4000000

theorem keptOk_refl (n : Nat) : ∀ (H : List MB), keptOk n H H = true
  | [] => rfl
  | x :: H => by simp [keptOk, MB.beq_refl, keptOk_refl n H]
theorem keptOk_set (n : Nat) (b : MB) (hb : MB.under n b = true) : ∀ (H : List MB) (id : Nat), keptOk n H (H.set id b) = true
  | [], id => by simp [keptOk]
  | x :: H, 0 => by
    have h2 := keptOk_refl n H
    simp [keptOk, hb, h2]
  | x :: H, id + 1 => by
    simp [keptOk, MB.beq_refl, keptOk_set n b hb H id]
theorem take_set_all {H : List MB} {id : Nat} {b : MB} : (H.set id b).take H.length = H.set id b := List.take_of_length_le (by simp)

theorem f59 (g : Prg) (hg : g.ins.length ≤ 1000000) (pc pos found most : Int) (idle fnd : Nat) (hi : idle ≤ 1000000) (regs : List Int) (H : List MB) (id : Nat) (hrow : getRow H id = some (5, [wayAV pc pos idle fnd regs], 0)) :
    call Try.prog pol1 59 [prgPt g, .rf id 1 0 0, I found, I most] H =
      if g.ins.length ≤ idle ∧ (most = -1 ∨ (fnd : Int) = found) then some (.bool true, H.set id (.row 5 [wayAV pc pos ((idle + 1 : Nat) : Int) fnd regs] 0))
      else if g.ins.length ≤ idle then some (.bool false, H.set id (.row 5 [wayAV pc pos 1 found regs] 0))
      else some (.bool false, H.set id (.row 5 [wayAV pc pos ((idle + 1 : Nat) : Int) fnd regs] 0)) := by
  have hid : id < H.length := (List.getElem?_eq_some_iff.1 (getRow_eq hrow)).1
  have hk : ∀ (a b : Int) (x : Bool), retPol pol1 59 H (.bool x) (H.set id (.row 5 [wayAV pc pos a b regs] 0)) = some (.bool x, H.set id (.row 5 [wayAV pc pos a b regs] 0)) := fun a b x =>
    retPol_keep rfl rfl rfl (keptOk_set _ _ (by simp [MB.under, AV.underL, AV.under, underL_plain, plain_ints]) H id) take_set_all
  have gs : ∀ b : MB, (H.set id b)[id]? = some b := fun b => List.getElem?_set_self hid
  have hH := getRow_eq hrow
  have hi1 : ((idle : Int) + 1) = ((idle + 1 : Nat) : Int) := rfl
  by_cases h1 : g.ins.length ≤ idle
  · by_cases h2 : most = -1
    · rw [if_pos ⟨h1, .inl h2⟩]
      subst h2
      refine call_run2 (pol := pol1) (H1 := H) Try.func59 rfl rfl rfl rfl rfl ?_
      simp +contextual (disch := omega) only [Try.f59, dd59, ty0, ty3, ty4, ty33, ty35, ty119, ty122, ty123, go_sem, ↓reduceIte, List.reduceReplicate, Nat.reduceAdd, Nat.reduceSub, reduceCtorEq, Nat.reduceLeDiff, Nat.reduceMul, Nat.reduceLT, Nat.reduceEqDiff, Int.reduceBNe, Int.reduceBEq, Int.reduceEq, Int.reduceLT, Int.reduceLE, Int.reduceGT, Int.reduceGE, mu59, List.contains_nil, List.contains_cons, Nat.reduceBEq, Bool.or_self, dlt_t, dlt_f, dle_t, dle_f, dgt_t, dgt_f, dge_t, dge_f, beq_t, beq_f, bne_t, bne_f, lt_T, le_T, nle_T, nle_F, ↓wrap_up, ↓wrap_down, ↓wrap_pred, ↓wrap_sub_nat, i64_in, i64_quo, rem_in, Int.reduceToNat, room_ok, hH, gs, List.set_set, hk, hi1]
      repeat' (first | intro _ | apply And.intro | (unfold dOk; kernel_rfl) | exact St.beq_refl _ | (show altO _ _ _ _ = true; kernel_rfl) | (show (_ || _) = true; kernel_rfl) | (show (_ && _) = true; kernel_rfl))
      all_goals omega
    · by_cases h3 : (fnd : Int) = found
      · rw [if_pos ⟨h1, .inr h3⟩]
        subst h3
        refine call_run2 (pol := pol1) (H1 := H) Try.func59 rfl rfl rfl rfl rfl ?_
        simp +contextual (disch := omega) only [Try.f59, dd59, ty0, ty3, ty4, ty33, ty35, ty119, ty122, ty123, go_sem, ↓reduceIte, List.reduceReplicate, Nat.reduceAdd, Nat.reduceSub, reduceCtorEq, Nat.reduceLeDiff, Nat.reduceMul, Nat.reduceLT, Nat.reduceEqDiff, Int.reduceBNe, Int.reduceBEq, Int.reduceEq, Int.reduceLT, Int.reduceLE, Int.reduceGT, Int.reduceGE, mu59, List.contains_nil, List.contains_cons, Nat.reduceBEq, Bool.or_self, dlt_t, dlt_f, dle_t, dle_f, dgt_t, dgt_f, dge_t, dge_f, beq_t, beq_f, bne_t, bne_f, lt_T, le_T, nle_T, nle_F, ↓wrap_up, ↓wrap_down, ↓wrap_pred, ↓wrap_sub_nat, i64_in, i64_quo, rem_in, Int.reduceToNat, room_ok, hH, gs, List.set_set, hk, hi1]
        repeat' (first | intro _ | apply And.intro | (unfold dOk; kernel_rfl) | exact St.beq_refl _ | (show altO _ _ _ _ = true; kernel_rfl) | (show (_ || _) = true; kernel_rfl) | (show (_ && _) = true; kernel_rfl))
        all_goals omega
      · rw [if_neg (by simp [h2, h3]), if_pos h1]
        refine call_run2 (pol := pol1) (H1 := H) Try.func59 rfl rfl rfl rfl rfl ?_
        simp +contextual (disch := omega) only [Try.f59, dd59, ty0, ty3, ty4, ty33, ty35, ty119, ty122, ty123, go_sem, ↓reduceIte, List.reduceReplicate, Nat.reduceAdd, Nat.reduceSub, reduceCtorEq, Nat.reduceLeDiff, Nat.reduceMul, Nat.reduceLT, Nat.reduceEqDiff, Int.reduceBNe, Int.reduceBEq, Int.reduceEq, Int.reduceLT, Int.reduceLE, Int.reduceGT, Int.reduceGE, mu59, List.contains_nil, List.contains_cons, Nat.reduceBEq, Bool.or_self, dlt_t, dlt_f, dle_t, dle_f, dgt_t, dgt_f, dge_t, dge_f, beq_t, beq_f, bne_t, bne_f, lt_T, le_T, nle_T, nle_F, ↓wrap_up, ↓wrap_down, ↓wrap_pred, ↓wrap_sub_nat, i64_in, i64_quo, rem_in, Int.reduceToNat, room_ok, hH, gs, List.set_set, hk, hi1]
        repeat' (first | intro _ | apply And.intro | (unfold dOk; kernel_rfl) | exact St.beq_refl _ | (show altO _ _ _ _ = true; kernel_rfl) | (show (_ || _) = true; kernel_rfl) | (show (_ && _) = true; kernel_rfl))
        all_goals omega
  · rw [if_neg (by simp [h1]), if_neg h1]
    refine call_run2 (pol := pol1) (H1 := H) Try.func59 rfl rfl rfl rfl rfl ?_
    simp +contextual (disch := omega) only [Try.f59, dd59, ty0, ty3, ty4, ty33, ty35, ty119, ty122, ty123, go_sem, ↓reduceIte, List.reduceReplicate, Nat.reduceAdd, Nat.reduceSub, reduceCtorEq, Nat.reduceLeDiff, Nat.reduceMul, Nat.reduceLT, Nat.reduceEqDiff, Int.reduceBNe, Int.reduceBEq, Int.reduceEq, Int.reduceLT, Int.reduceLE, Int.reduceGT, Int.reduceGE, mu59, List.contains_nil, List.contains_cons, Nat.reduceBEq, Bool.or_self, dlt_t, dlt_f, dle_t, dle_f, dgt_t, dgt_f, dge_t, dge_f, beq_t, beq_f, bne_t, bne_f, lt_T, le_T, nle_T, nle_F, ↓wrap_up, ↓wrap_down, ↓wrap_pred, ↓wrap_sub_nat, i64_in, i64_quo, rem_in, Int.reduceToNat, room_ok, hH, gs, List.set_set, hk, hi1]
    repeat' (first | intro _ | apply And.intro | (unfold dOk; kernel_rfl) | exact St.beq_refl _ | (show altO _ _ _ _ = true; kernel_rfl) | (show (_ || _) = true; kernel_rfl) | (show (_ && _) = true; kernel_rfl))
    all_goals omega
end
end Go.Ev
namespace Go.Ev

structure Way where
  pc : Nat
  at_ : Nat
  regs : List Int

/-- What one instruction makes of the way that is on top: a result, or the ways that go on (the first is taken next). -/
inductive Out where
  | done
  | ways (l : List Way)

/-- One instruction; `has`, `holds`: do a set's spans have the text's symbol here; does an assertion hold here. -/
structure Prog1 where
  ins : Nat → Option Ins
  has : List (Int × Int) → Nat → Bool
  holds : Int → Nat → Bool

def stepW (p : Prog1) (w : Way) : Out :=
  match p.ins w.pc with
  | none => .ways []
  | some i =>
    if i.op = 0 then .done
    else if i.op = 1 then (if p.has i.set w.at_ then .ways [⟨w.pc + 1, w.at_ + 1, w.regs⟩] else .ways [])
    else if i.op = 2 then .ways [⟨i.x.toNat, w.at_, w.regs⟩, ⟨i.y.toNat, w.at_, w.regs⟩]
    else if i.op = 3 then .ways [⟨i.x.toNat, w.at_, w.regs⟩]
    else if i.op = 4 then .ways [⟨w.pc + 1, w.at_, w.regs.set i.n.toNat w.at_⟩]
    else (if p.holds i.n w.at_ then .ways [⟨w.pc + 1, w.at_, w.regs⟩] else .ways [])

/-- The run: fuel, the ways that are left (the first is next), the results so far; `none`: the fuel is used up. -/
def runW (p : Prog1) (most : Int) : Nat → List Way → List Way → Option (List Way)
  | fuel, todo, out =>
    match todo with
    | [] => some out
    | w :: rest =>
      if (out.length : Int) = most then some out
      else
        match fuel with
        | 0 => none
        | fuel + 1 =>
          match stepW p w with
          | .done => runW p most fuel rest (out ++ [w])
          | .ways l => runW p most fuel (l ++ rest) out

/-- Alike but for the registers. -/
def Way.like (a b : Way) : Prop := a.pc = b.pc ∧ a.at_ = b.at_
def likeL : List Way → List Way → Prop
  | [], [] => True
  | a :: l, b :: m => a.like b ∧ likeL l m
  | _, _ => False
theorem likeL_append : ∀ {a b c d : List Way}, likeL a b → likeL c d → likeL (a ++ c) (b ++ d)
  | [], [], _, _, _, h => h
  | _ :: _, _ :: _, _, _, h1, h2 => ⟨h1.1, likeL_append h1.2 h2⟩
  | [], _ :: _, _, _, h, _ => h.elim
  | _ :: _, [], _, _, h, _ => h.elim

def likeO : Out → Out → Prop
  | .done, .done => True
  | .ways l, .ways m => likeL l m
  | _, _ => False
theorem stepW_like (p : Prog1) {a b : Way} (h : a.like b) : likeO (stepW p a) (stepW p b) := by
  obtain ⟨h1, h2⟩ := h
  unfold stepW
  rw [h1, h2]
  cases p.ins b.pc with
  | none => exact trivial
  | some i =>
    simp only []
    repeat' split
    all_goals first | exact trivial | exact ⟨⟨rfl, rfl⟩, trivial⟩ | exact ⟨⟨rfl, rfl⟩, ⟨rfl, rfl⟩, trivial⟩

/-- From one way on top, in so many steps that never look below it, to another one on top of others; so many results are found. -/
inductive Reach (p : Prog1) : Way → Way → List Way → Nat → Nat → Prop where
  | refl (w : Way) : Reach p w w [] 0 0
  | on {w0 w w' : Way} {E l : List Way} {d m : Nat} (h : Reach p w0 w E d m) (hs : stepW p w = .ways (w' :: l)) : Reach p w0 w' (l ++ E) d (m + 1)
  | pop {w0 w e : Way} {E : List Way} {d m : Nat} (h : Reach p w0 w (e :: E) d m) (hs : stepW p w = .ways []) : Reach p w0 e E d (m + 1)
  | found {w0 w e : Way} {E : List Way} {d m : Nat} (h : Reach p w0 w (e :: E) d m) (hs : stepW p w = .done) : Reach p w0 e E (d + 1) (m + 1)

theorem Reach.like {p : Prog1} {w0 w : Way} {E : List Way} {d m : Nat} (h : Reach p w0 w E d m) {v0 : Way} (hv : w0.like v0) : ∃ v F, w.like v ∧ likeL E F ∧ Reach p v0 v F d m := by
  induction h with
  | refl => exact ⟨v0, [], hv, trivial, .refl v0⟩
  | on h hs ih =>
    obtain ⟨v, F, h1, h2, h3⟩ := ih
    have h4 := stepW_like p h1
    rw [hs] at h4
    cases hq : stepW p v with
    | done => rw [hq] at h4; exact h4.elim
    | ways l2 =>
      rw [hq] at h4
      cases l2 with
      | nil => exact h4.elim
      | cons a l2 => exact ⟨a, l2 ++ F, h4.1, likeL_append h4.2 h2, .on h3 hq⟩
  | pop h hs ih =>
    obtain ⟨v, F, h1, h2, h3⟩ := ih
    have h4 := stepW_like p h1
    rw [hs] at h4
    cases hq : stepW p v with
    | done => rw [hq] at h4; exact h4.elim
    | ways l2 =>
      rw [hq] at h4
      cases l2 with
      | nil =>
        cases F with
        | nil => exact h2.elim
        | cons f F => exact ⟨f, F, h2.1, h2.2, .pop h3 hq⟩
      | cons a l2 => exact h4.elim
  | found h hs ih =>
    obtain ⟨v, F, h1, h2, h3⟩ := ih
    have h4 := stepW_like p h1
    rw [hs] at h4
    cases hq : stepW p v with
    | done =>
      cases F with
      | nil => exact h2.elim
      | cons f F => exact ⟨f, F, h2.1, h2.2, .found h3 hq⟩
    | ways l2 => rw [hq] at h4; exact h4.elim

theorem runW_step {p : Prog1} {most : Int} {fuel : Nat} {w : Way} {rest out : List Way} (h : ¬ (out.length : Int) = most) :
    runW p most (fuel + 1) (w :: rest) out = match stepW p w with
      | .done => runW p most fuel rest (out ++ [w])
      | .ways l => runW p most fuel (l ++ rest) out := by
  conv => lhs; unfold runW
  simp only [h, if_false]
theorem runW_zero {p : Prog1} {most : Int} {w : Way} {rest out : List Way} (h : ¬ (out.length : Int) = most) : runW p most 0 (w :: rest) out = none := by
  unfold runW
  simp only [h, if_false]

/-- The run follows. -/
theorem Reach.run {p : Prog1} {most : Int} {w0 w : Way} {E : List Way} {d m : Nat} (h : Reach p w0 w E d m) (S out : List Way) (hm : most = -1 ∨ (d = 0 ∧ ¬ (out.length : Int) = most)) (fuel : Nat) :
    ∃ out', out'.length = out.length + d ∧ runW p most (m + fuel) (w0 :: S) out = runW p most fuel (w :: (E ++ S)) out' := by
  induction h generalizing fuel with
  | refl => exact ⟨out, rfl, by rw [Nat.zero_add]; rfl⟩
  | @on w w' E l d m h hs ih =>
    obtain ⟨out', h1, h2⟩ := ih hm (fuel + 1)
    refine ⟨out', h1, ?_⟩
    rw [show m + 1 + fuel = m + (fuel + 1) by omega, h2, runW_step (by rcases hm with h | ⟨h, h'⟩ <;> omega), hs]
    simp only [List.cons_append, List.append_assoc]
  | @pop w e E d m h hs ih =>
    obtain ⟨out', h1, h2⟩ := ih hm (fuel + 1)
    refine ⟨out', h1, ?_⟩
    rw [show m + 1 + fuel = m + (fuel + 1) by omega, h2, runW_step (by rcases hm with h | ⟨h, h'⟩ <;> omega), hs]
    rfl
  | @found w e E d m h hs ih =>
    rcases hm with hm | hm
    · obtain ⟨out', h1, h2⟩ := ih (.inl hm) (fuel + 1)
      refine ⟨out' ++ [w], by simp; omega, ?_⟩
      rw [show m + 1 + fuel = m + (fuel + 1) by omega, h2, runW_step (by omega), hs]
      rfl
    · omega

/-- With too little fuel for it, the run ends without. -/
theorem Reach.short {p : Prog1} {most : Int} {w0 w : Way} {E : List Way} {d m : Nat} (h : Reach p w0 w E d m) (S out : List Way) (hm : most = -1 ∨ (d = 0 ∧ ¬ (out.length : Int) = most)) (fuel : Nat) (hf : fuel < m) :
    runW p most fuel (w0 :: S) out = none := by
  induction h generalizing fuel with
  | refl => omega
  | @on w w' E l d m h hs ih =>
    rcases Nat.lt_or_ge fuel m with h1 | h1
    · exact ih hm fuel h1
    · obtain rfl : fuel = m := by omega
      obtain ⟨out', h2, h3⟩ := h.run S out hm 0
      rw [Nat.add_zero] at h3
      rw [h3, runW_zero (by rcases hm with h | ⟨h, h'⟩ <;> omega)]
  | @pop w e E d m h hs ih =>
    rcases Nat.lt_or_ge fuel m with h1 | h1
    · exact ih hm fuel h1
    · obtain rfl : fuel = m := by omega
      obtain ⟨out', h2, h3⟩ := h.run S out hm 0
      rw [Nat.add_zero] at h3
      rw [h3, runW_zero (by rcases hm with h | ⟨h, h'⟩ <;> omega)]
  | @found w e E d m h hs ih =>
    rcases hm with hm | hm
    · rcases Nat.lt_or_ge fuel m with h1 | h1
      · exact ih (.inl hm) fuel h1
      · obtain rfl : fuel = m := by omega
        obtain ⟨out', h2, h3⟩ := h.run S out (.inl hm) 0
        rw [Nat.add_zero] at h3
        rw [h3, runW_zero (by omega)]
    · omega

/-- A way that comes round again is never left. -/
theorem circle {p : Prog1} {most : Int} {w0 w : Way} {E : List Way} {d m : Nat} (h : Reach p w0 w E d (m + 1)) (hl : w0.like w) : ∀ (fuel : Nat) (v0 : Way) (S out : List Way), w0.like v0 → (most = -1 ∨ (d = 0 ∧ ¬ (out.length : Int) = most)) →
    runW p most fuel (v0 :: S) out = none := by
  intro fuel
  induction fuel using Nat.strongRecOn with
  | ind fuel ih =>
    intro v0 S out hv hm
    obtain ⟨v, F, h1, h2, h3⟩ := h.like hv
    rcases Nat.lt_or_ge fuel (m + 1) with hf | hf
    · exact h3.short S out hm fuel hf
    · obtain ⟨out', o1, o2⟩ := h3.run S out hm (fuel - (m + 1))
      rw [show m + 1 + (fuel - (m + 1)) = fuel by omega] at o2
      rw [o2]
      refine ih _ (by omega) v (F ++ S) out' ⟨hl.1.trans h1.1, hl.2.trans h1.2⟩ ?_
      rcases hm with hm | ⟨hm, hm'⟩
      · exact .inl hm
      · exact .inr ⟨hm, by omega⟩

end Go.Ev
